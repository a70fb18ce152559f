/-
  The document's queue: find, Push, Turn, Drop, walked.
-/
import Derived.Test.YtocjbllkgbjihaaDoorQuRefL
namespace Go.Proofs.YtocjbllkgbjihaaDoor
set_option maxRecDepth 100000
open Go.RowKit Go.Maps
set_option linter.unusedVariables false
section
variable {w w' : World} {q : Nat} {F : Nat → Prop} {L : List Th}
set_option maxHeartbeats 3200000 in
theorem rfind_any (h : RQ w q F L) (hfew : L.length ≤ 1000000000) (id : Int) : Calls Tryd.prog 51 #[.pointer (some ⟨q, 0, none⟩), .int .i64 id] w fun e w' => Ext w w' ∧ (((∀ y ∈ L, y.id ≠ id) ∧ e = .returned (.int .i64 (-1))) ∨ ∃ i : Nat, i < L.length ∧ e = .returned (.int .i64 (i : Int)) ∧ (at_ L i).id = id) := by
  obtain ⟨⟨A, n, c, h1, h2, h3⟩, h4, h5⟩ := h
  have hlen := rlen_eq h2
  have y0 : w.cell? ⟨q, 0, none⟩ = some (.slice A n c) := block_cell h1 0
  have HA := Lib.hid (And.intro h2 hlen)
  clear h1 h2 h3 h4 h5
  go_enter Tryd.func51, Tryd.ntmps51
  go_wp2_with fail
  go_loopw [12] (fun v12 wr => ∃ k : Nat, v12 = .int .i64 (k : Int) ∧ k ≤ n ∧ Hid (Ext w wr ∧ ∀ j, j < k → (at_ L j).id ≠ id)) (fun v12 _ => n - (intOf v12).toNat)
  case atStart => exact ⟨0, rfl, by omega, Ext.refl w, fun j hj => by omega⟩
  case round =>
    obtain ⟨k, rfl, hk, HI⟩ := hrel
    by_cases hlt : k < n
    · have o1 := HA.out.1.ext HI.out.1
      obtain ⟨T, rfl⟩ := o1.head (by omega)
      obtain ⟨k2, hk2⟩ : ∃ k2, k * 2 = k2 := ⟨_, rfl⟩
      obtain ⟨x, hx⟩ : ∃ x, x = at_ L k := ⟨_, rfl⟩
      have hxk := at_some (L := L) (k := k) (by have := HA.out.2; omega)
      rw [← hx] at hxk
      obtain ⟨y1, y2, _, _⟩ := own_at o1 hxk hk2
      obtain ⟨xi, xr⟩ := x
      have X1 := (Ext.refl wr).alloc (.cells #[.int .i64 xi, .int .i64 xr] 34)
      have HE := Lib.hid (HI.out.1.trans X1)
      have HX := Lib.hid hx
      have k0 : (0 : Int) ≤ k := by omega
      have k1 : (k : Int) < n := by omega
      clear o1 hxk X1 y0 hx
      by_cases hid : xi = id
      · subst hid
        go_wp2_with fail
        go_returns
        exact ⟨HE.out, .inr ⟨k, by have := HA.out.2; omega, rfl, by rw [← HX.out]⟩⟩
      · have e1 : (xi == id) = false := by simpa using hid
        go_wp2_with fail
        go_roundw
        case rel => exact ⟨k + 1, by go_num, by omega, HE.out, fun j hj => by
          by_cases e : j = k
          · rw [e, ← HX.out]; exact hid
          · exact HI.out.2 j (by omega)⟩
        case measure => simp [intOf]; omega
    · obtain rfl : n = k := by omega
      clear y0
      go_wp2_with fail
      go_returns
      exact ⟨HI.out.1, .inl ⟨fun y hy => by
        obtain ⟨j, hj⟩ := List.getElem?_of_mem hy
        have hjl : j < L.length := (List.getElem?_eq_some_iff.1 hj).1
        have h9 := HI.out.2 j (by have := HA.out.2; omega)
        rw [at_eq hj] at h9
        exact h9, rfl⟩⟩
theorem rfind_new (h : RQ w q F L) (hfew : L.length ≤ 1000000000) {id : Int} (hnew : ∀ y ∈ L, y.id ≠ id) : Calls Tryd.prog 51 #[.pointer (some ⟨q, 0, none⟩), .int .i64 id] w fun e w' => e = .returned (.int .i64 (-1)) ∧ Ext w w' :=
  (rfind_any h hfew id).mono fun e w' hh => by
    rcases hh with ⟨x, ⟨_, e⟩ | ⟨i, hi, e, h1⟩⟩
    · exact ⟨e, x⟩
    · exact absurd h1 (hnew _ (at_mem hi))
theorem rfind_hit (h : RQ w q F L) (hfew : L.length ≤ 1000000000) {y : Th} (hy : y ∈ L) : Calls Tryd.prog 51 #[.pointer (some ⟨q, 0, none⟩), .int .i64 y.id] w fun e w' => ∃ i : Nat, e = .returned (.int .i64 (i : Int)) ∧ i < L.length ∧ (at_ L i).id = y.id ∧ Ext w w' :=
  (rfind_any h hfew y.id).mono fun e w' hh => by
    rcases hh with ⟨x, ⟨h1, e⟩ | ⟨i, hi, e, h1⟩⟩
    · exact absurd rfl (h1 y hy)
    · exact ⟨i, e, hi, h1, x⟩
set_option maxHeartbeats 3200000 in
theorem rpush_there (h : RQ w q F L) (hfew : L.length ≤ 1000000000) {y : Th} (hy : y ∈ L) (rank : Int) : Calls Tryd.prog 40 #[.pointer (some ⟨q, 0, none⟩), .int .i64 y.id, .int .i64 rank] w fun e w' => e = .returned (.int .i64 6) ∧ Ext w w' := by
  have CF := Lib.hid (rfind_hit h hfew hy)
  clear h hfew hy
  go_enter Tryd.func40, Tryd.ntmps40
  go_wp2_with (refine CF.out.mono ?_; rintro e w1 ⟨i, rfl, hi, h1, x1⟩)
  go_returns
  exact ⟨rfl, x1⟩
set_option maxHeartbeats 3200000 in
theorem rpush_full (h : RQ w q F L) (hfew : L.length ≤ 1000000000) {id : Int} (hnew : ∀ y ∈ L, y.id ≠ id) (hl : 4096 ≤ L.length) (rank : Int) : Calls Tryd.prog 40 #[.pointer (some ⟨q, 0, none⟩), .int .i64 id, .int .i64 rank] w fun e w' => e = .returned (.int .i64 7) ∧ Ext w w' := by
  have CF := Lib.hid (rfind_new h hfew hnew)
  obtain ⟨⟨A, n, c, h1, h2, h3⟩, h4, h5⟩ := h
  have hlen := rlen_eq h2
  have HB := Lib.hid h1
  have l1 : (4096 : Int) ≤ n := by omega
  clear h1 h2 h3 h4 h5 hnew hfew
  go_enter Tryd.func40, Tryd.ntmps40
  go_upto_region 3 with (go_at_call 51; refine CF.out.mono ?_; rintro e w1 ⟨rfl, x1⟩)
  have y0 : w1.cell? ⟨q, 0, none⟩ = some (.slice A n c) := block_cell ((x1.block q (block_lt HB.out)).trans HB.out) 0
  go_wp2_with fail
  go_returns
  exact ⟨rfl, x1⟩
set_option maxHeartbeats 3200000 in
theorem rpush_ok (h : RQ w q F L) (x : Th) (hnew : ∀ y ∈ L, y.id ≠ x.id) (hl : L.length < 4096) : Calls Tryd.prog 40 #[.pointer (some ⟨q, 0, none⟩), .int .i64 x.id, .int .i64 x.rank] w fun e w' => e = .returned (.int .i64 0) ∧ ∃ F', RN w w' q F F' (L ++ [x]) := by
  have CF := Lib.hid (rfind_new h (by omega) hnew)
  obtain ⟨⟨A, n, c, h1, h2, h3⟩, h4, h5⟩ := h
  have hlen := rlen_eq h2
  have HA := Lib.hid (And.intro h1 (And.intro h2 (And.intro h3 (And.intro h4 h5))))
  have l1 : ¬ (4096 : Int) ≤ n := by omega
  clear h1 h2 h3 h4 h5 hnew
  go_enter Tryd.func40, Tryd.ntmps40
  go_upto_region 3 with (go_at_call 51; refine CF.out.mono ?_; rintro e w1 ⟨rfl, x1⟩)
  have X1 := x1.trans ((Ext.refl w1).alloc (.cells #[.int .i64 x.id, .int .i64 x.rank] 34))
  have y0 : w1.cell? ⟨q, 0, none⟩ = some (.slice A n c) := block_cell ((x1.block q (block_lt HA.out.1)).trans HA.out.1) 0
  have RR : Rd (w1.alloc (.cells #[.int .i64 x.id, .int .i64 x.rank] 34)) 2 (some ⟨w1.heap.size, 0, none⟩) 1 (trow x) := ⟨rfl, fun _ => ⟨_, rfl, by simp, World.news_of_block (heap_alloc_new w1 _)⟩⟩
  clear CF
  have HX := Lib.hid (And.intro X1 (And.intro ((X1.block q (block_lt HA.out.1)).trans HA.out.1) RR))
  clear X1 RR
  go_wp2_with (at_builtin; refine held ?_)
  refine Held.go (wp_app (m := 1) (news := trow x) eltR (HA.out.2.1.ext HX.out.1) HX.out.2.2 (trow_one _) (by omega) (.inr ⟨by omega, by omega⟩) (Nat.zero_le _) _ _ rfl rfl rfl rfl ?_)
  intro A3 c3 w3 o3 g3 hA3 _
  have hqA : ¬ A.map (·.block) = some q := fun e => by
    obtain ⟨a, ha, hab⟩ := Option.map_eq_some_iff.1 e
    exact (HA.out.2.2.1 a ha).2 hab
  have bq3 := (g3.block q (block_lt HX.out.2.1) (fun e => hqA e.symm)).trans HX.out.2.1
  have y3 : w3.cell? ⟨q, 0, none⟩ = some (.slice A n c) := block_cell bq3 0
  have z3 := block_fz bq3 0
  obtain ⟨F', hF'⟩ := rq_snoc HA.out.2.2.2.2 HA.out.2.2.2.1 HA.out.2.2.1 HX.out.1 HX.out.2.1 o3 g3 hA3
  have HE := Lib.hid hF'
  clear o3 g3 hA3 hqA bq3 hF' y0
  go_wp2_with fail
  go_returns
  exact ⟨rfl, F', HE.out⟩
set_option maxHeartbeats 3200000 in
theorem rturn_gone (h : RQ w q F L) (hfew : L.length ≤ 1000000000) {id : Int} (hnew : ∀ y ∈ L, y.id ≠ id) (rank : Int) : Calls Tryd.prog 42 #[.pointer (some ⟨q, 0, none⟩), .int .i64 id, .int .i64 rank] w fun e w' => e = .returned (.int .i64 5) ∧ Ext w w' := by
  have CF := Lib.hid (rfind_new h hfew hnew)
  clear h hnew hfew
  go_enter Tryd.func42, Tryd.ntmps42
  go_wp2_with (refine CF.out.mono ?_; rintro e w1 ⟨rfl, x1⟩)
  go_returns
  exact ⟨rfl, x1⟩
set_option maxHeartbeats 3200000 in
theorem rdrop_gone (h : RQ w q F L) (hfew : L.length ≤ 1000000000) {id : Int} (hnew : ∀ y ∈ L, y.id ≠ id) : Calls Tryd.prog 43 #[.pointer (some ⟨q, 0, none⟩), .int .i64 id] w fun e w' => e = .returned (.int .i64 5) ∧ Ext w w' := by
  have CF := Lib.hid (rfind_new h hfew hnew)
  clear h hnew hfew
  go_enter Tryd.func43, Tryd.ntmps43
  go_wp2_with (refine CF.out.mono ?_; rintro e w1 ⟨rfl, x1⟩)
  go_returns
  exact ⟨rfl, x1⟩
set_option maxHeartbeats 3200000 in
theorem rturn_ok (h : RQ w q F L) (hfew : L.length ≤ 1000000000) (hI : Ids L) {y : Th} (hy : y ∈ L) (rank : Int) : Calls Tryd.prog 42 #[.pointer (some ⟨q, 0, none⟩), .int .i64 y.id, .int .i64 rank] w fun e w' => e = .returned (.int .i64 0) ∧ ∃ F' L' R, RN w w' q F F' L' ∧ (y :: R).Perm L ∧ L'.Perm (⟨y.id, rank⟩ :: R) := by
  have CF := Lib.hid (rfind_hit h hfew hy)
  have H0 := Lib.hid h
  obtain ⟨⟨A, n, c, h1, h2, h3⟩, h4, h5⟩ := h
  have hlen := rlen_eq h2
  obtain ⟨T, rfl⟩ := h2.head (by have := List.length_pos_of_mem hy; omega)
  have HA := Lib.hid (And.intro h1 (And.intro h2 (And.intro h3 (And.intro hI hy))))
  clear h1 h2 h3 h4 h5 hI hy
  go_enter Tryd.func42, Tryd.ntmps42
  go_upto_region 2 with (go_at_call 51; refine CF.out.mono ?_; rintro e w1 ⟨i, rfl, hi, hid, x1⟩)
  have hyi : at_ L i = y := HA.out.2.2.2.1.eq (at_mem hi) HA.out.2.2.2.2 hid
  obtain ⟨i2, hi2⟩ : ∃ i2, i * 2 = i2 := ⟨_, rfl⟩
  have hiy := at_some hi
  rw [hyi] at hiy
  have o1 := HA.out.2.1.ext x1
  have y0 : w1.cell? ⟨q, 0, none⟩ = some (.slice (some ⟨T, 0, none⟩) n c) := block_cell ((x1.block q (block_lt HA.out.1)).trans HA.out.1) 0
  obtain ⟨_, y2, _, z2⟩ := own_at o1 hiy hi2
  have o2 := own_turn o1 hiy hi2 rank
  have f2 := Fr.store w1 ⟨T, i2 + 1, none⟩ (.int .i64 rank)
  have hFT := HA.out.2.2.1 _ rfl
  have HE : Hid (RN w (w1.setCell ⟨T, i2 + 1, none⟩ (.int .i64 rank)) q F F (L.set i ⟨y.id, rank⟩)) := Lib.hid
    ⟨⟨⟨_, n, c, (f2.block q (Nat.lt_of_lt_of_le (block_lt HA.out.1) x1.size) (fun e => hFT.2 e.symm)).trans ((x1.block q (block_lt HA.out.1)).trans HA.out.1), o2, HA.out.2.2.1⟩, H0.out.fq, fun b hb => Nat.lt_of_lt_of_le (H0.out.lt b hb) (Nat.le_trans x1.size f2.size)⟩,
     (Fr.of_ext x1 F).trans f2 (fun k _ e => by have e2 : k = T := e; rw [e2]; exact hFT.1), fun b hb => .inl hb⟩
  have HP := Lib.hid (And.intro (perm_erase hiy) (perm_set (⟨y.id, rank⟩ : Th) hi))
  have i0 : (0 : Int) ≤ i := by omega
  have i1 : (i : Int) < n := by omega
  clear CF o1 o2 f2 hFT hiy hyi hid x1
  go_wp2_with fail
  go_returns
  exact ⟨rfl, F, _, L.eraseIdx i, HE.out, HP.out.1, HP.out.2.symm⟩
set_option maxHeartbeats 3200000 in
theorem rdrop_ok (h : RQ w q F L) (hfew : L.length ≤ 1000000000) (hI : Ids L) {y : Th} (hy : y ∈ L) : Calls Tryd.prog 43 #[.pointer (some ⟨q, 0, none⟩), .int .i64 y.id] w fun e w' => e = .returned (.int .i64 0) ∧ ∃ F' L', RN w w' q F F' L' ∧ (y :: L').Perm L := by
  have CF := Lib.hid (rfind_hit h hfew hy)
  have HA := Lib.hid (And.intro h (And.intro hI hy))
  clear h hI hy
  go_enter Tryd.func43, Tryd.ntmps43
  go_upto_region 2 with (go_at_call 51; refine CF.out.mono ?_; rintro e w1 ⟨i, rfl, hi, hid, x1⟩)
  have hyi : at_ L i = y := HA.out.2.1.eq (at_mem hi) HA.out.2.2 hid
  have hiy := at_some hi
  rw [hyi] at hiy
  have CO := Lib.hid (rout_any (HA.out.1.ext x1) hi hfew (x := y) (Lib.hid hyi.symm))
  have HP := Lib.hid (And.intro (perm_erase hiy) x1)
  have i0 : (0 : Int) ≤ i := by omega
  clear CF hiy hyi hid x1
  go_wp2_with (refine CO.out.mono ?_; rintro e w2 ⟨rfl, F', n2⟩)
  go_returns
  exact ⟨rfl, F', _, RN.ahead HP.out.2 n2, HP.out.1⟩
end
end Go.Proofs.YtocjbllkgbjihaaDoor
