/-
  The document's queue: its state; First, walked.
-/
import Derived.Test.YtocjbllkgbjihaaDoorQuOps2
import Derived.Test.YtocjbllkgbjihaaDoorQuRahead
namespace Go.Proofs.YtocjbllkgbjihaaDoor
set_option maxRecDepth 100000
open Go.RowKit Go.Maps
set_option linter.unusedVariables false
/-- The document's queue at block q; its blocks are among F. -/
structure RQ (w : World) (q : Nat) (F : Nat → Prop) (L : List Th) : Prop where
  ex : ∃ A n c, w.heap[q]? = some (.cells #[.slice A n c] 55 (0, 0)) ∧ Own w 0 34 2 A n c (trows L).flatten ∧ ∀ a, A = some a → F a.block ∧ a.block ≠ q
  fq : F q
  lt : ∀ b, F b → b < w.heap.size
structure RN (w w' : World) (q : Nat) (F F' : Nat → Prop) (L' : List Th) : Prop where
  rq : RQ w' q F' L'
  fr : Fr w w' F
  fo : ∀ b, F' b → F b ∨ w.heap.size ≤ b
section
variable {w w' : World} {q : Nat} {F : Nat → Prop} {L : List Th}
theorem RQ.fr (h : RQ w q F L) {P : Nat → Prop} (hf : Fr w w' P) (hne : ∀ b, F b → ¬ P b) : RQ w' q F L := by
  obtain ⟨⟨A, n, c, h1, h2, h3⟩, h4, h5⟩ := h
  exact ⟨⟨A, n, c, (hf.block q (block_lt h1) (hne _ h4)).trans h1, hf.own h2 (fun a ha => hne _ (h3 a ha).1), h3⟩, h4, fun b hb => Nat.lt_of_lt_of_le (h5 b hb) hf.size⟩
theorem RQ.ext (h : RQ w q F L) (hx : Ext w w') : RQ w' q F L := h.fr (Fr.of_ext hx (fun _ => False)) (fun _ _ h => h)
theorem RN.same (h : RQ w q F L) (hx : Ext w w') : RN w w' q F F L := ⟨h.ext hx, Fr.of_ext hx F, fun b hb => .inl hb⟩
theorem RN.grow {w1 : World} {F' : Nat → Prop} (h : RN w w1 q F F' L) (hx : Ext w1 w') : RN w w' q F F' L := ⟨h.rq.ext hx, h.fr.trans (Fr.of_ext hx (fun _ => False)) (fun _ _ h => h.elim), h.fo⟩
theorem RN.from_ {a : World} {F' : Nat → Prop} (h : RN w w' q F F' L) (hx : Ext a w) (hF : ∀ b, F b → a.heap.size ≤ b) : Ext a w' ∧ ∀ b, F' b → a.heap.size ≤ b :=
  ⟨Fr.ext hx h.fr hF, fun b hb => (h.fo b hb).elim (hF b) (fun h1 => Nat.le_trans hx.size h1)⟩
theorem RN.out {F' : Nat → Prop} (h : RN w w' q F F' L) {b : Nat} (hb : b < w.heap.size) (hF : ¬ F b) : ¬ F' b := fun e => by rcases h.fo b e with h1 | h1; exact hF h1; omega
theorem RN.trans {w1 : World} {F1 F2 : Nat → Prop} {L1 L2 : List Th} (h : RN w w1 q F F1 L1) (k : RN w1 w' q F1 F2 L2) : RN w w' q F F2 L2 :=
  ⟨k.rq, h.fr.trans k.fr (fun i hi e => (h.fo i e).elim id (fun h1 => by omega)), fun b hb => (k.fo b hb).elim (fun e => h.fo b e) (fun e => .inr (Nat.le_trans h.fr.size e))⟩
/-- From an elder world. -/
theorem RN.ahead {w0 : World} {F' : Nat → Prop} (hx : Ext w0 w) (h : RN w w' q F F' L) : RN w0 w' q F F' L := ⟨h.rq, (Fr.of_ext hx F).trans h.fr (fun _ _ h => h), fun b hb => (h.fo b hb).elim .inl (fun e => .inr (Nat.le_trans hx.size e))⟩
theorem rlen_eq {A : Option Addr} {n c : Nat} (h : Own w 0 34 2 A n c (trows L).flatten) : L.length = n := by
  have h1 := h.rd.1
  rw [(trows_even L).len, trows_len] at h1
  omega
set_option maxHeartbeats 3200000 in
theorem rfirst_any (h : RQ w q F L) (hfew : L.length ≤ 1000000000) : Calls Tryd.prog 41 #[.pointer (some ⟨q, 0, none⟩)] w fun e w' => Ext w w' ∧ ((L = [] ∧ e = .returned (.int .i64 (-1))) ∨ ∃ i : Nat, i < L.length ∧ e = .returned (.int .i64 (i : Int)) ∧ ∀ z ∈ L, ah z (at_ L i) = false) := by
  obtain ⟨⟨A, n, c, h1, h2, h3⟩, h4, h5⟩ := h
  have hlen := rlen_eq h2
  have y0 : w.cell? ⟨q, 0, none⟩ = some (.slice A n c) := block_cell h1 0
  have HA := Lib.hid (And.intro h1 (And.intro h2 hlen))
  clear h1 h2 h3 h4 h5
  go_enter Tryd.func41, Tryd.ntmps41
  go_wp2_with fail
  clear y0
  go_loopw [3, 11] (fun v3 v11 wr => ∃ (j : Nat) (v : Int), v11 = .int .i64 (j : Int) ∧ v3 = .int .i64 v ∧ j ≤ n ∧ Hid (Ext w wr ∧ ((j = 0 ∧ v = -1) ∨ ∃ i : Nat, i < j ∧ v = (i : Int) ∧ ∀ k, k < j → ah (at_ L k) (at_ L i) = false))) (fun _ v11 _ => n - (intOf v11).toNat)
  case atStart => exact ⟨0, -1, rfl, rfl, by omega, Ext.refl w, .inl ⟨rfl, rfl⟩⟩
  case round =>
    obtain ⟨j, v, rfl, rfl, hj, HI⟩ := hrel
    by_cases hlt : j < n
    · obtain ⟨j2, hj2⟩ : ∃ j2, j * 2 = j2 := ⟨_, rfl⟩
      have hxj := at_some (L := L) (k := j) (by omega)
      obtain ⟨T, rfl⟩ := HA.out.2.1.head (by omega)
      have o1 := HA.out.2.1.ext HI.out.1
      obtain ⟨y1, y2, _, _⟩ := own_at o1 hxj hj2
      have X5 := (Ext.refl wr).alloc (.cells #[.int .i64 (at_ L j).id, .int .i64 (at_ L j).rank] 34)
      have hb5 := heap_alloc_new wr (.cells #[.int .i64 (at_ L j).id, .int .i64 (at_ L j).rank] 34)
      have H5 := Lib.hid (And.intro (HI.out.1.trans X5) (And.intro hb5 (o1.ext X5)))
      have j1 : (j : Int) < n := by omega
      have j0 : (0 : Int) ≤ j := by omega
      clear o1 X5 hb5
      go_upto_region 5 with (fail)
      generalize wr.alloc (.cells #[.int .i64 (at_ L j).id, .int .i64 (at_ L j).rank] 34) = V at *
      generalize wr.heap.size = xb at *
      clear y1 y2
      obtain ⟨hxw, hcase⟩ := HI.out
      clear HI
      rcases hcase with ⟨rfl, rfl⟩ | ⟨i, hi, rfl, hmin⟩
      · go_quiet (fail)
        have HX := Lib.hid (H5.out.1.drewN nq)
        go_wp2_with fail
        go_roundw
        case rel => exact ⟨0 + 1, 0, by go_num, rfl, by omega, HX.out, .inr ⟨0, by omega, rfl, fun k hk => by rw [show k = 0 by omega]; exact ah_self _⟩⟩
        case measure => simp [intOf]; omega
      · obtain ⟨i2, hi2⟩ : ∃ i2, i * 2 = i2 := ⟨_, rfl⟩
        have hxi := at_some (L := L) (k := i) (by omega)
        obtain ⟨y1, y2, _, _⟩ := own_at H5.out.2.2 hxi hi2
        have y3 : V.cell? ⟨xb, 0, none⟩ = some (.int .i64 (at_ L j).id) := block_cell H5.out.2.1 0
        have y4 : V.cell? ⟨xb, 1, none⟩ = some (.int .i64 (at_ L j).rank) := block_cell H5.out.2.1 1
        have y5 : V.cell? ⟨q, 0, none⟩ = some (.slice (some ⟨T, 0, none⟩) n c) := block_cell ((H5.out.1.block q (block_lt HA.out.1)).trans HA.out.1) 0
        have i0 : (0 : Int) ≤ i := by omega
        have i1 : (i : Int) < n := by omega
        have f1 : ((i : Int) < 0) = False := by simp
        have HM := Lib.hid (And.intro hmin hi)
        clear hmin
        have HS1 : V.drew.cell? ⟨q, 0, none⟩ = some (.slice (some ⟨T, 0, none⟩) n c) ∧ V.drew.cell? ⟨T, i2, none⟩ = some (.int .i64 (at_ L i).id) ∧ V.drew.cell? ⟨T, i2 + 1, none⟩ = some (.int .i64 (at_ L i).rank) ∧ V.drew.cell? ⟨xb, 0, none⟩ = some (.int .i64 (at_ L j).id) ∧ V.drew.cell? ⟨xb, 1, none⟩ = some (.int .i64 (at_ L j).rank) := ⟨y5, y1, y2, y3, y4⟩
        have C3 := Lib.hid (rahead_any (at_ L j) (at_ L i) V.drew)
        generalize hai : at_ L i = x at *
        generalize haj : at_ L j = y at *
        have HXY := Lib.hid (And.intro hai haj)
        clear hai haj y1 y2 y3 y4 y5
        refine d_region (fun W : World => W.cell? ⟨q, 0, none⟩ = some (.slice (some ⟨T, 0, none⟩) n c) ∧ W.cell? ⟨T, i2, none⟩ = some (.int .i64 x.id) ∧ W.cell? ⟨T, i2 + 1, none⟩ = some (.int .i64 x.rank) ∧ W.cell? ⟨xb, 0, none⟩ = some (.int .i64 y.id) ∧ W.cell? ⟨xb, 1, none⟩ = some (.int .i64 y.rank)) [11, 12] (by kernel_rfl) ?_
        refine d_take (i := 0) (v := ?_) [1, 2, 3, 4, 5, 6, 7, 8, 9, 10, 11, 12] (some 16) rfl (by rfl) (by kernel_rfl) (by kernel_rfl) (by kernel_rfl) (by kernel_rfl) (by kernel_rfl) (by kernel_rfl) (fun _ _ _ h => h) (.inl ⟨by rfl, ?_⟩) HS1 ?_
        rotate_left 1
        · (intro W hW; (try dsimp only at hW); go_simp; try with_reducible rfl)
        try simp only [Act.put, List.setIfInBounds_toArray, List.set_cons_zero, List.set_cons_succ]
        refine d_take (i := 1) (v := ?_) [2, 3, 4, 5, 6, 7, 8, 9, 10, 11, 12] (some 17) rfl (by rfl) (by kernel_rfl) (by kernel_rfl) (by kernel_rfl) (by kernel_rfl) (by kernel_rfl) (by kernel_rfl) (fun _ _ _ h => h) (.inl ⟨by rfl, ?_⟩) HS1 ?_
        rotate_left 1
        · (intro W hW; (try dsimp only at hW); go_simp; try with_reducible rfl)
        try simp only [Act.put, List.setIfInBounds_toArray, List.set_cons_zero, List.set_cons_succ]
        refine d_take (i := 2) (v := ?_) [3, 4, 5, 6, 7, 8, 9, 10, 11, 12] (some 18) rfl (by rfl) (by kernel_rfl) (by kernel_rfl) (by kernel_rfl) (by kernel_rfl) (by kernel_rfl) (by kernel_rfl) (fun _ _ _ h => h) (.inl ⟨by rfl, ?_⟩) HS1 ?_
        rotate_left 1
        · (intro W hW; (try dsimp only at hW); go_simp; try with_reducible rfl)
        try simp only [Act.put, List.setIfInBounds_toArray, List.set_cons_zero, List.set_cons_succ]
        refine d_take (i := 3) (v := ?_) [11, 12] (some 19) rfl (by rfl) (by kernel_rfl) (by kernel_rfl) (by kernel_rfl) (by kernel_rfl) (by kernel_rfl) (by kernel_rfl) (fun _ _ _ h => h) (.inl ⟨by rfl, ?_⟩) HS1 ?_
        rotate_left 1
        · (intro W hW; (try dsimp only at hW); go_simp; try with_reducible rfl)
        try simp only [Act.put, List.setIfInBounds_toArray, List.set_cons_zero, List.set_cons_succ]
        refine d_take (i := 4) (v := ?_) [5, 6, 7, 9, 10, 11, 12] (some 20) rfl (by rfl) (by kernel_rfl) (by kernel_rfl) (by kernel_rfl) (by kernel_rfl) (by kernel_rfl) (by kernel_rfl) (fun _ _ _ h => h) (.inl ⟨by rfl, ?_⟩) HS1 ?_
        rotate_left 1
        · (intro W hW; (try dsimp only at hW); go_simp; try with_reducible rfl)
        try simp only [Act.put, List.setIfInBounds_toArray, List.set_cons_zero, List.set_cons_succ]
        refine d_take (i := 5) (v := ?_) [6, 7, 9, 10, 11, 12] (some 21) rfl (by rfl) (by kernel_rfl) (by kernel_rfl) (by kernel_rfl) (by kernel_rfl) (by kernel_rfl) (by kernel_rfl) (fun _ _ _ h => h) (.inl ⟨by rfl, ?_⟩) HS1 ?_
        rotate_left 1
        · (intro W hW; (try dsimp only at hW); go_simp; try with_reducible rfl)
        try simp only [Act.put, List.setIfInBounds_toArray, List.set_cons_zero, List.set_cons_succ]
        refine d_take (i := 6) (v := ?_) [7, 9, 10, 11, 12] (some 22) rfl (by rfl) (by kernel_rfl) (by kernel_rfl) (by kernel_rfl) (by kernel_rfl) (by kernel_rfl) (by kernel_rfl) (fun _ _ _ h => h) (.inl ⟨by rfl, ?_⟩) HS1 ?_
        rotate_left 1
        · (intro W hW; (try dsimp only at hW); go_simp; try with_reducible rfl)
        try simp only [Act.put, List.setIfInBounds_toArray, List.set_cons_zero, List.set_cons_succ]
        refine d_take (i := 7) (v := ?_) [9, 10, 11, 12] (some 23) rfl (by rfl) (by kernel_rfl) (by kernel_rfl) (by kernel_rfl) (by kernel_rfl) (by kernel_rfl) (by kernel_rfl) (fun _ _ _ h => h) (.inl ⟨by rfl, ?_⟩) HS1 ?_
        rotate_left 1
        · (intro W hW; (try dsimp only at hW); go_simp; try with_reducible rfl)
        try simp only [Act.put, List.setIfInBounds_toArray, List.set_cons_zero, List.set_cons_succ]
        refine d_take (i := 8) (v := ?_) [9, 10, 11, 12] (some 24) rfl (by rfl) (by kernel_rfl) (by kernel_rfl) (by kernel_rfl) (by kernel_rfl) (by kernel_rfl) (by kernel_rfl) (fun _ _ _ h => h) (.inl ⟨by rfl, ?_⟩) HS1 ?_
        rotate_left 1
        · (intro W hW; (try dsimp only at hW); go_simp; try with_reducible rfl)
        try simp only [Act.put, List.setIfInBounds_toArray, List.set_cons_zero, List.set_cons_succ]
        refine d_take (i := 9) (v := ?_) [10, 11, 12] (some 25) rfl (by rfl) (by kernel_rfl) (by kernel_rfl) (by kernel_rfl) (by kernel_rfl) (by kernel_rfl) (by kernel_rfl) (fun _ _ _ h => h) (.inl ⟨by rfl, ?_⟩) HS1 ?_
        rotate_left 1
        · (intro W hW; (try dsimp only at hW); go_simp; try with_reducible rfl)
        try simp only [Act.put, List.setIfInBounds_toArray, List.set_cons_zero, List.set_cons_succ]
        refine d_take (i := 10) (v := ?_) [11, 12] (some 26) rfl (by rfl) (by kernel_rfl) (by kernel_rfl) (by kernel_rfl) (by kernel_rfl) (by kernel_rfl) (by kernel_rfl) (fun _ _ _ h => h) (.inl ⟨by rfl, ?_⟩) HS1 ?_
        rotate_left 1
        · (intro W hW; (try dsimp only at hW); go_simp; try with_reducible rfl)
        try simp only [Act.put, List.setIfInBounds_toArray, List.set_cons_zero, List.set_cons_succ]
        refine d_call (i := 11) (by kernel_rfl) rfl (by rfl) (fun K hK => ?_)
        simp only [List.getElem_toArray, List.getElem_cons_succ, List.getElem_cons_zero]
        go_simp
        refine C3.out.mono ?_
        rintro e w6 ⟨rfl, x6⟩
        have HX := Lib.hid (H5.out.1.drew.trans x6)
        go_simp
        refine hK.out _ _ (fun h => absurd h (by decide)) ?_
        clear hK K C3 x6 HS1
        try simp only [Act.put, List.setIfInBounds_toArray, List.set_cons_zero, List.set_cons_succ]
        refine d_one (i := 12) (by kernel_rfl) rfl rfl (fun K hK => ?_)
        simp only [List.getElem_toArray, List.getElem_cons_succ, List.getElem_cons_zero]
        go_simp
        refine hK.out _ _ (fun h => absurd h (by decide)) ?_
        clear hK K 
        try simp only [Act.put, List.setIfInBounds_toArray, List.set_cons_zero, List.set_cons_succ]
        refine d_done (by kernel_rfl) ?_ _
        cases hb : ah y x with
        | true =>
          have HB := Lib.hid hb
          clear hb
          go_wp2_with fail
          go_roundw
          case rel =>
            refine ⟨j + 1, (j : Int), by go_num, rfl, by omega, HX.out, .inr ⟨j, by omega, rfl, fun k hk => ?_⟩⟩
            rw [HXY.out.2]
            rcases Nat.lt_or_ge k j with h | h
            · have := HM.out.1 k h; exact lt_le HB.out this
            · rw [show k = j by omega, HXY.out.2]; exact ah_self _
          case measure => simp [intOf]; omega
        | false =>
          have HB := Lib.hid hb
          clear hb
          go_wp2_with fail
          go_roundw
          case rel =>
            refine ⟨j + 1, (i : Int), by go_num, rfl, by omega, HX.out, .inr ⟨i, by omega, rfl, fun k hk => ?_⟩⟩
            rw [HXY.out.1]
            rcases Nat.lt_or_ge k j with h | h
            · exact HM.out.1 k h
            · rw [show k = j by omega, HXY.out.2]; exact HB.out
          case measure => simp [intOf]; omega
    · obtain rfl : n = j := by omega
      obtain ⟨hxw, hcase⟩ := HI.out
      have HX := Lib.hid (And.intro hxw hcase)
      clear HI hxw hcase
      go_wp2_with fail
      go_returns
      refine ⟨HX.out.1, ?_⟩
      rcases HX.out.2 with ⟨h1, h2⟩ | ⟨i, h1, h2, h3⟩
      · exact .inl ⟨List.eq_nil_of_length_eq_zero (by have := HA.out; omega), by rw [h2]; rfl⟩
      · refine .inr ⟨i, by have := HA.out; omega, by rw [h2]; rfl, fun z hz => ?_⟩
        obtain ⟨k, hk⟩ := List.getElem?_of_mem hz
        have := h3 k (by have := HA.out; have := (List.getElem?_eq_some_iff.1 hk).1; omega)
        rwa [at_eq hk] at this
end
end Go.Proofs.YtocjbllkgbjihaaDoor
