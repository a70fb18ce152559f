/-
  The document's disk: Crash, and Write's errors, walked.
-/
import Derived.Test.YtchkeclhnbekkaaDoorDkRefW
namespace Go.Proofs.YtchkeclhnbekkaaDoor
set_option maxRecDepth 100000
open Go.RowKit Go.Maps
set_option linter.unusedVariables false
section
variable {w w' : World} {q sb nb ac dc S : Nat} {AA DA : Option Addr} {SF NW : Int → List Nat} {l : List WrV} {lb : List (Nat × Nat)} {wr : Int} {gone : Bool} {M : Nat → Prop}
/-- The first n bytes of a sector of Safe are written. -/
theorem RDm.safe (h : RDm w q sb nb AA ac DA dc S SF NW l lb wr gone) {n : Nat} (hn : n ≤ 64) {i : Nat} (hi : i < S) {x : WrV} (hx : x.i = (i : Int)) (hs : IsSec x.s) : RDm (w.setCells sb (64 * i) (u8s (x.s.take n))) q sb nb AA ac DA dc S (keepW SF x n) NW l lb wr gone ∧ Fr w (w.setCells sb (64 * i) (u8s (x.s.take n))) (· = sb) := by
  have ff := Fr.setCells (g := sb) (u8s (x.s.take n)) (64 * i) w
  have hl : (u8s (x.s.take n)).length = n := by rw [u8s_len, List.length_take, hs.1]; omega
  have o1 := own_setCells h.sf (p := 64 * i) (ds := u8s (x.s.take n)) (by omega)
  have e1 := fl_write h.ss.1 (x := x) hs.1 hn hi hx
  rw [hl, ← u8s_take (fl SF S), ← u8s_drop, ← u8s_append, ← u8s_append, e1] at o1
  exact ⟨⟨(ff.block q (block_lt h.blk) (fun e => h.d3.2.1 e.symm)).trans h.blk, o1, ff.own h.nw (fun a ha => by injection ha with ha; subst ha; exact fun e => h.d3.1 e.symm), ff.own h.at_ (fun a ha => (h.dA a ha).2.1), ff.own h.da (fun a ha => (h.dD a ha).2.1), fun k y hy => by
    obtain ⟨p, hp, hr⟩ := h.el k y hy
    exact ⟨p, hp, ff.rd hr (fun a ha => by injection ha with ha; subst ha; exact (h.dE p (List.mem_of_getElem? hp)).2.1)⟩, ⟨keepW_sec h.ss.1 hs hn, h.ss.2⟩, h.sr, h.d3, h.dA, h.dD, h.dE⟩, ff⟩
/-- Now becomes what is safe. -/
theorem RDm.back (h : RDm w q sb nb AA ac DA dc S SF NW l lb wr gone) : RDm (w.setCells nb 0 (u8s (fl SF S))) q sb nb AA ac DA dc S SF SF l lb wr gone ∧ Fr w (w.setCells nb 0 (u8s (fl SF S))) (· = nb) := by
  have ff := Fr.setCells (g := nb) (u8s (fl SF S)) 0 w
  have hl : (u8s (fl SF S)).length = 64 * S := by rw [u8s_len, fl_len h.ss.1]
  have o1 := own_setCells h.nw (p := 0) (ds := u8s (fl SF S)) (by omega)
  rw [List.take_zero, List.nil_append, List.drop_eq_nil_of_le (by rw [Nat.zero_add, u8s_len, fl_len h.ss.2.1, hl]; exact Nat.le_refl _), List.append_nil] at o1
  exact ⟨⟨(ff.block q (block_lt h.blk) (fun e => h.d3.2.2 e.symm)).trans h.blk, ff.own h.sf (fun a ha => by injection ha with ha; subst ha; exact h.d3.1), o1, ff.own h.at_ (fun a ha => (h.dA a ha).2.2), ff.own h.da (fun a ha => (h.dD a ha).2.2.1), fun k x hx => by
    obtain ⟨p, hp, hr⟩ := h.el k x hx
    exact ⟨p, hp, ff.rd hr (fun a ha => by injection ha with ha; subst ha; exact (h.dE p (List.mem_of_getElem? hp)).2.2.1)⟩, ⟨h.ss.1, h.ss.1, h.ss.2.2⟩, h.sr, h.d3, h.dA, h.dD, h.dE⟩, ff⟩
set_option maxHeartbeats 1600000 in
theorem rwrite_err (h : RL w q M S SF NW l wr gone) (i : Int) (hi : gone = true ∨ i < 0 ∨ (S : Int) ≤ i) (B : Option Addr) (n cap : Nat) :
    Calls Tryd.prog 24 #[.pointer (some ⟨q, 0, none⟩), .int .i64 i, .slice B n cap] w fun e w' => e = .returned (.int .i64 (chkN S i gone)) ∧ Ext w w' := by
  obtain ⟨sb, nb, ac, dc, AA, DA, lb, h1, _⟩ := h.ex
  have C := Lib.hid (rcheck_any h1 i)
  obtain ⟨k, hk, hk0⟩ : ∃ k, chkN S i gone = k ∧ (k == 0) = false := by
    unfold chkN
    by_cases e : gone = true
    · rw [if_pos e]; exact ⟨9, rfl, rfl⟩
    · rw [if_neg e, if_pos (by rcases hi with h | h; exact absurd h e; exact h)]; exact ⟨1, rfl, rfl⟩
  rw [hk] at C ⊢
  clear h h1 hk hi
  go_enter Tryd.func24, Tryd.ntmps24
  go_wp2_with fail
  refine C.out.mono ?_
  rintro e w1 ⟨rfl, x1⟩
  have X1 := Lib.hid x1
  clear C x1
  go_wp2_with fail
  go_returns
  exact ⟨rfl, X1.out⟩
set_option maxHeartbeats 1600000 in
theorem rwrite_large (h : RL w q M S SF NW l wr false) (i : Int) (hi : 0 ≤ i ∧ i < (S : Int)) (B : Option Addr) (n cap : Nat) (hn : n ≠ 64) :
    Calls Tryd.prog 24 #[.pointer (some ⟨q, 0, none⟩), .int .i64 i, .slice B n cap] w fun e w' => e = .returned (.int .i64 8) ∧ Ext w w' := by
  obtain ⟨sb, nb, ac, dc, AA, DA, lb, h1, _⟩ := h.ex
  have C := Lib.hid (rcheck_any h1 i)
  rw [show chkN S i false = 0 by simp [chkN]; omega] at C
  have hn2 : ((n : Int) == 64) = false := by rw [beq_eq_false_iff_ne]; omega
  clear h h1 hi hn
  go_enter Tryd.func24, Tryd.ntmps24
  go_wp2_with fail
  refine C.out.mono ?_
  rintro e w1 ⟨rfl, x1⟩
  have X1 := Lib.hid x1
  clear C x1
  go_wp2_with fail
  go_returns
  exact ⟨rfl, X1.out⟩
set_option maxHeartbeats 12800000 in
theorem rcrash_any {wn : Int} (h : RL w q M S SF NW l wn gone) (kp : Nat) (hkp : kp < 18446744073709551616) (torn : Int) (hll : l.length ≤ 2600000000000) :
    Calls Tryd.prog 27 #[.pointer (some ⟨q, 0, none⟩), .int .u64 (kp : Int), .int .i64 torn] w fun e w' => e = .returned (.tuple #[]) ∧ RN w w' q M S (crashW kp torn 0 SF l) (crashW kp torn 0 SF l) [] wn gone := by
  obtain ⟨sb, nb, ac, dc, AA, DA, lb, h1, m1, m2, m3, m4, m5, m6⟩ := h.ex
  obtain ⟨_, _, c2, _, _, _⟩ := h1.cells
  have HD := Lib.hid h1
  have HM := Lib.hid (And.intro m1 (And.intro m2 (And.intro m3 h.lt)))
  have HKP := Lib.hid hkp
  have hsr := h1.sr
  obtain ⟨n64, hn64⟩ : ∃ n64, 64 * S = n64 := ⟨_, rfl⟩
  have HN := Lib.hid hn64
  have hnb : n64 ≤ 65536 := by omega
  have hlen := hll
  rcases Nat.eq_zero_or_pos l.length with h0 | h0
  · have H0 := Lib.hid h0
    clear h h1 m1 m2 m3 m4 m5 m6 hkp hn64 h0
    go_enter Tryd.func27, Tryd.ntmps27
    go_wp2_with fail
    clear c2
    go_loopw [16] (fun v16 wr_ => ∃ k : Nat, v16 = .int .i64 (k : Int) ∧ k ≤ l.length ∧ Hid (RDm wr_ q sb nb AA ac DA dc S (crashW kp torn 0 SF (l.take k)) NW l lb wn gone ∧ Fr w wr_ (· = sb))) (fun v16 _ => l.length - (intOf v16).toNat)
    case atStart => exact ⟨0, rfl, by omega, HD.out, Fr.refl w _⟩
    case round =>
      obtain ⟨k, rfl, hk, HI⟩ := hrel
      by_cases hlt : k < l.length
      · exact absurd hlt (by have := H0.out; omega)
      · obtain rfl : k = l.length := by omega
        obtain ⟨V, hV⟩ : ∃ V : World, V = wr := ⟨_, rfl⟩
        subst hV
        rw [List.take_length] at HI
        have DR := Lib.hid (HI.out.1.ex (Ext.refl V).drew)
        have hl : (u8s (fl (crashW kp torn 0 SF l) S)).length = n64 := by rw [u8s_len, fl_len DR.out.ss.1, HN.out]
        have q0 := DR.out.cells.1
        have q1 := DR.out.cells.2.1
        rw [HN.out] at q0 q1
        have HS1 : V.drew.cell? ⟨q, 0, none⟩ = some (.slice (some ⟨sb, 0, none⟩) n64 n64) ∧ V.drew.cell? ⟨q, 1, none⟩ = some (.slice (some ⟨nb, 0, none⟩) n64 n64) := ⟨q0, q1⟩
        have RC := Lib.hid (run_copy_cells (P := Tryd.prog) V.drew 32 32 3 5 nb 0 n64 n64 ⟨sb, 0, none⟩ n64 n64 (u8s (fl (crashW kp torn 0 SF l) S)) Tryd.underlying32 (by kernel_rfl) (by rw [hl]; exact (Nat.min_self _).symm)
          (fun j v hv => by
            rw [Addr.add_mid, Nat.zero_add]
            exact DR.out.sf.celln hv)
          (fun j hj => by
            rw [Nat.zero_add]
            have h2 := DR.out.nw.len
            have h3 := HN.out
            rw [DR.out.nw.celln (List.getElem?_eq_getElem (show j < (u8s (fl NW S)).length from by omega))]
            rfl)
          (fun j hj => by rw [Nat.zero_add]; exact DR.out.nw.frozenAt j) (u8s_one _))
        have F1 := DR.out.back
        have F2 := F1.1.clear
        have hv0 : w.heap.size ≤ V.drew.heap.size := HI.out.2.size
        have HR := Lib.hid (show RN w _ q M S (crashW kp torn 0 SF l) (crashW kp torn 0 SF l) [] wn gone from ⟨⟨fun b => b = q ∨ b = sb ∨ b = nb, ⟨⟨sb, nb, 0, 0, none, none, [], F2.1, .inl rfl, .inr (.inl rfl), .inr (.inr rfl), (fun a ha => by cases ha), (fun a ha => by cases ha), (fun p hp => by cases hp)⟩, fun b hb => by
          have z1 := F1.2.size
          have z2 := F2.2.size
          rcases hb with e | e | e <;> rw [e]
          · have := HM.out.2.2.2 q HM.out.1; omega
          · have := HM.out.2.2.2 sb HM.out.2.1; omega
          · have := HM.out.2.2.2 nb HM.out.2.2.1; omega⟩, fun b hb => .inl (by
          rcases hb with e | e | e <;> rw [e]
          · exact HM.out.1
          · exact HM.out.2.1
          · exact HM.out.2.2.1)⟩, (((HI.out.2.mono (fun i _ e => by rw [e]; exact HM.out.2.1)).trans (Fr.of_ext (Ext.refl V).drew M) (fun _ _ h => h)).trans F1.2 (fun i _ e => by rw [e]; exact HM.out.2.2.1)).trans F2.2 (fun i _ e => by rw [e]; exact HM.out.1)⟩)
        have B1 := F1.1.blk
        have b2 : (V.drew.setCells nb 0 (u8s (fl (crashW kp torn 0 SF l) S))).frozen? ⟨q, 2, none⟩ = false := block_fz B1 2
        have b3 : (V.drew.setCells nb 0 (u8s (fl (crashW kp torn 0 SF l) S))).frozen? ⟨q, 3, none⟩ = false := block_fz B1 3
        have e2 : (V.drew.setCells nb 0 (u8s (fl (crashW kp torn 0 SF l) S))).cell? ⟨q, 2, none⟩ = some (.slice AA l.length ac) := block_cell B1 2
        have e3 : (V.drew.setCells nb 0 (u8s (fl (crashW kp torn 0 SF l) S))).cell? ⟨q, 3, none⟩ = some (.slice DA l.length dc) := block_cell B1 3
        clear q0 q1 hl F1 F2 B1 hv0
        go_upto_region 14 with (fail)
        refine d_region (fun W : World => W.cell? ⟨q, 0, none⟩ = some (.slice (some ⟨sb, 0, none⟩) n64 n64) ∧ W.cell? ⟨q, 1, none⟩ = some (.slice (some ⟨nb, 0, none⟩) n64 n64)) [8] (by kernel_rfl) ?_
        refine d_take (i := 0) (v := ?_) [1, 2, 3, 8] (some 58) rfl (by rfl) (by kernel_rfl) (by kernel_rfl) (by kernel_rfl) (by kernel_rfl) (by kernel_rfl) (by kernel_rfl) (fun _ _ _ h => h) (.inl ⟨by rfl, ?_⟩) HS1 ?_
        rotate_left 1
        · (intro W hW; (try dsimp only at hW); go_simp; try with_reducible rfl)
        try simp only [Act.put, List.setIfInBounds_toArray, List.set_cons_zero, List.set_cons_succ]
        refine d_take (i := 1) (v := ?_) [2, 3, 8] (some 59) rfl (by rfl) (by kernel_rfl) (by kernel_rfl) (by kernel_rfl) (by kernel_rfl) (by kernel_rfl) (by kernel_rfl) (fun _ _ _ h => h) (.inl ⟨by rfl, ?_⟩) HS1 ?_
        rotate_left 1
        · (intro W hW; (try dsimp only at hW); go_simp; try with_reducible rfl)
        try simp only [Act.put, List.setIfInBounds_toArray, List.set_cons_zero, List.set_cons_succ]
        refine d_take (i := 2) (v := ?_) [3, 8] (some 60) rfl (by rfl) (by kernel_rfl) (by kernel_rfl) (by kernel_rfl) (by kernel_rfl) (by kernel_rfl) (by kernel_rfl) (fun _ _ _ h => h) (.inl ⟨by rfl, ?_⟩) HS1 ?_
        rotate_left 1
        · (intro W hW; (try dsimp only at hW); go_simp; try with_reducible rfl)
        try simp only [Act.put, List.setIfInBounds_toArray, List.set_cons_zero, List.set_cons_succ]
        refine d_take (i := 3) (v := ?_) [8] (some 61) rfl (by rfl) (by kernel_rfl) (by kernel_rfl) (by kernel_rfl) (by kernel_rfl) (by kernel_rfl) (by kernel_rfl) (fun _ _ _ h => h) (.inl ⟨by rfl, ?_⟩) HS1 ?_
        rotate_left 1
        · (intro W hW; (try dsimp only at hW); go_simp; try with_reducible rfl)
        try simp only [Act.put, List.setIfInBounds_toArray, List.set_cons_zero, List.set_cons_succ]
        refine d_take (i := 4) (v := ?_) [5, 6, 7, 8] (some 62) rfl (by rfl) (by kernel_rfl) (by kernel_rfl) (by kernel_rfl) (by kernel_rfl) (by kernel_rfl) (by kernel_rfl) (fun _ _ _ h => h) (.inl ⟨by rfl, ?_⟩) HS1 ?_
        rotate_left 1
        · (intro W hW; (try dsimp only at hW); go_simp; try with_reducible rfl)
        try simp only [Act.put, List.setIfInBounds_toArray, List.set_cons_zero, List.set_cons_succ]
        refine d_take (i := 5) (v := ?_) [6, 7, 8] (some 63) rfl (by rfl) (by kernel_rfl) (by kernel_rfl) (by kernel_rfl) (by kernel_rfl) (by kernel_rfl) (by kernel_rfl) (fun _ _ _ h => h) (.inl ⟨by rfl, ?_⟩) HS1 ?_
        rotate_left 1
        · (intro W hW; (try dsimp only at hW); go_simp; try with_reducible rfl)
        try simp only [Act.put, List.setIfInBounds_toArray, List.set_cons_zero, List.set_cons_succ]
        refine d_take (i := 6) (v := ?_) [7, 8] (some 64) rfl (by rfl) (by kernel_rfl) (by kernel_rfl) (by kernel_rfl) (by kernel_rfl) (by kernel_rfl) (by kernel_rfl) (fun _ _ _ h => h) (.inl ⟨by rfl, ?_⟩) HS1 ?_
        rotate_left 1
        · (intro W hW; (try dsimp only at hW); go_simp; try with_reducible rfl)
        try simp only [Act.put, List.setIfInBounds_toArray, List.set_cons_zero, List.set_cons_succ]
        refine d_take (i := 7) (v := ?_) [8] (some 65) rfl (by rfl) (by kernel_rfl) (by kernel_rfl) (by kernel_rfl) (by kernel_rfl) (by kernel_rfl) (by kernel_rfl) (fun _ _ _ h => h) (.inl ⟨by rfl, ?_⟩) HS1 ?_
        rotate_left 1
        · (intro W hW; (try dsimp only at hW); go_simp; try with_reducible rfl)
        try simp only [Act.put, List.setIfInBounds_toArray, List.set_cons_zero, List.set_cons_succ]
        refine d_one (i := 8) (by kernel_rfl) rfl rfl (fun K hK => ?_)
        simp only [List.getElem_toArray, List.getElem_cons_succ, List.getElem_cons_zero]
        refine oper_copy (.tmp 61) (.tmp 65) rfl rfl rfl RC.out ?_
        refine hK.out _ _ (fun h => absurd h (by decide)) ?_
        clear hK K RC HS1
        generalize V.drew.setCells nb 0 (u8s (fl (crashW kp torn 0 SF l) S)) = w9 at *
        try simp only [Act.put, List.setIfInBounds_toArray, List.set_cons_zero, List.set_cons_succ]
        refine d_done (by kernel_rfl) ?_ _
        go_wp2_with fail
        go_returns
        exact ⟨rfl, HR.out⟩
  · obtain ⟨T, rfl⟩ := h1.at_.head h0
    obtain ⟨D, rfl⟩ := h1.da.head h0
    clear h h1 m1 m2 m3 m4 m5 m6 hkp hn64 h0
    go_enter Tryd.func27, Tryd.ntmps27
    go_wp2_with fail
    clear c2
    go_loopw [16] (fun v16 wr_ => ∃ k : Nat, v16 = .int .i64 (k : Int) ∧ k ≤ l.length ∧ Hid (RDm wr_ q sb nb (some ⟨T, 0, none⟩) ac (some ⟨D, 0, none⟩) dc S (crashW kp torn 0 SF (l.take k)) NW l lb wn gone ∧ Fr w wr_ (· = sb))) (fun v16 _ => l.length - (intOf v16).toNat)
    case atStart => exact ⟨0, rfl, by omega, HD.out, Fr.refl w _⟩
    case round =>
      obtain ⟨k, rfl, hk, HI⟩ := hrel
      by_cases hlt : k < l.length
      · obtain ⟨x, hx⟩ : ∃ x, l[k]? = some x := ⟨_, List.getElem?_eq_getElem hlt⟩
        have hsx := HD.out.ss.2.2.1 x (List.mem_of_getElem? hx)
        have hix := HD.out.ss.2.2.2 x (List.mem_of_getElem? hx)
        obtain ⟨ii, hii⟩ : ∃ ii : Nat, x.i = (ii : Int) := ⟨x.i.toNat, by omega⟩
        have HX := Lib.hid (And.intro hx (And.intro hsx (And.intro (show ii < S by omega) hii)))
        have hi1 : ii < 1024 := by omega
        have ct : wr.cell? ⟨T, k, none⟩ = some (.int .i64 (ii : Int)) := by
          rw [← hii]
          exact HI.out.1.at_.celln (by simp [ints, hx])
        obtain ⟨U, hU⟩ : ∃ U : World, U = wr := ⟨_, rfl⟩
        subst hU
        clear hsx hix hx hii
        by_cases ht : (k : Int) = torn
        · have htb : ((k : Int) == torn) = true := by rw [beq_iff_eq]; exact ht
          have htw : Int.tmod (k : Int) 64 = ((k % 64 : Nat) : Int) := rfl
          obtain ⟨km, hkm⟩ : ∃ km, k % 64 = km := ⟨_, rfl⟩
          rw [hkm] at htw
          have hkm64 : km < 64 := by omega
          have SN := crashW_snoc kp torn (l.take k) x 0 SF
          rw [Nat.zero_add, List.length_take, Nat.min_eq_left (by omega)] at SN
          rw [if_pos ht] at SN
          have HKM := Lib.hid hkm
          clear ht
          clear hkm
          go_wp2_with fail
          clear ct
          go_loopw [9, 10] (fun v9 v10 wr_ => ∃ j : Nat, v10 = .int .i64 (j : Int) ∧ v9 = .int .u64 ((kp >>> j : Nat) : Int) ∧ j ≤ km ∧ U = wr_) (fun _ v10 _ => km - (intOf v10).toNat)
          case atStart => exact ⟨0, rfl, rfl, by omega, rfl⟩
          case round =>
            obtain ⟨j, rfl, rfl, hj, rfl⟩ := hrel
            obtain ⟨b1, hb1⟩ : ∃ b1, kp >>> j = b1 := ⟨_, rfl⟩
            rw [hb1]
            by_cases hjk : j < km
            · obtain ⟨b2, hb2⟩ : ∃ b2, kp >>> (j + 1) = b2 := ⟨_, rfl⟩
              have hq2 : Int.tdiv (b1 : Int) 2 = (b2 : Int) := by
                rw [← hb1, ← hb2, Nat.shiftRight_succ]
                rfl
              have hb2e := Lib.hid hb2
              have h1 : (j : Int) < km := by omega
              have hlt1 : b1 < 18446744073709551616 := by
                rw [← hb1, Nat.shiftRight_eq_div_pow]
                exact Nat.lt_of_le_of_lt (Nat.div_le_self _ _) HKP.out
              have hlt2 : b2 < 18446744073709551616 := by
                rw [← hb2, Nat.shiftRight_eq_div_pow]
                exact Nat.lt_of_le_of_lt (Nat.div_le_self _ _) HKP.out
              have hwq : IntKind.u64.wrap (b2 : Int) = (b2 : Int) := by rw [IntKind.wrap_u64]; omega
              clear hb1 hb2 hlt1 hlt2
              go_wp2_with fail
              go_roundw
              case rel => exact ⟨j + 1, by go_num, by rw [hb2e.out], by omega, by first | exact rfl | exact trivial⟩
              case measure => simp [intOf]; omega
            · obtain rfl : km = j := by omega
              have hlt1 : b1 < 18446744073709551616 := by
                rw [← hb1, Nat.shiftRight_eq_div_pow]
                exact Nat.lt_of_le_of_lt (Nat.div_le_self _ _) HKP.out
              have hbk : bitK kp k = (b1 % 2 == 1) := by unfold bitK; rw [HKM.out, hb1]
              clear hb1
              by_cases hb : b1 % 2 = 1
              · have hbit : Int.tmod (b1 : Int) 2 = 1 := by show ((b1 % 2 : Nat) : Int) = 1; rw [hb]; rfl
                rw [hbk, show (b1 % 2 == 1) = true by simp [hb], if_pos rfl] at SN
                have HSN := Lib.hid SN
                clear SN hbk hb hlt1
                obtain ⟨o, ho⟩ : ∃ o, 64 * ii = o := ⟨_, rfl⟩
                have hoI : (64 : Int) * (ii : Int) = (o : Int) := by omega
                have hoS : o + 64 ≤ n64 := by have h1 := HN.out; have h2 := HX.out.2.2.1; omega
                have HO := Lib.hid ho
                clear ho
                have h64 : o + 32 - o = 32 := by omega
                have DR := Lib.hid (HI.out.1.ex (Ext.refl U).drew)
                obtain ⟨p, hp, hrp⟩ := DR.out.el k x HX.out.1
                have hpc := (DR.out.dE p (List.mem_of_getElem? hp)).2.2.2.2.2
                have hus : (u8s (x.s.take 32)).length = 32 := by rw [u8s_len, List.length_take, HX.out.2.1.1]; rfl
                have RC := Lib.hid (run_copy_cells (P := Tryd.prog) U.drew 32 32 3 5 sb o 32 (n64 - o) ⟨p.1, 0, none⟩ 32 p.2 (u8s (x.s.take 32)) Tryd.underlying32 (by kernel_rfl) (by rw [hus]; rfl)
                  (fun j v hv => by
                    obtain ⟨ad, e, _, hc⟩ := hrp.2 (by omega)
                    injection e with e
                    subst e
                    refine hc j v ?_
                    rw [u8s_take, List.getElem?_take] at hv
                    split at hv
                    · exact hv
                    · cases hv)
                  (fun j hj => by
                    have h2 := DR.out.sf.len
                    have h3 := HN.out
                    rw [DR.out.sf.celln (List.getElem?_eq_getElem (show o + j < (u8s (fl _ S)).length from by omega))]
                    rfl)
                  (fun j hj => DR.out.sf.frozenAt _) (u8s_one _))
                have N1 := DR.out.safe (n := 32) (by omega) HX.out.2.2.1 (x := x) HX.out.2.2.2 HX.out.2.1
                rw [HO.out] at N1
                have HN1 : Hid (RDm (U.drew.setCells sb o (u8s (x.s.take 32))) q sb nb (some ⟨T, 0, none⟩) ac (some ⟨D, 0, none⟩) dc S (crashW kp torn 0 SF (l.take (k + 1))) NW l lb wn gone ∧ Fr w (U.drew.setCells sb o (u8s (x.s.take 32))) (· = sb)) := Lib.hid ⟨by
                  rw [take_succ' HX.out.1, HSN.out]
                  exact N1.1, (HI.out.2.trans (Fr.of_ext (Ext.refl U).drew (· = sb)) (fun _ _ h => h)).trans N1.2 (fun _ _ h => h)⟩
                have q0 := DR.out.cells.1
                rw [HN.out] at q0
                have HS1 : U.drew.cell? ⟨q, 0, none⟩ = some (.slice (some ⟨sb, 0, none⟩) n64 n64) ∧ U.drew.cell? ⟨q, 3, none⟩ = some (.slice (some ⟨D, 0, none⟩) l.length dc) ∧ U.drew.cell? ⟨D, k, none⟩ = some (.slice (some ⟨p.1, 0, none⟩) 64 p.2) := ⟨q0, DR.out.cells.2.2.2.1, DR.out.da.celln (dvals_at hp)⟩
                clear hp hrp hus N1 q0
                obtain ⟨o2, ho2⟩ : ∃ o2, o + 32 = o2 := ⟨_, rfl⟩
                have y1 : IntKind.i64.wrap (o : Int) = (o : Int) := by rw [IntKind.wrap_i64]; omega
                have y2 : IntKind.i64.wrap ((o : Int) + 32) = (o2 : Int) := by rw [IntKind.wrap_i64]; omega
                have y3 : ((o2 : Int) ≤ (n64 : Int)) = True := by rw [eq_iff_iff]; constructor <;> intro <;> first | trivial | omega
                have y4 : ((o : Int) ≤ (o2 : Int)) = True := by rw [eq_iff_iff]; constructor <;> intro <;> first | trivial | omega
                have y5 : max (o2 : Int) 0 = (o2 : Int) := by omega
                have y6 : (n64 = o) = False := by rw [eq_iff_iff]; constructor <;> intro h <;> first | omega | exact h.elim
                have y7 : o2 - o = 32 := by omega
                have y8 : ((32 : Int) ≤ (p.2 : Int)) = True := by rw [eq_iff_iff]; constructor <;> intro <;> first | trivial | omega
                clear h64
                go_upto_region 12 with (fail)
                refine d_region (fun W : World => W.cell? ⟨q, 0, none⟩ = some (.slice (some ⟨sb, 0, none⟩) n64 n64) ∧ W.cell? ⟨q, 3, none⟩ = some (.slice (some ⟨D, 0, none⟩) l.length dc) ∧ W.cell? ⟨D, k, none⟩ = some (.slice (some ⟨p.1, 0, none⟩) 64 p.2)) [20] (by kernel_rfl) ?_
                refine d_take (i := 0) (v := ?_) [1, 2, 3, 10, 20] (some 36) rfl (by rfl) (by kernel_rfl) (by kernel_rfl) (by kernel_rfl) (by kernel_rfl) (by kernel_rfl) (by kernel_rfl) (fun _ _ _ h => h) (.inl ⟨by rfl, ?_⟩) HS1 ?_
                rotate_left 1
                · (intro W hW; (try dsimp only at hW); go_simp; try with_reducible rfl)
                try simp only [Act.put, List.setIfInBounds_toArray, List.set_cons_zero, List.set_cons_succ]
                refine d_take (i := 1) (v := ?_) [2, 3, 10, 20] (some 37) rfl (by rfl) (by kernel_rfl) (by kernel_rfl) (by kernel_rfl) (by kernel_rfl) (by kernel_rfl) (by kernel_rfl) (fun _ _ _ h => h) (.inl ⟨by rfl, ?_⟩) HS1 ?_
                rotate_left 1
                · (intro W hW; (try dsimp only at hW); go_simp; try with_reducible rfl)
                try simp only [Act.put, List.setIfInBounds_toArray, List.set_cons_zero, List.set_cons_succ]
                refine d_take (i := 2) (v := ?_) [3, 10, 20] (some 38) rfl (by rfl) (by kernel_rfl) (by kernel_rfl) (by kernel_rfl) (by kernel_rfl) (by kernel_rfl) (by kernel_rfl) (fun _ _ _ h => h) (.inl ⟨by rfl, ?_⟩) HS1 ?_
                rotate_left 1
                · (intro W hW; (try dsimp only at hW); go_simp; try with_reducible rfl)
                try simp only [Act.put, List.setIfInBounds_toArray, List.set_cons_zero, List.set_cons_succ]
                refine d_take (i := 3) (v := ?_) [10, 20] (some 39) rfl (by rfl) (by kernel_rfl) (by kernel_rfl) (by kernel_rfl) (by kernel_rfl) (by kernel_rfl) (by kernel_rfl) (fun _ _ _ h => h) (.inl ⟨by rfl, ?_⟩) HS1 ?_
                rotate_left 1
                · (intro W hW; (try dsimp only at hW); go_simp; try with_reducible rfl)
                try simp only [Act.put, List.setIfInBounds_toArray, List.set_cons_zero, List.set_cons_succ]
                refine d_take (i := 4) (v := ?_) [5, 10, 20] (some 40) rfl (by rfl) (by kernel_rfl) (by kernel_rfl) (by kernel_rfl) (by kernel_rfl) (by kernel_rfl) (by kernel_rfl) (fun _ _ _ h => h) (.inl ⟨by rfl, ?_⟩) HS1 ?_
                rotate_left 1
                · (intro W hW; (try dsimp only at hW); go_simp; try with_reducible rfl)
                try simp only [Act.put, List.setIfInBounds_toArray, List.set_cons_zero, List.set_cons_succ]
                refine d_take (i := 5) (v := ?_) [10, 20] (some 41) rfl (by rfl) (by kernel_rfl) (by kernel_rfl) (by kernel_rfl) (by kernel_rfl) (by kernel_rfl) (by kernel_rfl) (fun _ _ _ h => h) (.inl ⟨by rfl, ?_⟩) HS1 ?_
                rotate_left 1
                · (intro W hW; (try dsimp only at hW); go_simp; try with_reducible rfl)
                try simp only [Act.put, List.setIfInBounds_toArray, List.set_cons_zero, List.set_cons_succ]
                refine d_take (i := 6) (v := ?_) [7, 9, 10, 20] (some 42) rfl (by rfl) (by kernel_rfl) (by kernel_rfl) (by kernel_rfl) (by kernel_rfl) (by kernel_rfl) (by kernel_rfl) (fun _ _ _ h => h) (.inl ⟨by rfl, ?_⟩) HS1 ?_
                rotate_left 1
                · (intro W hW; (try dsimp only at hW); go_simp; try with_reducible rfl)
                try simp only [Act.put, List.setIfInBounds_toArray, List.set_cons_zero, List.set_cons_succ]
                refine d_take (i := 7) (v := ?_) [9, 10, 20] (some 43) rfl (by rfl) (by kernel_rfl) (by kernel_rfl) (by kernel_rfl) (by kernel_rfl) (by kernel_rfl) (by kernel_rfl) (fun _ _ _ h => h) (.inl ⟨by rfl, ?_⟩) HS1 ?_
                rotate_left 1
                · (intro W hW; (try dsimp only at hW); go_simp; try with_reducible rfl)
                try simp only [Act.put, List.setIfInBounds_toArray, List.set_cons_zero, List.set_cons_succ]
                refine d_take (i := 8) (v := ?_) [9, 10, 20] (some 44) rfl (by rfl) (by kernel_rfl) (by kernel_rfl) (by kernel_rfl) (by kernel_rfl) (by kernel_rfl) (by kernel_rfl) (fun _ _ _ h => h) (.inl ⟨by rfl, ?_⟩) HS1 ?_
                rotate_left 1
                · (intro W hW; (try dsimp only at hW); go_simp; try with_reducible rfl)
                try simp only [Act.put, List.setIfInBounds_toArray, List.set_cons_zero, List.set_cons_succ]
                refine d_take (i := 9) (v := ?_) [10, 20] (some 45) rfl (by rfl) (by kernel_rfl) (by kernel_rfl) (by kernel_rfl) (by kernel_rfl) (by kernel_rfl) (by kernel_rfl) (fun _ _ _ h => h) (.inl ⟨by rfl, ?_⟩) HS1 ?_
                rotate_left 1
                · (intro W hW; (try dsimp only at hW); go_simp; try with_reducible rfl)
                try simp only [Act.put, List.setIfInBounds_toArray, List.set_cons_zero, List.set_cons_succ]
                refine d_take (i := 10) (v := ?_) [20] (some 46) rfl (by rfl) (by kernel_rfl) (by kernel_rfl) (by kernel_rfl) (by kernel_rfl) (by kernel_rfl) (by kernel_rfl) (fun _ _ _ h => h) (.inl ⟨by rfl, ?_⟩) HS1 ?_
                rotate_left 1
                · (intro W hW; (try dsimp only at hW); go_simp; try with_reducible rfl)
                try simp only [Act.put, List.setIfInBounds_toArray, List.set_cons_zero, List.set_cons_succ]
                refine d_take (i := 11) (v := ?_) [12, 13, 14, 16, 17, 19, 20] (some 47) rfl (by rfl) (by kernel_rfl) (by kernel_rfl) (by kernel_rfl) (by kernel_rfl) (by kernel_rfl) (by kernel_rfl) (fun _ _ _ h => h) (.inl ⟨by rfl, ?_⟩) HS1 ?_
                rotate_left 1
                · (intro W hW; (try dsimp only at hW); go_simp; try with_reducible rfl)
                try simp only [Act.put, List.setIfInBounds_toArray, List.set_cons_zero, List.set_cons_succ]
                refine d_take (i := 12) (v := ?_) [13, 14, 16, 17, 19, 20] (some 48) rfl (by rfl) (by kernel_rfl) (by kernel_rfl) (by kernel_rfl) (by kernel_rfl) (by kernel_rfl) (by kernel_rfl) (fun _ _ _ h => h) (.inl ⟨by rfl, ?_⟩) HS1 ?_
                rotate_left 1
                · (intro W hW; (try dsimp only at hW); go_simp; try with_reducible rfl)
                try simp only [Act.put, List.setIfInBounds_toArray, List.set_cons_zero, List.set_cons_succ]
                refine d_take (i := 13) (v := ?_) [14, 16, 17, 19, 20] (some 49) rfl (by rfl) (by kernel_rfl) (by kernel_rfl) (by kernel_rfl) (by kernel_rfl) (by kernel_rfl) (by kernel_rfl) (fun _ _ _ h => h) (.inl ⟨by rfl, ?_⟩) HS1 ?_
                rotate_left 1
                · (intro W hW; (try dsimp only at hW); go_simp; try with_reducible rfl)
                try simp only [Act.put, List.setIfInBounds_toArray, List.set_cons_zero, List.set_cons_succ]
                refine d_take (i := 14) (v := ?_) [16, 17, 19, 20] (some 50) rfl (by rfl) (by kernel_rfl) (by kernel_rfl) (by kernel_rfl) (by kernel_rfl) (by kernel_rfl) (by kernel_rfl) (fun _ _ _ h => h) (.inl ⟨by rfl, ?_⟩) HS1 ?_
                rotate_left 1
                · (intro W hW; (try dsimp only at hW); go_simp; try with_reducible rfl)
                try simp only [Act.put, List.setIfInBounds_toArray, List.set_cons_zero, List.set_cons_succ]
                refine d_take (i := 15) (v := ?_) [16, 17, 19, 20] (some 51) rfl (by rfl) (by kernel_rfl) (by kernel_rfl) (by kernel_rfl) (by kernel_rfl) (by kernel_rfl) (by kernel_rfl) (fun _ _ _ h => h) (.inl ⟨by rfl, ?_⟩) HS1 ?_
                rotate_left 1
                · (intro W hW; (try dsimp only at hW); go_simp; try with_reducible rfl)
                try simp only [Act.put, List.setIfInBounds_toArray, List.set_cons_zero, List.set_cons_succ]
                refine d_take (i := 16) (v := ?_) [17, 19, 20] (some 52) rfl (by rfl) (by kernel_rfl) (by kernel_rfl) (by kernel_rfl) (by kernel_rfl) (by kernel_rfl) (by kernel_rfl) (fun _ _ _ h => h) (.inl ⟨by rfl, ?_⟩) HS1 ?_
                rotate_left 1
                · (intro W hW; (try dsimp only at hW); go_simp; try with_reducible rfl)
                try simp only [Act.put, List.setIfInBounds_toArray, List.set_cons_zero, List.set_cons_succ]
                refine d_take (i := 17) (v := ?_) [19, 20] (some 53) rfl (by rfl) (by kernel_rfl) (by kernel_rfl) (by kernel_rfl) (by kernel_rfl) (by kernel_rfl) (by kernel_rfl) (fun _ _ _ h => h) (.inl ⟨by rfl, ?_⟩) HS1 ?_
                rotate_left 1
                · (intro W hW; (try dsimp only at hW); go_simp; try with_reducible rfl)
                try simp only [Act.put, List.setIfInBounds_toArray, List.set_cons_zero, List.set_cons_succ]
                refine d_take (i := 18) (v := ?_) [19, 20] (some 54) rfl (by rfl) (by kernel_rfl) (by kernel_rfl) (by kernel_rfl) (by kernel_rfl) (by kernel_rfl) (by kernel_rfl) (fun _ _ _ h => h) (.inl ⟨by rfl, ?_⟩) HS1 ?_
                rotate_left 1
                · (intro W hW; (try dsimp only at hW); go_simp; try with_reducible rfl)
                try simp only [Act.put, List.setIfInBounds_toArray, List.set_cons_zero, List.set_cons_succ]
                refine d_take (i := 19) (v := ?_) [20] (some 55) rfl (by rfl) (by kernel_rfl) (by kernel_rfl) (by kernel_rfl) (by kernel_rfl) (by kernel_rfl) (by kernel_rfl) (fun _ _ _ h => h) (.inl ⟨by rfl, ?_⟩) HS1 ?_
                rotate_left 1
                · (intro W hW; (try dsimp only at hW); go_simp; try with_reducible rfl)
                try simp only [Act.put, List.setIfInBounds_toArray, List.set_cons_zero, List.set_cons_succ]
                refine d_one (i := 20) (by kernel_rfl) rfl rfl (fun K hK => ?_)
                simp only [List.getElem_toArray, List.getElem_cons_succ, List.getElem_cons_zero]
                refine oper_copy (.tmp 46) (.tmp 55) rfl rfl rfl RC.out ?_
                refine hK.out _ _ (fun h => absurd h (by decide)) ?_
                clear hK K RC HS1
                generalize U.drew.setCells sb o (u8s (x.s.take 32)) = w9 at *
                try simp only [Act.put, List.setIfInBounds_toArray, List.set_cons_zero, List.set_cons_succ]
                refine d_done (by kernel_rfl) ?_ _
                clear hbit hoI htw hpc y1 y2 y3 y4 y5 y6 y7 y8 ho2
                go_wp2_with fail
                go_roundw
                case rel => exact ⟨k + 1, by go_num, by omega, HN1.out⟩
                case measure => simp [intOf]; omega
              · have hbit : Int.tmod (b1 : Int) 2 = 0 := by show ((b1 % 2 : Nat) : Int) = 0; rw [show b1 % 2 = 0 by omega]; rfl
                rw [hbk, show (b1 % 2 == 1) = false by simp [hb], if_neg (by simp)] at SN
                have HN1 : Hid (RDm U q sb nb (some ⟨T, 0, none⟩) ac (some ⟨D, 0, none⟩) dc S (crashW kp torn 0 SF (l.take (k + 1))) NW l lb wn gone ∧ Fr w U (· = sb)) := Lib.hid ⟨by
                  rw [take_succ' HX.out.1, SN]
                  exact HI.out.1, HI.out.2⟩
                clear SN hbk hb hlt1
                go_wp2_with fail
                go_roundw
                case rel => exact ⟨k + 1, by go_num, by omega, HN1.out⟩
                case measure => simp [intOf]; omega
        · have htb : ((k : Int) == torn) = false := by rw [beq_eq_false_iff_ne]; exact ht
          have htw : Int.tmod (k : Int) 64 = ((k % 64 : Nat) : Int) := rfl
          obtain ⟨km, hkm⟩ : ∃ km, k % 64 = km := ⟨_, rfl⟩
          rw [hkm] at htw
          have hkm64 : km < 64 := by omega
          have SN := crashW_snoc kp torn (l.take k) x 0 SF
          rw [Nat.zero_add, List.length_take, Nat.min_eq_left (by omega)] at SN
          rw [if_neg ht] at SN
          have HKM := Lib.hid hkm
          clear ht
          clear hkm
          go_wp2_with fail
          clear ct
          go_loopw [9, 10] (fun v9 v10 wr_ => ∃ j : Nat, v10 = .int .i64 (j : Int) ∧ v9 = .int .u64 ((kp >>> j : Nat) : Int) ∧ j ≤ km ∧ U = wr_) (fun _ v10 _ => km - (intOf v10).toNat)
          case atStart => exact ⟨0, rfl, rfl, by omega, rfl⟩
          case round =>
            obtain ⟨j, rfl, rfl, hj, rfl⟩ := hrel
            obtain ⟨b1, hb1⟩ : ∃ b1, kp >>> j = b1 := ⟨_, rfl⟩
            rw [hb1]
            by_cases hjk : j < km
            · obtain ⟨b2, hb2⟩ : ∃ b2, kp >>> (j + 1) = b2 := ⟨_, rfl⟩
              have hq2 : Int.tdiv (b1 : Int) 2 = (b2 : Int) := by
                rw [← hb1, ← hb2, Nat.shiftRight_succ]
                rfl
              have hb2e := Lib.hid hb2
              have h1 : (j : Int) < km := by omega
              have hlt1 : b1 < 18446744073709551616 := by
                rw [← hb1, Nat.shiftRight_eq_div_pow]
                exact Nat.lt_of_le_of_lt (Nat.div_le_self _ _) HKP.out
              have hlt2 : b2 < 18446744073709551616 := by
                rw [← hb2, Nat.shiftRight_eq_div_pow]
                exact Nat.lt_of_le_of_lt (Nat.div_le_self _ _) HKP.out
              have hwq : IntKind.u64.wrap (b2 : Int) = (b2 : Int) := by rw [IntKind.wrap_u64]; omega
              clear hb1 hb2 hlt1 hlt2
              go_wp2_with fail
              go_roundw
              case rel => exact ⟨j + 1, by go_num, by rw [hb2e.out], by omega, by first | exact rfl | exact trivial⟩
              case measure => simp [intOf]; omega
            · obtain rfl : km = j := by omega
              have hlt1 : b1 < 18446744073709551616 := by
                rw [← hb1, Nat.shiftRight_eq_div_pow]
                exact Nat.lt_of_le_of_lt (Nat.div_le_self _ _) HKP.out
              have hbk : bitK kp k = (b1 % 2 == 1) := by unfold bitK; rw [HKM.out, hb1]
              clear hb1
              by_cases hb : b1 % 2 = 1
              · have hbit : Int.tmod (b1 : Int) 2 = 1 := by show ((b1 % 2 : Nat) : Int) = 1; rw [hb]; rfl
                rw [hbk, show (b1 % 2 == 1) = true by simp [hb], if_pos rfl] at SN
                have HSN := Lib.hid SN
                clear SN hbk hb hlt1
                obtain ⟨o, ho⟩ : ∃ o, 64 * ii = o := ⟨_, rfl⟩
                have hoI : (64 : Int) * (ii : Int) = (o : Int) := by omega
                have hoS : o + 64 ≤ n64 := by have h1 := HN.out; have h2 := HX.out.2.2.1; omega
                have HO := Lib.hid ho
                clear ho
                have h64 : o + 64 - o = 64 := by omega
                have DR := Lib.hid (HI.out.1.ex (Ext.refl U).drew)
                obtain ⟨p, hp, hrp⟩ := DR.out.el k x HX.out.1
                have hpc := (DR.out.dE p (List.mem_of_getElem? hp)).2.2.2.2.2
                have hus : (u8s (x.s.take 64)).length = 64 := by rw [u8s_len, List.length_take, HX.out.2.1.1]; rfl
                have RC := Lib.hid (run_copy_cells (P := Tryd.prog) U.drew 32 32 3 5 sb o 64 (n64 - o) ⟨p.1, 0, none⟩ 64 p.2 (u8s (x.s.take 64)) Tryd.underlying32 (by kernel_rfl) (by rw [hus]; rfl)
                  (fun j v hv => by
                    obtain ⟨ad, e, _, hc⟩ := hrp.2 (by omega)
                    injection e with e
                    subst e
                    refine hc j v ?_
                    rw [u8s_take, List.getElem?_take] at hv
                    split at hv
                    · exact hv
                    · cases hv)
                  (fun j hj => by
                    have h2 := DR.out.sf.len
                    have h3 := HN.out
                    rw [DR.out.sf.celln (List.getElem?_eq_getElem (show o + j < (u8s (fl _ S)).length from by omega))]
                    rfl)
                  (fun j hj => DR.out.sf.frozenAt _) (u8s_one _))
                have N1 := DR.out.safe (n := 64) (by omega) HX.out.2.2.1 (x := x) HX.out.2.2.2 HX.out.2.1
                rw [HO.out] at N1
                have HN1 : Hid (RDm (U.drew.setCells sb o (u8s (x.s.take 64))) q sb nb (some ⟨T, 0, none⟩) ac (some ⟨D, 0, none⟩) dc S (crashW kp torn 0 SF (l.take (k + 1))) NW l lb wn gone ∧ Fr w (U.drew.setCells sb o (u8s (x.s.take 64))) (· = sb)) := Lib.hid ⟨by
                  rw [take_succ' HX.out.1, HSN.out]
                  exact N1.1, (HI.out.2.trans (Fr.of_ext (Ext.refl U).drew (· = sb)) (fun _ _ h => h)).trans N1.2 (fun _ _ h => h)⟩
                have q0 := DR.out.cells.1
                rw [HN.out] at q0
                have HS1 : U.drew.cell? ⟨q, 0, none⟩ = some (.slice (some ⟨sb, 0, none⟩) n64 n64) ∧ U.drew.cell? ⟨q, 3, none⟩ = some (.slice (some ⟨D, 0, none⟩) l.length dc) ∧ U.drew.cell? ⟨D, k, none⟩ = some (.slice (some ⟨p.1, 0, none⟩) 64 p.2) := ⟨q0, DR.out.cells.2.2.2.1, DR.out.da.celln (dvals_at hp)⟩
                clear hp hrp hus N1 q0
                obtain ⟨o2, ho2⟩ : ∃ o2, o + 64 = o2 := ⟨_, rfl⟩
                have y1 : IntKind.i64.wrap (o : Int) = (o : Int) := by rw [IntKind.wrap_i64]; omega
                have y2 : IntKind.i64.wrap ((o : Int) + 64) = (o2 : Int) := by rw [IntKind.wrap_i64]; omega
                have y3 : ((o2 : Int) ≤ (n64 : Int)) = True := by rw [eq_iff_iff]; constructor <;> intro <;> first | trivial | omega
                have y4 : ((o : Int) ≤ (o2 : Int)) = True := by rw [eq_iff_iff]; constructor <;> intro <;> first | trivial | omega
                have y5 : max (o2 : Int) 0 = (o2 : Int) := by omega
                have y6 : (n64 = o) = False := by rw [eq_iff_iff]; constructor <;> intro h <;> first | omega | exact h.elim
                have y7 : o2 - o = 64 := by omega
                have y8 : ((64 : Int) ≤ (p.2 : Int)) = True := by rw [eq_iff_iff]; constructor <;> intro <;> first | trivial | omega
                clear h64
                go_upto_region 12 with (fail)
                refine d_region (fun W : World => W.cell? ⟨q, 0, none⟩ = some (.slice (some ⟨sb, 0, none⟩) n64 n64) ∧ W.cell? ⟨q, 3, none⟩ = some (.slice (some ⟨D, 0, none⟩) l.length dc) ∧ W.cell? ⟨D, k, none⟩ = some (.slice (some ⟨p.1, 0, none⟩) 64 p.2)) [20] (by kernel_rfl) ?_
                refine d_take (i := 0) (v := ?_) [1, 2, 3, 10, 20] (some 36) rfl (by rfl) (by kernel_rfl) (by kernel_rfl) (by kernel_rfl) (by kernel_rfl) (by kernel_rfl) (by kernel_rfl) (fun _ _ _ h => h) (.inl ⟨by rfl, ?_⟩) HS1 ?_
                rotate_left 1
                · (intro W hW; (try dsimp only at hW); go_simp; try with_reducible rfl)
                try simp only [Act.put, List.setIfInBounds_toArray, List.set_cons_zero, List.set_cons_succ]
                refine d_take (i := 1) (v := ?_) [2, 3, 10, 20] (some 37) rfl (by rfl) (by kernel_rfl) (by kernel_rfl) (by kernel_rfl) (by kernel_rfl) (by kernel_rfl) (by kernel_rfl) (fun _ _ _ h => h) (.inl ⟨by rfl, ?_⟩) HS1 ?_
                rotate_left 1
                · (intro W hW; (try dsimp only at hW); go_simp; try with_reducible rfl)
                try simp only [Act.put, List.setIfInBounds_toArray, List.set_cons_zero, List.set_cons_succ]
                refine d_take (i := 2) (v := ?_) [3, 10, 20] (some 38) rfl (by rfl) (by kernel_rfl) (by kernel_rfl) (by kernel_rfl) (by kernel_rfl) (by kernel_rfl) (by kernel_rfl) (fun _ _ _ h => h) (.inl ⟨by rfl, ?_⟩) HS1 ?_
                rotate_left 1
                · (intro W hW; (try dsimp only at hW); go_simp; try with_reducible rfl)
                try simp only [Act.put, List.setIfInBounds_toArray, List.set_cons_zero, List.set_cons_succ]
                refine d_take (i := 3) (v := ?_) [10, 20] (some 39) rfl (by rfl) (by kernel_rfl) (by kernel_rfl) (by kernel_rfl) (by kernel_rfl) (by kernel_rfl) (by kernel_rfl) (fun _ _ _ h => h) (.inl ⟨by rfl, ?_⟩) HS1 ?_
                rotate_left 1
                · (intro W hW; (try dsimp only at hW); go_simp; try with_reducible rfl)
                try simp only [Act.put, List.setIfInBounds_toArray, List.set_cons_zero, List.set_cons_succ]
                refine d_take (i := 4) (v := ?_) [5, 10, 20] (some 40) rfl (by rfl) (by kernel_rfl) (by kernel_rfl) (by kernel_rfl) (by kernel_rfl) (by kernel_rfl) (by kernel_rfl) (fun _ _ _ h => h) (.inl ⟨by rfl, ?_⟩) HS1 ?_
                rotate_left 1
                · (intro W hW; (try dsimp only at hW); go_simp; try with_reducible rfl)
                try simp only [Act.put, List.setIfInBounds_toArray, List.set_cons_zero, List.set_cons_succ]
                refine d_take (i := 5) (v := ?_) [10, 20] (some 41) rfl (by rfl) (by kernel_rfl) (by kernel_rfl) (by kernel_rfl) (by kernel_rfl) (by kernel_rfl) (by kernel_rfl) (fun _ _ _ h => h) (.inl ⟨by rfl, ?_⟩) HS1 ?_
                rotate_left 1
                · (intro W hW; (try dsimp only at hW); go_simp; try with_reducible rfl)
                try simp only [Act.put, List.setIfInBounds_toArray, List.set_cons_zero, List.set_cons_succ]
                refine d_take (i := 6) (v := ?_) [7, 9, 10, 20] (some 42) rfl (by rfl) (by kernel_rfl) (by kernel_rfl) (by kernel_rfl) (by kernel_rfl) (by kernel_rfl) (by kernel_rfl) (fun _ _ _ h => h) (.inl ⟨by rfl, ?_⟩) HS1 ?_
                rotate_left 1
                · (intro W hW; (try dsimp only at hW); go_simp; try with_reducible rfl)
                try simp only [Act.put, List.setIfInBounds_toArray, List.set_cons_zero, List.set_cons_succ]
                refine d_take (i := 7) (v := ?_) [9, 10, 20] (some 43) rfl (by rfl) (by kernel_rfl) (by kernel_rfl) (by kernel_rfl) (by kernel_rfl) (by kernel_rfl) (by kernel_rfl) (fun _ _ _ h => h) (.inl ⟨by rfl, ?_⟩) HS1 ?_
                rotate_left 1
                · (intro W hW; (try dsimp only at hW); go_simp; try with_reducible rfl)
                try simp only [Act.put, List.setIfInBounds_toArray, List.set_cons_zero, List.set_cons_succ]
                refine d_take (i := 8) (v := ?_) [9, 10, 20] (some 44) rfl (by rfl) (by kernel_rfl) (by kernel_rfl) (by kernel_rfl) (by kernel_rfl) (by kernel_rfl) (by kernel_rfl) (fun _ _ _ h => h) (.inl ⟨by rfl, ?_⟩) HS1 ?_
                rotate_left 1
                · (intro W hW; (try dsimp only at hW); go_simp; try with_reducible rfl)
                try simp only [Act.put, List.setIfInBounds_toArray, List.set_cons_zero, List.set_cons_succ]
                refine d_take (i := 9) (v := ?_) [10, 20] (some 45) rfl (by rfl) (by kernel_rfl) (by kernel_rfl) (by kernel_rfl) (by kernel_rfl) (by kernel_rfl) (by kernel_rfl) (fun _ _ _ h => h) (.inl ⟨by rfl, ?_⟩) HS1 ?_
                rotate_left 1
                · (intro W hW; (try dsimp only at hW); go_simp; try with_reducible rfl)
                try simp only [Act.put, List.setIfInBounds_toArray, List.set_cons_zero, List.set_cons_succ]
                refine d_take (i := 10) (v := ?_) [20] (some 46) rfl (by rfl) (by kernel_rfl) (by kernel_rfl) (by kernel_rfl) (by kernel_rfl) (by kernel_rfl) (by kernel_rfl) (fun _ _ _ h => h) (.inl ⟨by rfl, ?_⟩) HS1 ?_
                rotate_left 1
                · (intro W hW; (try dsimp only at hW); go_simp; try with_reducible rfl)
                try simp only [Act.put, List.setIfInBounds_toArray, List.set_cons_zero, List.set_cons_succ]
                refine d_take (i := 11) (v := ?_) [12, 13, 14, 16, 17, 19, 20] (some 47) rfl (by rfl) (by kernel_rfl) (by kernel_rfl) (by kernel_rfl) (by kernel_rfl) (by kernel_rfl) (by kernel_rfl) (fun _ _ _ h => h) (.inl ⟨by rfl, ?_⟩) HS1 ?_
                rotate_left 1
                · (intro W hW; (try dsimp only at hW); go_simp; try with_reducible rfl)
                try simp only [Act.put, List.setIfInBounds_toArray, List.set_cons_zero, List.set_cons_succ]
                refine d_take (i := 12) (v := ?_) [13, 14, 16, 17, 19, 20] (some 48) rfl (by rfl) (by kernel_rfl) (by kernel_rfl) (by kernel_rfl) (by kernel_rfl) (by kernel_rfl) (by kernel_rfl) (fun _ _ _ h => h) (.inl ⟨by rfl, ?_⟩) HS1 ?_
                rotate_left 1
                · (intro W hW; (try dsimp only at hW); go_simp; try with_reducible rfl)
                try simp only [Act.put, List.setIfInBounds_toArray, List.set_cons_zero, List.set_cons_succ]
                refine d_take (i := 13) (v := ?_) [14, 16, 17, 19, 20] (some 49) rfl (by rfl) (by kernel_rfl) (by kernel_rfl) (by kernel_rfl) (by kernel_rfl) (by kernel_rfl) (by kernel_rfl) (fun _ _ _ h => h) (.inl ⟨by rfl, ?_⟩) HS1 ?_
                rotate_left 1
                · (intro W hW; (try dsimp only at hW); go_simp; try with_reducible rfl)
                try simp only [Act.put, List.setIfInBounds_toArray, List.set_cons_zero, List.set_cons_succ]
                refine d_take (i := 14) (v := ?_) [16, 17, 19, 20] (some 50) rfl (by rfl) (by kernel_rfl) (by kernel_rfl) (by kernel_rfl) (by kernel_rfl) (by kernel_rfl) (by kernel_rfl) (fun _ _ _ h => h) (.inl ⟨by rfl, ?_⟩) HS1 ?_
                rotate_left 1
                · (intro W hW; (try dsimp only at hW); go_simp; try with_reducible rfl)
                try simp only [Act.put, List.setIfInBounds_toArray, List.set_cons_zero, List.set_cons_succ]
                refine d_take (i := 15) (v := ?_) [16, 17, 19, 20] (some 51) rfl (by rfl) (by kernel_rfl) (by kernel_rfl) (by kernel_rfl) (by kernel_rfl) (by kernel_rfl) (by kernel_rfl) (fun _ _ _ h => h) (.inl ⟨by rfl, ?_⟩) HS1 ?_
                rotate_left 1
                · (intro W hW; (try dsimp only at hW); go_simp; try with_reducible rfl)
                try simp only [Act.put, List.setIfInBounds_toArray, List.set_cons_zero, List.set_cons_succ]
                refine d_take (i := 16) (v := ?_) [17, 19, 20] (some 52) rfl (by rfl) (by kernel_rfl) (by kernel_rfl) (by kernel_rfl) (by kernel_rfl) (by kernel_rfl) (by kernel_rfl) (fun _ _ _ h => h) (.inl ⟨by rfl, ?_⟩) HS1 ?_
                rotate_left 1
                · (intro W hW; (try dsimp only at hW); go_simp; try with_reducible rfl)
                try simp only [Act.put, List.setIfInBounds_toArray, List.set_cons_zero, List.set_cons_succ]
                refine d_take (i := 17) (v := ?_) [19, 20] (some 53) rfl (by rfl) (by kernel_rfl) (by kernel_rfl) (by kernel_rfl) (by kernel_rfl) (by kernel_rfl) (by kernel_rfl) (fun _ _ _ h => h) (.inl ⟨by rfl, ?_⟩) HS1 ?_
                rotate_left 1
                · (intro W hW; (try dsimp only at hW); go_simp; try with_reducible rfl)
                try simp only [Act.put, List.setIfInBounds_toArray, List.set_cons_zero, List.set_cons_succ]
                refine d_take (i := 18) (v := ?_) [19, 20] (some 54) rfl (by rfl) (by kernel_rfl) (by kernel_rfl) (by kernel_rfl) (by kernel_rfl) (by kernel_rfl) (by kernel_rfl) (fun _ _ _ h => h) (.inl ⟨by rfl, ?_⟩) HS1 ?_
                rotate_left 1
                · (intro W hW; (try dsimp only at hW); go_simp; try with_reducible rfl)
                try simp only [Act.put, List.setIfInBounds_toArray, List.set_cons_zero, List.set_cons_succ]
                refine d_take (i := 19) (v := ?_) [20] (some 55) rfl (by rfl) (by kernel_rfl) (by kernel_rfl) (by kernel_rfl) (by kernel_rfl) (by kernel_rfl) (by kernel_rfl) (fun _ _ _ h => h) (.inl ⟨by rfl, ?_⟩) HS1 ?_
                rotate_left 1
                · (intro W hW; (try dsimp only at hW); go_simp; try with_reducible rfl)
                try simp only [Act.put, List.setIfInBounds_toArray, List.set_cons_zero, List.set_cons_succ]
                refine d_one (i := 20) (by kernel_rfl) rfl rfl (fun K hK => ?_)
                simp only [List.getElem_toArray, List.getElem_cons_succ, List.getElem_cons_zero]
                refine oper_copy (.tmp 46) (.tmp 55) rfl rfl rfl RC.out ?_
                refine hK.out _ _ (fun h => absurd h (by decide)) ?_
                clear hK K RC HS1
                generalize U.drew.setCells sb o (u8s (x.s.take 64)) = w9 at *
                try simp only [Act.put, List.setIfInBounds_toArray, List.set_cons_zero, List.set_cons_succ]
                refine d_done (by kernel_rfl) ?_ _
                clear hbit hoI htw hpc y1 y2 y3 y4 y5 y6 y7 y8 ho2
                go_wp2_with fail
                go_roundw
                case rel => exact ⟨k + 1, by go_num, by omega, HN1.out⟩
                case measure => simp [intOf]; omega
              · have hbit : Int.tmod (b1 : Int) 2 = 0 := by show ((b1 % 2 : Nat) : Int) = 0; rw [show b1 % 2 = 0 by omega]; rfl
                rw [hbk, show (b1 % 2 == 1) = false by simp [hb], if_neg (by simp)] at SN
                have HN1 : Hid (RDm U q sb nb (some ⟨T, 0, none⟩) ac (some ⟨D, 0, none⟩) dc S (crashW kp torn 0 SF (l.take (k + 1))) NW l lb wn gone ∧ Fr w U (· = sb)) := Lib.hid ⟨by
                  rw [take_succ' HX.out.1, SN]
                  exact HI.out.1, HI.out.2⟩
                clear SN hbk hb hlt1
                go_wp2_with fail
                go_roundw
                case rel => exact ⟨k + 1, by go_num, by omega, HN1.out⟩
                case measure => simp [intOf]; omega
      · obtain rfl : k = l.length := by omega
        obtain ⟨V, hV⟩ : ∃ V : World, V = wr := ⟨_, rfl⟩
        subst hV
        rw [List.take_length] at HI
        have DR := Lib.hid (HI.out.1.ex (Ext.refl V).drew)
        have hl : (u8s (fl (crashW kp torn 0 SF l) S)).length = n64 := by rw [u8s_len, fl_len DR.out.ss.1, HN.out]
        have q0 := DR.out.cells.1
        have q1 := DR.out.cells.2.1
        rw [HN.out] at q0 q1
        have HS1 : V.drew.cell? ⟨q, 0, none⟩ = some (.slice (some ⟨sb, 0, none⟩) n64 n64) ∧ V.drew.cell? ⟨q, 1, none⟩ = some (.slice (some ⟨nb, 0, none⟩) n64 n64) := ⟨q0, q1⟩
        have RC := Lib.hid (run_copy_cells (P := Tryd.prog) V.drew 32 32 3 5 nb 0 n64 n64 ⟨sb, 0, none⟩ n64 n64 (u8s (fl (crashW kp torn 0 SF l) S)) Tryd.underlying32 (by kernel_rfl) (by rw [hl]; exact (Nat.min_self _).symm)
          (fun j v hv => by
            rw [Addr.add_mid, Nat.zero_add]
            exact DR.out.sf.celln hv)
          (fun j hj => by
            rw [Nat.zero_add]
            have h2 := DR.out.nw.len
            have h3 := HN.out
            rw [DR.out.nw.celln (List.getElem?_eq_getElem (show j < (u8s (fl NW S)).length from by omega))]
            rfl)
          (fun j hj => by rw [Nat.zero_add]; exact DR.out.nw.frozenAt j) (u8s_one _))
        have F1 := DR.out.back
        have F2 := F1.1.clear
        have hv0 : w.heap.size ≤ V.drew.heap.size := HI.out.2.size
        have HR := Lib.hid (show RN w _ q M S (crashW kp torn 0 SF l) (crashW kp torn 0 SF l) [] wn gone from ⟨⟨fun b => b = q ∨ b = sb ∨ b = nb, ⟨⟨sb, nb, 0, 0, none, none, [], F2.1, .inl rfl, .inr (.inl rfl), .inr (.inr rfl), (fun a ha => by cases ha), (fun a ha => by cases ha), (fun p hp => by cases hp)⟩, fun b hb => by
          have z1 := F1.2.size
          have z2 := F2.2.size
          rcases hb with e | e | e <;> rw [e]
          · have := HM.out.2.2.2 q HM.out.1; omega
          · have := HM.out.2.2.2 sb HM.out.2.1; omega
          · have := HM.out.2.2.2 nb HM.out.2.2.1; omega⟩, fun b hb => .inl (by
          rcases hb with e | e | e <;> rw [e]
          · exact HM.out.1
          · exact HM.out.2.1
          · exact HM.out.2.2.1)⟩, (((HI.out.2.mono (fun i _ e => by rw [e]; exact HM.out.2.1)).trans (Fr.of_ext (Ext.refl V).drew M) (fun _ _ h => h)).trans F1.2 (fun i _ e => by rw [e]; exact HM.out.2.2.1)).trans F2.2 (fun i _ e => by rw [e]; exact HM.out.1)⟩)
        have B1 := F1.1.blk
        have b2 : (V.drew.setCells nb 0 (u8s (fl (crashW kp torn 0 SF l) S))).frozen? ⟨q, 2, none⟩ = false := block_fz B1 2
        have b3 : (V.drew.setCells nb 0 (u8s (fl (crashW kp torn 0 SF l) S))).frozen? ⟨q, 3, none⟩ = false := block_fz B1 3
        have e2 : (V.drew.setCells nb 0 (u8s (fl (crashW kp torn 0 SF l) S))).cell? ⟨q, 2, none⟩ = some (.slice (some ⟨T, 0, none⟩) l.length ac) := block_cell B1 2
        have e3 : (V.drew.setCells nb 0 (u8s (fl (crashW kp torn 0 SF l) S))).cell? ⟨q, 3, none⟩ = some (.slice (some ⟨D, 0, none⟩) l.length dc) := block_cell B1 3
        clear q0 q1 hl F1 F2 B1 hv0
        go_upto_region 14 with (fail)
        refine d_region (fun W : World => W.cell? ⟨q, 0, none⟩ = some (.slice (some ⟨sb, 0, none⟩) n64 n64) ∧ W.cell? ⟨q, 1, none⟩ = some (.slice (some ⟨nb, 0, none⟩) n64 n64)) [8] (by kernel_rfl) ?_
        refine d_take (i := 0) (v := ?_) [1, 2, 3, 8] (some 58) rfl (by rfl) (by kernel_rfl) (by kernel_rfl) (by kernel_rfl) (by kernel_rfl) (by kernel_rfl) (by kernel_rfl) (fun _ _ _ h => h) (.inl ⟨by rfl, ?_⟩) HS1 ?_
        rotate_left 1
        · (intro W hW; (try dsimp only at hW); go_simp; try with_reducible rfl)
        try simp only [Act.put, List.setIfInBounds_toArray, List.set_cons_zero, List.set_cons_succ]
        refine d_take (i := 1) (v := ?_) [2, 3, 8] (some 59) rfl (by rfl) (by kernel_rfl) (by kernel_rfl) (by kernel_rfl) (by kernel_rfl) (by kernel_rfl) (by kernel_rfl) (fun _ _ _ h => h) (.inl ⟨by rfl, ?_⟩) HS1 ?_
        rotate_left 1
        · (intro W hW; (try dsimp only at hW); go_simp; try with_reducible rfl)
        try simp only [Act.put, List.setIfInBounds_toArray, List.set_cons_zero, List.set_cons_succ]
        refine d_take (i := 2) (v := ?_) [3, 8] (some 60) rfl (by rfl) (by kernel_rfl) (by kernel_rfl) (by kernel_rfl) (by kernel_rfl) (by kernel_rfl) (by kernel_rfl) (fun _ _ _ h => h) (.inl ⟨by rfl, ?_⟩) HS1 ?_
        rotate_left 1
        · (intro W hW; (try dsimp only at hW); go_simp; try with_reducible rfl)
        try simp only [Act.put, List.setIfInBounds_toArray, List.set_cons_zero, List.set_cons_succ]
        refine d_take (i := 3) (v := ?_) [8] (some 61) rfl (by rfl) (by kernel_rfl) (by kernel_rfl) (by kernel_rfl) (by kernel_rfl) (by kernel_rfl) (by kernel_rfl) (fun _ _ _ h => h) (.inl ⟨by rfl, ?_⟩) HS1 ?_
        rotate_left 1
        · (intro W hW; (try dsimp only at hW); go_simp; try with_reducible rfl)
        try simp only [Act.put, List.setIfInBounds_toArray, List.set_cons_zero, List.set_cons_succ]
        refine d_take (i := 4) (v := ?_) [5, 6, 7, 8] (some 62) rfl (by rfl) (by kernel_rfl) (by kernel_rfl) (by kernel_rfl) (by kernel_rfl) (by kernel_rfl) (by kernel_rfl) (fun _ _ _ h => h) (.inl ⟨by rfl, ?_⟩) HS1 ?_
        rotate_left 1
        · (intro W hW; (try dsimp only at hW); go_simp; try with_reducible rfl)
        try simp only [Act.put, List.setIfInBounds_toArray, List.set_cons_zero, List.set_cons_succ]
        refine d_take (i := 5) (v := ?_) [6, 7, 8] (some 63) rfl (by rfl) (by kernel_rfl) (by kernel_rfl) (by kernel_rfl) (by kernel_rfl) (by kernel_rfl) (by kernel_rfl) (fun _ _ _ h => h) (.inl ⟨by rfl, ?_⟩) HS1 ?_
        rotate_left 1
        · (intro W hW; (try dsimp only at hW); go_simp; try with_reducible rfl)
        try simp only [Act.put, List.setIfInBounds_toArray, List.set_cons_zero, List.set_cons_succ]
        refine d_take (i := 6) (v := ?_) [7, 8] (some 64) rfl (by rfl) (by kernel_rfl) (by kernel_rfl) (by kernel_rfl) (by kernel_rfl) (by kernel_rfl) (by kernel_rfl) (fun _ _ _ h => h) (.inl ⟨by rfl, ?_⟩) HS1 ?_
        rotate_left 1
        · (intro W hW; (try dsimp only at hW); go_simp; try with_reducible rfl)
        try simp only [Act.put, List.setIfInBounds_toArray, List.set_cons_zero, List.set_cons_succ]
        refine d_take (i := 7) (v := ?_) [8] (some 65) rfl (by rfl) (by kernel_rfl) (by kernel_rfl) (by kernel_rfl) (by kernel_rfl) (by kernel_rfl) (by kernel_rfl) (fun _ _ _ h => h) (.inl ⟨by rfl, ?_⟩) HS1 ?_
        rotate_left 1
        · (intro W hW; (try dsimp only at hW); go_simp; try with_reducible rfl)
        try simp only [Act.put, List.setIfInBounds_toArray, List.set_cons_zero, List.set_cons_succ]
        refine d_one (i := 8) (by kernel_rfl) rfl rfl (fun K hK => ?_)
        simp only [List.getElem_toArray, List.getElem_cons_succ, List.getElem_cons_zero]
        refine oper_copy (.tmp 61) (.tmp 65) rfl rfl rfl RC.out ?_
        refine hK.out _ _ (fun h => absurd h (by decide)) ?_
        clear hK K RC HS1
        generalize V.drew.setCells nb 0 (u8s (fl (crashW kp torn 0 SF l) S)) = w9 at *
        try simp only [Act.put, List.setIfInBounds_toArray, List.set_cons_zero, List.set_cons_succ]
        refine d_done (by kernel_rfl) ?_ _
        go_wp2_with fail
        go_returns
        exact ⟨rfl, HR.out⟩
end
end Go.Proofs.YtchkeclhnbekkaaDoor
