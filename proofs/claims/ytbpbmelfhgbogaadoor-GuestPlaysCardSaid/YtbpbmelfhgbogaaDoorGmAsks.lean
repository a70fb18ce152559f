/-
  Package almonerlaw15: asks, walked.
-/
import Derived.Test.YtbpbmelfhgbogaaDoorGmLaw
import Derived.BigRegion
namespace Go.Proofs.YtbpbmelfhgbogaaDoor
set_option maxRecDepth 100000
open Go.RowKit
set_option linter.unusedVariables false
theorem neg_rows {js : List JobV} {k k5 : Nat} {x : JobV} (hx : js[k]? = some x) (h5 : k * 5 = k5) : (jrows js).flatten.set (k5 + 3) (.int .i64 (-1)) = (jrows (js.set k ⟨x.T, x.R, x.D, -1, x.N⟩)).flatten := by
  rw [← h5, flatten_set _ (jrows_even js) (jrows_at hx) (by omega)]
  congr 1
  show (jrows js).set k (JobV.mk x.T x.R x.D (-1) x.N).cells = _
  unfold jrows
  rw [← List.map_set]
section
variable {w w' : World} {g m : Nat} {F M : Nat → Prop} {p : Int} {ks : List TkV} {js : List JobV}
set_option maxHeartbeats 12800000 in
theorem asks_ (hg : GP w g F p ks js) (hm : MP w m M p ks js) (now : Int) {Post : Ending → World → Prop} (hPost : Hid (∀ w', Ext w w' → Post (.returned (.bool true)) w')) :
    Calls Tryd.prog 19 #[.pointer (some ⟨g, 0, none⟩), .pointer (some ⟨m, 0, none⟩), .int .i64 now] w Post := by
  have HG := Lib.hid hg
  have HM := Lib.hid hm
  rcases Nat.eq_zero_or_pos js.length with h0 | h0
  · obtain rfl := List.eq_nil_of_length_eq_zero h0
    have N1 := Lib.hid (nexts_none hg)
    have N2 := Lib.hid (fun W (hx : Ext w W) => (show Calls Tryd.prog 27 #[.pointer (some ⟨m, 0, none⟩)] W fun e w' => e = .returned (.int .i64 (-1)) ∧ Ext W w' from mnext_any (hm.ext hx)))
    obtain ⟨js, hjs⟩ : ∃ js : List JobV, js = [] := ⟨[], rfl⟩
    rw [← hjs] at HG HM
    have HJS := Lib.hid hjs
    clear h0 hg hm hjs
    go_enter Tryd.func19, Tryd.ntmps19
    go_wp2_with fail
    refine N1.out.mono ?_
    rintro e0 w1 ⟨rfl, x1⟩
    have X1 := x1.alloc (.cells #[.int .i64 0, .int .i64 0, .int .i64 0, .int .i64 0, .int .i64 0] 46)
    have hbj := heap_alloc_new w1 (.cells #[.int .i64 0, .int .i64 0, .int .i64 0, .int .i64 0, .int .i64 0] 46)
    have H1 := Lib.hid (And.intro X1 hbj)
    clear N1 x1 X1 hbj
    go_upto_region 2 with (fail)
    generalize w1.alloc (.cells #[.int .i64 0, .int .i64 0, .int .i64 0, .int .i64 0, .int .i64 0] 46) = V1 at *
    generalize w1.heap.size = jb at *
    go_wp2_with fail
    refine (N2.out _ H1.out.1).mono ?_
    rintro e0 V ⟨rfl, x2⟩
    have X0 := Lib.hid (H1.out.1.trans x2)
    have hbj := (x2.block _ (block_lt H1.out.2)).trans H1.out.2
    have HFS := Lib.hid (fun W (hx : Ext V W) => (show W.cell? ⟨jb, 0, none⟩ = some (.int .i64 0) ∧ W.cell? ⟨jb, 1, none⟩ = some (.int .i64 0) ∧ W.cell? ⟨jb, 2, none⟩ = some (.int .i64 0) ∧ W.cell? ⟨jb, 3, none⟩ = some (.int .i64 0) ∧ W.cell? ⟨jb, 4, none⟩ = some (.int .i64 0) from by
      have hB := (hx.block jb (block_lt hbj)).trans hbj
      exact ⟨block_cell hB 0, block_cell hB 1, block_cell hB 2, block_cell hB 3, block_cell hB 4⟩))
    have HS1 := HFS.out _ (Ext.refl V).drew
    have CW := Lib.hid (fun W (hx : Ext V W) => works_any (HG.out.ext (X0.out.trans hx)) false (Lib.hid (by rw [HJS.out]; rfl)))
    have CL := Lib.hid (fun W (hx : Ext V W) => lates_any (HG.out.ext (X0.out.trans hx)) now)
    have CM := Lib.hid (fun W (hx : Ext V W) => mlate_any (HM.out.ext (X0.out.trans hx)) now)
    clear N2 x2 hbj H1
    go_upto_region 3 with (fail)
    refine d_region (fun W : World => W.cell? ⟨jb, 0, none⟩ = some (.int .i64 0) ∧ W.cell? ⟨jb, 1, none⟩ = some (.int .i64 0) ∧ W.cell? ⟨jb, 2, none⟩ = some (.int .i64 0) ∧ W.cell? ⟨jb, 3, none⟩ = some (.int .i64 0) ∧ W.cell? ⟨jb, 4, none⟩ = some (.int .i64 0)) [] (by kernel_rfl) ?_
    refine d_take (i := 0) (v := ?_) [] (some 19) rfl (by rfl) (by kernel_rfl) (by kernel_rfl) (by kernel_rfl) (by kernel_rfl) (by kernel_rfl) (by kernel_rfl) (fun _ _ _ h => h) (.inl ⟨by rfl, ?_⟩) HS1 ?_
    rotate_left 1
    · (intro W hW; (try dsimp only at hW); go_simp; try with_reducible rfl)
    try simp only [Act.put, List.setIfInBounds_toArray, List.set_cons_zero, List.set_cons_succ]
    refine d_take (i := 1) (v := ?_) [] (some 20) rfl (by rfl) (by kernel_rfl) (by kernel_rfl) (by kernel_rfl) (by kernel_rfl) (by kernel_rfl) (by kernel_rfl) (fun _ _ _ h => h) (.inl ⟨by rfl, ?_⟩) HS1 ?_
    rotate_left 1
    · (intro W hW; (try dsimp only at hW); go_simp; try with_reducible rfl)
    try simp only [Act.put, List.setIfInBounds_toArray, List.set_cons_zero, List.set_cons_succ]
    refine d_take (i := 2) (v := ?_) [] (some 21) rfl (by rfl) (by kernel_rfl) (by kernel_rfl) (by kernel_rfl) (by kernel_rfl) (by kernel_rfl) (by kernel_rfl) (fun _ _ _ h => h) (.inl ⟨by rfl, ?_⟩) HS1 ?_
    rotate_left 1
    · (intro W hW; (try dsimp only at hW); go_simp; try with_reducible rfl)
    try simp only [Act.put, List.setIfInBounds_toArray, List.set_cons_zero, List.set_cons_succ]
    refine d_take (i := 3) (v := ?_) [] (some 22) rfl (by rfl) (by kernel_rfl) (by kernel_rfl) (by kernel_rfl) (by kernel_rfl) (by kernel_rfl) (by kernel_rfl) (fun _ _ _ h => h) (.inl ⟨by rfl, ?_⟩) HS1 ?_
    rotate_left 1
    · (intro W hW; (try dsimp only at hW); go_simp; try with_reducible rfl)
    try simp only [Act.put, List.setIfInBounds_toArray, List.set_cons_zero, List.set_cons_succ]
    refine d_take (i := 4) (v := ?_) [] (some 23) rfl (by rfl) (by kernel_rfl) (by kernel_rfl) (by kernel_rfl) (by kernel_rfl) (by kernel_rfl) (by kernel_rfl) (fun _ _ _ h => h) (.inl ⟨by rfl, ?_⟩) HS1 ?_
    rotate_left 1
    · (intro W hW; (try dsimp only at hW); go_simp; try with_reducible rfl)
    try simp only [Act.put, List.setIfInBounds_toArray, List.set_cons_zero, List.set_cons_succ]
    refine d_take (i := 5) (v := ?_) [] (some 24) rfl (by rfl) (by kernel_rfl) (by kernel_rfl) (by kernel_rfl) (by kernel_rfl) (by kernel_rfl) (by kernel_rfl) (fun _ _ _ h => h) (.inl ⟨by rfl, ?_⟩) HS1 ?_
    rotate_left 1
    · (intro W hW; (try dsimp only at hW); go_simp; try with_reducible rfl)
    try simp only [Act.put, List.setIfInBounds_toArray, List.set_cons_zero, List.set_cons_succ]
    refine d_take (i := 7) (v := ?_) [] (some 26) rfl (by rfl) (by kernel_rfl) (by kernel_rfl) (by kernel_rfl) (by kernel_rfl) (by kernel_rfl) (by kernel_rfl) (fun _ _ _ h => h) (.inl ⟨by rfl, ?_⟩) HS1 ?_
    rotate_left 1
    · (intro W hW; (try dsimp only at hW); go_simp; try with_reducible rfl)
    try simp only [Act.put, List.setIfInBounds_toArray, List.set_cons_zero, List.set_cons_succ]
    refine d_take (i := 8) (v := ?_) [] (some 27) rfl (by rfl) (by kernel_rfl) (by kernel_rfl) (by kernel_rfl) (by kernel_rfl) (by kernel_rfl) (by kernel_rfl) (fun _ _ _ h => h) (.inl ⟨by rfl, ?_⟩) HS1 ?_
    rotate_left 1
    · (intro W hW; (try dsimp only at hW); go_simp; try with_reducible rfl)
    try simp only [Act.put, List.setIfInBounds_toArray, List.set_cons_zero, List.set_cons_succ]
    refine d_call (i := 6) (by kernel_rfl) rfl (by rfl) (fun K hK => ?_)
    simp only [List.getElem_toArray, List.getElem_cons_succ, List.getElem_cons_zero]
    go_simp
    refine (CW.out _ (Ext.refl V).drew).mono ?_
    rintro e0 w5 ⟨rfl, xw5⟩
    have Xw5 := Lib.hid ((Ext.refl V).drew.trans xw5)
    have HS2 := HFS.out _ Xw5.out
    clear xw5
    go_simp
    refine hK.out _ _ (fun _ => HS2) ?_
    clear hK K
    try simp only [Act.put, List.setIfInBounds_toArray, List.set_cons_zero, List.set_cons_succ]
    refine d_take (i := 9) (v := ?_) [] (some 28) rfl (by rfl) (by kernel_rfl) (by kernel_rfl) (by kernel_rfl) (by kernel_rfl) (by kernel_rfl) (by kernel_rfl) (fun _ _ _ h => h) (.inl ⟨by rfl, ?_⟩) HS2 ?_
    rotate_left 1
    · (intro W hW; (try dsimp only at hW); go_simp; try with_reducible rfl)
    try simp only [Act.put, List.setIfInBounds_toArray, List.set_cons_zero, List.set_cons_succ]
    refine d_take (i := 10) (v := ?_) [] (some 29) rfl (by rfl) (by kernel_rfl) (by kernel_rfl) (by kernel_rfl) (by kernel_rfl) (by kernel_rfl) (by kernel_rfl) (fun _ _ _ h => h) (.inl ⟨by rfl, ?_⟩) HS2 ?_
    rotate_left 1
    · (intro W hW; (try dsimp only at hW); go_simp; try with_reducible rfl)
    try simp only [Act.put, List.setIfInBounds_toArray, List.set_cons_zero, List.set_cons_succ]
    refine d_take (i := 11) (v := ?_) [] (some 30) rfl (by rfl) (by kernel_rfl) (by kernel_rfl) (by kernel_rfl) (by kernel_rfl) (by kernel_rfl) (by kernel_rfl) (fun _ _ _ h => h) (.inl ⟨by rfl, ?_⟩) HS2 ?_
    rotate_left 1
    · (intro W hW; (try dsimp only at hW); go_simp; try with_reducible rfl)
    try simp only [Act.put, List.setIfInBounds_toArray, List.set_cons_zero, List.set_cons_succ]
    refine d_take (i := 12) (v := ?_) [] (some 31) rfl (by rfl) (by kernel_rfl) (by kernel_rfl) (by kernel_rfl) (by kernel_rfl) (by kernel_rfl) (by kernel_rfl) (fun _ _ _ h => h) (.inl ⟨by rfl, ?_⟩) HS2 ?_
    rotate_left 1
    · (intro W hW; (try dsimp only at hW); go_simp; try with_reducible rfl)
    try simp only [Act.put, List.setIfInBounds_toArray, List.set_cons_zero, List.set_cons_succ]
    refine d_take (i := 13) (v := ?_) [] (some 32) rfl (by rfl) (by kernel_rfl) (by kernel_rfl) (by kernel_rfl) (by kernel_rfl) (by kernel_rfl) (by kernel_rfl) (fun _ _ _ h => h) (.inl ⟨by rfl, ?_⟩) HS2 ?_
    rotate_left 1
    · (intro W hW; (try dsimp only at hW); go_simp; try with_reducible rfl)
    try simp only [Act.put, List.setIfInBounds_toArray, List.set_cons_zero, List.set_cons_succ]
    refine d_take (i := 14) (v := ?_) [] (some 33) rfl (by rfl) (by kernel_rfl) (by kernel_rfl) (by kernel_rfl) (by kernel_rfl) (by kernel_rfl) (by kernel_rfl) (fun _ _ _ h => h) (.inl ⟨by rfl, ?_⟩) HS2 ?_
    rotate_left 1
    · (intro W hW; (try dsimp only at hW); go_simp; try with_reducible rfl)
    try simp only [Act.put, List.setIfInBounds_toArray, List.set_cons_zero, List.set_cons_succ]
    refine d_take (i := 15) (v := undef) [] (some 34) rfl (by rfl) (by kernel_rfl) (by kernel_rfl) (by kernel_rfl) (by kernel_rfl) (by kernel_rfl) (by kernel_rfl) (fun _ _ _ h => h) (.inr ⟨by rfl, rfl⟩) HS2 ?_
    try simp only [Act.put, List.setIfInBounds_toArray, List.set_cons_zero, List.set_cons_succ]
    refine d_take (i := 16) (v := undef) [] (some 35) rfl (by rfl) (by kernel_rfl) (by kernel_rfl) (by kernel_rfl) (by kernel_rfl) (by kernel_rfl) (by kernel_rfl) (fun _ _ _ h => h) (.inr ⟨by rfl, rfl⟩) HS2 ?_
    try simp only [Act.put, List.setIfInBounds_toArray, List.set_cons_zero, List.set_cons_succ]
    refine d_take (i := 17) (v := undef) [] (some 36) rfl (by rfl) (by kernel_rfl) (by kernel_rfl) (by kernel_rfl) (by kernel_rfl) (by kernel_rfl) (by kernel_rfl) (fun _ _ _ h => h) (.inr ⟨by rfl, rfl⟩) HS2 ?_
    try simp only [Act.put, List.setIfInBounds_toArray, List.set_cons_zero, List.set_cons_succ]
    refine d_take (i := 18) (v := undef) [] (some 37) rfl (by rfl) (by kernel_rfl) (by kernel_rfl) (by kernel_rfl) (by kernel_rfl) (by kernel_rfl) (by kernel_rfl) (fun _ _ _ h => h) (.inr ⟨by rfl, rfl⟩) HS2 ?_
    try simp only [Act.put, List.setIfInBounds_toArray, List.set_cons_zero, List.set_cons_succ]
    refine d_take (i := 19) (v := undef) [] (some 38) rfl (by rfl) (by kernel_rfl) (by kernel_rfl) (by kernel_rfl) (by kernel_rfl) (by kernel_rfl) (by kernel_rfl) (fun _ _ _ h => h) (.inr ⟨by rfl, rfl⟩) HS2 ?_
    try simp only [Act.put, List.setIfInBounds_toArray, List.set_cons_zero, List.set_cons_succ]
    refine d_take (i := 20) (v := undef) [] (some 39) rfl (by rfl) (by kernel_rfl) (by kernel_rfl) (by kernel_rfl) (by kernel_rfl) (by kernel_rfl) (by kernel_rfl) (fun _ _ _ h => h) (.inr ⟨by rfl, rfl⟩) HS2 ?_
    try simp only [Act.put, List.setIfInBounds_toArray, List.set_cons_zero, List.set_cons_succ]
    refine d_take (i := 21) (v := undef) [] (some 40) rfl (by rfl) (by kernel_rfl) (by kernel_rfl) (by kernel_rfl) (by kernel_rfl) (by kernel_rfl) (by kernel_rfl) (fun _ _ _ h => h) (.inr ⟨by rfl, rfl⟩) HS2 ?_
    try simp only [Act.put, List.setIfInBounds_toArray, List.set_cons_zero, List.set_cons_succ]
    refine d_take (i := 22) (v := undef) [] (some 41) rfl (by rfl) (by kernel_rfl) (by kernel_rfl) (by kernel_rfl) (by kernel_rfl) (by kernel_rfl) (by kernel_rfl) (fun _ _ _ h => h) (.inr ⟨by rfl, rfl⟩) HS2 ?_
    try simp only [Act.put, List.setIfInBounds_toArray, List.set_cons_zero, List.set_cons_succ]
    refine d_take (i := 23) (v := undef) [] (some 42) rfl (by rfl) (by kernel_rfl) (by kernel_rfl) (by kernel_rfl) (by kernel_rfl) (by kernel_rfl) (by kernel_rfl) (fun _ _ _ h => h) (.inr ⟨by rfl, rfl⟩) HS2 ?_
    try simp only [Act.put, List.setIfInBounds_toArray, List.set_cons_zero, List.set_cons_succ]
    refine d_take (i := 24) (v := ?_) [] (some 43) rfl (by rfl) (by kernel_rfl) (by kernel_rfl) (by kernel_rfl) (by kernel_rfl) (by kernel_rfl) (by kernel_rfl) (fun _ _ _ h => h) (.inl ⟨by rfl, ?_⟩) HS2 ?_
    rotate_left 1
    · (intro W hW; (try dsimp only at hW); go_simp; try with_reducible rfl)
    try simp only [Act.put, List.setIfInBounds_toArray, List.set_cons_zero, List.set_cons_succ]
    refine d_take (i := 25) (v := ?_) [] (some 44) rfl (by rfl) (by kernel_rfl) (by kernel_rfl) (by kernel_rfl) (by kernel_rfl) (by kernel_rfl) (by kernel_rfl) (fun _ _ _ h => h) (.inl ⟨by rfl, ?_⟩) HS2 ?_
    rotate_left 1
    · (intro W hW; (try dsimp only at hW); go_simp; try with_reducible rfl)
    try simp only [Act.put, List.setIfInBounds_toArray, List.set_cons_zero, List.set_cons_succ]
    refine d_take (i := 26) (v := ?_) [] (some 45) rfl (by rfl) (by kernel_rfl) (by kernel_rfl) (by kernel_rfl) (by kernel_rfl) (by kernel_rfl) (by kernel_rfl) (fun _ _ _ h => h) (.inl ⟨by rfl, ?_⟩) HS2 ?_
    rotate_left 1
    · (intro W hW; (try dsimp only at hW); go_simp; try with_reducible rfl)
    try simp only [Act.put, List.setIfInBounds_toArray, List.set_cons_zero, List.set_cons_succ]
    refine d_take (i := 27) (v := ?_) [] (some 46) rfl (by rfl) (by kernel_rfl) (by kernel_rfl) (by kernel_rfl) (by kernel_rfl) (by kernel_rfl) (by kernel_rfl) (fun _ _ _ h => h) (.inl ⟨by rfl, ?_⟩) HS2 ?_
    rotate_left 1
    · (intro W hW; (try dsimp only at hW); go_simp; try with_reducible rfl)
    try simp only [Act.put, List.setIfInBounds_toArray, List.set_cons_zero, List.set_cons_succ]
    refine d_take (i := 28) (v := ?_) [] (some 47) rfl (by rfl) (by kernel_rfl) (by kernel_rfl) (by kernel_rfl) (by kernel_rfl) (by kernel_rfl) (by kernel_rfl) (fun _ _ _ h => h) (.inl ⟨by rfl, ?_⟩) HS2 ?_
    rotate_left 1
    · (intro W hW; (try dsimp only at hW); go_simp; try with_reducible rfl)
    try simp only [Act.put, List.setIfInBounds_toArray, List.set_cons_zero, List.set_cons_succ]
    refine d_take (i := 29) (v := ?_) [] (some 48) rfl (by rfl) (by kernel_rfl) (by kernel_rfl) (by kernel_rfl) (by kernel_rfl) (by kernel_rfl) (by kernel_rfl) (fun _ _ _ h => h) (.inl ⟨by rfl, ?_⟩) HS2 ?_
    rotate_left 1
    · (intro W hW; (try dsimp only at hW); go_simp; try with_reducible rfl)
    try simp only [Act.put, List.setIfInBounds_toArray, List.set_cons_zero, List.set_cons_succ]
    refine d_take (i := 30) (v := ?_) [] (some 49) rfl (by rfl) (by kernel_rfl) (by kernel_rfl) (by kernel_rfl) (by kernel_rfl) (by kernel_rfl) (by kernel_rfl) (fun _ _ _ h => h) (.inl ⟨by rfl, ?_⟩) HS2 ?_
    rotate_left 1
    · (intro W hW; (try dsimp only at hW); go_simp; try with_reducible rfl)
    try simp only [Act.put, List.setIfInBounds_toArray, List.set_cons_zero, List.set_cons_succ]
    refine d_take (i := 31) (v := ?_) [] (some 50) rfl (by rfl) (by kernel_rfl) (by kernel_rfl) (by kernel_rfl) (by kernel_rfl) (by kernel_rfl) (by kernel_rfl) (fun _ _ _ h => h) (.inl ⟨by rfl, ?_⟩) HS2 ?_
    rotate_left 1
    · (intro W hW; (try dsimp only at hW); go_simp; try with_reducible rfl)
    try simp only [Act.put, List.setIfInBounds_toArray, List.set_cons_zero, List.set_cons_succ]
    refine d_take (i := 32) (v := ?_) [] (some 51) rfl (by rfl) (by kernel_rfl) (by kernel_rfl) (by kernel_rfl) (by kernel_rfl) (by kernel_rfl) (by kernel_rfl) (fun _ _ _ h => h) (.inl ⟨by rfl, ?_⟩) HS2 ?_
    rotate_left 1
    · (intro W hW; (try dsimp only at hW); go_simp; try with_reducible rfl)
    try simp only [Act.put, List.setIfInBounds_toArray, List.set_cons_zero, List.set_cons_succ]
    refine d_take (i := 33) (v := ?_) [] (some 52) rfl (by rfl) (by kernel_rfl) (by kernel_rfl) (by kernel_rfl) (by kernel_rfl) (by kernel_rfl) (by kernel_rfl) (fun _ _ _ h => h) (.inl ⟨by rfl, ?_⟩) HS2 ?_
    rotate_left 1
    · (intro W hW; (try dsimp only at hW); go_simp; try with_reducible rfl)
    try simp only [Act.put, List.setIfInBounds_toArray, List.set_cons_zero, List.set_cons_succ]
    refine d_take (i := 34) (v := ?_) [] (some 53) rfl (by rfl) (by kernel_rfl) (by kernel_rfl) (by kernel_rfl) (by kernel_rfl) (by kernel_rfl) (by kernel_rfl) (fun _ _ _ h => h) (.inl ⟨by rfl, ?_⟩) HS2 ?_
    rotate_left 1
    · (intro W hW; (try dsimp only at hW); go_simp; try with_reducible rfl)
    try simp only [Act.put, List.setIfInBounds_toArray, List.set_cons_zero, List.set_cons_succ]
    refine d_take (i := 35) (v := ?_) [] (some 54) rfl (by rfl) (by kernel_rfl) (by kernel_rfl) (by kernel_rfl) (by kernel_rfl) (by kernel_rfl) (by kernel_rfl) (fun _ _ _ h => h) (.inl ⟨by rfl, ?_⟩) HS2 ?_
    rotate_left 1
    · (intro W hW; (try dsimp only at hW); go_simp; try with_reducible rfl)
    try simp only [Act.put, List.setIfInBounds_toArray, List.set_cons_zero, List.set_cons_succ]
    refine d_take (i := 36) (v := ?_) [] (some 55) rfl (by rfl) (by kernel_rfl) (by kernel_rfl) (by kernel_rfl) (by kernel_rfl) (by kernel_rfl) (by kernel_rfl) (fun _ _ _ h => h) (.inl ⟨by rfl, ?_⟩) HS2 ?_
    rotate_left 1
    · (intro W hW; (try dsimp only at hW); go_simp; try with_reducible rfl)
    try simp only [Act.put, List.setIfInBounds_toArray, List.set_cons_zero, List.set_cons_succ]
    refine d_take (i := 37) (v := ?_) [] (some 56) rfl (by rfl) (by kernel_rfl) (by kernel_rfl) (by kernel_rfl) (by kernel_rfl) (by kernel_rfl) (by kernel_rfl) (fun _ _ _ h => h) (.inl ⟨by rfl, ?_⟩) HS2 ?_
    rotate_left 1
    · (intro W hW; (try dsimp only at hW); go_simp; try with_reducible rfl)
    try simp only [Act.put, List.setIfInBounds_toArray, List.set_cons_zero, List.set_cons_succ]
    refine d_take (i := 39) (v := ?_) [] (some 58) rfl (by rfl) (by kernel_rfl) (by kernel_rfl) (by kernel_rfl) (by kernel_rfl) (by kernel_rfl) (by kernel_rfl) (fun _ _ _ h => h) (.inl ⟨by rfl, ?_⟩) HS2 ?_
    rotate_left 1
    · (intro W hW; (try dsimp only at hW); go_simp; try with_reducible rfl)
    try simp only [Act.put, List.setIfInBounds_toArray, List.set_cons_zero, List.set_cons_succ]
    refine d_take (i := 40) (v := ?_) [] (some 59) rfl (by rfl) (by kernel_rfl) (by kernel_rfl) (by kernel_rfl) (by kernel_rfl) (by kernel_rfl) (by kernel_rfl) (fun _ _ _ h => h) (.inl ⟨by rfl, ?_⟩) HS2 ?_
    rotate_left 1
    · (intro W hW; (try dsimp only at hW); go_simp; try with_reducible rfl)
    try simp only [Act.put, List.setIfInBounds_toArray, List.set_cons_zero, List.set_cons_succ]
    refine d_call (i := 38) (by kernel_rfl) rfl (by rfl) (fun K hK => ?_)
    simp only [List.getElem_toArray, List.getElem_cons_succ, List.getElem_cons_zero]
    go_simp
    refine (CL.out _ Xw5.out).mono ?_
    rintro e0 w6 ⟨rfl, xw6⟩
    have Xw6 := Lib.hid (Xw5.out.trans xw6)
    have HS3 := HFS.out _ Xw6.out
    clear xw6
    go_simp
    refine hK.out _ _ (fun _ => HS3) ?_
    clear hK K
    try simp only [Act.put, List.setIfInBounds_toArray, List.set_cons_zero, List.set_cons_succ]
    refine d_call (i := 41) (by kernel_rfl) rfl (by rfl) (fun K hK => ?_)
    simp only [List.getElem_toArray, List.getElem_cons_succ, List.getElem_cons_zero]
    go_simp
    refine (CM.out _ Xw6.out).mono ?_
    rintro e0 w7 ⟨rfl, xw7⟩
    have Xw7 := Lib.hid (Xw6.out.trans xw7)
    have HS4 := HFS.out _ Xw7.out
    clear xw7
    go_simp
    refine hK.out _ _ (fun _ => HS4) ?_
    clear hK K
    try simp only [Act.put, List.setIfInBounds_toArray, List.set_cons_zero, List.set_cons_succ]
    refine d_take (i := 42) (v := ?_) [] (some 61) rfl (by rfl) (by kernel_rfl) (by kernel_rfl) (by kernel_rfl) (by kernel_rfl) (by kernel_rfl) (by kernel_rfl) (fun _ _ _ h => h) (.inl ⟨by rfl, ?_⟩) HS4 ?_
    rotate_left 1
    · (intro W hW; (try dsimp only at hW); go_simp; try with_reducible rfl)
    try simp only [Act.put, List.setIfInBounds_toArray, List.set_cons_zero, List.set_cons_succ]
    refine d_take (i := 43) (v := ?_) [] (some 62) rfl (by rfl) (by kernel_rfl) (by kernel_rfl) (by kernel_rfl) (by kernel_rfl) (by kernel_rfl) (by kernel_rfl) (fun _ _ _ h => h) (.inl ⟨by rfl, ?_⟩) HS4 ?_
    rotate_left 1
    · (intro W hW; (try dsimp only at hW); go_simp; try with_reducible rfl)
    try simp only [Act.put, List.setIfInBounds_toArray, List.set_cons_zero, List.set_cons_succ]
    refine d_done (by kernel_rfl) ?_ _

    clear HS1 HS2 HS3 HS4
    have MW := Lib.hid (HM.out.ext (X0.out.trans Xw7.out))
    have JB := jobss_any (HG.out.ext (X0.out.trans Xw7.out))
    have XB := Lib.hid (X0.out.trans Xw7.out)
    obtain ⟨n, hn⟩ : ∃ n, js.length = n := ⟨_, rfl⟩
    rw [hn] at JB
    have HNN := Lib.hid hn
    have JB := Lib.hid JB
    clear hn
    go_upto_region 5 with (fail)
    go_wp2_with fail
    refine JB.out.mono ?_
    rintro e0 w8 ⟨A8, c8, rfl, o8, x8⟩
    have M8 := Lib.hid (MW.out.ext x8)
    have H8 := Lib.hid (And.intro o8 (XB.out.trans x8))
    have HA8 := Lib.hid (fun a (ha : A8 = some a) => (show w7.heap.size ≤ a.block from o8.base_le _ (by rw [ha]; rfl)))
    have MR := Lib.hid (fun W (hf : Fr w8 W (fun b => A8.map (·.block) = some b)) => M8.out.fr hf (fun b hb e => by
      have h1 := MW.out.lt b hb
      obtain ⟨a, ha, hab⟩ := Option.map_eq_some_iff.1 e
      have h2 := HA8.out a ha
      omega))
    obtain ⟨mB, mTA, mtn, mtc, mLA, mlc, mJA, mjn, mjc, hMS, _, _, _⟩ := M8.out.ex
    have hjn : mjn = n := by rw [← hMS.jlen]; exact HNN.out
    subst hjn
    have c3 := hMS.c3
    have hn64 := hMS.jn64
    clear JB o8 x8 hMS
    go_wp2_with fail
    clear c3
    go_loopw [11, 75] (fun _ v75 wr => ∃ (k : Nat) (js' : List JobV), v75 = .int .i64 (k : Int) ∧ k ≤ mjn ∧ Hid (Own wr w7.heap.size 46 5 A8 mjn c8 (jrows js').flatten ∧ (∀ q, k ≤ q → js'[q]? = js[q]?) ∧ Fr w8 wr (fun b => A8.map (·.block) = some b))) (fun _ v75 _ => mjn - (intOf v75).toNat)
    case atStart => exact ⟨0, js, rfl, by omega, H8.out.1, fun q _ => rfl, Fr.refl _ _⟩
    case round =>
      obtain ⟨k, js', rfl, hk, HI⟩ := hrel
      by_cases hlt : k < mjn
      · obtain ⟨y, hy⟩ : ∃ y, js[k]? = some y := ⟨js[k]'(by have := HNN.out; omega), List.getElem?_eq_getElem _⟩
        obtain ⟨k5, hk5⟩ : ∃ k5, k * 5 = k5 := ⟨_, rfl⟩
        have hy' : js'[k]? = some y := (HI.out.2.1 k (Nat.le_refl k)).trans hy
        obtain ⟨SA, rfl⟩ := HI.out.1.head (by omega)
        have hMr := MR.out wr HI.out.2.2
        obtain ⟨_, _, _, _, _, _, JA2, jn2, jc2, hMS, _, _, _⟩ := hMr.ex
        have hjn2 : jn2 = mjn := by rw [← hMS.jlen]; exact HNN.out
        subst hjn2
        obtain ⟨SJ, rfl, _, _, u0, u1, u2, u3, u4⟩ := hMS.jcell hy hk5
        have c3 := hMS.c3
        have v0 : wr.cell? ⟨SA, k5, none⟩ = some (.int .i64 (y.T : Int)) := HI.out.1.rowAt (jrows_even js') (jrows_at hy') hk5 (i := 0) rfl
        have v1 : wr.cell? ⟨SA, k5 + 1, none⟩ = some (.int .i64 y.R) := HI.out.1.rowAt (jrows_even js') (jrows_at hy') hk5 (i := 1) rfl
        have v2 : wr.cell? ⟨SA, k5 + 2, none⟩ = some (.int .i64 y.D) := HI.out.1.rowAt (jrows_even js') (jrows_at hy') hk5 (i := 2) rfl
        have v3 : wr.cell? ⟨SA, k5 + 3, none⟩ = some (.int .i64 y.L) := HI.out.1.rowAt (jrows_even js') (jrows_at hy') hk5 (i := 3) rfl
        have v4 : wr.cell? ⟨SA, k5 + 4, none⟩ = some (.int .i64 y.N) := HI.out.1.rowAt (jrows_even js') (jrows_at hy') hk5 (i := 4) rfl
        have fz : wr.frozen? ⟨SA, k5 + 3, none⟩ = false := HI.out.1.frozenAt _
        have z0 : (0 : Int) ≤ k := by omega
        have z1 : (k : Int) < (jn2 : Int) := by omega
        have HY := Lib.hid (And.intro hy' (And.intro hk5 hy))
        clear hMr hMS hy hy'
        go_upto_region 11 with (fail)
        go_quiet (fail)
        have O9 := (HI.out.1.drewN nq).stored (k5 + 3) (.int .i64 (-1))
        have F9 := (HI.out.2.2.drewN nq).trans (Fr.store (wr.drewN nq) ⟨SA, k5 + 3, none⟩ (.int .i64 (-1))) (fun i _ e => by show some SA = some i; rw [e])
        rw [neg_rows HY.out.1 HY.out.2.1] at O9
        have H9 := Lib.hid (And.intro O9 F9)
        clear O9 F9 u0 u1 u2 u3 u4 v0 v1 v2 c3
        go_wp2_with fail
        go_roundw
        case rel => exact ⟨k + 1, _, by go_num, by omega, H9.out.1, fun q hq => by rw [List.getElem?_set_ne (by omega)]; exact HI.out.2.1 q (by omega), H9.out.2⟩
        case measure => simp [intOf]; omega
      · obtain rfl : mjn = k := by omega
        go_wp2_with fail
        exact hPost.out _ (Fr.ext H8.out.2 HI.out.2.2 (fun i e => by
          obtain ⟨a, ha, hab⟩ := Option.map_eq_some_iff.1 e
          have h2 := HA8.out a ha
          have h3 := XB.out.size
          omega))
  · obtain ⟨x, hx⟩ : ∃ x, js[nextI p (tsk ks) js]? = some x := ⟨_, at_of jz (nextI_lt h0)⟩
    have N1 := nexts_any hg hx
    unfold JobV.val at N1
    have hnv : nextV p (tsk ks) js = (nextI p (tsk ks) js : Int) := if_neg (by omega)
    have N2 := (fun W (hx : Ext w W) => mnext_any (hm.ext hx))
    rw [hnv] at N2
    obtain ⟨i, hi⟩ : ∃ i, nextI p (tsk ks) js = i := ⟨_, rfl⟩
    rw [hi] at N2 hx
    have N1 := Lib.hid N1
    have N2 := Lib.hid N2
    have HX := Lib.hid hx
    have HL0 := Lib.hid h0
    have z0 : (0 : Int) ≤ (i : Int) := by omega
    clear hg hm hnv hi hx h0
    go_enter Tryd.func19, Tryd.ntmps19
    go_wp2_with fail
    refine N1.out.mono ?_
    rintro e0 w1 ⟨rfl, x1⟩
    have X1 := x1.alloc (.cells #[.int .i64 (x.T : Int), .int .i64 x.R, .int .i64 x.D, .int .i64 x.L, .int .i64 x.N] 46)
    have hbj := heap_alloc_new w1 (.cells #[.int .i64 (x.T : Int), .int .i64 x.R, .int .i64 x.D, .int .i64 x.L, .int .i64 x.N] 46)
    have H1 := Lib.hid (And.intro X1 hbj)
    clear N1 x1 X1 hbj
    go_upto_region 2 with (fail)
    generalize w1.alloc (.cells #[.int .i64 (x.T : Int), .int .i64 x.R, .int .i64 x.D, .int .i64 x.L, .int .i64 x.N] 46) = V1 at *
    generalize w1.heap.size = jb at *
    go_wp2_with fail
    refine (N2.out _ H1.out.1).mono ?_
    rintro e0 V ⟨rfl, x2⟩
    have X0 := Lib.hid (H1.out.1.trans x2)
    have hbj := (x2.block _ (block_lt H1.out.2)).trans H1.out.2
    obtain ⟨_, _, _, _, _, _, JA, jn, jc, hMS, _, _, _⟩ := (HM.out.ext X0.out).ex
    obtain ⟨i5, hi5⟩ : ∃ i5, i * 5 = i5 := ⟨_, rfl⟩
    obtain ⟨SB, rfl, _, _, _⟩ := hMS.jcell HX.out hi5
    have z1 : (i : Int) < (jn : Int) := by have := hMS.jlen; have := (List.getElem?_eq_some_iff.1 HX.out).1; omega
    have HFS := Lib.hid (fun W (hx : Ext V W) => (show W.cell? ⟨jb, 0, none⟩ = some (.int .i64 (x.T : Int)) ∧ W.cell? ⟨jb, 1, none⟩ = some (.int .i64 x.R) ∧ W.cell? ⟨jb, 2, none⟩ = some (.int .i64 x.D) ∧ W.cell? ⟨jb, 3, none⟩ = some (.int .i64 x.L) ∧ W.cell? ⟨jb, 4, none⟩ = some (.int .i64 x.N) ∧ W.cell? ⟨m, 3, none⟩ = some (.slice (some ⟨SB, 0, none⟩) jn jc) ∧ W.cell? ⟨SB, i5, none⟩ = some (.int .i64 (x.T : Int)) ∧ W.cell? ⟨SB, i5 + 1, none⟩ = some (.int .i64 x.R) ∧ W.cell? ⟨SB, i5 + 2, none⟩ = some (.int .i64 x.D) ∧ W.cell? ⟨SB, i5 + 3, none⟩ = some (.int .i64 x.L) ∧ W.cell? ⟨SB, i5 + 4, none⟩ = some (.int .i64 x.N) from by
      have hB := (hx.block jb (block_lt hbj)).trans hbj
      have hm := hMS.ex hx
      obtain ⟨SB', eS, _, _, u0, u1, u2, u3, u4⟩ := hm.jcell HX.out hi5
      injection eS with eS
      injection eS with eS
      subst eS
      exact ⟨block_cell hB 0, block_cell hB 1, block_cell hB 2, block_cell hB 3, block_cell hB 4, hm.c3, u0, u1, u2, u3, u4⟩))
    have HS1 := HFS.out _ (Ext.refl V).drew
    have CW := Lib.hid (fun W (hx : Ext V W) => works_any (HG.out.ext (X0.out.trans hx)) true (Lib.hid (by rw [eq_comm, decide_eq_true_eq]; exact HL0.out)))
    have CL := Lib.hid (fun W (hx : Ext V W) => lates_any (HG.out.ext (X0.out.trans hx)) now)
    have CM := Lib.hid (fun W (hx : Ext V W) => mlate_any (HM.out.ext (X0.out.trans hx)) now)
    have z8 : ((i : Int) < 0) = False := eq_false (by omega)
    have z7 : decide ((i : Int) < 0) = false := by rw [decide_eq_false_iff_not]; omega
    clear N2 x2 hbj H1 hMS
    go_upto_region 3 with (fail)
    refine d_region (fun W : World => W.cell? ⟨jb, 0, none⟩ = some (.int .i64 (x.T : Int)) ∧ W.cell? ⟨jb, 1, none⟩ = some (.int .i64 x.R) ∧ W.cell? ⟨jb, 2, none⟩ = some (.int .i64 x.D) ∧ W.cell? ⟨jb, 3, none⟩ = some (.int .i64 x.L) ∧ W.cell? ⟨jb, 4, none⟩ = some (.int .i64 x.N) ∧ W.cell? ⟨m, 3, none⟩ = some (.slice (some ⟨SB, 0, none⟩) jn jc) ∧ W.cell? ⟨SB, i5, none⟩ = some (.int .i64 (x.T : Int)) ∧ W.cell? ⟨SB, i5 + 1, none⟩ = some (.int .i64 x.R) ∧ W.cell? ⟨SB, i5 + 2, none⟩ = some (.int .i64 x.D) ∧ W.cell? ⟨SB, i5 + 3, none⟩ = some (.int .i64 x.L) ∧ W.cell? ⟨SB, i5 + 4, none⟩ = some (.int .i64 x.N)) [] (by kernel_rfl) ?_
    refine d_take (i := 0) (v := ?_) [] (some 19) rfl (by rfl) (by kernel_rfl) (by kernel_rfl) (by kernel_rfl) (by kernel_rfl) (by kernel_rfl) (by kernel_rfl) (fun _ _ _ h => h) (.inl ⟨by rfl, ?_⟩) HS1 ?_
    rotate_left 1
    · (intro W hW; (try dsimp only at hW); go_simp; try with_reducible rfl)
    try simp only [Act.put, List.setIfInBounds_toArray, List.set_cons_zero, List.set_cons_succ]
    refine d_take (i := 1) (v := ?_) [] (some 20) rfl (by rfl) (by kernel_rfl) (by kernel_rfl) (by kernel_rfl) (by kernel_rfl) (by kernel_rfl) (by kernel_rfl) (fun _ _ _ h => h) (.inl ⟨by rfl, ?_⟩) HS1 ?_
    rotate_left 1
    · (intro W hW; (try dsimp only at hW); go_simp; try with_reducible rfl)
    try simp only [Act.put, List.setIfInBounds_toArray, List.set_cons_zero, List.set_cons_succ]
    refine d_take (i := 2) (v := ?_) [] (some 21) rfl (by rfl) (by kernel_rfl) (by kernel_rfl) (by kernel_rfl) (by kernel_rfl) (by kernel_rfl) (by kernel_rfl) (fun _ _ _ h => h) (.inl ⟨by rfl, ?_⟩) HS1 ?_
    rotate_left 1
    · (intro W hW; (try dsimp only at hW); go_simp; try with_reducible rfl)
    try simp only [Act.put, List.setIfInBounds_toArray, List.set_cons_zero, List.set_cons_succ]
    refine d_take (i := 3) (v := ?_) [] (some 22) rfl (by rfl) (by kernel_rfl) (by kernel_rfl) (by kernel_rfl) (by kernel_rfl) (by kernel_rfl) (by kernel_rfl) (fun _ _ _ h => h) (.inl ⟨by rfl, ?_⟩) HS1 ?_
    rotate_left 1
    · (intro W hW; (try dsimp only at hW); go_simp; try with_reducible rfl)
    try simp only [Act.put, List.setIfInBounds_toArray, List.set_cons_zero, List.set_cons_succ]
    refine d_take (i := 4) (v := ?_) [] (some 23) rfl (by rfl) (by kernel_rfl) (by kernel_rfl) (by kernel_rfl) (by kernel_rfl) (by kernel_rfl) (by kernel_rfl) (fun _ _ _ h => h) (.inl ⟨by rfl, ?_⟩) HS1 ?_
    rotate_left 1
    · (intro W hW; (try dsimp only at hW); go_simp; try with_reducible rfl)
    try simp only [Act.put, List.setIfInBounds_toArray, List.set_cons_zero, List.set_cons_succ]
    refine d_take (i := 5) (v := ?_) [] (some 24) rfl (by rfl) (by kernel_rfl) (by kernel_rfl) (by kernel_rfl) (by kernel_rfl) (by kernel_rfl) (by kernel_rfl) (fun _ _ _ h => h) (.inl ⟨by rfl, ?_⟩) HS1 ?_
    rotate_left 1
    · (intro W hW; (try dsimp only at hW); go_simp; try with_reducible rfl)
    try simp only [Act.put, List.setIfInBounds_toArray, List.set_cons_zero, List.set_cons_succ]
    refine d_take (i := 7) (v := ?_) [] (some 26) rfl (by rfl) (by kernel_rfl) (by kernel_rfl) (by kernel_rfl) (by kernel_rfl) (by kernel_rfl) (by kernel_rfl) (fun _ _ _ h => h) (.inl ⟨by rfl, ?_⟩) HS1 ?_
    rotate_left 1
    · (intro W hW; (try dsimp only at hW); go_simp; try with_reducible rfl)
    try simp only [Act.put, List.setIfInBounds_toArray, List.set_cons_zero, List.set_cons_succ]
    refine d_take (i := 8) (v := ?_) [] (some 27) rfl (by rfl) (by kernel_rfl) (by kernel_rfl) (by kernel_rfl) (by kernel_rfl) (by kernel_rfl) (by kernel_rfl) (fun _ _ _ h => h) (.inl ⟨by rfl, ?_⟩) HS1 ?_
    rotate_left 1
    · (intro W hW; (try dsimp only at hW); go_simp; try with_reducible rfl)
    try simp only [Act.put, List.setIfInBounds_toArray, List.set_cons_zero, List.set_cons_succ]
    refine d_call (i := 6) (by kernel_rfl) rfl (by rfl) (fun K hK => ?_)
    simp only [List.getElem_toArray, List.getElem_cons_succ, List.getElem_cons_zero]
    go_simp
    refine (CW.out _ (Ext.refl V).drew).mono ?_
    rintro e0 w5 ⟨rfl, xw5⟩
    have Xw5 := Lib.hid ((Ext.refl V).drew.trans xw5)
    have HS2 := HFS.out _ Xw5.out
    clear xw5
    go_simp
    refine hK.out _ _ (fun _ => HS2) ?_
    clear hK K
    try simp only [Act.put, List.setIfInBounds_toArray, List.set_cons_zero, List.set_cons_succ]
    refine d_take (i := 9) (v := ?_) [] (some 28) rfl (by rfl) (by kernel_rfl) (by kernel_rfl) (by kernel_rfl) (by kernel_rfl) (by kernel_rfl) (by kernel_rfl) (fun _ _ _ h => h) (.inl ⟨by rfl, ?_⟩) HS2 ?_
    rotate_left 1
    · (intro W hW; (try dsimp only at hW); go_simp; try with_reducible rfl)
    try simp only [Act.put, List.setIfInBounds_toArray, List.set_cons_zero, List.set_cons_succ]
    refine d_take (i := 10) (v := ?_) [] (some 29) rfl (by rfl) (by kernel_rfl) (by kernel_rfl) (by kernel_rfl) (by kernel_rfl) (by kernel_rfl) (by kernel_rfl) (fun _ _ _ h => h) (.inl ⟨by rfl, ?_⟩) HS2 ?_
    rotate_left 1
    · (intro W hW; (try dsimp only at hW); go_simp; try with_reducible rfl)
    try simp only [Act.put, List.setIfInBounds_toArray, List.set_cons_zero, List.set_cons_succ]
    refine d_take (i := 11) (v := ?_) [] (some 30) rfl (by rfl) (by kernel_rfl) (by kernel_rfl) (by kernel_rfl) (by kernel_rfl) (by kernel_rfl) (by kernel_rfl) (fun _ _ _ h => h) (.inl ⟨by rfl, ?_⟩) HS2 ?_
    rotate_left 1
    · (intro W hW; (try dsimp only at hW); go_simp; try with_reducible rfl)
    try simp only [Act.put, List.setIfInBounds_toArray, List.set_cons_zero, List.set_cons_succ]
    refine d_take (i := 12) (v := ?_) [] (some 31) rfl (by rfl) (by kernel_rfl) (by kernel_rfl) (by kernel_rfl) (by kernel_rfl) (by kernel_rfl) (by kernel_rfl) (fun _ _ _ h => h) (.inl ⟨by rfl, ?_⟩) HS2 ?_
    rotate_left 1
    · (intro W hW; (try dsimp only at hW); go_simp; try with_reducible rfl)
    try simp only [Act.put, List.setIfInBounds_toArray, List.set_cons_zero, List.set_cons_succ]
    refine d_take (i := 13) (v := ?_) [] (some 32) rfl (by rfl) (by kernel_rfl) (by kernel_rfl) (by kernel_rfl) (by kernel_rfl) (by kernel_rfl) (by kernel_rfl) (fun _ _ _ h => h) (.inl ⟨by rfl, ?_⟩) HS2 ?_
    rotate_left 1
    · (intro W hW; (try dsimp only at hW); go_simp; try with_reducible rfl)
    try simp only [Act.put, List.setIfInBounds_toArray, List.set_cons_zero, List.set_cons_succ]
    refine d_take (i := 14) (v := ?_) [] (some 33) rfl (by rfl) (by kernel_rfl) (by kernel_rfl) (by kernel_rfl) (by kernel_rfl) (by kernel_rfl) (by kernel_rfl) (fun _ _ _ h => h) (.inl ⟨by rfl, ?_⟩) HS2 ?_
    rotate_left 1
    · (intro W hW; (try dsimp only at hW); go_simp; try with_reducible rfl)
    try simp only [Act.put, List.setIfInBounds_toArray, List.set_cons_zero, List.set_cons_succ]
    refine d_take (i := 15) (v := ?_) [] (some 34) rfl (by rfl) (by kernel_rfl) (by kernel_rfl) (by kernel_rfl) (by kernel_rfl) (by kernel_rfl) (by kernel_rfl) (fun _ _ _ h => h) (.inl ⟨by rfl, ?_⟩) HS2 ?_
    rotate_left 1
    · (intro W hW; (try dsimp only at hW); go_simp; try with_reducible rfl)
    try simp only [Act.put, List.setIfInBounds_toArray, List.set_cons_zero, List.set_cons_succ]
    refine d_take (i := 16) (v := ?_) [] (some 35) rfl (by rfl) (by kernel_rfl) (by kernel_rfl) (by kernel_rfl) (by kernel_rfl) (by kernel_rfl) (by kernel_rfl) (fun _ _ _ h => h) (.inl ⟨by rfl, ?_⟩) HS2 ?_
    rotate_left 1
    · (intro W hW; (try dsimp only at hW); go_simp; try with_reducible rfl)
    try simp only [Act.put, List.setIfInBounds_toArray, List.set_cons_zero, List.set_cons_succ]
    refine d_take (i := 17) (v := ?_) [] (some 36) rfl (by rfl) (by kernel_rfl) (by kernel_rfl) (by kernel_rfl) (by kernel_rfl) (by kernel_rfl) (by kernel_rfl) (fun _ _ _ h => h) (.inl ⟨by rfl, ?_⟩) HS2 ?_
    rotate_left 1
    · (intro W hW; (try dsimp only at hW); go_simp; try with_reducible rfl)
    try simp only [Act.put, List.setIfInBounds_toArray, List.set_cons_zero, List.set_cons_succ]
    refine d_take (i := 18) (v := ?_) [] (some 37) rfl (by rfl) (by kernel_rfl) (by kernel_rfl) (by kernel_rfl) (by kernel_rfl) (by kernel_rfl) (by kernel_rfl) (fun _ _ _ h => h) (.inl ⟨by rfl, ?_⟩) HS2 ?_
    rotate_left 1
    · (intro W hW; (try dsimp only at hW); go_simp; try with_reducible rfl)
    try simp only [Act.put, List.setIfInBounds_toArray, List.set_cons_zero, List.set_cons_succ]
    refine d_take (i := 19) (v := ?_) [] (some 38) rfl (by rfl) (by kernel_rfl) (by kernel_rfl) (by kernel_rfl) (by kernel_rfl) (by kernel_rfl) (by kernel_rfl) (fun _ _ _ h => h) (.inl ⟨by rfl, ?_⟩) HS2 ?_
    rotate_left 1
    · (intro W hW; (try dsimp only at hW); go_simp; try with_reducible rfl)
    try simp only [Act.put, List.setIfInBounds_toArray, List.set_cons_zero, List.set_cons_succ]
    refine d_take (i := 20) (v := ?_) [] (some 39) rfl (by rfl) (by kernel_rfl) (by kernel_rfl) (by kernel_rfl) (by kernel_rfl) (by kernel_rfl) (by kernel_rfl) (fun _ _ _ h => h) (.inl ⟨by rfl, ?_⟩) HS2 ?_
    rotate_left 1
    · (intro W hW; (try dsimp only at hW); go_simp; try with_reducible rfl)
    try simp only [Act.put, List.setIfInBounds_toArray, List.set_cons_zero, List.set_cons_succ]
    refine d_take (i := 21) (v := ?_) [] (some 40) rfl (by rfl) (by kernel_rfl) (by kernel_rfl) (by kernel_rfl) (by kernel_rfl) (by kernel_rfl) (by kernel_rfl) (fun _ _ _ h => h) (.inl ⟨by rfl, ?_⟩) HS2 ?_
    rotate_left 1
    · (intro W hW; (try dsimp only at hW); go_simp; try with_reducible rfl)
    try simp only [Act.put, List.setIfInBounds_toArray, List.set_cons_zero, List.set_cons_succ]
    refine d_take (i := 22) (v := ?_) [] (some 41) rfl (by rfl) (by kernel_rfl) (by kernel_rfl) (by kernel_rfl) (by kernel_rfl) (by kernel_rfl) (by kernel_rfl) (fun _ _ _ h => h) (.inl ⟨by rfl, ?_⟩) HS2 ?_
    rotate_left 1
    · (intro W hW; (try dsimp only at hW); go_simp; try with_reducible rfl)
    try simp only [Act.put, List.setIfInBounds_toArray, List.set_cons_zero, List.set_cons_succ]
    refine d_take (i := 23) (v := ?_) [] (some 42) rfl (by rfl) (by kernel_rfl) (by kernel_rfl) (by kernel_rfl) (by kernel_rfl) (by kernel_rfl) (by kernel_rfl) (fun _ _ _ h => h) (.inl ⟨by rfl, ?_⟩) HS2 ?_
    rotate_left 1
    · (intro W hW; (try dsimp only at hW); go_simp; try with_reducible rfl)
    try simp only [Act.put, List.setIfInBounds_toArray, List.set_cons_zero, List.set_cons_succ]
    refine d_take (i := 24) (v := ?_) [] (some 43) rfl (by rfl) (by kernel_rfl) (by kernel_rfl) (by kernel_rfl) (by kernel_rfl) (by kernel_rfl) (by kernel_rfl) (fun _ _ _ h => h) (.inl ⟨by rfl, ?_⟩) HS2 ?_
    rotate_left 1
    · (intro W hW; (try dsimp only at hW); go_simp; try with_reducible rfl)
    try simp only [Act.put, List.setIfInBounds_toArray, List.set_cons_zero, List.set_cons_succ]
    refine d_take (i := 25) (v := ?_) [] (some 44) rfl (by rfl) (by kernel_rfl) (by kernel_rfl) (by kernel_rfl) (by kernel_rfl) (by kernel_rfl) (by kernel_rfl) (fun _ _ _ h => h) (.inl ⟨by rfl, ?_⟩) HS2 ?_
    rotate_left 1
    · (intro W hW; (try dsimp only at hW); go_simp; try with_reducible rfl)
    try simp only [Act.put, List.setIfInBounds_toArray, List.set_cons_zero, List.set_cons_succ]
    refine d_take (i := 26) (v := ?_) [] (some 45) rfl (by rfl) (by kernel_rfl) (by kernel_rfl) (by kernel_rfl) (by kernel_rfl) (by kernel_rfl) (by kernel_rfl) (fun _ _ _ h => h) (.inl ⟨by rfl, ?_⟩) HS2 ?_
    rotate_left 1
    · (intro W hW; (try dsimp only at hW); go_simp; try with_reducible rfl)
    try simp only [Act.put, List.setIfInBounds_toArray, List.set_cons_zero, List.set_cons_succ]
    refine d_take (i := 27) (v := ?_) [] (some 46) rfl (by rfl) (by kernel_rfl) (by kernel_rfl) (by kernel_rfl) (by kernel_rfl) (by kernel_rfl) (by kernel_rfl) (fun _ _ _ h => h) (.inl ⟨by rfl, ?_⟩) HS2 ?_
    rotate_left 1
    · (intro W hW; (try dsimp only at hW); go_simp; try with_reducible rfl)
    try simp only [Act.put, List.setIfInBounds_toArray, List.set_cons_zero, List.set_cons_succ]
    refine d_take (i := 28) (v := ?_) [] (some 47) rfl (by rfl) (by kernel_rfl) (by kernel_rfl) (by kernel_rfl) (by kernel_rfl) (by kernel_rfl) (by kernel_rfl) (fun _ _ _ h => h) (.inl ⟨by rfl, ?_⟩) HS2 ?_
    rotate_left 1
    · (intro W hW; (try dsimp only at hW); go_simp; try with_reducible rfl)
    try simp only [Act.put, List.setIfInBounds_toArray, List.set_cons_zero, List.set_cons_succ]
    refine d_take (i := 29) (v := ?_) [] (some 48) rfl (by rfl) (by kernel_rfl) (by kernel_rfl) (by kernel_rfl) (by kernel_rfl) (by kernel_rfl) (by kernel_rfl) (fun _ _ _ h => h) (.inl ⟨by rfl, ?_⟩) HS2 ?_
    rotate_left 1
    · (intro W hW; (try dsimp only at hW); go_simp; try with_reducible rfl)
    try simp only [Act.put, List.setIfInBounds_toArray, List.set_cons_zero, List.set_cons_succ]
    refine d_take (i := 30) (v := undef) [] (some 49) rfl (by rfl) (by kernel_rfl) (by kernel_rfl) (by kernel_rfl) (by kernel_rfl) (by kernel_rfl) (by kernel_rfl) (fun _ _ _ h => h) (.inr ⟨by rfl, rfl⟩) HS2 ?_
    try simp only [Act.put, List.setIfInBounds_toArray, List.set_cons_zero, List.set_cons_succ]
    refine d_take (i := 31) (v := undef) [] (some 50) rfl (by rfl) (by kernel_rfl) (by kernel_rfl) (by kernel_rfl) (by kernel_rfl) (by kernel_rfl) (by kernel_rfl) (fun _ _ _ h => h) (.inr ⟨by rfl, rfl⟩) HS2 ?_
    try simp only [Act.put, List.setIfInBounds_toArray, List.set_cons_zero, List.set_cons_succ]
    refine d_take (i := 32) (v := undef) [] (some 51) rfl (by rfl) (by kernel_rfl) (by kernel_rfl) (by kernel_rfl) (by kernel_rfl) (by kernel_rfl) (by kernel_rfl) (fun _ _ _ h => h) (.inr ⟨by rfl, rfl⟩) HS2 ?_
    try simp only [Act.put, List.setIfInBounds_toArray, List.set_cons_zero, List.set_cons_succ]
    refine d_take (i := 33) (v := ?_) [] (some 52) rfl (by rfl) (by kernel_rfl) (by kernel_rfl) (by kernel_rfl) (by kernel_rfl) (by kernel_rfl) (by kernel_rfl) (fun _ _ _ h => h) (.inl ⟨by rfl, ?_⟩) HS2 ?_
    rotate_left 1
    · (intro W hW; (try dsimp only at hW); go_simp; try with_reducible rfl)
    try simp only [Act.put, List.setIfInBounds_toArray, List.set_cons_zero, List.set_cons_succ]
    refine d_take (i := 34) (v := ?_) [] (some 53) rfl (by rfl) (by kernel_rfl) (by kernel_rfl) (by kernel_rfl) (by kernel_rfl) (by kernel_rfl) (by kernel_rfl) (fun _ _ _ h => h) (.inl ⟨by rfl, ?_⟩) HS2 ?_
    rotate_left 1
    · (intro W hW; (try dsimp only at hW); go_simp; try with_reducible rfl)
    try simp only [Act.put, List.setIfInBounds_toArray, List.set_cons_zero, List.set_cons_succ]
    refine d_take (i := 35) (v := ?_) [] (some 54) rfl (by rfl) (by kernel_rfl) (by kernel_rfl) (by kernel_rfl) (by kernel_rfl) (by kernel_rfl) (by kernel_rfl) (fun _ _ _ h => h) (.inl ⟨by rfl, ?_⟩) HS2 ?_
    rotate_left 1
    · (intro W hW; (try dsimp only at hW); go_simp; try with_reducible rfl)
    try simp only [Act.put, List.setIfInBounds_toArray, List.set_cons_zero, List.set_cons_succ]
    refine d_take (i := 36) (v := ?_) [] (some 55) rfl (by rfl) (by kernel_rfl) (by kernel_rfl) (by kernel_rfl) (by kernel_rfl) (by kernel_rfl) (by kernel_rfl) (fun _ _ _ h => h) (.inl ⟨by rfl, ?_⟩) HS2 ?_
    rotate_left 1
    · (intro W hW; (try dsimp only at hW); go_simp; try with_reducible rfl)
    try simp only [Act.put, List.setIfInBounds_toArray, List.set_cons_zero, List.set_cons_succ]
    refine d_take (i := 37) (v := ?_) [] (some 56) rfl (by rfl) (by kernel_rfl) (by kernel_rfl) (by kernel_rfl) (by kernel_rfl) (by kernel_rfl) (by kernel_rfl) (fun _ _ _ h => h) (.inl ⟨by rfl, ?_⟩) HS2 ?_
    rotate_left 1
    · (intro W hW; (try dsimp only at hW); go_simp; try with_reducible rfl)
    try simp only [Act.put, List.setIfInBounds_toArray, List.set_cons_zero, List.set_cons_succ]
    refine d_take (i := 39) (v := ?_) [] (some 58) rfl (by rfl) (by kernel_rfl) (by kernel_rfl) (by kernel_rfl) (by kernel_rfl) (by kernel_rfl) (by kernel_rfl) (fun _ _ _ h => h) (.inl ⟨by rfl, ?_⟩) HS2 ?_
    rotate_left 1
    · (intro W hW; (try dsimp only at hW); go_simp; try with_reducible rfl)
    try simp only [Act.put, List.setIfInBounds_toArray, List.set_cons_zero, List.set_cons_succ]
    refine d_take (i := 40) (v := ?_) [] (some 59) rfl (by rfl) (by kernel_rfl) (by kernel_rfl) (by kernel_rfl) (by kernel_rfl) (by kernel_rfl) (by kernel_rfl) (fun _ _ _ h => h) (.inl ⟨by rfl, ?_⟩) HS2 ?_
    rotate_left 1
    · (intro W hW; (try dsimp only at hW); go_simp; try with_reducible rfl)
    try simp only [Act.put, List.setIfInBounds_toArray, List.set_cons_zero, List.set_cons_succ]
    refine d_call (i := 38) (by kernel_rfl) rfl (by rfl) (fun K hK => ?_)
    simp only [List.getElem_toArray, List.getElem_cons_succ, List.getElem_cons_zero]
    go_simp
    refine (CL.out _ Xw5.out).mono ?_
    rintro e0 w6 ⟨rfl, xw6⟩
    have Xw6 := Lib.hid (Xw5.out.trans xw6)
    have HS3 := HFS.out _ Xw6.out
    clear xw6
    go_simp
    refine hK.out _ _ (fun _ => HS3) ?_
    clear hK K
    try simp only [Act.put, List.setIfInBounds_toArray, List.set_cons_zero, List.set_cons_succ]
    refine d_call (i := 41) (by kernel_rfl) rfl (by rfl) (fun K hK => ?_)
    simp only [List.getElem_toArray, List.getElem_cons_succ, List.getElem_cons_zero]
    go_simp
    refine (CM.out _ Xw6.out).mono ?_
    rintro e0 w7 ⟨rfl, xw7⟩
    have Xw7 := Lib.hid (Xw6.out.trans xw7)
    have HS4 := HFS.out _ Xw7.out
    clear xw7
    go_simp
    refine hK.out _ _ (fun _ => HS4) ?_
    clear hK K
    try simp only [Act.put, List.setIfInBounds_toArray, List.set_cons_zero, List.set_cons_succ]
    refine d_take (i := 42) (v := ?_) [] (some 61) rfl (by rfl) (by kernel_rfl) (by kernel_rfl) (by kernel_rfl) (by kernel_rfl) (by kernel_rfl) (by kernel_rfl) (fun _ _ _ h => h) (.inl ⟨by rfl, ?_⟩) HS4 ?_
    rotate_left 1
    · (intro W hW; (try dsimp only at hW); go_simp; try with_reducible rfl)
    try simp only [Act.put, List.setIfInBounds_toArray, List.set_cons_zero, List.set_cons_succ]
    refine d_take (i := 43) (v := ?_) [] (some 62) rfl (by rfl) (by kernel_rfl) (by kernel_rfl) (by kernel_rfl) (by kernel_rfl) (by kernel_rfl) (by kernel_rfl) (fun _ _ _ h => h) (.inl ⟨by rfl, ?_⟩) HS4 ?_
    rotate_left 1
    · (intro W hW; (try dsimp only at hW); go_simp; try with_reducible rfl)
    try simp only [Act.put, List.setIfInBounds_toArray, List.set_cons_zero, List.set_cons_succ]
    refine d_done (by kernel_rfl) ?_ _

    clear hi5 z0 z1 z8 z7 HS1 HS2 HS3 HS4
    have MW := Lib.hid (HM.out.ext (X0.out.trans Xw7.out))
    have JB := jobss_any (HG.out.ext (X0.out.trans Xw7.out))
    have XB := Lib.hid (X0.out.trans Xw7.out)
    obtain ⟨n, hn⟩ : ∃ n, js.length = n := ⟨_, rfl⟩
    rw [hn] at JB
    have HNN := Lib.hid hn
    have JB := Lib.hid JB
    clear hn
    go_upto_region 5 with (fail)
    go_wp2_with fail
    refine JB.out.mono ?_
    rintro e0 w8 ⟨A8, c8, rfl, o8, x8⟩
    have M8 := Lib.hid (MW.out.ext x8)
    have H8 := Lib.hid (And.intro o8 (XB.out.trans x8))
    have HA8 := Lib.hid (fun a (ha : A8 = some a) => (show w7.heap.size ≤ a.block from o8.base_le _ (by rw [ha]; rfl)))
    have MR := Lib.hid (fun W (hf : Fr w8 W (fun b => A8.map (·.block) = some b)) => M8.out.fr hf (fun b hb e => by
      have h1 := MW.out.lt b hb
      obtain ⟨a, ha, hab⟩ := Option.map_eq_some_iff.1 e
      have h2 := HA8.out a ha
      omega))
    obtain ⟨mB, mTA, mtn, mtc, mLA, mlc, mJA, mjn, mjc, hMS, _, _, _⟩ := M8.out.ex
    have hjn : mjn = n := by rw [← hMS.jlen]; exact HNN.out
    subst hjn
    have c3 := hMS.c3
    have hn64 := hMS.jn64
    clear JB o8 x8 hMS
    go_wp2_with fail
    clear c3
    go_loopw [11, 75] (fun _ v75 wr => ∃ (k : Nat) (js' : List JobV), v75 = .int .i64 (k : Int) ∧ k ≤ mjn ∧ Hid (Own wr w7.heap.size 46 5 A8 mjn c8 (jrows js').flatten ∧ (∀ q, k ≤ q → js'[q]? = js[q]?) ∧ Fr w8 wr (fun b => A8.map (·.block) = some b))) (fun _ v75 _ => mjn - (intOf v75).toNat)
    case atStart => exact ⟨0, js, rfl, by omega, H8.out.1, fun q _ => rfl, Fr.refl _ _⟩
    case round =>
      obtain ⟨k, js', rfl, hk, HI⟩ := hrel
      by_cases hlt : k < mjn
      · obtain ⟨y, hy⟩ : ∃ y, js[k]? = some y := ⟨js[k]'(by have := HNN.out; omega), List.getElem?_eq_getElem _⟩
        obtain ⟨k5, hk5⟩ : ∃ k5, k * 5 = k5 := ⟨_, rfl⟩
        have hy' : js'[k]? = some y := (HI.out.2.1 k (Nat.le_refl k)).trans hy
        obtain ⟨SA, rfl⟩ := HI.out.1.head (by omega)
        have hMr := MR.out wr HI.out.2.2
        obtain ⟨_, _, _, _, _, _, JA2, jn2, jc2, hMS, _, _, _⟩ := hMr.ex
        have hjn2 : jn2 = mjn := by rw [← hMS.jlen]; exact HNN.out
        subst hjn2
        obtain ⟨SJ, rfl, _, _, u0, u1, u2, u3, u4⟩ := hMS.jcell hy hk5
        have c3 := hMS.c3
        have v0 : wr.cell? ⟨SA, k5, none⟩ = some (.int .i64 (y.T : Int)) := HI.out.1.rowAt (jrows_even js') (jrows_at hy') hk5 (i := 0) rfl
        have v1 : wr.cell? ⟨SA, k5 + 1, none⟩ = some (.int .i64 y.R) := HI.out.1.rowAt (jrows_even js') (jrows_at hy') hk5 (i := 1) rfl
        have v2 : wr.cell? ⟨SA, k5 + 2, none⟩ = some (.int .i64 y.D) := HI.out.1.rowAt (jrows_even js') (jrows_at hy') hk5 (i := 2) rfl
        have v3 : wr.cell? ⟨SA, k5 + 3, none⟩ = some (.int .i64 y.L) := HI.out.1.rowAt (jrows_even js') (jrows_at hy') hk5 (i := 3) rfl
        have v4 : wr.cell? ⟨SA, k5 + 4, none⟩ = some (.int .i64 y.N) := HI.out.1.rowAt (jrows_even js') (jrows_at hy') hk5 (i := 4) rfl
        have fz : wr.frozen? ⟨SA, k5 + 3, none⟩ = false := HI.out.1.frozenAt _
        have z0 : (0 : Int) ≤ k := by omega
        have z1 : (k : Int) < (jn2 : Int) := by omega
        have HY := Lib.hid (And.intro hy' (And.intro hk5 hy))
        clear hMr hMS hy hy'
        go_upto_region 11 with (fail)
        go_quiet (fail)
        have O9 := (HI.out.1.drewN nq).stored (k5 + 3) (.int .i64 (-1))
        have F9 := (HI.out.2.2.drewN nq).trans (Fr.store (wr.drewN nq) ⟨SA, k5 + 3, none⟩ (.int .i64 (-1))) (fun i _ e => by show some SA = some i; rw [e])
        rw [neg_rows HY.out.1 HY.out.2.1] at O9
        have H9 := Lib.hid (And.intro O9 F9)
        clear O9 F9 u0 u1 u2 u3 u4 v0 v1 v2 c3
        go_wp2_with fail
        go_roundw
        case rel => exact ⟨k + 1, _, by go_num, by omega, H9.out.1, fun q hq => by rw [List.getElem?_set_ne (by omega)]; exact HI.out.2.1 q (by omega), H9.out.2⟩
        case measure => simp [intOf]; omega
      · obtain rfl : mjn = k := by omega
        go_wp2_with fail
        exact hPost.out _ (Fr.ext H8.out.2 HI.out.2.2 (fun i e => by
          obtain ⟨a, ha, hab⟩ := Option.map_eq_some_iff.1 e
          have h2 := HA8.out a ha
          have h3 := XB.out.size
          omega))
end
end Go.Proofs.YtbpbmelfhgbogaaDoor
