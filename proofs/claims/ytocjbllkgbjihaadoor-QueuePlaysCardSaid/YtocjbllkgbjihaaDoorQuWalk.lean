/-
  Package queue: what container/heap asks of things, walked: ahead, Len, Less.
-/
import Derived.Test.YtocjbllkgbjihaaDoorQuState
import Derived.Test.YtocjbllkgbjihaaDoorQuPerm
import Derived.Deep.QuietTactic
import Derived.BigQuiet
import Derived.Handy
import Derived.Deep.Cut
import Derived.Deep.RegionHeld3
import Derived.Deep.RegionLaw
import Derived.StillTailTactics
namespace Go.Proofs.YtocjbllkgbjihaaDoor
set_option maxRecDepth 100000
open Go.RowKit Go.Maps
set_option linter.unusedVariables false
section
variable {w w' : World} {g b n c Z : Nat} {A : Option Addr} {L : List Th} {ty : TypeId}
set_option maxHeartbeats 1600000 in
theorem ahead_any (a c : Th) (w : World) : Calls Tryd.prog 38 #[.agg #[.int .i64 a.id, .int .i64 a.rank], .agg #[.int .i64 c.id, .int .i64 c.rank]] w fun e w' => e = .returned (.bool (ah a c)) ∧ Ext w w' := by
  have HX := Lib.hid (((Ext.refl w).alloc (.cells #[.int .i64 a.id, .int .i64 a.rank] 34)).alloc (.cells #[.int .i64 c.id, .int .i64 c.rank] 34))
  obtain ⟨ai, ar⟩ := a
  obtain ⟨ci, cr⟩ := c
  have H := Lib.hid (show ah ⟨ai, ar⟩ ⟨ci, cr⟩ = decide (ar < cr ∨ ar = cr ∧ ai < ci) from rfl)
  generalize ah ⟨ai, ar⟩ ⟨ci, cr⟩ = r at *
  dsimp only at *
  by_cases h1 : ar < cr
  · have e : r = true := by rw [H.out]; simp [h1]
    subst e
    clear H
    go_enter Tryd.func38, Tryd.ntmps38
    go_wp2_with fail
    go_returns
    exact ⟨rfl, HX.out⟩
  · by_cases h2 : ar = cr
    · have h2' : (ar == cr) = true := by simpa using h2
      by_cases h3 : ai < ci
      · have e : r = true := by rw [H.out]; simp [h2, h3]
        subst e
        clear H h2
        go_enter Tryd.func38, Tryd.ntmps38
        go_wp2_with fail
        go_returns
        exact ⟨rfl, HX.out⟩
      · have e : r = false := by rw [H.out]; simp [h1, h3]
        subst e
        clear H h2
        go_enter Tryd.func38, Tryd.ntmps38
        go_wp2_with fail
        go_returns
        exact ⟨rfl, HX.out⟩
    · have h2' : (ar == cr) = false := by simpa using h2
      have e : r = false := by rw [H.out]; simp [h1, h2]
      subst e
      clear H h2
      go_enter Tryd.func38, Tryd.ntmps38
      go_wp2_with fail
      go_returns
      exact ⟨rfl, HX.out⟩
set_option maxHeartbeats 800000 in
theorem tlen_any (h : TS w g b A n c L Z ty) : Calls Tryd.prog 30 #[.pointer (some ⟨g, 0, none⟩)] w fun e w' => e = .returned (.int .i64 (n : Int)) ∧ w = w' := by
  obtain ⟨c0, c1⟩ := h.cells
  clear h
  go_enter Tryd.func30, Tryd.ntmps30
  go_wp2_with fail
  go_returns
  exact ⟨rfl, rfl⟩
set_option maxHeartbeats 1600000 in
theorem tless_any (h : TS w g b A n c L Z ty) {i j : Nat} (hi : i < n) (hj : j < n) : Calls Tryd.prog 84 #[.pointer (some ⟨g, 0, none⟩), .int .i64 (i : Int), .int .i64 (j : Int)] w fun e w' => e = .returned (.bool (ah (at_ L i) (at_ L j))) ∧ Ext w w' := by
  obtain ⟨c0, c1⟩ := h.cells
  have hl := h.len
  obtain ⟨i2, h2⟩ : ∃ i2, i * 2 = i2 := ⟨_, rfl⟩
  obtain ⟨j2, h3⟩ : ∃ j2, j * 2 = j2 := ⟨_, rfl⟩
  obtain ⟨T, rfl, _, _, _, y0, y1, _, _⟩ := h.at_ (at_some (L := L) (k := i) (by omega)) h2
  obtain ⟨T', e, _, _, _, y2, y3, _, _⟩ := h.at_ (at_some (L := L) (k := j) (by omega)) h3
  injection e with e
  injection e with e
  subst e
  have C := Lib.hid (ahead_any (at_ L i) (at_ L j))
  clear h
  have z0 : (0 : Int) ≤ i := by omega
  have z1 : (0 : Int) ≤ j := by omega
  have z2 : (i : Int) < n := by omega
  have z3 : (j : Int) < n := by omega
  generalize at_ L i = x at *
  generalize at_ L j = y at *
  clear hl hi hj
  go_enter Tryd.func84, Tryd.ntmps84
  go_wp2_with fail
  refine d_region (fun W : World => W.cell? ⟨g, 0, none⟩ = some (.slice (some ⟨T, 0, none⟩) n c) ∧ W.cell? ⟨T, i2, none⟩ = some (.int .i64 x.id) ∧ W.cell? ⟨T, i2 + 1, none⟩ = some (.int .i64 x.rank) ∧ W.cell? ⟨T, j2, none⟩ = some (.int .i64 y.id) ∧ W.cell? ⟨T, j2 + 1, none⟩ = some (.int .i64 y.rank)) [14, 15] (by kernel_rfl) ?_
  have HS1 : w.drew.cell? ⟨g, 0, none⟩ = some (.slice (some ⟨T, 0, none⟩) n c) ∧ w.drew.cell? ⟨T, i2, none⟩ = some (.int .i64 x.id) ∧ w.drew.cell? ⟨T, i2 + 1, none⟩ = some (.int .i64 x.rank) ∧ w.drew.cell? ⟨T, j2, none⟩ = some (.int .i64 y.id) ∧ w.drew.cell? ⟨T, j2 + 1, none⟩ = some (.int .i64 y.rank) := ⟨c0, y0, y1, y2, y3⟩
  refine d_take (i := 0) (v := ?_) [1, 2, 3, 5, 6, 14, 15] (some 7) rfl (by rfl) (by kernel_rfl) (by kernel_rfl) (by kernel_rfl) (by kernel_rfl) (by kernel_rfl) (by kernel_rfl) (fun _ _ _ h => h) (.inl ⟨by rfl, ?_⟩) HS1 ?_
  rotate_left 1
  · (intro W hW; (try dsimp only at hW); go_simp; try with_reducible rfl)
  try simp only [Act.put, List.setIfInBounds_toArray, List.set_cons_zero, List.set_cons_succ]
  refine d_take (i := 1) (v := ?_) [2, 3, 5, 6, 14, 15] (some 8) rfl (by rfl) (by kernel_rfl) (by kernel_rfl) (by kernel_rfl) (by kernel_rfl) (by kernel_rfl) (by kernel_rfl) (fun _ _ _ h => h) (.inl ⟨by rfl, ?_⟩) HS1 ?_
  rotate_left 1
  · (intro W hW; (try dsimp only at hW); go_simp; try with_reducible rfl)
  try simp only [Act.put, List.setIfInBounds_toArray, List.set_cons_zero, List.set_cons_succ]
  refine d_take (i := 2) (v := ?_) [3, 5, 6, 14, 15] (some 9) rfl (by rfl) (by kernel_rfl) (by kernel_rfl) (by kernel_rfl) (by kernel_rfl) (by kernel_rfl) (by kernel_rfl) (fun _ _ _ h => h) (.inl ⟨by rfl, ?_⟩) HS1 ?_
  rotate_left 1
  · (intro W hW; (try dsimp only at hW); go_simp; try with_reducible rfl)
  try simp only [Act.put, List.setIfInBounds_toArray, List.set_cons_zero, List.set_cons_succ]
  refine d_take (i := 3) (v := ?_) [5, 6, 14, 15] (some 10) rfl (by rfl) (by kernel_rfl) (by kernel_rfl) (by kernel_rfl) (by kernel_rfl) (by kernel_rfl) (by kernel_rfl) (fun _ _ _ h => h) (.inl ⟨by rfl, ?_⟩) HS1 ?_
  rotate_left 1
  · (intro W hW; (try dsimp only at hW); go_simp; try with_reducible rfl)
  try simp only [Act.put, List.setIfInBounds_toArray, List.set_cons_zero, List.set_cons_succ]
  refine d_take (i := 4) (v := ?_) [5, 6, 14, 15] (some 11) rfl (by rfl) (by kernel_rfl) (by kernel_rfl) (by kernel_rfl) (by kernel_rfl) (by kernel_rfl) (by kernel_rfl) (fun _ _ _ h => h) (.inl ⟨by rfl, ?_⟩) HS1 ?_
  rotate_left 1
  · (intro W hW; (try dsimp only at hW); go_simp; try with_reducible rfl)
  try simp only [Act.put, List.setIfInBounds_toArray, List.set_cons_zero, List.set_cons_succ]
  refine d_take (i := 5) (v := ?_) [6, 14, 15] (some 12) rfl (by rfl) (by kernel_rfl) (by kernel_rfl) (by kernel_rfl) (by kernel_rfl) (by kernel_rfl) (by kernel_rfl) (fun _ _ _ h => h) (.inl ⟨by rfl, ?_⟩) HS1 ?_
  rotate_left 1
  · (intro W hW; (try dsimp only at hW); go_simp; try with_reducible rfl)
  try simp only [Act.put, List.setIfInBounds_toArray, List.set_cons_zero, List.set_cons_succ]
  refine d_take (i := 6) (v := ?_) [14, 15] (some 13) rfl (by rfl) (by kernel_rfl) (by kernel_rfl) (by kernel_rfl) (by kernel_rfl) (by kernel_rfl) (by kernel_rfl) (fun _ _ _ h => h) (.inl ⟨by rfl, ?_⟩) HS1 ?_
  rotate_left 1
  · (intro W hW; (try dsimp only at hW); go_simp; try with_reducible rfl)
  try simp only [Act.put, List.setIfInBounds_toArray, List.set_cons_zero, List.set_cons_succ]
  refine d_take (i := 7) (v := ?_) [8, 9, 10, 12, 13, 14, 15] (some 14) rfl (by rfl) (by kernel_rfl) (by kernel_rfl) (by kernel_rfl) (by kernel_rfl) (by kernel_rfl) (by kernel_rfl) (fun _ _ _ h => h) (.inl ⟨by rfl, ?_⟩) HS1 ?_
  rotate_left 1
  · (intro W hW; (try dsimp only at hW); go_simp; try with_reducible rfl)
  try simp only [Act.put, List.setIfInBounds_toArray, List.set_cons_zero, List.set_cons_succ]
  refine d_take (i := 8) (v := ?_) [9, 10, 12, 13, 14, 15] (some 15) rfl (by rfl) (by kernel_rfl) (by kernel_rfl) (by kernel_rfl) (by kernel_rfl) (by kernel_rfl) (by kernel_rfl) (fun _ _ _ h => h) (.inl ⟨by rfl, ?_⟩) HS1 ?_
  rotate_left 1
  · (intro W hW; (try dsimp only at hW); go_simp; try with_reducible rfl)
  try simp only [Act.put, List.setIfInBounds_toArray, List.set_cons_zero, List.set_cons_succ]
  refine d_take (i := 9) (v := ?_) [10, 12, 13, 14, 15] (some 16) rfl (by rfl) (by kernel_rfl) (by kernel_rfl) (by kernel_rfl) (by kernel_rfl) (by kernel_rfl) (by kernel_rfl) (fun _ _ _ h => h) (.inl ⟨by rfl, ?_⟩) HS1 ?_
  rotate_left 1
  · (intro W hW; (try dsimp only at hW); go_simp; try with_reducible rfl)
  try simp only [Act.put, List.setIfInBounds_toArray, List.set_cons_zero, List.set_cons_succ]
  refine d_take (i := 10) (v := ?_) [12, 13, 14, 15] (some 17) rfl (by rfl) (by kernel_rfl) (by kernel_rfl) (by kernel_rfl) (by kernel_rfl) (by kernel_rfl) (by kernel_rfl) (fun _ _ _ h => h) (.inl ⟨by rfl, ?_⟩) HS1 ?_
  rotate_left 1
  · (intro W hW; (try dsimp only at hW); go_simp; try with_reducible rfl)
  try simp only [Act.put, List.setIfInBounds_toArray, List.set_cons_zero, List.set_cons_succ]
  refine d_take (i := 11) (v := ?_) [12, 13, 14, 15] (some 18) rfl (by rfl) (by kernel_rfl) (by kernel_rfl) (by kernel_rfl) (by kernel_rfl) (by kernel_rfl) (by kernel_rfl) (fun _ _ _ h => h) (.inl ⟨by rfl, ?_⟩) HS1 ?_
  rotate_left 1
  · (intro W hW; (try dsimp only at hW); go_simp; try with_reducible rfl)
  try simp only [Act.put, List.setIfInBounds_toArray, List.set_cons_zero, List.set_cons_succ]
  refine d_take (i := 12) (v := ?_) [13, 14, 15] (some 19) rfl (by rfl) (by kernel_rfl) (by kernel_rfl) (by kernel_rfl) (by kernel_rfl) (by kernel_rfl) (by kernel_rfl) (fun _ _ _ h => h) (.inl ⟨by rfl, ?_⟩) HS1 ?_
  rotate_left 1
  · (intro W hW; (try dsimp only at hW); go_simp; try with_reducible rfl)
  try simp only [Act.put, List.setIfInBounds_toArray, List.set_cons_zero, List.set_cons_succ]
  refine d_take (i := 13) (v := ?_) [14, 15] (some 20) rfl (by rfl) (by kernel_rfl) (by kernel_rfl) (by kernel_rfl) (by kernel_rfl) (by kernel_rfl) (by kernel_rfl) (fun _ _ _ h => h) (.inl ⟨by rfl, ?_⟩) HS1 ?_
  rotate_left 1
  · (intro W hW; (try dsimp only at hW); go_simp; try with_reducible rfl)
  try simp only [Act.put, List.setIfInBounds_toArray, List.set_cons_zero, List.set_cons_succ]
  refine d_call (i := 14) (by kernel_rfl) rfl (by rfl) (fun K hK => ?_)
  simp only [List.getElem_toArray, List.getElem_cons_succ, List.getElem_cons_zero]
  go_simp
  refine (C.out _).mono ?_
  rintro e w1 ⟨rfl, x1⟩
  go_simp
  have X1 := Lib.hid x1
  refine hK.out _ _ (fun h => absurd h (by decide)) ?_
  clear hK K C x1 HS1
  try simp only [Act.put, List.setIfInBounds_toArray, List.set_cons_zero, List.set_cons_succ]
  refine d_one (i := 15) (by kernel_rfl) rfl rfl (fun K hK => ?_)
  simp only [List.getElem_toArray, List.getElem_cons_succ, List.getElem_cons_zero]
  go_simp
  refine hK.out _ _ (fun h => absurd h (by decide)) ?_
  clear hK K 
  try simp only [Act.put, List.setIfInBounds_toArray, List.set_cons_zero, List.set_cons_succ]
  refine d_done (by kernel_rfl) ?_ _
  go_wp2_with fail
  go_returns
  exact ⟨rfl, (Ext.refl w).drew.trans X1.out⟩
end
end Go.Proofs.YtocjbllkgbjihaaDoor
