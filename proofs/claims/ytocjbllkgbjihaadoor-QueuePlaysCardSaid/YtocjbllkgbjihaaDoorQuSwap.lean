/-
  Package queue: things' Swap, walked.
-/
import Derived.Test.YtocjbllkgbjihaaDoorQuPop
import Derived.Test.YtocjbllkgbjihaaDoorOrdE
namespace Go.Proofs.YtocjbllkgbjihaaDoor
set_option maxRecDepth 100000
open Go.RowKit Go.Maps
set_option linter.unusedVariables false
theorem flat_set2 : ∀ {rs : List (List Value)} {k : Nat} (a b : Value), Even 2 rs → k < rs.length → (rs.flatten.set (k * 2) a).set (k * 2 + 1) b = (rs.set k [a, b]).flatten
  | [], k, a, b, _, h => absurd h (by simp)
  | r :: rs, 0, a, b, he, _ => by
    have hr := he r (by simp)
    match r, hr with
    | [p, q], _ => simp
  | r :: rs, k + 1, a, b, he, h => by
    have hr := he r (by simp)
    have ih := flat_set2 (rs := rs) (k := k) a b (fun x hx => he x (by simp [hx])) (by simpa using h)
    match r, hr with
    | [p, q], _ =>
      rw [show (k + 1) * 2 = k * 2 + 2 by omega]
      simp [ih]
theorem trows_set (L : List Th) (k : Nat) (x : Th) : trows (L.set k x) = (trows L).set k (trow x) := by simp [trows, List.map_set]
/-- A thing is written over. -/
theorem own_set {w : World} {T n c k k2 : Nat} {L : List Th} (o : Own w 0 34 2 (some ⟨T, 0, none⟩) n c (trows L).flatten) (hk : k < L.length) (h2 : k * 2 = k2) (x : Th) :
    Own ((w.setCell ⟨T, k2, none⟩ (.int .i64 x.id)).setCell ⟨T, k2 + 1, none⟩ (.int .i64 x.rank)) 0 34 2 (some ⟨T, 0, none⟩) n c (trows (L.set k x)).flatten := by
  have h := (o.stored k2 (.int .i64 x.id)).stored (k2 + 1) (.int .i64 x.rank)
  rw [← h2, flat_set2 _ _ (trows_even L) (by rw [trows_len]; exact hk)] at h
  rw [trows_set, ← h2]
  exact h
theorem own_at {w : World} {T n c k k2 : Nat} {L : List Th} {x : Th} (o : Own w 0 34 2 (some ⟨T, 0, none⟩) n c (trows L).flatten) (hk : L[k]? = some x) (h2 : k * 2 = k2) :
    w.cell? ⟨T, k2, none⟩ = some (.int .i64 x.id) ∧ w.cell? ⟨T, k2 + 1, none⟩ = some (.int .i64 x.rank) ∧ w.frozen? ⟨T, k2, none⟩ = false ∧ w.frozen? ⟨T, k2 + 1, none⟩ = false :=
  ⟨o.rowAt (trows_even L) (trows_at hk) h2 (i := 0) rfl, o.rowAt (trows_even L) (trows_at hk) h2 (i := 1) rfl, o.frozenAt _, o.frozenAt _⟩
theorem Fr.store2 (w : World) (T i j : Nat) (u v : Value) : Fr w ((w.setCell ⟨T, i, none⟩ u).setCell ⟨T, j, none⟩ v) (· = T) := (Fr.store w ⟨T, i, none⟩ u).trans (Fr.store _ ⟨T, j, none⟩ v) (fun _ _ h => h)
section
variable {w w' : World} {g b n c Z : Nat} {A : Option Addr} {L : List Th} {ty : TypeId}
set_option maxHeartbeats 3200000 in
theorem tswap_any (h : TS w g b A n c L Z ty) {i j : Nat} (hi : i < n) (hj : j < n) (hZ : Z < 4611686018427387903) :
    Calls Tryd.prog 86 #[.pointer (some ⟨g, 0, none⟩), .int .i64 (i : Int), .int .i64 (j : Int)] w fun e w' => e = .returned (.tuple #[]) ∧ TK w w' g b A n c (swapL L i j) (Z + 2) ty := by
  obtain ⟨c0, c1⟩ := h.cells
  have hl := h.len
  obtain ⟨i2, h2⟩ : ∃ i2, i * 2 = i2 := ⟨_, rfl⟩
  obtain ⟨j2, h3⟩ : ∃ j2, j * 2 = j2 := ⟨_, rfl⟩
  have hxi := at_some (L := L) (k := i) (by omega)
  have hxj := at_some (L := L) (k := j) (by omega)
  obtain ⟨T, rfl, hTw, hTg, hTb, y0, y1, z0, z1⟩ := h.at_ hxi h2
  obtain ⟨T', e, _, _, _, y2, y3, z2, z3⟩ := h.at_ hxj h3
  injection e with e
  injection e with e
  subst e
  have k0 : (0 : Int) ≤ i := by omega
  have k1 : (0 : Int) ≤ j := by omega
  have k2 : (i : Int) < n := by omega
  have k3 : (j : Int) < n := by omega
  have HD := Lib.hid (And.intro h (And.intro hxi (And.intro hxj (And.intro hZ hl))))
  have HL := Lib.hid (And.intro hTw (And.intro hTg hTb))
  have HI := Lib.hid (And.intro h2 h3)
  obtain ⟨x, ex⟩ : ∃ x, at_ L i = x := ⟨_, rfl⟩
  obtain ⟨y, ey⟩ : ∃ y, at_ L j = y := ⟨_, rfl⟩
  rw [ex] at y0 y1
  rw [ey] at y2 y3
  have HXY := Lib.hid (And.intro ex ey)
  clear h hxi hxj hTw hTg hTb hl hZ ex ey hi hj
  have HS1 : w.drew.cell? ⟨g, 0, none⟩ = some (.slice (some ⟨T, 0, none⟩) n c) ∧ w.drew.cell? ⟨T, i2, none⟩ = some (.int .i64 x.id) ∧ w.drew.cell? ⟨T, i2 + 1, none⟩ = some (.int .i64 x.rank) ∧ w.drew.cell? ⟨T, j2, none⟩ = some (.int .i64 y.id) ∧ w.drew.cell? ⟨T, j2 + 1, none⟩ = some (.int .i64 y.rank) := ⟨c0, y0, y1, y2, y3⟩
  go_enter Tryd.func86, Tryd.ntmps86
  go_upto_region 0 with (fail)
  refine e_region (fun W : World => W.cell? ⟨g, 0, none⟩ = some (.slice (some ⟨T, 0, none⟩) n c) ∧ W.cell? ⟨T, i2, none⟩ = some (.int .i64 x.id) ∧ W.cell? ⟨T, i2 + 1, none⟩ = some (.int .i64 x.rank) ∧ W.cell? ⟨T, j2, none⟩ = some (.int .i64 y.id) ∧ W.cell? ⟨T, j2 + 1, none⟩ = some (.int .i64 y.rank)) [25, 27] (by kernel_rfl) ?_
  refine e_pure (i := 9) (v := ?_) (some 15) rfl (by rfl) (by kernel_rfl) (by kernel_rfl) (by kernel_rfl) (by kernel_rfl) (fun _ _ _ h => h) (.inl ⟨by rfl, ?_⟩) (.inr HS1) ?_
  rotate_left 1
  · (intro W hW; go_simp; try with_reducible rfl)
  try simp only [Act.put, List.setIfInBounds_toArray, List.set_cons_zero, List.set_cons_succ]
  refine e_take (i := 0) (v := ?_) [1, 2, 3, 24, 25, 26, 27] (some 6) rfl (by rfl) (by kernel_rfl) (by kernel_rfl) (by kernel_rfl) (by kernel_rfl) (by kernel_rfl) (by kernel_rfl) (fun _ _ _ h => h) (.inl ⟨by rfl, ?_⟩) HS1 ?_
  rotate_left 1
  · (intro W hW; (try dsimp only at hW); go_simp; try with_reducible rfl)
  try simp only [Act.put, List.setIfInBounds_toArray, List.set_cons_zero, List.set_cons_succ]
  refine e_take (i := 1) (v := ?_) [2, 3, 24, 25, 26, 27] (some 7) rfl (by rfl) (by kernel_rfl) (by kernel_rfl) (by kernel_rfl) (by kernel_rfl) (by kernel_rfl) (by kernel_rfl) (fun _ _ _ h => h) (.inl ⟨by rfl, ?_⟩) HS1 ?_
  rotate_left 1
  · (intro W hW; (try dsimp only at hW); go_simp; try with_reducible rfl)
  try simp only [Act.put, List.setIfInBounds_toArray, List.set_cons_zero, List.set_cons_succ]
  refine e_take (i := 2) (v := ?_) [3, 24, 25, 26, 27] (some 8) rfl (by rfl) (by kernel_rfl) (by kernel_rfl) (by kernel_rfl) (by kernel_rfl) (by kernel_rfl) (by kernel_rfl) (fun _ _ _ h => h) (.inl ⟨by rfl, ?_⟩) HS1 ?_
  rotate_left 1
  · (intro W hW; (try dsimp only at hW); go_simp; try with_reducible rfl)
  try simp only [Act.put, List.setIfInBounds_toArray, List.set_cons_zero, List.set_cons_succ]
  refine e_take (i := 3) (v := ?_) [24, 25, 26, 27] (some 9) rfl (by rfl) (by kernel_rfl) (by kernel_rfl) (by kernel_rfl) (by kernel_rfl) (by kernel_rfl) (by kernel_rfl) (fun _ _ _ h => h) (.inl ⟨by rfl, ?_⟩) HS1 ?_
  rotate_left 1
  · (intro W hW; (try dsimp only at hW); go_simp; try with_reducible rfl)
  try simp only [Act.put, List.setIfInBounds_toArray, List.set_cons_zero, List.set_cons_succ]
  refine e_take (i := 4) (v := ?_) [24, 25, 26, 27] (some 10) rfl (by rfl) (by kernel_rfl) (by kernel_rfl) (by kernel_rfl) (by kernel_rfl) (by kernel_rfl) (by kernel_rfl) (fun _ _ _ h => h) (.inl ⟨by rfl, ?_⟩) HS1 ?_
  rotate_left 1
  · (intro W hW; (try dsimp only at hW); go_simp; try with_reducible rfl)
  try simp only [Act.put, List.setIfInBounds_toArray, List.set_cons_zero, List.set_cons_succ]
  refine e_take (i := 5) (v := ?_) [6, 7, 8, 24, 25, 26, 27] (some 11) rfl (by rfl) (by kernel_rfl) (by kernel_rfl) (by kernel_rfl) (by kernel_rfl) (by kernel_rfl) (by kernel_rfl) (fun _ _ _ h => h) (.inl ⟨by rfl, ?_⟩) HS1 ?_
  rotate_left 1
  · (intro W hW; (try dsimp only at hW); go_simp; try with_reducible rfl)
  try simp only [Act.put, List.setIfInBounds_toArray, List.set_cons_zero, List.set_cons_succ]
  refine e_take (i := 6) (v := ?_) [7, 8, 24, 25, 26, 27] (some 12) rfl (by rfl) (by kernel_rfl) (by kernel_rfl) (by kernel_rfl) (by kernel_rfl) (by kernel_rfl) (by kernel_rfl) (fun _ _ _ h => h) (.inl ⟨by rfl, ?_⟩) HS1 ?_
  rotate_left 1
  · (intro W hW; (try dsimp only at hW); go_simp; try with_reducible rfl)
  try simp only [Act.put, List.setIfInBounds_toArray, List.set_cons_zero, List.set_cons_succ]
  refine e_take (i := 7) (v := ?_) [8, 24, 25, 26, 27] (some 13) rfl (by rfl) (by kernel_rfl) (by kernel_rfl) (by kernel_rfl) (by kernel_rfl) (by kernel_rfl) (by kernel_rfl) (fun _ _ _ h => h) (.inl ⟨by rfl, ?_⟩) HS1 ?_
  rotate_left 1
  · (intro W hW; (try dsimp only at hW); go_simp; try with_reducible rfl)
  try simp only [Act.put, List.setIfInBounds_toArray, List.set_cons_zero, List.set_cons_succ]
  refine e_take (i := 8) (v := ?_) [24, 25, 26, 27] (some 14) rfl (by rfl) (by kernel_rfl) (by kernel_rfl) (by kernel_rfl) (by kernel_rfl) (by kernel_rfl) (by kernel_rfl) (fun _ _ _ h => h) (.inl ⟨by rfl, ?_⟩) HS1 ?_
  rotate_left 1
  · (intro W hW; (try dsimp only at hW); go_simp; try with_reducible rfl)
  try simp only [Act.put, List.setIfInBounds_toArray, List.set_cons_zero, List.set_cons_succ]
  refine e_take (i := 10) (v := ?_) [11, 12, 13, 15, 16, 24, 25, 26, 27] (some 16) rfl (by rfl) (by kernel_rfl) (by kernel_rfl) (by kernel_rfl) (by kernel_rfl) (by kernel_rfl) (by kernel_rfl) (fun _ _ _ h => h) (.inl ⟨by rfl, ?_⟩) HS1 ?_
  rotate_left 1
  · (intro W hW; (try dsimp only at hW); go_simp; try with_reducible rfl)
  try simp only [Act.put, List.setIfInBounds_toArray, List.set_cons_zero, List.set_cons_succ]
  refine e_take (i := 11) (v := ?_) [12, 13, 15, 16, 24, 25, 26, 27] (some 17) rfl (by rfl) (by kernel_rfl) (by kernel_rfl) (by kernel_rfl) (by kernel_rfl) (by kernel_rfl) (by kernel_rfl) (fun _ _ _ h => h) (.inl ⟨by rfl, ?_⟩) HS1 ?_
  rotate_left 1
  · (intro W hW; (try dsimp only at hW); go_simp; try with_reducible rfl)
  try simp only [Act.put, List.setIfInBounds_toArray, List.set_cons_zero, List.set_cons_succ]
  refine e_take (i := 12) (v := ?_) [13, 15, 16, 24, 25, 26, 27] (some 18) rfl (by rfl) (by kernel_rfl) (by kernel_rfl) (by kernel_rfl) (by kernel_rfl) (by kernel_rfl) (by kernel_rfl) (fun _ _ _ h => h) (.inl ⟨by rfl, ?_⟩) HS1 ?_
  rotate_left 1
  · (intro W hW; (try dsimp only at hW); go_simp; try with_reducible rfl)
  try simp only [Act.put, List.setIfInBounds_toArray, List.set_cons_zero, List.set_cons_succ]
  refine e_take (i := 13) (v := ?_) [15, 16, 24, 25, 26, 27] (some 19) rfl (by rfl) (by kernel_rfl) (by kernel_rfl) (by kernel_rfl) (by kernel_rfl) (by kernel_rfl) (by kernel_rfl) (fun _ _ _ h => h) (.inl ⟨by rfl, ?_⟩) HS1 ?_
  rotate_left 1
  · (intro W hW; (try dsimp only at hW); go_simp; try with_reducible rfl)
  try simp only [Act.put, List.setIfInBounds_toArray, List.set_cons_zero, List.set_cons_succ]
  refine e_take (i := 14) (v := ?_) [15, 16, 24, 25, 26, 27] (some 20) rfl (by rfl) (by kernel_rfl) (by kernel_rfl) (by kernel_rfl) (by kernel_rfl) (by kernel_rfl) (by kernel_rfl) (fun _ _ _ h => h) (.inl ⟨by rfl, ?_⟩) HS1 ?_
  rotate_left 1
  · (intro W hW; (try dsimp only at hW); go_simp; try with_reducible rfl)
  try simp only [Act.put, List.setIfInBounds_toArray, List.set_cons_zero, List.set_cons_succ]
  refine e_take (i := 15) (v := ?_) [16, 24, 25, 26, 27] (some 21) rfl (by rfl) (by kernel_rfl) (by kernel_rfl) (by kernel_rfl) (by kernel_rfl) (by kernel_rfl) (by kernel_rfl) (fun _ _ _ h => h) (.inl ⟨by rfl, ?_⟩) HS1 ?_
  rotate_left 1
  · (intro W hW; (try dsimp only at hW); go_simp; try with_reducible rfl)
  try simp only [Act.put, List.setIfInBounds_toArray, List.set_cons_zero, List.set_cons_succ]
  refine e_take (i := 16) (v := ?_) [24, 25, 26, 27] (some 22) rfl (by rfl) (by kernel_rfl) (by kernel_rfl) (by kernel_rfl) (by kernel_rfl) (by kernel_rfl) (by kernel_rfl) (fun _ _ _ h => h) (.inl ⟨by rfl, ?_⟩) HS1 ?_
  rotate_left 1
  · (intro W hW; (try dsimp only at hW); go_simp; try with_reducible rfl)
  try simp only [Act.put, List.setIfInBounds_toArray, List.set_cons_zero, List.set_cons_succ]
  refine e_take (i := 17) (v := ?_) [18, 19, 20, 22, 23, 24, 25, 26, 27] (some 23) rfl (by rfl) (by kernel_rfl) (by kernel_rfl) (by kernel_rfl) (by kernel_rfl) (by kernel_rfl) (by kernel_rfl) (fun _ _ _ h => h) (.inl ⟨by rfl, ?_⟩) HS1 ?_
  rotate_left 1
  · (intro W hW; (try dsimp only at hW); go_simp; try with_reducible rfl)
  try simp only [Act.put, List.setIfInBounds_toArray, List.set_cons_zero, List.set_cons_succ]
  refine e_take (i := 18) (v := ?_) [19, 20, 22, 23, 24, 25, 26, 27] (some 24) rfl (by rfl) (by kernel_rfl) (by kernel_rfl) (by kernel_rfl) (by kernel_rfl) (by kernel_rfl) (by kernel_rfl) (fun _ _ _ h => h) (.inl ⟨by rfl, ?_⟩) HS1 ?_
  rotate_left 1
  · (intro W hW; (try dsimp only at hW); go_simp; try with_reducible rfl)
  try simp only [Act.put, List.setIfInBounds_toArray, List.set_cons_zero, List.set_cons_succ]
  refine e_take (i := 19) (v := ?_) [20, 22, 23, 24, 25, 26, 27] (some 25) rfl (by rfl) (by kernel_rfl) (by kernel_rfl) (by kernel_rfl) (by kernel_rfl) (by kernel_rfl) (by kernel_rfl) (fun _ _ _ h => h) (.inl ⟨by rfl, ?_⟩) HS1 ?_
  rotate_left 1
  · (intro W hW; (try dsimp only at hW); go_simp; try with_reducible rfl)
  try simp only [Act.put, List.setIfInBounds_toArray, List.set_cons_zero, List.set_cons_succ]
  refine e_take (i := 20) (v := ?_) [22, 23, 24, 25, 26, 27] (some 26) rfl (by rfl) (by kernel_rfl) (by kernel_rfl) (by kernel_rfl) (by kernel_rfl) (by kernel_rfl) (by kernel_rfl) (fun _ _ _ h => h) (.inl ⟨by rfl, ?_⟩) HS1 ?_
  rotate_left 1
  · (intro W hW; (try dsimp only at hW); go_simp; try with_reducible rfl)
  try simp only [Act.put, List.setIfInBounds_toArray, List.set_cons_zero, List.set_cons_succ]
  refine e_take (i := 21) (v := ?_) [22, 23, 24, 25, 26, 27] (some 27) rfl (by rfl) (by kernel_rfl) (by kernel_rfl) (by kernel_rfl) (by kernel_rfl) (by kernel_rfl) (by kernel_rfl) (fun _ _ _ h => h) (.inl ⟨by rfl, ?_⟩) HS1 ?_
  rotate_left 1
  · (intro W hW; (try dsimp only at hW); go_simp; try with_reducible rfl)
  try simp only [Act.put, List.setIfInBounds_toArray, List.set_cons_zero, List.set_cons_succ]
  refine e_take (i := 22) (v := ?_) [23, 24, 25, 26, 27] (some 28) rfl (by rfl) (by kernel_rfl) (by kernel_rfl) (by kernel_rfl) (by kernel_rfl) (by kernel_rfl) (by kernel_rfl) (fun _ _ _ h => h) (.inl ⟨by rfl, ?_⟩) HS1 ?_
  rotate_left 1
  · (intro W hW; (try dsimp only at hW); go_simp; try with_reducible rfl)
  try simp only [Act.put, List.setIfInBounds_toArray, List.set_cons_zero, List.set_cons_succ]
  refine e_take (i := 23) (v := ?_) [24, 25, 26, 27] (some 29) rfl (by rfl) (by kernel_rfl) (by kernel_rfl) (by kernel_rfl) (by kernel_rfl) (by kernel_rfl) (by kernel_rfl) (fun _ _ _ h => h) (.inl ⟨by rfl, ?_⟩) HS1 ?_
  rotate_left 1
  · (intro W hW; (try dsimp only at hW); go_simp; try with_reducible rfl)
  try simp only [Act.put, List.setIfInBounds_toArray, List.set_cons_zero, List.set_cons_succ]
  refine e_pure (i := 24) (v := ?_) (some 30) rfl (by rfl) (by kernel_rfl) (by kernel_rfl) (by kernel_rfl) (by kernel_rfl) (fun _ _ _ h => h) (.inl ⟨by rfl, ?_⟩) (.inr HS1) ?_
  rotate_left 1
  · (intro W hW; go_simp; try with_reducible rfl)
  try simp only [Act.put, List.setIfInBounds_toArray, List.set_cons_zero, List.set_cons_succ]
  refine e_one (i := 25) (by kernel_rfl) rfl (by rfl) (fun K hK => ?_)
  simp only [List.getElem_toArray, List.getElem_cons_succ, List.getElem_cons_zero]
  go_simp
  have o1 := own_set HD.out.1.own (k := i) (by have := (List.getElem?_eq_some_iff.1 HD.out.2.1).1; exact this) HI.out.1 y
  have f1 := Fr.store2 w T i2 (i2 + 1) (.int .i64 y.id) (.int .i64 y.rank)
  have H1 := Lib.hid (And.intro (o1.ext (Ext.refl _).drew) (f1.trans (Fr.of_ext (Ext.refl _).drew (fun _ => False)) (fun _ _ h => h.elim)))
  refine hK.out _ _ (fun h => absurd h (by decide)) ?_
  clear hK K HS1 o1 f1 y0 y1 y2 y3 z0 z1 z2 z3 c0 c1
  try simp only [Act.put, List.setIfInBounds_toArray, List.set_cons_zero, List.set_cons_succ]
  generalize ((w.setCell ⟨T, i2, none⟩ (.int .i64 y.id)).setCell ⟨T, i2 + 1, none⟩ (.int .i64 y.rank)).drew = W1 at *
  obtain ⟨x', hx'⟩ : ∃ x', (L.set i y)[j]? = some x' := ⟨(L.set i y)[j]'(by have := (List.getElem?_eq_some_iff.1 HD.out.2.2.1).1; simpa using this), List.getElem?_eq_getElem _⟩
  obtain ⟨y0, y1, z0, z1⟩ := own_at H1.out.1 hx' HI.out.2
  refine e_pure (i := 26) (v := ?_) (some 31) rfl (by rfl) (by kernel_rfl) (by kernel_rfl) (by kernel_rfl) (by kernel_rfl) (fun _ _ _ h => h) (.inl ⟨by rfl, ?_⟩) (.inl (by kernel_rfl)) ?_
  rotate_left 1
  · (intro W hW; go_simp; try with_reducible rfl)
  try simp only [Act.put, List.setIfInBounds_toArray, List.set_cons_zero, List.set_cons_succ]
  refine e_one (i := 27) (by kernel_rfl) rfl (by rfl) (fun K hK => ?_)
  simp only [List.getElem_toArray, List.getElem_cons_succ, List.getElem_cons_zero]
  go_simp
  have o2 := own_set H1.out.1 (k := j) (List.getElem?_eq_some_iff.1 hx').1 HI.out.2 x
  have f2 := H1.out.2.trans (Fr.store2 W1 T j2 (j2 + 1) (.int .i64 x.id) (.int .i64 x.rank)) (fun _ _ h => h)
  rw [show (L.set i y).set j x = swapL L i j by rw [← HXY.out.1, ← HXY.out.2]; rfl] at o2
  have H2 := Lib.hid (And.intro o2 f2)
  refine hK.out _ _ (fun h => absurd h (by decide)) ?_
  clear hK K o2 f2 y0 y1 z0 z1 hx' H1
  try simp only [Act.put, List.setIfInBounds_toArray, List.set_cons_zero, List.set_cons_succ]
  generalize (W1.setCell ⟨T, j2, none⟩ (.int .i64 x.id)).setCell ⟨T, j2 + 1, none⟩ (.int .i64 x.rank) = W2 at *
  refine e_done (by kernel_rfl) ?_ _
  go_upto_region 1 with (fail)
  have hlen := HD.out.2.2.2.2
  have hi : i < L.length := (List.getElem?_eq_some_iff.1 HD.out.2.1).1
  have hj : j < L.length := (List.getElem?_eq_some_iff.1 HD.out.2.2.1).1
  have hsi : (swapL L i j)[i]? = some y := by
    rw [at_some (by rw [swapL_len]; exact hi), at_swap hi hj, ← HXY.out.2]
    split
    · rename_i e; rw [e]
    · rw [if_pos rfl]
  have hsj : (swapL L i j)[j]? = some x := by rw [at_some (by rw [swapL_len]; exact hj), at_swap hi hj, if_pos rfl, HXY.out.1]
  obtain ⟨f, m, hm, hmZ, hix⟩ := HD.out.1.map
  have hm2 : MapI Tryd.prog 3 W2.drew b m f := (hm.fr H2.out.2 (fun e => HL.out.2.2 e.symm)).ext (Ext.refl W2).drew
  have hyr : i64 y.id := HD.out.1.rng y (by rw [← HXY.out.2]; exact at_mem hj)
  have hxr : i64 x.id := HD.out.1.rng x (by rw [← HXY.out.1]; exact at_mem hi)
  have hZ := HD.out.2.2.2.1
  obtain ⟨v0, st0, r1, hst1⟩ := hm2.entry (t := 61) Tryd.underlying61 Tryd.underlying3 (z := .int .i64 0) (by kernel_rfl) (by omega) hyr (by rw [← HXY.out.2, hix.here j _ (at_some hj)]; rfl)
  obtain ⟨W3, r2, m3, f3⟩ := hst1 (.int .i64 (i : Int))
  obtain ⟨v1, st1, r3, hst2⟩ := m3.entry (t := 61) Tryd.underlying61 Tryd.underlying3 (z := .int .i64 0) (by kernel_rfl) (by omega) hxr (by
    split
    · rfl
    · rw [← HXY.out.1, hix.here i _ (at_some hi)]; rfl)
  obtain ⟨W4, r4, m4, f4⟩ := hst2 (.int .i64 (j : Int))
  have b1 := (H2.out.2.block g HD.out.1.lt.1 (fun e => HL.out.2.1 e.symm)).trans HD.out.1.blk
  have hs := hix.swap hi hj
  rw [HXY.out.1, HXY.out.2] at hs
  have F4 : Fr w W4 (fun k => k = b ∨ (some (⟨T, 0, none⟩ : Addr)).map (·.block) = some k) := (((H2.out.2.mono (Q := fun k => k = b ∨ (some (⟨T, 0, none⟩ : Addr)).map (·.block) = some k) (fun q _ e => .inr (by rw [e]; rfl))).trans (Fr.of_ext (Ext.refl W2).drew (fun _ => False)) (fun _ _ h => h.elim)).trans f3 (fun _ _ e => .inl e)).trans f4 (fun _ _ e => .inl e)
  have o4 : Own W4 0 34 2 (some ⟨T, 0, none⟩) n c (trows (swapL L i j)).flatten := f4.own (f3.own (H2.out.1.ext (Ext.refl W2).drew) (fun a ha e => by injection ha with ha; subst ha; exact HL.out.2.2 e)) (fun a ha e => by injection ha with ha; subst ha; exact HL.out.2.2 e)
  have HE : Hid (TK w W4 g b (some ⟨T, 0, none⟩) n c (swapL L i j) (Z + 2) ty) := Lib.hid ⟨⟨(F4.block g HD.out.1.lt.1 (fun e => by
      rcases e with e | e
      · exact HD.out.1.bg e.symm
      · exact HL.out.2.1 (by injection e))).trans HD.out.1.blk, ⟨_, m + 1 + 1, m4, by omega, hs⟩, o4, fun z hz => HD.out.1.rng z ((swap_mem hi hj z).1 hz), HD.out.1.bg, HD.out.1.ag⟩, F4⟩
  obtain ⟨y0, _, _, _⟩ := own_at (w := W2.drew) (H2.out.1.ext (Ext.refl W2).drew) hsi HI.out.1
  obtain ⟨y2, _, _, _⟩ := own_at (w := W2.drew) (H2.out.1.ext (Ext.refl W2).drew) hsj HI.out.2
  have c0 := block_cell (w := W2.drew) (show W2.drew.heap[g]? = _ from b1) 0
  have c1 := block_cell (w := W2.drew) (show W2.drew.heap[g]? = _ from b1) 1
  have HS1 : W2.drew.cell? ⟨g, 0, none⟩ = some (.slice (some ⟨T, 0, none⟩) n c) ∧ W2.drew.cell? ⟨g, 1, none⟩ = some (.map (some b)) ∧ W2.drew.cell? ⟨T, i2, none⟩ = some (.int .i64 y.id) ∧ W2.drew.cell? ⟨T, j2, none⟩ = some (.int .i64 x.id) := ⟨c0, c1, y0, y2⟩
  clear hlen hi hj hsi hsj hix hm hm2 hmZ hyr hxr hZ hst1 hst2 m3 m4 f3 f4 b1 hs F4 o4 y0 y2 c0 c1 H2
  refine e_region (fun W : World => W.cell? ⟨g, 0, none⟩ = some (.slice (some ⟨T, 0, none⟩) n c) ∧ W.cell? ⟨g, 1, none⟩ = some (.map (some b)) ∧ W.cell? ⟨T, i2, none⟩ = some (.int .i64 y.id) ∧ W.cell? ⟨T, j2, none⟩ = some (.int .i64 x.id)) [28, 31] (by kernel_rfl) ?_
  refine e_pure (i := 24) (v := ?_) (some 56) rfl (by rfl) (by kernel_rfl) (by kernel_rfl) (by kernel_rfl) (by kernel_rfl) (fun _ _ _ h => h) (.inl ⟨by rfl, ?_⟩) (.inr HS1) ?_
  rotate_left 1
  · (intro W hW; go_simp; try with_reducible rfl)
  try simp only [Act.put, List.setIfInBounds_toArray, List.set_cons_zero, List.set_cons_succ]
  refine e_pure (i := 25) (v := ?_) (some 57) rfl (by rfl) (by kernel_rfl) (by kernel_rfl) (by kernel_rfl) (by kernel_rfl) (fun _ _ _ h => h) (.inl ⟨by rfl, ?_⟩) (.inr HS1) ?_
  rotate_left 1
  · (intro W hW; go_simp; try with_reducible rfl)
  try simp only [Act.put, List.setIfInBounds_toArray, List.set_cons_zero, List.set_cons_succ]
  refine e_take (i := 0) (v := ?_) [1, 2, 3, 26, 27, 28, 29, 30, 31] (some 32) rfl (by rfl) (by kernel_rfl) (by kernel_rfl) (by kernel_rfl) (by kernel_rfl) (by kernel_rfl) (by kernel_rfl) (fun _ _ _ h => h) (.inl ⟨by rfl, ?_⟩) HS1 ?_
  rotate_left 1
  · (intro W hW; (try dsimp only at hW); go_simp; try with_reducible rfl)
  try simp only [Act.put, List.setIfInBounds_toArray, List.set_cons_zero, List.set_cons_succ]
  refine e_take (i := 1) (v := ?_) [2, 3, 26, 27, 28, 29, 30, 31] (some 33) rfl (by rfl) (by kernel_rfl) (by kernel_rfl) (by kernel_rfl) (by kernel_rfl) (by kernel_rfl) (by kernel_rfl) (fun _ _ _ h => h) (.inl ⟨by rfl, ?_⟩) HS1 ?_
  rotate_left 1
  · (intro W hW; (try dsimp only at hW); go_simp; try with_reducible rfl)
  try simp only [Act.put, List.setIfInBounds_toArray, List.set_cons_zero, List.set_cons_succ]
  refine e_take (i := 2) (v := ?_) [3, 26, 27, 28, 29, 30, 31] (some 34) rfl (by rfl) (by kernel_rfl) (by kernel_rfl) (by kernel_rfl) (by kernel_rfl) (by kernel_rfl) (by kernel_rfl) (fun _ _ _ h => h) (.inl ⟨by rfl, ?_⟩) HS1 ?_
  rotate_left 1
  · (intro W hW; (try dsimp only at hW); go_simp; try with_reducible rfl)
  try simp only [Act.put, List.setIfInBounds_toArray, List.set_cons_zero, List.set_cons_succ]
  refine e_take (i := 3) (v := ?_) [26, 27, 28, 29, 30, 31] (some 35) rfl (by rfl) (by kernel_rfl) (by kernel_rfl) (by kernel_rfl) (by kernel_rfl) (by kernel_rfl) (by kernel_rfl) (fun _ _ _ h => h) (.inl ⟨by rfl, ?_⟩) HS1 ?_
  rotate_left 1
  · (intro W hW; (try dsimp only at hW); go_simp; try with_reducible rfl)
  try simp only [Act.put, List.setIfInBounds_toArray, List.set_cons_zero, List.set_cons_succ]
  refine e_take (i := 4) (v := ?_) [5, 6, 7, 9, 10, 11, 26, 27, 28, 29, 30, 31] (some 36) rfl (by rfl) (by kernel_rfl) (by kernel_rfl) (by kernel_rfl) (by kernel_rfl) (by kernel_rfl) (by kernel_rfl) (fun _ _ _ h => h) (.inl ⟨by rfl, ?_⟩) HS1 ?_
  rotate_left 1
  · (intro W hW; (try dsimp only at hW); go_simp; try with_reducible rfl)
  try simp only [Act.put, List.setIfInBounds_toArray, List.set_cons_zero, List.set_cons_succ]
  refine e_take (i := 5) (v := ?_) [6, 7, 9, 10, 11, 26, 27, 28, 29, 30, 31] (some 37) rfl (by rfl) (by kernel_rfl) (by kernel_rfl) (by kernel_rfl) (by kernel_rfl) (by kernel_rfl) (by kernel_rfl) (fun _ _ _ h => h) (.inl ⟨by rfl, ?_⟩) HS1 ?_
  rotate_left 1
  · (intro W hW; (try dsimp only at hW); go_simp; try with_reducible rfl)
  try simp only [Act.put, List.setIfInBounds_toArray, List.set_cons_zero, List.set_cons_succ]
  refine e_take (i := 6) (v := ?_) [7, 9, 10, 11, 26, 27, 28, 29, 30, 31] (some 38) rfl (by rfl) (by kernel_rfl) (by kernel_rfl) (by kernel_rfl) (by kernel_rfl) (by kernel_rfl) (by kernel_rfl) (fun _ _ _ h => h) (.inl ⟨by rfl, ?_⟩) HS1 ?_
  rotate_left 1
  · (intro W hW; (try dsimp only at hW); go_simp; try with_reducible rfl)
  try simp only [Act.put, List.setIfInBounds_toArray, List.set_cons_zero, List.set_cons_succ]
  refine e_take (i := 7) (v := ?_) [9, 10, 11, 26, 27, 28, 29, 30, 31] (some 39) rfl (by rfl) (by kernel_rfl) (by kernel_rfl) (by kernel_rfl) (by kernel_rfl) (by kernel_rfl) (by kernel_rfl) (fun _ _ _ h => h) (.inl ⟨by rfl, ?_⟩) HS1 ?_
  rotate_left 1
  · (intro W hW; (try dsimp only at hW); go_simp; try with_reducible rfl)
  try simp only [Act.put, List.setIfInBounds_toArray, List.set_cons_zero, List.set_cons_succ]
  refine e_take (i := 8) (v := ?_) [9, 10, 11, 26, 27, 28, 29, 30, 31] (some 40) rfl (by rfl) (by kernel_rfl) (by kernel_rfl) (by kernel_rfl) (by kernel_rfl) (by kernel_rfl) (by kernel_rfl) (fun _ _ _ h => h) (.inl ⟨by rfl, ?_⟩) HS1 ?_
  rotate_left 1
  · (intro W hW; (try dsimp only at hW); go_simp; try with_reducible rfl)
  try simp only [Act.put, List.setIfInBounds_toArray, List.set_cons_zero, List.set_cons_succ]
  refine e_take (i := 9) (v := ?_) [10, 11, 26, 27, 28, 29, 30, 31] (some 41) rfl (by rfl) (by kernel_rfl) (by kernel_rfl) (by kernel_rfl) (by kernel_rfl) (by kernel_rfl) (by kernel_rfl) (fun _ _ _ h => h) (.inl ⟨by rfl, ?_⟩) HS1 ?_
  rotate_left 1
  · (intro W hW; (try dsimp only at hW); go_simp; try with_reducible rfl)
  try simp only [Act.put, List.setIfInBounds_toArray, List.set_cons_zero, List.set_cons_succ]
  refine e_take (i := 10) (v := ?_) [11, 26, 27, 28, 29, 30, 31] (some 42) rfl (by rfl) (by kernel_rfl) (by kernel_rfl) (by kernel_rfl) (by kernel_rfl) (by kernel_rfl) (by kernel_rfl) (fun _ _ _ h => h) (.inl ⟨by rfl, ?_⟩) HS1 ?_
  rotate_left 1
  · (intro W hW; (try dsimp only at hW); go_simp; try with_reducible rfl)
  try simp only [Act.put, List.setIfInBounds_toArray, List.set_cons_zero, List.set_cons_succ]
  refine e_take (i := 11) (v := ?_) [26, 27, 28, 29, 30, 31] (some 43) rfl (by rfl) (by kernel_rfl) (by kernel_rfl) (by kernel_rfl) (by kernel_rfl) (by kernel_rfl) (by kernel_rfl) (fun _ _ _ h => h) (.inl ⟨by rfl, ?_⟩) HS1 ?_
  rotate_left 1
  · (intro W hW; (try dsimp only at hW); go_simp; try with_reducible rfl)
  try simp only [Act.put, List.setIfInBounds_toArray, List.set_cons_zero, List.set_cons_succ]
  refine e_take (i := 12) (v := ?_) [13, 14, 15, 26, 27, 28, 29, 30, 31] (some 44) rfl (by rfl) (by kernel_rfl) (by kernel_rfl) (by kernel_rfl) (by kernel_rfl) (by kernel_rfl) (by kernel_rfl) (fun _ _ _ h => h) (.inl ⟨by rfl, ?_⟩) HS1 ?_
  rotate_left 1
  · (intro W hW; (try dsimp only at hW); go_simp; try with_reducible rfl)
  try simp only [Act.put, List.setIfInBounds_toArray, List.set_cons_zero, List.set_cons_succ]
  refine e_take (i := 13) (v := ?_) [14, 15, 26, 27, 28, 29, 30, 31] (some 45) rfl (by rfl) (by kernel_rfl) (by kernel_rfl) (by kernel_rfl) (by kernel_rfl) (by kernel_rfl) (by kernel_rfl) (fun _ _ _ h => h) (.inl ⟨by rfl, ?_⟩) HS1 ?_
  rotate_left 1
  · (intro W hW; (try dsimp only at hW); go_simp; try with_reducible rfl)
  try simp only [Act.put, List.setIfInBounds_toArray, List.set_cons_zero, List.set_cons_succ]
  refine e_take (i := 14) (v := ?_) [15, 26, 27, 28, 29, 30, 31] (some 46) rfl (by rfl) (by kernel_rfl) (by kernel_rfl) (by kernel_rfl) (by kernel_rfl) (by kernel_rfl) (by kernel_rfl) (fun _ _ _ h => h) (.inl ⟨by rfl, ?_⟩) HS1 ?_
  rotate_left 1
  · (intro W hW; (try dsimp only at hW); go_simp; try with_reducible rfl)
  try simp only [Act.put, List.setIfInBounds_toArray, List.set_cons_zero, List.set_cons_succ]
  refine e_take (i := 15) (v := ?_) [26, 27, 28, 29, 30, 31] (some 47) rfl (by rfl) (by kernel_rfl) (by kernel_rfl) (by kernel_rfl) (by kernel_rfl) (by kernel_rfl) (by kernel_rfl) (fun _ _ _ h => h) (.inl ⟨by rfl, ?_⟩) HS1 ?_
  rotate_left 1
  · (intro W hW; (try dsimp only at hW); go_simp; try with_reducible rfl)
  try simp only [Act.put, List.setIfInBounds_toArray, List.set_cons_zero, List.set_cons_succ]
  refine e_take (i := 16) (v := ?_) [17, 18, 19, 21, 22, 23, 26, 27, 28, 29, 30, 31] (some 48) rfl (by rfl) (by kernel_rfl) (by kernel_rfl) (by kernel_rfl) (by kernel_rfl) (by kernel_rfl) (by kernel_rfl) (fun _ _ _ h => h) (.inl ⟨by rfl, ?_⟩) HS1 ?_
  rotate_left 1
  · (intro W hW; (try dsimp only at hW); go_simp; try with_reducible rfl)
  try simp only [Act.put, List.setIfInBounds_toArray, List.set_cons_zero, List.set_cons_succ]
  refine e_take (i := 17) (v := ?_) [18, 19, 21, 22, 23, 26, 27, 28, 29, 30, 31] (some 49) rfl (by rfl) (by kernel_rfl) (by kernel_rfl) (by kernel_rfl) (by kernel_rfl) (by kernel_rfl) (by kernel_rfl) (fun _ _ _ h => h) (.inl ⟨by rfl, ?_⟩) HS1 ?_
  rotate_left 1
  · (intro W hW; (try dsimp only at hW); go_simp; try with_reducible rfl)
  try simp only [Act.put, List.setIfInBounds_toArray, List.set_cons_zero, List.set_cons_succ]
  refine e_take (i := 18) (v := ?_) [19, 21, 22, 23, 26, 27, 28, 29, 30, 31] (some 50) rfl (by rfl) (by kernel_rfl) (by kernel_rfl) (by kernel_rfl) (by kernel_rfl) (by kernel_rfl) (by kernel_rfl) (fun _ _ _ h => h) (.inl ⟨by rfl, ?_⟩) HS1 ?_
  rotate_left 1
  · (intro W hW; (try dsimp only at hW); go_simp; try with_reducible rfl)
  try simp only [Act.put, List.setIfInBounds_toArray, List.set_cons_zero, List.set_cons_succ]
  refine e_take (i := 19) (v := ?_) [21, 22, 23, 26, 27, 28, 29, 30, 31] (some 51) rfl (by rfl) (by kernel_rfl) (by kernel_rfl) (by kernel_rfl) (by kernel_rfl) (by kernel_rfl) (by kernel_rfl) (fun _ _ _ h => h) (.inl ⟨by rfl, ?_⟩) HS1 ?_
  rotate_left 1
  · (intro W hW; (try dsimp only at hW); go_simp; try with_reducible rfl)
  try simp only [Act.put, List.setIfInBounds_toArray, List.set_cons_zero, List.set_cons_succ]
  refine e_take (i := 20) (v := ?_) [21, 22, 23, 26, 27, 28, 29, 30, 31] (some 52) rfl (by rfl) (by kernel_rfl) (by kernel_rfl) (by kernel_rfl) (by kernel_rfl) (by kernel_rfl) (by kernel_rfl) (fun _ _ _ h => h) (.inl ⟨by rfl, ?_⟩) HS1 ?_
  rotate_left 1
  · (intro W hW; (try dsimp only at hW); go_simp; try with_reducible rfl)
  try simp only [Act.put, List.setIfInBounds_toArray, List.set_cons_zero, List.set_cons_succ]
  refine e_take (i := 21) (v := ?_) [22, 23, 26, 27, 28, 29, 30, 31] (some 53) rfl (by rfl) (by kernel_rfl) (by kernel_rfl) (by kernel_rfl) (by kernel_rfl) (by kernel_rfl) (by kernel_rfl) (fun _ _ _ h => h) (.inl ⟨by rfl, ?_⟩) HS1 ?_
  rotate_left 1
  · (intro W hW; (try dsimp only at hW); go_simp; try with_reducible rfl)
  try simp only [Act.put, List.setIfInBounds_toArray, List.set_cons_zero, List.set_cons_succ]
  refine e_take (i := 22) (v := ?_) [23, 26, 27, 28, 29, 30, 31] (some 54) rfl (by rfl) (by kernel_rfl) (by kernel_rfl) (by kernel_rfl) (by kernel_rfl) (by kernel_rfl) (by kernel_rfl) (fun _ _ _ h => h) (.inl ⟨by rfl, ?_⟩) HS1 ?_
  rotate_left 1
  · (intro W hW; (try dsimp only at hW); go_simp; try with_reducible rfl)
  try simp only [Act.put, List.setIfInBounds_toArray, List.set_cons_zero, List.set_cons_succ]
  refine e_take (i := 23) (v := ?_) [26, 27, 28, 29, 30, 31] (some 55) rfl (by rfl) (by kernel_rfl) (by kernel_rfl) (by kernel_rfl) (by kernel_rfl) (by kernel_rfl) (by kernel_rfl) (fun _ _ _ h => h) (.inl ⟨by rfl, ?_⟩) HS1 ?_
  rotate_left 1
  · (intro W hW; (try dsimp only at hW); go_simp; try with_reducible rfl)
  try simp only [Act.put, List.setIfInBounds_toArray, List.set_cons_zero, List.set_cons_succ]
  refine e_one (i := 26) (by kernel_rfl) rfl (by rfl) (fun K hK => ?_)
  simp only [List.getElem_toArray, List.getElem_cons_succ, List.getElem_cons_zero]
  go_simp
  refine hK.out _ _ (fun _ _ => HS1) ?_
  clear hK K r1
  try simp only [Act.put, List.setIfInBounds_toArray, List.set_cons_zero, List.set_cons_succ]
  refine e_pure (i := 27) (v := ?_) (some 59) rfl (by rfl) (by kernel_rfl) (by kernel_rfl) (by kernel_rfl) (by kernel_rfl) (fun _ _ _ h => h) (.inl ⟨by rfl, ?_⟩) (.inr HS1) ?_
  rotate_left 1
  · (intro W hW; go_simp; try with_reducible rfl)
  try simp only [Act.put, List.setIfInBounds_toArray, List.set_cons_zero, List.set_cons_succ]
  refine e_one (i := 28) (by kernel_rfl) rfl (by rfl) (fun K hK => ?_)
  simp only [List.getElem_toArray, List.getElem_cons_succ, List.getElem_cons_zero]
  go_simp
  refine hK.out _ _ (fun h => absurd h (by decide)) ?_
  clear hK K r2 HS1
  try simp only [Act.put, List.setIfInBounds_toArray, List.set_cons_zero, List.set_cons_succ]
  refine e_one (i := 29) (by kernel_rfl) rfl (by rfl) (fun K hK => ?_)
  simp only [List.getElem_toArray, List.getElem_cons_succ, List.getElem_cons_zero]
  go_simp
  refine hK.out _ _ (fun _ h => absurd h (by decide)) ?_
  clear hK K r3
  try simp only [Act.put, List.setIfInBounds_toArray, List.set_cons_zero, List.set_cons_succ]
  refine e_pure (i := 30) (v := ?_) (some 61) rfl (by rfl) (by kernel_rfl) (by kernel_rfl) (by kernel_rfl) (by kernel_rfl) (fun _ _ _ h => h) (.inl ⟨by rfl, ?_⟩) (.inl (by kernel_rfl)) ?_
  rotate_left 1
  · (intro W hW; go_simp; try with_reducible rfl)
  try simp only [Act.put, List.setIfInBounds_toArray, List.set_cons_zero, List.set_cons_succ]
  refine e_one (i := 31) (by kernel_rfl) rfl (by rfl) (fun K hK => ?_)
  simp only [List.getElem_toArray, List.getElem_cons_succ, List.getElem_cons_zero]
  go_simp
  refine hK.out _ _ (fun h => absurd h (by decide)) ?_
  clear hK K r4
  try simp only [Act.put, List.setIfInBounds_toArray, List.set_cons_zero, List.set_cons_succ]
  refine e_done (by kernel_rfl) ?_ _
  go_wp2_with fail
  go_returns
  exact ⟨rfl, HE.out⟩
end
end Go.Proofs.YtocjbllkgbjihaaDoor
