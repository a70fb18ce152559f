/-
  Rows of elements of several cells: where each lies; a row cut, an element taken out of its middle.
-/
import Derived.Test.YteflnnlihblpgaaDoorMem
import Derived.Test.YteflnnlihblpgaaDoorFr
import Derived.Laws.IdiomCopy
namespace Go.Proofs.YteflnnlihblpgaaDoor
set_option maxRecDepth 100000
open Go.RowKit
set_option linter.unusedVariables false
/-- Each row has 'size' cells. -/
def Even (size : Nat) (rs : List (List Value)) : Prop := ∀ r ∈ rs, r.length = size
section
variable {size : Nat} {rs : List (List Value)}
theorem Even.len : ∀ {rs : List (List Value)}, Even size rs → rs.flatten.length = rs.length * size
  | [], _ => by simp
  | r :: rs, h => by
    rw [List.flatten_cons, List.length_append, Even.len (rs := rs) (fun x hx => h x (by simp [hx])), h r (by simp), List.length_cons, Nat.succ_mul]
    omega
theorem Even.at_ : ∀ {rs : List (List Value)} {k i : Nat} {r : List Value}, Even size rs → rs[k]? = some r → i < size → rs.flatten[k * size + i]? = r[i]?
  | [], _, _, _, _, h, _ => by simp at h
  | x :: rs, k, i, r, he, h, hi => by
    have hx := he x (by simp)
    rw [List.flatten_cons]
    cases k with
    | zero =>
      simp at h
      subst h
      rw [List.getElem?_append_left (by omega)]
      congr 1
      omega
    | succ k =>
      rw [List.getElem?_append_right (by rw [hx, Nat.succ_mul]; omega), ← Even.at_ (rs := rs) (fun y hy => he y (by simp [hy])) (by simpa using h) hi]
      congr 1
      rw [hx, Nat.succ_mul]
      omega
theorem Even.take : ∀ {rs : List (List Value)} (k : Nat), Even size rs → rs.flatten.take (k * size) = (rs.take k).flatten
  | [], _, _ => by simp
  | x :: rs, 0, _ => by simp
  | x :: rs, k + 1, he => by
    have hx := he x (by simp)
    rw [List.flatten_cons, List.take_succ_cons, List.flatten_cons, ← Even.take (rs := rs) k (fun y hy => he y (by simp [hy])), List.take_append, List.take_of_length_le (by rw [hx, Nat.succ_mul]; omega)]
    congr 2
    rw [hx, Nat.succ_mul]
    omega
theorem Even.drop : ∀ {rs : List (List Value)} (k : Nat), Even size rs → rs.flatten.drop (k * size) = (rs.drop k).flatten
  | [], _, _ => by simp
  | x :: rs, 0, _ => by simp
  | x :: rs, k + 1, he => by
    have hx := he x (by simp)
    rw [List.flatten_cons, List.drop_succ_cons, ← Even.drop (rs := rs) k (fun y hy => he y (by simp [hy])), List.drop_append, List.drop_eq_nil_of_le (by rw [hx, Nat.succ_mul]; omega), List.nil_append]
    congr 1
    rw [hx, Nat.succ_mul]
    omega
end
section
variable {w w' : World} {base n c size : Nat} {e : TypeId} {A : Option Addr} {xs : List Value}
/-- The beginning of a row of the call's own. -/
theorem Own.cutTo (h : Own w base e size A n c xs) {k : Nat} (hk : k ≤ n) (hA : A ≠ none ∨ n = k) : Own w base e size A k c (xs.take (k * size)) := by
  have hl : k * size ≤ n * size := Nat.mul_le_mul_right _ hk
  refine ⟨by rw [List.length_take, h.1, Nat.min_eq_left hl], ?_⟩
  rcases h.2 with ⟨hn, h0⟩ | ⟨g, cap, cur, h1, hb, hgg, hnc, hm, hs, ht⟩
  · injection hn with hn1 hn2 hn3
    left
    exact ⟨by rw [hn1, hn3, show k = 0 by omega], by omega⟩
  · injection h1 with h1 h2 h3
    refine .inr ⟨g, cap, cur, by rw [h1, h3], hb, hgg, by omega, hm, hs, ?_⟩
    rw [← ht, List.take_take, Nat.min_eq_left hl]
/-- What stands in a cell of a row of the call's own. -/
theorem Own.rowAt {g : Nat} {rs : List (List Value)} (h : Own w base e size (some ⟨g, 0, none⟩) n c rs.flatten) (he : Even size rs) {k i i0 : Nat} {r : List Value} {u : Value} (hk : rs[k]? = some r) (hi0 : k * size = i0) (hu : r[i]? = some u) : w.cell? ⟨g, i0 + i, none⟩ = some u := by
  have hr := he r (List.mem_of_getElem? hk)
  have hi : i < size := by have := (List.getElem?_eq_some_iff.1 hu).1; omega
  have h1 := he.at_ hk hi
  rw [hu, hi0] at h1
  have c1 := World.ownsRow.cells h (g := g) rfl (i0 + i) u h1
  rwa [show (⟨g, 0, none⟩ : Addr).add (i0 + i) = ⟨g, i0 + i, none⟩ by unfold Addr.add; split <;> simp_all] at c1
theorem Rd.rowAt {ad : Addr} {rs : List (List Value)} (h : Rd w size (some ad) n rs.flatten) (he : Even size rs) {k i i0 : Nat} {r : List Value} {u : Value} (hk : rs[k]? = some r) (hi0 : k * size = i0) (hu : r[i]? = some u) : w.cell? (ad.add (i0 + i)) = some u := by
  have hr := he r (List.mem_of_getElem? hk)
  have hi : i < size := by have := (List.getElem?_eq_some_iff.1 hu).1; omega
  have h1 := he.at_ hk hi
  rw [hu, hi0] at h1
  have hl := h.1
  have hkl : k < rs.length := (List.getElem?_eq_some_iff.1 hk).1
  rw [he.len] at hl
  have hn : 0 < n := by
    rcases Nat.eq_zero_or_pos n with h0 | h0
    · subst h0
      have : 0 < rs.length * size := Nat.mul_pos (by omega) (by omega)
      omega
    · exact h0
  obtain ⟨ad', e1, _, hc⟩ := h.2 hn
  injection e1 with e1
  subst e1
  exact hc _ u h1
theorem Own.capd {g : Nat} (h : Own w base e size (some ⟨g, 0, none⟩) n c xs) : ∃ cur, w.heap[g]? = some (.cells cur e (0, 0)) ∧ n ≤ c ∧ cur.size = c * size := by
  rcases h.2 with ⟨hn, h0⟩ | ⟨g', cap, cur, h1, hb, hgg, hnc, hm, hs, ht⟩
  · cases hn
  · injection h1 with h1 h2 h3
    injection h1 with h1
    injection h1 with h1
    subst h1 h3
    exact ⟨cur, hgg, hnc, hs⟩
theorem Own.roomCell {g : Nat} (h : Own w base e size (some ⟨g, 0, none⟩) n c xs) {j : Nat} (hj : j < c * size) : (w.cell? ⟨g, j, none⟩).isSome = true := by
  obtain ⟨cur, hgg, _, hs⟩ := h.capd
  rw [cell_of_row _ _ _ _ _ _ hgg, Array.getElem?_eq_getElem (by omega)]
  rfl
/-- Cells behind a row's end are written. -/
theorem Own.behind {g : Nat} : ∀ (vs : List Value) (o : Nat) {w : World}, Own w base e size (some ⟨g, 0, none⟩) n c xs → n * size ≤ o → Own (w.setCells g o vs) base e size (some ⟨g, 0, none⟩) n c xs
  | [], _, _, h, _ => h
  | v :: vs, o, w, h, ho => by
    have h1 := h.stored o v
    rw [List.set_eq_of_length_le (by rw [h.1]; exact ho)] at h1
    exact Own.behind vs (o + 1) h1 (by omega)
theorem Fr.setCells {g : Nat} : ∀ (vs : List Value) (o : Nat) (w : World), Fr w (w.setCells g o vs) (· = g)
  | [], _, w => Fr.refl w _
  | v :: vs, o, w => (Fr.store w ⟨g, o, none⟩ v).trans (Fr.setCells vs (o + 1) _) (fun i _ h => h)
end
/-- clear(s), s a slice of n > 0 elements. -/
theorem run_clear_rows {P : Program} {w : World} {t e ty : TypeId} {size bytes b o n c : Nat} {z : Value} (E : Elt P t e size bytes z) (hv : ∀ w, (zeroValue e).run P w = .ok z w) (h1 : ∀ u ∈ (Builtin.zeroCells z.cells n).toList, u.oneCell' = true) (hn : 0 < n)
    (hc : ∀ j, j < n * size → (w.cell? ⟨b, o + j, none⟩).isSome = true) (hf : ∀ j, j < n * size → w.frozen? ⟨b, o + j, none⟩ = false) (hl : (Builtin.zeroCells z.cells n).toList.length = n * size) :
    (Builtin.clear_ #[t] ty #[.slice (some ⟨b, o, none⟩) n c]).run P w = .ok (.tuple #[]) (w.setCells b o (Builtin.zeroCells z.cells n).toList) := by
  have hst := run_storeCells_cells (P := P) b o (Builtin.zeroCells z.cells n).toList 0 w (by rw [hl]; simpa using hc) (by rw [hl]; simpa using hf) h1
  simp only [Nat.add_zero] at hst
  obtain ⟨m, rfl⟩ : ∃ m, n = m + 1 := ⟨n - 1, by omega⟩
  simp [Builtin.clear_, run_underlying E.under, hv, hst]
/-- s[j:], its address under one name. -/
theorem run_slice_from {P : Program} {t e : TypeId} {bytes : Nat} {z : Value} (E : Elt P t e 1 bytes z) (A : Option Addr) (n c : Nat) (k : IntKind) (j : Nat) (h1 : j ≤ n) (h2 : n ≤ c) {X : Option Addr} (hX : (if c = j then A else A.map (·.add j)) = X) (w : World) :
    (Instr.slice t (.slice A n c) (some (.int k (j : Int))) none none).run P w = .ok (.slice X (n - j) (c - j)) w := by
  obtain ⟨i, hi, hz, hs, hby⟩ := info_parts E.info
  subst hX
  simp [Instr.slice, run_underlying E.under, Instr.sliceBounds, run_sliceBound, sizeOf, typeInfo, hi, h1, hs]
end Go.Proofs.YteflnnlihblpgaaDoor
