/-
  A block's cells; a run of stores into a block.
-/
import Derived.Test.YteflnnlihblpgaaDoorRowAt
import Derived.Deep.MidRow
namespace Go.Proofs.YteflnnlihblpgaaDoor
set_option maxRecDepth 100000
open Go.RowKit
set_option linter.unusedVariables false
theorem block_cell {w : World} {b : Nat} {cs : Array Value} {t : TypeId} (h : w.heap[b]? = some (.cells cs t (0, 0))) (k : Nat) : w.cell? ⟨b, k, none⟩ = cs[k]? := cell_of_row _ _ _ _ _ _ h
theorem block_fz {w : World} {b : Nat} {cs : Array Value} {t : TypeId} (h : w.heap[b]? = some (.cells cs t (0, 0))) (k : Nat) : w.frozen? ⟨b, k, none⟩ = false := by simp only [World.frozen?, h]; simp
theorem block_lt {w : World} {b : Nat} {o : Obj} (h : w.heap[b]? = some o) : b < w.heap.size := (Array.getElem?_eq_some_iff.1 h).1
theorem Own.lt_at {w : World} {base n c : Nat} {e : TypeId} {size : Nat} {A : Option Addr} {xs : List Value} (h : Own w base e size A n c xs) {a : Addr} (ha : A = some a) : a.block < w.heap.size := by
  rcases h.2 with ⟨hn, _⟩ | ⟨g, cap, cur, h1, hb, hgg, rest⟩
  · injection hn with hn
    rw [ha] at hn
    cases hn
  · injection h1 with h1
    rw [ha] at h1
    injection h1 with h1
    subst h1
    exact (Array.getElem?_eq_some_iff.1 hgg).1
theorem Own.celln {w : World} {base n c g : Nat} {e : TypeId} {size : Nat} {xs : List Value} (h : Own w base e size (some ⟨g, 0, none⟩) n c xs) {k : Nat} {u : Value} (hu : xs[k]? = some u) : w.cell? ⟨g, k, none⟩ = some u := by
  have := World.ownsRow.cells (g := g) h rfl k u hu
  rwa [show (⟨g, 0, none⟩ : Addr).add k = ⟨g, k, none⟩ by unfold Addr.add; split <;> simp_all] at this
/-- What lies behind a run of stores stays. -/
theorem cells_behind {g : Nat} {e : TypeId} : ∀ (vs : List Value) (p : Nat) {w : World} {cur : Array Value}, w.heap[g]? = some (.cells cur e (0, 0)) → ∀ j, p + vs.length ≤ j →
    (match (w.setCells g p vs).heap[g]? with | some (.cells cur' _ _) => cur'[j]? | _ => none) = cur[j]?
  | [], p, w, cur, h, j, _ => by
    show (match w.heap[g]? with | some (.cells cur' _ _) => cur'[j]? | _ => none) = _
    rw [h]
  | v :: vs, p, w, cur, h, j, hj => by
    have h1 := cells_behind vs (p + 1) (heap_setCell_same w g p _ _ v h) j (by simp at hj; omega)
    rw [Array.getElem?_setIfInBounds_ne (by simp at hj; omega)] at h1
    exact h1
/-- A whole block is written. -/
theorem set_block {w : World} {b : Nat} {Z : Array Value} {t : TypeId} {cs : List Value} (h : w.heap[b]? = some (.cells Z t (0, 0))) (hs : cs.length = Z.size) : (w.setCells b 0 cs).heap[b]? = some (.cells cs.toArray t (0, 0)) := by
  obtain ⟨cur, h1, h2, _, h4⟩ := cells_of_stores cs 0 h
  rw [h1]
  congr 2
  apply Array.ext
  · rw [h2]; simp [hs]
  · intro i hi hi2
    have h5 := h4 i cs[i] (List.getElem?_eq_getElem (by simpa using hi2)) (by rw [Nat.zero_add]; omega)
    rw [Nat.zero_add] at h5
    obtain ⟨_, h6⟩ := Array.getElem?_eq_some_iff.1 h5
    rw [h6]
    simp
theorem there_block {w : World} {b : Nat} {Z : Array Value} {t : TypeId} (h : w.heap[b]? = some (.cells Z t (0, 0))) {o n : Nat} (hn : o + n ≤ Z.size) : w.there b o n := fun j hj => by
  rw [block_cell h, block_fz h]
  exact ⟨by rw [Array.getElem?_eq_getElem (by omega)]; rfl, rfl⟩
theorem range_block {w : World} {b : Nat} {cs : List Value} {t : TypeId} (h : w.heap[b]? = some (.cells cs.toArray t (0, 0))) {o : Nat} {ds : List Value} (hd : ∀ j v, ds[j]? = some v → cs[o + j]? = some v) : w.rangeAt b o ds := fun j v hv => by
  rw [block_cell h, List.getElem?_toArray]
  exact hd j v hv
theorem u8s_one' (l : List Nat) : (u8s l).toArray.all (·.oneCell') = true := all_oneCell_toArray (fun u hu => by simp [u8s] at hu; obtain ⟨n, _, rfl⟩ := hu; rfl)
end Go.Proofs.YteflnnlihblpgaaDoor
