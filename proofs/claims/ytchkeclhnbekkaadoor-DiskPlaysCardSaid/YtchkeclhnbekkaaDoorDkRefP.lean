/-
  All sectors' bytes in one list.
-/
import Derived.Test.YtchkeclhnbekkaaDoorDkFlush
namespace Go.Proofs.YtchkeclhnbekkaaDoor
set_option maxRecDepth 100000
open Go.RowKit Go.Maps
set_option linter.unusedVariables false
def fl (F : Int → List Nat) (S : Nat) : List Nat := (List.range S).flatMap fun (i : Nat) => F (i : Int)
theorem fl_zero (F : Int → List Nat) : fl F 0 = [] := rfl
theorem fl_succ (F : Int → List Nat) (S : Nat) : fl F (S + 1) = fl F S ++ F (S : Int) := by simp [fl, List.range_succ]
theorem fl_len {F : Int → List Nat} (hF : ∀ y, IsSec (F y)) : ∀ S, (fl F S).length = 64 * S
  | 0 => rfl
  | S + 1 => by rw [fl_succ, List.length_append, fl_len hF S, (hF _).1]; omega
theorem fl_byte {F : Int → List Nat} (hF : ∀ y, IsSec (F y)) : ∀ S, ∀ x ∈ fl F S, x < 256 := by
  intro S x hx
  obtain ⟨i, _, hi⟩ := List.mem_flatMap.1 hx
  exact (hF _).2 x hi
theorem fl_congr {F G : Int → List Nat} : ∀ {S : Nat}, (∀ i : Nat, i < S → F (i : Int) = G (i : Int)) → fl F S = fl G S
  | 0, _ => rfl
  | S + 1, h => by rw [fl_succ, fl_succ, fl_congr (fun i hi => h i (by omega)), h S (by omega)]
theorem fl_chunk {F : Int → List Nat} (hF : ∀ y, IsSec (F y)) : ∀ {S i : Nat}, i < S → ((fl F S).drop (64 * i)).take 64 = F (i : Int)
  | 0, i, h => absurd h (by omega)
  | S + 1, i, h => by
    rw [fl_succ]
    rcases Nat.lt_or_ge i S with hi | hi
    · rw [List.drop_append_of_le_length (by rw [fl_len hF]; omega), List.take_append_of_le_length (by rw [List.length_drop, fl_len hF]; omega), fl_chunk hF hi]
    · obtain rfl : i = S := by omega
      rw [List.drop_append, List.drop_eq_nil_of_le (by rw [fl_len hF]; exact Nat.le_refl _), fl_len hF, Nat.sub_self, List.drop_zero, List.nil_append, List.take_of_length_le (by rw [(hF _).1]; exact Nat.le_refl _)]
/-- The first n bytes of a sector are written. -/
theorem fl_write {F : Int → List Nat} (hF : ∀ y, IsSec (F y)) {x : WrV} (hx : x.s.length = 64) {n : Nat} (hn : n ≤ 64) : ∀ {S i : Nat}, i < S → x.i = (i : Int) → (fl F S).take (64 * i) ++ x.s.take n ++ (fl F S).drop (64 * i + n) = fl (keepW F x n) S
  | 0, i, h, _ => absurd h (by omega)
  | S + 1, i, h, hi => by
    rw [fl_succ, fl_succ]
    rcases Nat.lt_or_ge i S with h1 | h1
    · rw [List.take_append_of_le_length (by rw [fl_len hF]; omega), List.drop_append_of_le_length (by rw [fl_len hF]; omega), ← List.append_assoc, fl_write hF hx hn h1 hi, keepW_other F x n (by omega)]
    · obtain rfl : i = S := by omega
      rw [List.take_append, List.take_of_length_le (by rw [fl_len hF]; exact Nat.le_refl _), fl_len hF, Nat.sub_self, List.take_zero, List.append_nil, List.drop_append, List.drop_eq_nil_of_le (by rw [fl_len hF]; omega), fl_len hF, List.nil_append, show 64 * i + n - 64 * i = n by omega, ← hi, keepW_same, List.append_assoc]
      congr 1
      exact fl_congr (fun j hj => (keepW_other F x n (by omega)).symm)
theorem keepW_all {F : Int → List Nat} {x : WrV} (hF : (F x.i).length = 64) (hx : x.s.length = 64) (y : Int) : keepW F x 64 y = if x.i = y then x.s else F y := by
  by_cases e : x.i = y
  · subst e
    rw [if_pos rfl, keep64 hF hx]
  · rw [if_neg e, keepW_other _ _ _ (fun h => e h.symm)]
/-- A run of cells in a row of the call's own is written. -/
theorem own_setCells {w : World} {base n c T : Nat} {e : TypeId} {xs : List Value} (h : Own w base e 1 (some ⟨T, 0, none⟩) n c xs) {p : Nat} {ds : List Value} (hp : p + ds.length ≤ n) : Own (w.setCells T p ds) base e 1 (some ⟨T, 0, none⟩) n c (xs.take p ++ ds ++ xs.drop (p + ds.length)) := by
  have hl := h.len
  have hcap := h.cap_le
  refine ⟨by rw [List.length_append, List.length_append, List.length_take, List.length_drop]; omega, ?_⟩
  rcases h.2 with ⟨h1, _⟩ | ⟨g, cap, cur, h1, hb, hgg, hnc, hcm, hcs, htk⟩
  · cases h1
  · injection h1 with h1 h2 h3
    injection h1 with h1
    injection h1 with h1
    subst h1 h3
    obtain ⟨cur', k1, k2, k3, k4⟩ := cells_of_stores ds p hgg
    refine .inr ⟨T, c, cur', rfl, hb, k1, hnc, hcm, by rw [k2]; exact hcs, ?_⟩
    apply List.ext_getElem?
    intro j
    have hx : ∀ j, j < n → cur[j]? = xs[j]? := fun j hj => by
      have h5 := congrArg (fun l => l[j]?) htk
      simp only [List.getElem?_take, Array.getElem?_toList] at h5
      rw [if_pos (by omega)] at h5
      exact h5
    rw [List.getElem?_take]
    split
    · rename_i hj
      rw [Array.getElem?_toList]
      rcases Nat.lt_or_ge j p with h5 | h5
      · rw [k3 j h5, List.append_assoc, List.getElem?_append_left (by rw [List.length_take]; omega), List.getElem?_take, if_pos h5, hx j (by omega)]
      · rcases Nat.lt_or_ge j (p + ds.length) with h6 | h6
        · have h7 := k4 (j - p) (ds[j - p]'(by omega)) (List.getElem?_eq_getElem (by omega)) (by omega)
          rw [show p + (j - p) = j by omega] at h7
          rw [h7, List.append_assoc, List.getElem?_append_right (by rw [List.length_take]; omega), List.length_take, Nat.min_eq_left (by omega), List.getElem?_append_left (by omega), List.getElem?_eq_getElem (by omega)]
        · have h7 := cells_behind ds p hgg j h6
          rw [k1] at h7
          have h7 : cur'[j]? = cur[j]? := h7
          rw [h7, hx j (by omega), List.getElem?_append_right (by rw [List.length_append, List.length_take]; omega), List.length_append, List.length_take, Nat.min_eq_left (by omega), List.getElem?_drop, show p + ds.length + (j - (p + ds.length)) = j by omega]
    · rename_i hj
      rw [List.getElem?_eq_none]
      rw [List.length_append, List.length_append, List.length_take, List.length_drop]
      omega
end Go.Proofs.YtchkeclhnbekkaaDoor
