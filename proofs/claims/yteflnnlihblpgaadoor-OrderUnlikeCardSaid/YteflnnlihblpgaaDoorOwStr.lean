/-
  The statement WireNumbers, walked.
-/
import Derived.Test.YteflnnlihblpgaaDoorOwText
namespace Go.Proofs.YteflnnlihblpgaaDoor
open Go.RowKit
set_option linter.unusedVariables false
theorem u8s_inj {l m : List Nat} (h : u8s l = u8s m) : l = m := by
  induction l generalizing m with
  | nil => cases m with
    | nil => rfl
    | cons y m => cases h
  | cons x l ih =>
    cases m with
    | nil => cases h
    | cons y m =>
      simp only [u8s, List.map_cons, List.cons.injEq, Value.int.injEq, true_and] at h
      rw [ih h.2, Int.ofNat_inj.1 h.1]
theorem str_inj {l m : List Nat} (hl : ∀ x ∈ l, x < 256) (hm : ∀ x ∈ m, x < 256) (h : str l = str m) : l = m := by
  refine u8s_inj ?_
  rw [← u8s_str l hl, ← u8s_str m hm, h]
end Go.Proofs.YteflnnlihblpgaaDoor
