/-
  An error's value by its number; almonernum.Num of it.
-/
import Derived.Test.YtelnnlfbfbbnaaaDoorNum
namespace Go.Proofs.YtelnnlfbfbbnaaaDoor
open Go.RowKit
set_option linter.unusedVariables false
def errV (E : Nat → Addr) : Nat → Value
  | 0 => .nilIface
  | k + 1 => .iface 86 (.pointer (some (E (gsN.getD k 0))))
theorem num_errV (E : Nat → Addr) (k : Nat) (w : World) (hE : Errs w E) (hk : k ≤ 16) : Calls Tryd.prog 24 #[errV E k] w fun e w' => e = .returned (.int .i64 (k : Int)) ∧ Ext w w' := by
  cases k with
  | zero => exact num_nil w
  | succ k =>
    refine (num_at E k (gsN.getD k 0) w hE ?_).mono fun e w' h => ?_
    · rw [List.getD, List.getElem?_eq_getElem (show k < gsN.length by show k < 16; omega)]; rfl
    · exact h
end Go.Proofs.YtelnnlfbfbbnaaaDoor
