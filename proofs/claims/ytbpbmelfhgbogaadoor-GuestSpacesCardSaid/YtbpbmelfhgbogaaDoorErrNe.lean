/-
  Two errors compared by '!='.
-/
import Derived.Test.YtbpbmelfhgbogaaDoorErr
namespace Go.Proofs.YtbpbmelfhgbogaaDoor
set_option maxRecDepth 100000
open Go.RowKit
set_option linter.unusedVariables false
theorem ne_same (w : World) (a : Addr) : (binOp .neq 29 (.iface 85 (.pointer (some a))) (.iface 85 (.pointer (some a)))).run Tryd.prog w = .ok (.bool false) w := by
  obtain ⟨i, hi, hc⟩ := info_c 85 (by kernel_rfl)
  obtain ⟨j, hj, hs⟩ := info_s 102 (by kernel_rfl)
  simp only [binOp]
  simp [Op.equal, Op.maxDepth, run_equalIn_iface_ptr_same w 9998 a Tryd.underlying29 Tryd.underlying85 hi hc hj]
theorem ne_other {w : World} {g h : Nat} {a b : Addr} (ha : Sen w g a) (hb : Sen w h b) (hne : a ≠ b) :
    (binOp .neq 29 (.iface 85 (.pointer (some a))) (.iface 85 (.pointer (some b)))).run Tryd.prog w = .ok (.bool true) w := by
  obtain ⟨i, hi, hc⟩ := info_c 85 (by kernel_rfl)
  obtain ⟨j, hj, hs⟩ := info_s 102 (by kernel_rfl)
  obtain ⟨_, _, _, ca, ta, h1⟩ := ha
  obtain ⟨_, _, _, cb, tb, h2⟩ := hb
  simp only [binOp]
  simp [Op.equal, Op.maxDepth, run_equalIn_iface_ptr_other w 9998 Tryd.underlying29 Tryd.underlying85 hi hc hj hs hne h1 h2]
end Go.Proofs.YtbpbmelfhgbogaaDoor
