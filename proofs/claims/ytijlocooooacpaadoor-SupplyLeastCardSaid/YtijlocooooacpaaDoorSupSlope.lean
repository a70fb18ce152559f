/-
  Package supply: Slope, Silence.
-/
import Derived.Test.YtijlocooooacpaaDoorSupBound
namespace Go.Proofs.YtijlocooooacpaaDoor
open Go.RowKit
set_option linter.unusedVariables false
/-- Three numbers and an error. -/
def SlopeE (x y z : Int) (e : Value) : Ending := .returned (.tuple #[.int .i64 x, .int .i64 y, .int .i64 z, e])
set_option maxHeartbeats 800000 in
theorem slope_row {K Q T g q t : Int} (w : World) (h : Row K Q T g q t) :
    Calls Tryd.prog 12 #[srv K Q T] w fun e w' => e = SlopeE q t (g + t - q) .nilIface ∧ Ext w w' := by
  have HO := Lib.hid (fun w => of_row w h)
  obtain ⟨h1, h2, h3, h4, h5, h6⟩ := h.bounds
  clear h
  unfold srv SlopeE at *
  unfold RowE rowV at HO
  go_enter Tryd.func12, Tryd.ntmps12
  go_wp2_with fail
  refine (HO.out _).mono ?_
  rintro e w1 ⟨rfl, hx⟩
  go_wp2_with fail
  go_quiet (fail)
  go_wp2_with fail
  go_returns
  exact ⟨rfl, (((Ext.refl w).alloc _).trans (hx.alloc _)).drewN _⟩
set_option maxHeartbeats 800000 in
theorem slope_no {K Q T : Int} (a : Addr) (w : World) (hS : Sen w 0 a) (hK : I64 K) (hQ : I64 Q) (hT : I64 T) (h : NoRow K Q T) :
    Calls Tryd.prog 12 #[srv K Q T] w fun e w' => e = SlopeE 0 0 0 (.iface 58 (.pointer (some a))) ∧ Ext w w' := by
  have HO := Lib.hid (fun w' (hx : Ext w w') => of_no K Q T a w' (hS.ext hx) hK hQ hT h.2 h.1)
  clear h hS hK hQ hT
  unfold srv SlopeE at *
  unfold RowE rowV at HO
  go_enter Tryd.func12, Tryd.ntmps12
  go_wp2_with fail
  refine (HO.out _ ((Ext.refl w).alloc _)).mono ?_
  rintro e w1 ⟨rfl, hx⟩
  go_wp2_with fail
  go_returns
  exact ⟨rfl, ((Ext.refl w).alloc _).trans (hx.alloc _)⟩
end Go.Proofs.YtijlocooooacpaaDoor
