/-
  Package supply: Bound of whatever server; the package's alive.
-/
import Derived.Test.YtimjmacjkefljaaDoorSupPlain
import Derived.Test.YtimjmacjkefljaaDoorMask
namespace Go.Proofs.YtimjmacjkefljaaDoor
open Go.RowKit
set_option linter.unusedVariables false

/-- The row of a legal server, of the whole. -/
def Row (K Q T g q t : Int) : Prop := (K = 0 ∧ Q = 0 ∧ T = 0 ∧ g = 0 ∧ q = 1 ∧ t = 1) ∨ (Legal K Q T ∧ g = gapOf K Q T ∧ q = Q ∧ t = T)
/-- It has none. -/
def NoRow (K Q T : Int) : Prop := ¬ (K = 0 ∧ Q = 0 ∧ T = 0) ∧ ¬ Legal K Q T
theorem row_or (K Q T : Int) : NoRow K Q T ∨ ∃ g q t, Row K Q T g q t := by
  by_cases h : K = 0 ∧ Q = 0 ∧ T = 0
  · exact .inr ⟨0, 1, 1, .inl ⟨h.1, h.2.1, h.2.2, rfl, rfl, rfl⟩⟩
  · by_cases h2 : Legal K Q T
    · exact .inr ⟨_, _, _, .inr ⟨h2, rfl, rfl, rfl⟩⟩
    · exact .inl ⟨h, h2⟩
theorem Row.bounds {K Q T g q t : Int} (h : Row K Q T g q t) : 0 ≤ g ∧ g ≤ 255 ∧ 1 ≤ q ∧ q ≤ t ∧ t ≤ 256 ∧ t - q ≤ g := by
  rcases h with ⟨_, _, _, rfl, rfl, rfl⟩ | ⟨⟨h1, h2, h3, h4, h5⟩, rfl, rfl, rfl⟩
  · omega
  · unfold gapOf
    split <;> omega
theorem of_row {K Q T g q t : Int} (w : World) (h : Row K Q T g q t) :
    Calls Tryd.prog 9 #[srv K Q T] w fun e w' => e = RowE g q t .nilIface ∧ Ext w w' := by
  rcases h with ⟨rfl, rfl, rfl, rfl, rfl, rfl⟩ | ⟨h, rfl, rfl, rfl⟩
  · exact of_whole w
  · exact of_legal _ _ _ w h
theorem bound_row {K Q T g q t l : Int} (w : World) (h : Row K Q T g q t) (hl0 : 0 ≤ l) (hl : l ≤ 1099511627776) :
    Calls Tryd.prog 8 #[srv K Q T, .int .i64 l] w fun e w' => e = NumE (given g q t l) .nilIface ∧ Ext w w' := by
  obtain ⟨h1, h2, h3, h4, h5, _⟩ := h.bounds
  exact bound_core K Q T g q t l w (of_row _ h) h1 (by omega) h3 h4 h5 hl0 hl
set_option maxHeartbeats 800000 in
theorem bound_no {K Q T l : Int} (a : Addr) (w : World) (hS : Sen w 1 a) (hK : I64 K) (hQ : I64 Q) (hT : I64 T) (h : NoRow K Q T) :
    Calls Tryd.prog 8 #[srv K Q T, .int .i64 l] w fun e w' => e = NumE 0 (.iface 42 (.pointer (some a))) ∧ Ext w w' := by
  have HO := Lib.hid (fun w' (hx : Ext w w') => of_no K Q T a w' (hS.ext hx) hK hQ hT h.2 h.1)
  clear h hS hK hQ hT
  unfold srv NumE at *
  unfold RowE rowV at HO
  go_enter Tryd.func8, Tryd.ntmps8
  go_wp2_with fail
  refine (HO.out _ ((Ext.refl w).alloc _)).mono ?_
  rintro e w1 ⟨rfl, hx⟩
  go_wp2_with fail
  go_returns
  exact ⟨rfl, ((Ext.refl w).alloc _).trans (hx.alloc _)⟩

set_option maxHeartbeats 800000 in
theorem alive_any (w : World) : Calls Tryd.prog 4 #[] w fun e w' => e = .returned (.bool true) ∧ Ext w w' := by
  have B1 := Lib.hid (fun w => bound_row (K := 3) (Q := 2) (T := 5) (l := 8) w (.inr ⟨by unfold Legal; omega, rfl, rfl, rfl⟩) (by omega) (by omega))
  have B2 := Lib.hid (fun w => bound_row (K := 1) (Q := 2) (T := 5) (l := 8) w (.inr ⟨by unfold Legal; omega, rfl, rfl, rfl⟩) (by omega) (by omega))
  rw [show given (gapOf 3 2 5) 2 5 8 = 2 by decide] at B1
  rw [show given (gapOf 1 2 5) 2 5 8 = 1 by decide] at B2
  unfold srv NumE at B1 B2
  go_enter Tryd.func4, Tryd.ntmps4
  go_wp2_with fail
  refine (B1.out _).mono ?_
  rintro e w1 ⟨rfl, hx⟩
  go_wp2_with fail
  refine (B2.out _).mono ?_
  rintro e w2 ⟨rfl, hx2⟩
  go_wp2_with fail
  go_returns
  exact ⟨rfl, hx.trans hx2⟩
end Go.Proofs.YtimjmacjkefljaaDoor
