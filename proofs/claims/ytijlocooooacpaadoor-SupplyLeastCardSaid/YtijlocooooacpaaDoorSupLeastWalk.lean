/-
  Package supply: Least of every server and number, walked.
-/
import Derived.Test.YtijlocooooacpaaDoorSupLeast
namespace Go.Proofs.YtijlocooooacpaaDoor
open Go.RowKit
set_option linter.unusedVariables false
set_option maxHeartbeats 1600000 in
theorem least_no {K Q T x : Int} (a : Addr) (w : World) (hS : Sen w 0 a) (hK : I64 K) (hQ : I64 Q) (hT : I64 T) (h : NoRow K Q T) :
    Calls Tryd.prog 19 #[srv K Q T, .int .i64 x] w fun e w' => e = NumE 0 (.iface 58 (.pointer (some a))) ∧ Ext w w' := by
  have HO := Lib.hid (fun w' (hx : Ext w w') => of_no K Q T a w' (hS.ext hx) hK hQ hT h.2 h.1)
  clear h hS hK hQ hT
  unfold srv NumE at *
  unfold RowE rowV at HO
  go_enter Tryd.func19, Tryd.ntmps19
  go_wp2_with fail
  refine (HO.out _ ((Ext.refl w).alloc _)).mono ?_
  rintro e w1 ⟨rfl, hx⟩
  go_wp2_with fail
  go_returns
  exact ⟨rfl, ((Ext.refl w).alloc _).trans (hx.alloc _)⟩
set_option maxHeartbeats 1600000 in
theorem least_range {K Q T g q t x : Int} (a : Addr) (w : World) (hS : Sen w 1 a) (h : Row K Q T g q t) (hl : x < 0 ∨ 1099511627776 < x) :
    Calls Tryd.prog 19 #[srv K Q T, .int .i64 x] w fun e w' => e = NumE 0 (.iface 58 (.pointer (some a))) ∧ Ext w w' := by
  have HO := Lib.hid (fun w => of_row w h)
  have SE := Lib.hid (fun w' (hx : Ext w w') => hS.ext hx)
  clear h hS
  unfold srv NumE at *
  unfold RowE rowV at HO
  rcases hl with hl | hl
  all_goals
    go_enter Tryd.func19, Tryd.ntmps19
    go_wp2_with fail
    refine (HO.out _).mono ?_
    rintro e w1 ⟨rfl, hx⟩
    have hx' := ((Ext.refl w).alloc _).trans (hx.alloc (.cells #[.int .i64 g, .int .i64 q, .int .i64 t] 41))
    have c0 := (SE.out _ hx').2.1
    go_wp2_with fail
    go_quiet (fail)
    go_wp2_with fail
    go_returns
    exact ⟨rfl, hx'.drewN _⟩
set_option maxHeartbeats 1600000 in
theorem least_row {K Q T g q t x : Int} (w : World) (h : Row K Q T g q t) (hx0 : 0 ≤ x) (hx1 : x ≤ 1099511627776) (hL : leastOf g q t x ≤ 1099511627776) :
    Calls Tryd.prog 19 #[srv K Q T, .int .i64 x] w fun e w' => e = NumE (leastOf g q t x) .nilIface ∧ Ext w w' := by
  have HO := Lib.hid (fun w => of_row w h)
  obtain ⟨h1, h2, h3, h4, h5, _⟩ := h.bounds
  have RL := Lib.hid (fun w => rleast_any g q t x w h1 (by omega) h3 h4 h5 hx0 hx1)
  rw [decide_eq_true hL] at RL
  generalize leastOf g q t x = L at *
  clear h h1 h2 h3 h4 h5
  unfold srv NumE Pair at *
  unfold RowE rowV at HO
  unfold rowV at RL
  go_enter Tryd.func19, Tryd.ntmps19
  go_wp2_with fail
  refine (HO.out _).mono ?_
  rintro e w1 ⟨rfl, hx⟩
  go_wp2_with fail
  refine (RL.out _).mono ?_
  rintro e w2 ⟨rfl, hx2⟩
  go_wp2_with fail
  go_returns
  exact ⟨rfl, (((Ext.refl w).alloc _).trans (hx.alloc _)).trans hx2⟩
set_option maxHeartbeats 1600000 in
theorem least_over {K Q T g q t x : Int} (a : Addr) (w : World) (hS : Sen w 2 a) (h : Row K Q T g q t) (hx0 : 0 ≤ x) (hx1 : x ≤ 1099511627776) (hL : ¬ leastOf g q t x ≤ 1099511627776) :
    Calls Tryd.prog 19 #[srv K Q T, .int .i64 x] w fun e w' => e = NumE 0 (.iface 58 (.pointer (some a))) ∧ Ext w w' := by
  have HO := Lib.hid (fun w => of_row w h)
  have SE := Lib.hid (fun w' (hx : Ext w w') => hS.ext hx)
  obtain ⟨h1, h2, h3, h4, h5, _⟩ := h.bounds
  have RL := Lib.hid (fun w => rleast_any g q t x w h1 (by omega) h3 h4 h5 hx0 hx1)
  rw [decide_eq_false hL] at RL
  generalize leastOf g q t x = L at *
  clear h h1 h2 h3 h4 h5 hL hS
  unfold srv NumE Pair at *
  unfold RowE rowV at HO
  unfold rowV at RL
  go_enter Tryd.func19, Tryd.ntmps19
  go_wp2_with fail
  refine (HO.out _).mono ?_
  rintro e w1 ⟨rfl, hx⟩
  go_wp2_with fail
  refine (RL.out _).mono ?_
  rintro e w2 ⟨rfl, hx2⟩
  have hx' := (((Ext.refl w).alloc _).trans (hx.alloc _)).trans hx2
  have c0 := (SE.out _ hx').2.1
  go_wp2_with fail
  go_quiet (fail)
  go_wp2_with fail
  go_returns
  exact ⟨rfl, hx'.drewN _⟩
end Go.Proofs.YtijlocooooacpaaDoor
