/-
  Package server: New, walked.
-/
import Derived.Test.YtakilnelbmbjdaaDoorSrv2
namespace Go.Proofs.YtakilnelbmbjdaaDoor
open Go.RowKit
set_option linter.unusedVariables false
theorem sv_new {w : World} {g : Nat} {x : Kd} {c : Ck} {wk : Bool} (h : w.heap[g]? = some (.cells #[.int .i64 c.b, .int .i64 c.d, .bool c.on, .int .i64 x.k, .int .i64 x.q, .int .i64 x.t, .int .i64 x.s, .bool wk, .nilFunc] 54 (0, 0))) :
    Sv (w.setCell ⟨g, 8, none⟩ (.func (.func (fnOf x.k)) #[] #[])) g x c wk := heap_setCell_same w g 8 _ _ _ h
/-- What New leaves. -/
def Made (w : World) (x : Kd) (e : Ending) (w' : World) : Prop :=
  ∃ g, e = .returned (.tuple #[.pointer (some ⟨g, 0, none⟩), .nilIface]) ∧ Sv w' g x ⟨0, x.s, false⟩ false ∧ Ext w w' ∧ w.heap.size ≤ g
set_option maxHeartbeats 3200000 in
theorem new1 (Q T now : Int) (w : World) (h : Legal 1 Q T) (hn : 0 ≤ now ∧ now ≤ 1099511627776) :
    Calls Tryd.prog 11 #[srv 1 Q T, .int .i64 now] w (Made w ⟨1, Q, T, now⟩) := by
  have CK := Lib.hid (fun w => check_ok 1 Q T w h)
  unfold srv at *
  go_enter Tryd.func11, Tryd.ntmps11
  go_wp2_with fail
  refine (CK.out _).mono ?_
  rintro e w1 ⟨rfl, rfl⟩
  go_wp2_with fail
  go_returns
  refine ⟨_, rfl, ?_, ((Ext.refl w).alloc _).alloc _ |>.alloc _, by omega⟩
  have hb := heap_alloc_new ((w.alloc (.cells #[.int .i64 1, .int .i64 Q, .int .i64 T] 23)).alloc (.cells #[.int .i64 1, .int .i64 Q, .int .i64 T] 23)) (.cells #[.int .i64 0, .int .i64 now, .bool false, .int .i64 1, .int .i64 Q, .int .i64 T, .int .i64 now, .bool false, .func (.func (fnOf 1)) #[] #[]] 54)
  rw [show ((w.alloc (.cells #[.int .i64 1, .int .i64 Q, .int .i64 T] 23)).alloc (.cells #[.int .i64 1, .int .i64 Q, .int .i64 T] 23)).heap.size = w.heap.size + 1 + 1 by simp] at hb
  exact hb
set_option maxHeartbeats 3200000 in
theorem new2 (Q T now : Int) (w : World) (h : Legal 2 Q T) (hn : 0 ≤ now ∧ now ≤ 1099511627776) :
    Calls Tryd.prog 11 #[srv 2 Q T, .int .i64 now] w (Made w ⟨2, Q, T, now⟩) := by
  have CK := Lib.hid (fun w => check_ok 2 Q T w h)
  unfold srv at *
  go_enter Tryd.func11, Tryd.ntmps11
  go_wp2_with fail
  refine (CK.out _).mono ?_
  rintro e w1 ⟨rfl, rfl⟩
  go_wp2_with fail
  go_returns
  refine ⟨_, rfl, ?_, ((Ext.refl w).alloc _).alloc _ |>.alloc _, by omega⟩
  have hb := heap_alloc_new ((w.alloc (.cells #[.int .i64 2, .int .i64 Q, .int .i64 T] 23)).alloc (.cells #[.int .i64 2, .int .i64 Q, .int .i64 T] 23)) (.cells #[.int .i64 0, .int .i64 now, .bool false, .int .i64 2, .int .i64 Q, .int .i64 T, .int .i64 now, .bool false, .func (.func (fnOf 2)) #[] #[]] 54)
  rw [show ((w.alloc (.cells #[.int .i64 2, .int .i64 Q, .int .i64 T] 23)).alloc (.cells #[.int .i64 2, .int .i64 Q, .int .i64 T] 23)).heap.size = w.heap.size + 1 + 1 by simp] at hb
  exact hb
set_option maxHeartbeats 3200000 in
theorem new3 (Q T now : Int) (w : World) (h : Legal 3 Q T) (hn : 0 ≤ now ∧ now ≤ 1099511627776) :
    Calls Tryd.prog 11 #[srv 3 Q T, .int .i64 now] w (Made w ⟨3, Q, T, now⟩) := by
  have CK := Lib.hid (fun w => check_ok 3 Q T w h)
  unfold srv at *
  go_enter Tryd.func11, Tryd.ntmps11
  go_wp2_with fail
  refine (CK.out _).mono ?_
  rintro e w1 ⟨rfl, rfl⟩
  go_wp2_with fail
  go_returns
  refine ⟨_, rfl, ?_, ((Ext.refl w).alloc _).alloc _ |>.alloc _, by omega⟩
  have hb := heap_alloc_new ((w.alloc (.cells #[.int .i64 3, .int .i64 Q, .int .i64 T] 23)).alloc (.cells #[.int .i64 3, .int .i64 Q, .int .i64 T] 23)) (.cells #[.int .i64 0, .int .i64 now, .bool false, .int .i64 3, .int .i64 Q, .int .i64 T, .int .i64 now, .bool false, .func (.func (fnOf 3)) #[] #[]] 54)
  rw [show ((w.alloc (.cells #[.int .i64 3, .int .i64 Q, .int .i64 T] 23)).alloc (.cells #[.int .i64 3, .int .i64 Q, .int .i64 T] 23)).heap.size = w.heap.size + 1 + 1 by simp] at hb
  exact hb
theorem new_ok (K Q T now : Int) (w : World) (h : Legal K Q T) (hn : 0 ≤ now ∧ now ≤ 1099511627776) :
    Calls Tryd.prog 11 #[srv K Q T, .int .i64 now] w (Made w ⟨K, Q, T, now⟩) := by
  have h' := h
  obtain ⟨h1, h2, _⟩ := h'
  have hk : K = 1 ∨ K = 2 ∨ K = 3 := by omega
  rcases hk with rfl | rfl | rfl
  · exact new1 Q T now w h hn
  · exact new2 Q T now w h hn
  · exact new3 Q T now w h hn
set_option maxHeartbeats 1600000 in
theorem new_kind (K Q T now : Int) (w : World) (h : ¬ Legal K Q T) (hK : I64 K) (hQ : I64 Q) (hT : I64 T) {p : Addr} (hS : Sen w 10 p) :
    Calls Tryd.prog 11 #[srv K Q T, .int .i64 now] w fun e w' => e = .returned (.tuple #[.pointer none, .iface 59 (.pointer (some p))]) ∧ Ext w w' := by
  have CK := Lib.hid (fun w' (hx : Ext w w') => check_no K Q T p w' (hS.ext hx) hK hQ hT h)
  clear h hK hQ hT hS
  unfold srv at *
  go_enter Tryd.func11, Tryd.ntmps11
  go_wp2_with fail
  refine (CK.out _ ((Ext.refl w).alloc _)).mono ?_
  rintro e w1 ⟨rfl, rfl⟩
  go_wp2_with fail
  go_returns
  exact ⟨rfl, ((Ext.refl w).alloc _).alloc _⟩
set_option maxHeartbeats 1600000 in
theorem new_late (K Q T now : Int) (w : World) (h : Legal K Q T) (hn : 1099511627776 < now) {p : Addr} (hS : Sen w 1 p) :
    Calls Tryd.prog 11 #[srv K Q T, .int .i64 now] w fun e w' => e = .returned (.tuple #[.pointer none, .iface 59 (.pointer (some p))]) ∧ Ext w w' := by
  have CK := Lib.hid (fun w => check_ok K Q T w h)
  have cS := (hS.ext (((Ext.refl w).alloc (.cells #[.int .i64 K, .int .i64 Q, .int .i64 T] 23)).alloc (.cells #[.int .i64 K, .int .i64 Q, .int .i64 T] 23))).2.1
  clear h hS
  unfold srv at *
  go_enter Tryd.func11, Tryd.ntmps11
  go_wp2_with fail
  refine (CK.out _).mono ?_
  rintro e w1 ⟨rfl, rfl⟩
  go_wp2_with fail
  go_quiet (fail)
  go_wp2_with fail
  go_returns
  exact ⟨rfl, (((Ext.refl w).alloc _).alloc _).drewN _⟩
set_option maxHeartbeats 1600000 in
theorem new_early (K Q T now : Int) (w : World) (h : Legal K Q T) (hn : now < 0) {p : Addr} (hS : Sen w 1 p) :
    Calls Tryd.prog 11 #[srv K Q T, .int .i64 now] w fun e w' => e = .returned (.tuple #[.pointer none, .iface 59 (.pointer (some p))]) ∧ Ext w w' := by
  have CK := Lib.hid (fun w => check_ok K Q T w h)
  have cS := (hS.ext (((Ext.refl w).alloc (.cells #[.int .i64 K, .int .i64 Q, .int .i64 T] 23)).alloc (.cells #[.int .i64 K, .int .i64 Q, .int .i64 T] 23))).2.1
  clear h hS
  unfold srv at *
  go_enter Tryd.func11, Tryd.ntmps11
  go_wp2_with fail
  refine (CK.out _).mono ?_
  rintro e w1 ⟨rfl, rfl⟩
  go_wp2_with fail
  go_quiet (fail)
  go_wp2_with fail
  go_returns
  exact ⟨rfl, (((Ext.refl w).alloc _).alloc _).drewN _⟩
end Go.Proofs.YtakilnelbmbjdaaDoor
