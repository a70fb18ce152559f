/-
  The document's answer for supply (almonerref10): Legal, Gap.
-/
import Derived.Test.YtimjmacjkefljaaDoorSupBound
import Derived.Deep.RegionWith
namespace Go.Proofs.YtimjmacjkefljaaDoor
open Go.RowKit
set_option linter.unusedVariables false
theorem box3 {w w1 : World} {a b c : Value} {t : TypeId} (hx : Ext (w.alloc (.cells #[a, b, c] t)) w1) :
    w1.cell? ⟨w.heap.size, 0, none⟩ = some a ∧ w1.cell? ⟨w.heap.size, 1, none⟩ = some b ∧ w1.cell? ⟨w.heap.size, 2, none⟩ = some c := by
  have h0 : w.heap.size < (w.alloc (.cells #[a, b, c] t)).heap.size := by show w.heap.size < (w.heap.push _).size; simp
  have h : (w.alloc (.cells #[a, b, c] t)).heap[w.heap.size]? = some (.cells #[a, b, c] t) := heap_alloc_new w _
  refine ⟨(hx.cell h0).trans ?_, (hx.cell h0).trans ?_, (hx.cell h0).trans ?_⟩ <;> simp only [World.cell?, h] <;> rfl
set_option maxHeartbeats 1600000 in
theorem rlegal8_yes (K Q T : Int) (w : World) (h : Legal K Q T) :
    Calls Tryd.prog 11 #[srv K Q T] w fun e w' => e = .returned (.bool true) ∧ Ext w w' := by
  unfold srv
  obtain ⟨h1, h2, h3, h4, h5⟩ := h
  by_cases e1 : K = 1
  · subst e1
    go_enter Tryd.func11, Tryd.ntmps11
    go_wp2_with fail
    go_returns
    exact ⟨rfl, (Ext.refl w).alloc _⟩
  · by_cases e2 : K = 2
    · subst e2
      go_enter Tryd.func11, Tryd.ntmps11
      go_wp2_with fail
      go_returns
      exact ⟨rfl, (Ext.refl w).alloc _⟩
    · obtain rfl : K = 3 := by omega
      go_enter Tryd.func11, Tryd.ntmps11
      go_wp2_with fail
      go_returns
      exact ⟨rfl, (Ext.refl w).alloc _⟩
set_option maxHeartbeats 1600000 in
theorem rlegal8_no (K Q T : Int) (w : World) (h : ¬ Legal K Q T) :
    Calls Tryd.prog 11 #[srv K Q T] w fun e w' => e = .returned (.bool false) ∧ Ext w w' := by
  unfold Legal at h
  unfold srv
  by_cases h0 : K < 1 ∨ K > 3
  · have k1 : (K == 1) = false := by simp; omega
    have k2 : (K == 2) = false := by simp; omega
    have k3 : (K == 3) = false := by simp; omega
    clear h h0
    go_enter Tryd.func11, Tryd.ntmps11
    go_wp2_with fail
    go_returns
    exact ⟨rfl, (Ext.refl w).alloc _⟩
  · have hk : K = 1 ∨ K = 2 ∨ K = 3 := by omega
    have hq : Q < 1 ∨ (1 ≤ Q ∧ Q > T) ∨ (1 ≤ Q ∧ Q ≤ T ∧ T > 256) := by omega
    clear h h0
    rcases hk with rfl | rfl | rfl <;> rcases hq with h | ⟨h1, h⟩ | ⟨h1, h2, h⟩
    all_goals
      go_enter Tryd.func11, Tryd.ntmps11
      go_wp2_with fail
      go_returns
      first
        | exact ⟨rfl, (Ext.refl w).alloc _⟩
        | (refine ⟨?_, (Ext.refl w).alloc _⟩; simp; omega)
set_option maxHeartbeats 800000 in
theorem rlegal_row {K Q T g q t : Int} (w : World) (h : Row K Q T g q t) :
    Calls Tryd.prog 6 #[srv K Q T] w fun e w' => e = .returned (.bool true) ∧ Ext w w' := by
  rcases h with ⟨rfl, rfl, rfl, _, _, _⟩ | ⟨h, _, _, _⟩
  · unfold srv
    go_enter Tryd.func6, Tryd.ntmps6
    go_wp2_with fail
    go_returns
    exact ⟨rfl, (Ext.refl w).alloc _⟩
  · have LE := Lib.hid (fun w => rlegal8_yes K Q T w h)
    have hk : (K == 0) = false := by have := h.1; simp; omega
    clear h
    unfold srv at *
    go_enter Tryd.func6, Tryd.ntmps6
    go_wp2_with fail
    refine (LE.out _).mono ?_
    rintro e w1 ⟨rfl, hx⟩
    go_wp2_with fail
    go_returns
    exact ⟨rfl, ((Ext.refl w).alloc _).trans hx⟩
set_option maxHeartbeats 800000 in
theorem rlegal_no {K Q T : Int} (w : World) (h : NoRow K Q T) :
    Calls Tryd.prog 6 #[srv K Q T] w fun e w' => e = .returned (.bool false) ∧ Ext w w' := by
  have LE := Lib.hid (fun w => rlegal8_no K Q T w h.2)
  have h0 := h.1
  clear h
  unfold srv at *
  go_enter Tryd.func6, Tryd.ntmps6
  go_wp2_with fail
  all_goals
    subst_vars
    refine (LE.out _).mono ?_
    rintro e w1 ⟨rfl, hx⟩
    go_wp2_with fail
    go_returns
    exact ⟨rfl, ((Ext.refl w).alloc _).trans hx⟩

set_option maxHeartbeats 800000 in
theorem gap_legal (K Q T : Int) (w : World) (h : Legal K Q T) :
    Calls Tryd.prog 12 #[srv K Q T] w fun e w' => e = .returned (.int .i64 (gapOf K Q T)) ∧ w' = w.alloc (.cells #[.int .i64 K, .int .i64 Q, .int .i64 T] 23) := by
  obtain ⟨h1, h2, h3, h4, h5⟩ := h
  have h0 : (K == 0) = false := by simp; omega
  unfold srv gapOf
  by_cases h6 : K = 3
  · subst h6
    go_enter Tryd.func12, Tryd.ntmps12
    go_wp2_with fail
    go_returns
    exact ⟨rfl, rfl⟩
  · have h7 : (K == 3) = false := by simpa using h6
    rw [if_neg h6]
    go_enter Tryd.func12, Tryd.ntmps12
    go_wp2_with fail
    go_returns
    exact ⟨rfl, rfl⟩

end Go.Proofs.YtimjmacjkefljaaDoor
