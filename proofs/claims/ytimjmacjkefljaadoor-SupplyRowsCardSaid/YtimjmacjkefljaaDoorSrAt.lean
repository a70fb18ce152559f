/-
  The document's At, walked.
-/
import Derived.Test.YtimjmacjkefljaaDoorSrRef
import Derived.Deep.RegionHeld3
namespace Go.Proofs.YtimjmacjkefljaaDoor
open Go.RowKit
set_option linter.unusedVariables false
theorem last4 {A B C D : Prop} (h : A ∧ B ∧ C ∧ D) : D := h.2.2.2
/-- Is tick i given? -/
def atB (g q t i : Int) : Bool := decide (g ≤ i ∧ t - q ≤ (i - g) % t)
set_option maxHeartbeats 800000 in
theorem at_whole (i : Int) (w : World) :
    Calls Tryd.prog 7 #[srv 0 0 0, .int .i64 i] w fun e w' => e = .returned (.bool true) ∧ Ext w w' := by
  unfold srv
  go_enter Tryd.func7, Tryd.ntmps7
  go_wp2_with fail
  go_returns
  exact ⟨rfl, (Ext.refl w).alloc _⟩
set_option maxHeartbeats 3200000 in
theorem at_legal (K Q T i : Int) (w : World) (h : Legal K Q T) (hi0 : 0 ≤ i) (hi : i ≤ 1099511627776) :
    Calls Tryd.prog 7 #[srv K Q T, .int .i64 i] w fun e w' => e = .returned (.bool (atB (gapOf K Q T) Q T i)) ∧ Ext w w' := by
  have GA := Lib.hid (fun w => gap_legal K Q T w h)
  obtain ⟨h1, h2, h3, h4, h5⟩ := h
  have h0 : (K == 0) = false := by simp; omega
  have ht : (T == 0) = false := by simp; omega
  obtain ⟨g, hg, hg0, hg1⟩ : ∃ g, gapOf K Q T = g ∧ 0 ≤ g ∧ g ≤ 256 := ⟨_, rfl, by unfold gapOf; split <;> omega, by unfold gapOf; split <;> omega⟩
  rw [hg] at GA ⊢
  clear hg
  unfold srv at *
  by_cases h6 : i < g
  · have e : atB g Q T i = false := by unfold atB; rw [decide_eq_false_iff_not]; omega
    rw [e]
    go_enter Tryd.func7, Tryd.ntmps7
    go_wp2_with fail
    refine (GA.out _).mono ?_
    rintro e w1 ⟨rfl, rfl⟩
    go_wp2_with fail
    go_returns
    exact ⟨rfl, ((Ext.refl w).alloc _).alloc _⟩
  · have hR : Int.tmod (i - g) T = (i - g) % T := Int.tmod_eq_emod_of_nonneg (by omega)
    obtain ⟨R, hR2, r0, r1⟩ : ∃ R, (i - g) % T = R ∧ 0 ≤ R ∧ R < T := ⟨_, rfl, Int.emod_nonneg _ (by omega), Int.emod_lt_of_pos _ (by omega)⟩
    rw [hR2] at hR
    have e : atB g Q T i = decide (T - Q ≤ R) := by
      unfold atB
      rw [hR2]
      exact decide_eq_decide.2 ⟨fun h => h.2, fun h => ⟨by omega, h⟩⟩
    rw [e]
    have HR2 := Lib.hid hR2
    have hTn : ¬ (T = 0) := by omega
    have hwq : IntKind.i64.wrap (T - Q) = T - Q := by rw [IntKind.wrap_i64]; omega
    have hwr : IntKind.i64.wrap (i - g) = i - g := by rw [IntKind.wrap_i64]; omega
    clear hR2
    go_enter Tryd.func7, Tryd.ntmps7
    go_wp2_with fail
    refine (GA.out _).mono ?_
    rintro e w1 ⟨rfl, rfl⟩
    go_wp2_with fail
    obtain ⟨c0, c1, c2⟩ := box3 (w := w) (a := .int .i64 K) (b := .int .i64 Q) (c := .int .i64 T) (t := 23) ((Ext.refl _).alloc (.cells #[.int .i64 K, .int .i64 Q, .int .i64 T] 23))
    have hx : Ext (w.alloc (.cells #[.int .i64 K, .int .i64 Q, .int .i64 T] 23)) ((w.alloc (.cells #[.int .i64 K, .int .i64 Q, .int .i64 T] 23)).alloc (.cells #[.int .i64 K, .int .i64 Q, .int .i64 T] 23)) := (Ext.refl _).alloc _
    have GB := Lib.hid (fun w' (hx : Ext (w.alloc (.cells #[.int .i64 K, .int .i64 Q, .int .i64 T] 23)) w') => (GA.out w').mono fun e w'' (h : e = .returned (.int .i64 g) ∧ w'' = w'.alloc (.cells #[.int .i64 K, .int .i64 Q, .int .i64 T] 23)) =>
      (⟨h.1, (box3 (hx.trans (h.2 ▸ (Ext.refl w').alloc _))).1, (box3 (hx.trans (h.2 ▸ (Ext.refl w').alloc _))).2.1, (box3 (hx.trans (h.2 ▸ (Ext.refl w').alloc _))).2.2, hx.trans (h.2 ▸ (Ext.refl w').alloc _)⟩ :
        e = .returned (.int .i64 g) ∧ w''.cell? ⟨w.heap.size, 0, none⟩ = some (.int .i64 K) ∧ w''.cell? ⟨w.heap.size, 1, none⟩ = some (.int .i64 Q) ∧ w''.cell? ⟨w.heap.size, 2, none⟩ = some (.int .i64 T) ∧ Ext (w.alloc (.cells #[.int .i64 K, .int .i64 Q, .int .i64 T] 23)) w''))
    generalize (w.alloc (.cells #[.int .i64 K, .int .i64 Q, .int .i64 T] 23)).alloc (.cells #[.int .i64 K, .int .i64 Q, .int .i64 T] 23) = w1 at *
    go_region_held3 (fun w' => w'.cell? ⟨w.heap.size, 0, none⟩ = some (.int .i64 K) ∧ w'.cell? ⟨w.heap.size, 1, none⟩ = some (.int .i64 Q) ∧ w'.cell? ⟨w.heap.size, 2, none⟩ = some (.int .i64 T) ∧ Ext (w.alloc (.cells #[.int .i64 K, .int .i64 Q, .int .i64 T] 23)) w')
      (first | (refine ⟨?_, ?_, ?_, ?_⟩ <;> first | assumption | (apply Ext.drew; assumption)))
      (first | (go_at_call 12; refine (GB.out _ ?_).mono ?_; (first | assumption | exact last4 (by assumption)); rintro e w' ⟨rfl, d0, d1, d2, dx⟩))
    all_goals
      go_wp2_with fail
      go_returns
      refine ⟨?_, ((Ext.refl w).alloc _).trans (by first | assumption | exact last4 (by assumption))⟩
      first
        | rfl
        | (show Ending.returned (Value.bool (decide (T - Q ≤ (i - g) % T))) = _; rw [HR2.out])
theorem at_row {K Q T g q t : Int} (i : Int) (w : World) (h : Row K Q T g q t) (hi0 : 0 ≤ i) (hi : i ≤ 1099511627776) :
    Calls Tryd.prog 7 #[srv K Q T, .int .i64 i] w fun e w' => e = .returned (.bool (atB g q t i)) ∧ Ext w w' := by
  rcases h with ⟨rfl, rfl, rfl, rfl, rfl, rfl⟩ | ⟨h, rfl, rfl, rfl⟩
  · have e : atB 0 1 1 i = true := by unfold atB; rw [decide_eq_true_iff, Int.sub_zero, Int.emod_one]; omega
    rw [e]
    exact at_whole i w
  · exact at_legal _ _ _ i w h hi0 hi
end Go.Proofs.YtimjmacjkefljaaDoor
