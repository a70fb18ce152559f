/-
  Package guest: which of two jobs stands ahead, walked.
-/
import Derived.Test.YtbpbmelfhgbogaaDoorGsPlain
import Derived.Test.YtbpbmelfhgbogaaDoorErr
import Derived.StillTailTactics
import Derived.Handy
import Derived.BigQuiet
import Derived.Deep.QuietTactic
namespace Go.Proofs.YtbpbmelfhgbogaaDoor
set_option maxRecDepth 100000
open Go.RowKit
set_option linter.unusedVariables false
set_option maxHeartbeats 800000 in
theorem nan_any (a : Int) (w : World) : Calls Tryd.prog 38 #[.int .i64 a] w fun e w' => e = .returned (.bool false) ∧ w = w' := by
  go_enter Tryd.func38, Tryd.ntmps38
  go_wp2
  go_returns
  exact ⟨rfl, rfl⟩
/-- -1, 0, 1. -/
def cmpI (a b : Int) : Int := if a < b then -1 else if b < a then 1 else 0
theorem cmpI_lt {a b : Int} (h : a < b) : cmpI a b = -1 := by simp [cmpI, h]
theorem cmpI_gt {a b : Int} (h : b < a) : cmpI a b = 1 := by rw [cmpI, if_neg (by omega), if_pos h]
theorem cmpI_eq (a : Int) : cmpI a a = 0 := by simp [cmpI]
set_option maxHeartbeats 800000 in
theorem cmp_any (a b : Int) (w : World) : Calls Tryd.prog 33 #[.int .i64 a, .int .i64 b] w fun e w' => e = .returned (.int .i64 (cmpI a b)) ∧ w = w' := by
  have H := Lib.hid (And.intro (cmpI_lt (a := a) (b := b)) (And.intro (cmpI_gt (a := a) (b := b)) (fun h : a = b => show cmpI a b = 0 by rw [h]; exact cmpI_eq b)))
  rcases Int.lt_trichotomy a b with h | h | h
  · have h1 : ¬ b < a := by omega
    go_enter Tryd.func33, Tryd.ntmps33
    go_wp2_with (go_at_call 38; refine (nan_any _ _).mono ?_; rintro e w' ⟨rfl, rfl⟩)
    go_returns
    exact ⟨by rw [H.out.1 h]; rfl, rfl⟩
  · have h0 := H.out.2.2 h
    have H0 := Lib.hid h0
    subst h
    clear h0 H
    go_enter Tryd.func33, Tryd.ntmps33
    go_wp2_with (go_at_call 38; refine (nan_any _ _).mono ?_; rintro e w' ⟨rfl, rfl⟩)
    go_returns
    exact ⟨by rw [H0.out]; rfl, rfl⟩
  · have h1 : ¬ a < b := by omega
    go_enter Tryd.func33, Tryd.ntmps33
    go_wp2_with (go_at_call 38; refine (nan_any _ _).mono ?_; rintro e w' ⟨rfl, rfl⟩)
    go_returns
    exact ⟨by rw [H.out.2.1 h]; rfl, rfl⟩
set_option maxHeartbeats 1600000 in
theorem or_any (x y : Int) (c g : Nat) (w : World) (h0 : w.cell? ⟨g, 0, none⟩ = some (.int .i64 x)) (h1 : w.cell? ⟨g, 1, none⟩ = some (.int .i64 y)) :
    Calls Tryd.prog 32 #[.slice (some ⟨g, 0, none⟩) 2 c] w fun e w' => e = .returned (.int .i64 (if x = 0 then y else x)) ∧ w = w' := by
  by_cases hx : x = 0
  · rw [if_pos hx]
    subst hx
    by_cases hy : y = 0
    · subst hy
      go_enter Tryd.func32, Tryd.ntmps32
      go_wp2_with fail
      refine wp_loop_rounds 3 ?_
      rw [rounds_succ]
      go_wp2_with fail
      rw [rounds_succ]
      go_wp2_with fail
      rw [rounds_succ]
      go_wp2_with fail
      go_ret
      exact ⟨rfl, rfl⟩
    · have e : (y != 0) = true := by simpa using hy
      go_enter Tryd.func32, Tryd.ntmps32
      go_wp2_with fail
      refine wp_loop_rounds 2 ?_
      rw [rounds_succ]
      go_wp2_with fail
      rw [rounds_succ]
      go_wp2_with fail
      go_ret
      exact ⟨rfl, rfl⟩
  · have e : (x != 0) = true := by simpa using hx
    rw [if_neg hx]
    go_enter Tryd.func32, Tryd.ntmps32
    go_wp2_with fail
    refine wp_loop_rounds 1 ?_
    rw [rounds_succ]
    go_wp2_with fail
    go_ret
    exact ⟨rfl, rfl⟩
/-- A cell of a block that a call made. -/
theorem boxAt {w w1 : World} {cs : Array Value} {t : TypeId} {fr : Nat × Nat} (hx : Ext (w.alloc (.cells cs t fr)) w1) {k : Nat} {v : Value} (hk : cs[k]? = some v) : w1.cell? ⟨w.heap.size, k, none⟩ = some v := by
  have h0 : w.heap.size < (w.alloc (.cells cs t fr)).heap.size := by show w.heap.size < (w.heap.push _).size; simp
  have h : (w.alloc (.cells cs t fr)).heap[w.heap.size]? = some (.cells cs t fr) := heap_alloc_new w _
  refine (hx.cell h0).trans ?_
  simp only [World.cell?, h]
  exact hk
/-- A region whose first n operations only read, behind a name for its world. -/
theorem still_tail_at {P : Program} {id : Nat} {Q : Exit → Act → World → Prop} {a : Act} {w : World} {l : List Oper} (n : Nat) (hm : P.follows .mixedOrders = true) (hB : Region.lexTailB .any l.toArray n = true)
    (h : ∀ W : World, W.heap.size = w.heap.size → Ext w W → wpStill P l.toArray W (fun a' => wpList P l.toArray Q (l.drop n) a' W) (l.take n) a) : (Code.region id l.toArray true).wp P Q a w :=
  wp_region_still_tail n hm hB (h _ rfl (Ext.refl w).drew)
/-- A job's value. -/
def JobV.cells (j : JobV) : List Value := [.int .i64 (j.T : Int), .int .i64 j.R, .int .i64 j.D, .int .i64 j.L, .int .i64 j.N]
abbrev JobV.val (j : JobV) : Value := .agg #[.int .i64 (j.T : Int), .int .i64 j.R, .int .i64 j.D, .int .i64 j.L, .int .i64 j.N]
/-- How two jobs compare. -/
def cmpJ (p : Int) (a b : JobV) : Int := if p = 1 then (if cmpI a.D b.D = 0 then cmpI (a.T : Int) (b.T : Int) else cmpI a.D b.D) else cmpI (a.T : Int) (b.T : Int)
theorem cmpI_neg (a b : Int) : cmpI a b < 0 ↔ a < b := by unfold cmpI; split <;> (try split) <;> omega
theorem cmpI_zero (a b : Int) : cmpI a b = 0 ↔ a = b := by unfold cmpI; split <;> (try split) <;> omega
theorem cmpJ_neg (p : Int) (a b : JobV) : cmpJ p a b < 0 ↔ ahd p a b = true := by
  unfold cmpJ ahd
  by_cases hp : p = 1
  · simp only [hp, if_true, cmpI_zero]
    split
    · rw [cmpI_neg, decide_eq_true_eq]; omega
    · rw [cmpI_neg, decide_eq_true_eq]
  · simp only [hp, if_false]
    rw [cmpI_neg, decide_eq_true_eq]; omega
set_option maxHeartbeats 1600000 in
theorem byd_any (a b : JobV) (w : World) : Calls Tryd.prog 21 #[a.val, b.val] w fun e w' => e = .returned (.int .i64 (cmpJ 1 a b)) ∧ Ext w w' := by
  have C1 := Lib.hid (fun w => cmp_any a.D b.D w)
  have C2 := Lib.hid (fun w => cmp_any (a.T : Int) (b.T : Int) w)
  unfold cmpJ
  rw [if_pos rfl]
  generalize cmpI a.D b.D = x at *
  generalize cmpI (a.T : Int) (b.T : Int) = y at *
  have O := Lib.hid (fun c g w h0 h1 => or_any x y c g w h0 h1)
  unfold JobV.val
  obtain ⟨aT, aR, aD, aL, aN⟩ := a
  obtain ⟨bT, bR, bD, bL, bN⟩ := b
  go_enter Tryd.func21, Tryd.ntmps21
  go_wp2_with fail
  refine still_tail_at 10 (by kernel_rfl) (by kernel_rfl) ?_
  intro W hz hx
  have c0 := boxAt (((Ext.refl _).alloc _).trans hx) (k := 0) (v := .int .i64 (aT : Int)) rfl
  have c1 := boxAt (((Ext.refl _).alloc _).trans hx) (k := 2) (v := .int .i64 aD) rfl
  have c2 := boxAt hx (k := 0) (v := .int .i64 (bT : Int)) rfl
  have c3 := boxAt hx (k := 2) (v := .int .i64 bD) rfl
  have hz' : (w.alloc (.cells #[.int .i64 (aT : Int), .int .i64 aR, .int .i64 aD, .int .i64 aL, .int .i64 aN] 46)).heap.size = w.heap.size + 1 := by simp
  rw [hz'] at c2 c3
  have hw : Ext w W := (((Ext.refl w).alloc _).alloc _).trans hx
  clear hx hz hz'
  simp only [List.take_succ_cons, List.take_zero, List.drop_succ_cons, List.drop_zero]
  repeat still_step
  still_call ((C1.out _).mono fun _ _ ⟨h1, h2⟩ => ⟨h1, h2.symm⟩)
  repeat still_step
  still_call ((C2.out _).mono fun _ _ ⟨h1, h2⟩ => ⟨h1, h2.symm⟩)
  repeat still_step
  refine wpStill_nil ?_
  go_wp2_with fail
  refine (O.out _ _ _ ?_ ?_).mono ?_
  · exact boxAt (Ext.refl _) rfl
  · exact boxAt (Ext.refl _) rfl
  rintro e w1 ⟨rfl, rfl⟩
  go_wp2_with fail
  all_goals
    go_ret
    exact ⟨rfl, hw.alloc _⟩
set_option maxHeartbeats 1600000 in
theorem byo_any (p : Int) (hp : p ≠ 1) (a b : JobV) (w : World) : Calls Tryd.prog 22 #[a.val, b.val] w fun e w' => e = .returned (.int .i64 (cmpJ p a b)) ∧ Ext w w' := by
  have C2 := Lib.hid (fun w => cmp_any (a.T : Int) (b.T : Int) w)
  unfold cmpJ
  rw [if_neg hp]
  generalize cmpI (a.T : Int) (b.T : Int) = y at *
  unfold JobV.val
  obtain ⟨aT, aR, aD, aL, aN⟩ := a
  obtain ⟨bT, bR, bD, bL, bN⟩ := b
  go_enter Tryd.func22, Tryd.ntmps22
  go_wp2_with fail
  refine (C2.out _).mono ?_
  rintro e w1 ⟨rfl, rfl⟩
  go_wp2_with fail
  go_returns
  exact ⟨rfl, ((Ext.refl w).alloc _).alloc _⟩
/-- The function value in a guest's field. -/
def cmpF (p : Int) : Value := if p = 2 then .func (.func 22) #[] #[] else .func (.func 21) #[] #[]
end Go.Proofs.YtbpbmelfhgbogaaDoor
