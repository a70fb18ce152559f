/-
  Package tick, the functions that only reckon: Add, Mod; the statements' 'alive'.
-/
import Derived.Test.YtbbkkdbgaoidgaaDoorLib
namespace Go.Proofs.YtbbkkdbgaoidgaaDoor
open Go.RowKit
/-- Does a number fit 64 bits? What is answered for it: itself, or 0. -/
def okB (x : Int) : Bool := decide (-9223372036854775808 ≤ x ∧ x ≤ 9223372036854775807)
def okV (x : Int) : Int := if okB x then x else 0
theorem okB_yes {x : Int} (h : -9223372036854775808 ≤ x ∧ x ≤ 9223372036854775807) : okB x = true := by simp [okB, h]
theorem okB_no {x : Int} (h : ¬ (-9223372036854775808 ≤ x ∧ x ≤ 9223372036854775807)) : okB x = false := by simp only [okB, decide_eq_false_iff_not]; exact h
theorem okV_yes {x : Int} (h : -9223372036854775808 ≤ x ∧ x ≤ 9223372036854775807) : okV x = x := by simp [okV, okB_yes h]
theorem okV_no {x : Int} (h : ¬ (-9223372036854775808 ≤ x ∧ x ≤ 9223372036854775807)) : okV x = 0 := by simp [okV, okB_no h]
/-- The two results of a call that says whether its number fits. -/
def Pair (x : Int) (ok : Bool) : Ending := .returned (.tuple #[.int .i64 x, .bool ok])
def I64 (x : Int) : Prop := -9223372036854775808 ≤ x ∧ x ≤ 9223372036854775807

set_option maxHeartbeats 400000 in
theorem add_any (a b : Int) (w : World) (ha : I64 a) (hb : I64 b) :
    Calls Tryd.prog 14 #[.int .i64 a, .int .i64 b] w fun e w' => e = Pair (okV (a + b)) (okB (a + b)) ∧ w = w' := by
  obtain ⟨a1, a2⟩ := ha
  obtain ⟨b1, b2⟩ := hb
  by_cases h : -9223372036854775808 ≤ a + b ∧ a + b ≤ 9223372036854775807
  · rw [okV_yes h, okB_yes h]
    obtain ⟨h1, h2⟩ := h
    by_cases h3 : 0 ≤ a <;> by_cases h4 : 0 ≤ b
    · have h5 : 0 ≤ a + b := by omega
      go_enter Tryd.func14, Tryd.ntmps14
      go_wp2
      go_ret2
      exact ⟨rfl, rfl⟩
    · go_enter Tryd.func14, Tryd.ntmps14
      go_wp2
      go_ret2
      exact ⟨rfl, rfl⟩
    · go_enter Tryd.func14, Tryd.ntmps14
      go_wp2
      go_ret2
      exact ⟨rfl, rfl⟩
    · have h5 : ¬ 0 ≤ a + b := by omega
      go_enter Tryd.func14, Tryd.ntmps14
      go_wp2
      go_ret2
      exact ⟨rfl, rfl⟩
  · rw [okV_no h, okB_no h]
    by_cases h3 : 0 ≤ a
    · have h4 : 0 ≤ b := by omega
      obtain ⟨c, hc⟩ : ∃ c, wrap64 (a + b) = c := ⟨_, rfl⟩
      have h5 : ¬ 0 ≤ c := by rw [← hc]; unfold wrap64; omega
      clear h
      go_enter Tryd.func14, Tryd.ntmps14
      go_wp2
      go_ret2
      exact ⟨rfl, rfl⟩
    · have h4 : ¬ 0 ≤ b := by omega
      obtain ⟨c, hc⟩ : ∃ c, wrap64 (a + b) = c := ⟨_, rfl⟩
      have h5 : 0 ≤ c := by rw [← hc]; unfold wrap64; omega
      clear h
      go_enter Tryd.func14, Tryd.ntmps14
      go_wp2
      go_ret2
      exact ⟨rfl, rfl⟩

set_option maxHeartbeats 400000 in
theorem alive_any (w : World) : Calls Tryd.prog 5 #[] w fun e w' => e = .returned (.bool true) ∧ w = w' := by
  have h1 := okV_yes (x := 2 + 3) (by omega)
  have h2 := okB_yes (x := 2 + 3) (by omega)
  have h3 := okB_no (x := 9223372036854775807 + 1) (by omega)
  go_enter Tryd.func5, Tryd.ntmps5
  go_wp2_with fail
  refine (add_any 2 3 _ (by unfold I64; omega) (by unfold I64; omega)).mono ?_
  rintro e w' ⟨rfl, rfl⟩
  rw [h1, h2]
  unfold Pair
  go_wp2_with fail
  refine (add_any 9223372036854775807 1 _ (by unfold I64; omega) (by unfold I64; omega)).mono ?_
  rintro e w' ⟨rfl, rfl⟩
  rw [h3]
  unfold Pair
  clear h1 h2 h3
  go_wp2_with fail
  go_ret
  exact ⟨rfl, rfl⟩

theorem tmod_np {a b : Int} (ha : a < 0) : a.tmod b ≤ 0 := by
  have := Int.tmod_nonneg b (a := -a) (by omega)
  rw [Int.neg_tmod] at this
  omega
/-- Go's quotient and remainder at a divisor from 1 on, below 0. -/
theorem tdm_neg {a b : Int} (hb : 1 ≤ b) (ha : a < 0) :
    ∃ q m, a.tdiv b = q ∧ a.tmod b = m ∧ -b < m ∧ m ≤ 0 ∧ a ≤ q ∧ q ≤ 0 ∧ (m = 0 → a / b = q ∧ a % b = 0 ∧ -((-a) / b) = q) ∧ (m < 0 → a / b = q - 1 ∧ a % b = m + b ∧ -((-a) / b) = q ∧ a ≤ q - 1) := by
  refine ⟨a.tdiv b, a.tmod b, rfl, rfl, Int.lt_tmod_of_pos a (by omega), tmod_np ha, ?_⟩
  have e := Int.tmod_add_mul_tdiv a b
  have l := Int.lt_tmod_of_pos a (b := b) (by omega)
  have u := tmod_np (b := b) ha
  generalize a.tdiv b = q at *
  generalize a.tmod b = m at *
  have hq0 : q ≤ 0 := by
    refine Int.le_of_lt_add_one (Int.lt_of_not_ge fun h => ?_)
    have : b * 1 ≤ b * q := Int.mul_le_mul_of_nonneg_left (by omega) (by omega)
    omega
  have hq1 : a ≤ q := by
    have h1 : (b - 1) * q ≤ 0 := Int.mul_nonpos_of_nonneg_of_nonpos (by omega) hq0
    rw [Int.sub_mul] at h1
    omega
  have hneg : -((-a) / b) = q := by
    have : (-a) / b = -q := (Int.ediv_emod_unique (a := -a) (b := b) (q := -q) (r := -m) (by omega) |>.2 ⟨by rw [Int.mul_neg]; omega, by omega, by omega⟩).1
    omega
  refine ⟨hq1, hq0, fun h => ?_, fun h => ?_⟩
  · subst h
    have := (Int.ediv_emod_unique (a := a) (b := b) (q := q) (r := 0) (by omega)).2 ⟨by omega, by omega, by omega⟩
    exact ⟨this.1, this.2, hneg⟩
  · have := (Int.ediv_emod_unique (a := a) (b := b) (q := q - 1) (r := m + b) (by omega)).2 ⟨by rw [Int.mul_sub]; omega, by omega, by omega⟩
    refine ⟨this.1, this.2, hneg, ?_⟩
    have h1 : (b - 2) * q ≤ 0 := Int.mul_nonpos_of_nonneg_of_nonpos (by omega) hq0
    rw [Int.sub_mul] at h1
    omega
theorem neg_div {a b : Int} (hb : 1 ≤ b) : (a % b = 0 → -((-a) / b) = a / b) ∧ (0 < a % b → -((-a) / b) = a / b + 1) := by
  have e := Int.emod_add_mul_ediv a b
  have u := Int.emod_lt_of_pos a (b := b) (by omega)
  have l := Int.emod_nonneg a (b := b) (by omega)
  generalize a / b = q at *
  generalize a % b = m at *
  constructor
  · intro h
    have := (Int.ediv_emod_unique (a := -a) (b := b) (q := -q) (r := 0) (by omega)).2 ⟨by rw [Int.mul_neg]; omega, by omega, by omega⟩
    omega
  · intro h
    have := (Int.ediv_emod_unique (a := -a) (b := b) (q := -q - 1) (r := b - m) (by omega)).2 ⟨by rw [Int.mul_sub, Int.mul_neg]; omega, by omega, by omega⟩
    omega
theorem div_range {a b : Int} (hb : 1 ≤ b) (ha : 0 ≤ a) : 0 ≤ a / b ∧ a / b ≤ a := ⟨Int.ediv_nonneg ha (by omega), Int.ediv_le_self _ ha⟩
theorem mod_range {a b : Int} (hb : 1 ≤ b) : 0 ≤ a % b ∧ a % b < b := ⟨Int.emod_nonneg _ (by omega), Int.emod_lt_of_pos _ (by omega)⟩

set_option maxHeartbeats 400000 in
theorem mod_no (a b : Int) (w : World) (hb : b < 1) :
    Calls Tryd.prog 6 #[.int .i64 a, .int .i64 b] w fun e w' => e = Pair 0 false ∧ w = w' := by
  go_enter Tryd.func6, Tryd.ntmps6
  go_wp2
  go_ret2
  exact ⟨rfl, rfl⟩

set_option maxHeartbeats 400000 in
theorem mod_any (a b : Int) (w : World) (ha : I64 a) (hb : 1 ≤ b) (hb' : b ≤ 9223372036854775807) :
    Calls Tryd.prog 6 #[.int .i64 a, .int .i64 b] w fun e w' => e = Pair (a % b) true ∧ w = w' := by
  obtain ⟨a1, a2⟩ := ha
  by_cases h0 : 0 ≤ a
  · obtain ⟨m1, m2⟩ := mod_range (a := a) hb
    go_enter Tryd.func6, Tryd.ntmps6
    go_wp2
    go_ret2
    exact ⟨rfl, rfl⟩
  · obtain ⟨q, m, hq, hm, m1, m2, q1, q2, h1, h2⟩ := tdm_neg hb (a := a) (by omega)
    by_cases h : m = 0
    · subst h
      obtain ⟨_, e1, _⟩ := h1 rfl
      rw [e1]
      clear h1 h2 e1
      go_enter Tryd.func6, Tryd.ntmps6
      go_wp2
      go_ret2
      exact ⟨rfl, rfl⟩
    · obtain ⟨_, e1, _, _⟩ := h2 (by omega)
      have h3 : m < 0 := by omega
      rw [e1]
      clear h1 h2 e1 h
      go_enter Tryd.func6, Tryd.ntmps6
      go_wp2
      go_ret2
      exact ⟨rfl, rfl⟩
end Go.Proofs.YtbbkkdbgaoidgaaDoor
