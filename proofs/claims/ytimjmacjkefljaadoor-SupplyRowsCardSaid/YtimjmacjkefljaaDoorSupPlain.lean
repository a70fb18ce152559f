/-
  A server's row in plain arithmetic: how many of the first l ticks are given.
-/
import Derived.Test.YtimjmacjkefljaaDoorSupWalks
namespace Go.Proofs.YtimjmacjkefljaaDoor
set_option linter.unusedVariables false

/-- The given ticks of the first m behind the gap. -/
def per (q t m : Int) : Int := m / t * q + max 0 (m % t - (t - q))
theorem given_per {g q t l : Int} : given g q t l = if l ≤ g then 0 else per q t (l - g) := rfl
theorem per_zero {q t : Int} (hq : 1 ≤ q) (hqt : q ≤ t) : per q t 0 = 0 := by
  unfold per
  rw [Int.zero_ediv, Int.zero_emod]
  omega
/-- m in periods and a rest. -/
theorem per_at {q t : Int} (hq : 1 ≤ q) (hqt : q ≤ t) (D R : Int) (hR : 0 ≤ R) (hRt : R < t) : per q t (D * t + R) = D * q + max 0 (R - (t - q)) := by
  unfold per
  have h1 : (D * t + R) / t = D := by
    rw [Int.add_comm, Int.add_mul_ediv_right _ _ (by omega), Int.ediv_eq_zero_of_lt hR hRt]
    omega
  have h2 : (D * t + R) % t = R := by
    rw [Int.add_comm, Int.add_mul_emod_self_right, Int.emod_eq_of_lt hR hRt]
  rw [h1, h2]
theorem split {t : Int} (ht : 1 ≤ t) (m : Int) : ∃ D R, m = D * t + R ∧ 0 ≤ R ∧ R < t ∧ (0 ≤ m → 0 ≤ D) :=
  ⟨m / t, m % t, by have := Int.ediv_mul_add_emod m t; omega, Int.emod_nonneg _ (by omega), Int.emod_lt_of_pos _ (by omega), fun h => Int.ediv_nonneg h (by omega)⟩
/-- A tick more gives one more at most. -/
theorem per_step {q t : Int} (hq : 1 ≤ q) (hqt : q ≤ t) (m : Int) : per q t m ≤ per q t (m + 1) ∧ per q t (m + 1) ≤ per q t m + 1 := by
  obtain ⟨D, R, rfl, h0, h1, _⟩ := split (t := t) (by omega) m
  rw [per_at hq hqt D R h0 h1]
  by_cases h : R + 1 < t
  · rw [Int.add_assoc, per_at hq hqt D (R + 1) (by omega) h]
    omega
  · have e : D * t + R + 1 = (D + 1) * t + 0 := by rw [Int.add_mul]; omega
    rw [e, per_at hq hqt (D + 1) 0 (by omega) (by omega), Int.add_mul]
    omega
theorem per_mono_nat {q t : Int} (hq : 1 ≤ q) (hqt : q ≤ t) (m : Int) (n : Nat) : per q t m ≤ per q t (m + n) := by
  induction n with
  | zero => simp
  | succ n ih =>
    have := (per_step hq hqt (m + n)).1
    rw [show m + ((n + 1 : Nat) : Int) = m + n + 1 by omega]
    omega
theorem per_mono {q t : Int} (hq : 1 ≤ q) (hqt : q ≤ t) {m m' : Int} (h : m ≤ m') : per q t m ≤ per q t m' := by
  have := per_mono_nat hq hqt m (m' - m).toNat
  rwa [show m + ((m' - m).toNat : Int) = m' by omega] at this
theorem per_le {q t : Int} (hq : 1 ≤ q) (hqt : q ≤ t) {m : Int} (hm : 0 ≤ m) : 0 ≤ per q t m ∧ per q t m ≤ m := by
  obtain ⟨D, R, rfl, h0, h1, hD⟩ := split (t := t) (by omega) m
  have hD := hD hm
  rw [per_at hq hqt D R h0 h1]
  have a := Int.mul_le_mul_of_nonneg_left hqt hD
  have b := Int.mul_nonneg hD (show 0 ≤ q by omega)
  omega
/-- More budget, more given. -/
theorem per_more {q q' t : Int} (hq : 1 ≤ q) (hqq : q ≤ q') (hqt : q' ≤ t) {m : Int} (hm : 0 ≤ m) : per q t m ≤ per q' t m := by
  obtain ⟨D, R, rfl, h0, h1, hD⟩ := split (t := t) (by omega) m
  have hD := hD hm
  rw [per_at hq (by omega) D R h0 h1, per_at (by omega) hqt D R h0 h1]
  have a := Int.mul_le_mul_of_nonneg_left hqq hD
  omega
theorem per_period {q t : Int} (hq : 1 ≤ q) (hqt : q ≤ t) (D m : Int) : per q t (D * t + m) = D * q + per q t m := by
  obtain ⟨E, R, rfl, h0, h1, _⟩ := split (t := t) (by omega) m
  rw [per_at hq hqt E R h0 h1, show D * t + (E * t + R) = (D + E) * t + R by rw [Int.add_mul]; omega, per_at hq hqt _ R h0 h1, Int.add_mul]
  omega
theorem per_low {q t : Int} (hq : 1 ≤ q) (hqt : q ≤ t) {r : Int} (h0 : 0 ≤ r) (h1 : r ≤ q) : per q t (t - q + r) = r := by
  by_cases h : r = q
  · subst h
    rw [show t - r + r = 1 * t + 0 by omega, per_at hq hqt 1 0 (by omega) (by omega)]
    omega
  · rw [show t - q + r = 0 * t + (t - q + r) by omega, per_at hq hqt 0 _ (by omega) (by omega)]
    omega
/-- Two intervals together. -/
theorem per_both {q t : Int} (hq : 1 ≤ q) (hqt : q ≤ t) {m n : Int} : per q t m + per q t n ≤ per q t (m + n + (t - q)) := by
  obtain ⟨D, R, rfl, h0, h1, _⟩ := split (t := t) (by omega) m
  obtain ⟨E, S, rfl, k0, k1, _⟩ := split (t := t) (by omega) n
  rw [per_at hq hqt D R h0 h1, per_at hq hqt E S k0 k1, show D * t + R + (E * t + S) + (t - q) = (D + E) * t + (R + S + (t - q)) by rw [Int.add_mul]; omega, per_period hq hqt, Int.add_mul]
  by_cases a : R ≤ t - q
  · by_cases b : S ≤ t - q
    · have := per_mono hq hqt (m := 0) (m' := R + S + (t - q)) (by omega)
      rw [per_zero hq hqt] at this
      omega
    · have := per_mono hq hqt (m := t - q + (S - (t - q))) (m' := R + S + (t - q)) (by omega)
      rw [per_low hq hqt (by omega) (by omega)] at this
      omega
  · by_cases b : S ≤ t - q
    · have := per_mono hq hqt (m := t - q + (R - (t - q))) (m' := R + S + (t - q)) (by omega)
      rw [per_low hq hqt (by omega) (by omega)] at this
      omega
    · by_cases c : R - (t - q) + (S - (t - q)) ≤ q
      · have := per_mono hq hqt (m := t - q + (R - (t - q) + (S - (t - q)))) (m' := R + S + (t - q)) (by omega)
        rw [per_low hq hqt (by omega) (by omega)] at this
        omega
      · have := per_mono hq hqt (m := 1 * t + (t - q + (R - (t - q) + (S - (t - q)) - q))) (m' := R + S + (t - q)) (by omega)
        rw [per_period hq hqt, per_low hq hqt (by omega) (by omega)] at this
        omega
/-- The line below. -/
theorem per_line {q t : Int} (hq : 1 ≤ q) (hqt : q ≤ t) {m : Int} : q * (m - (t - q)) ≤ per q t m * t := by
  obtain ⟨D, R, rfl, h0, h1, _⟩ := split (t := t) (by omega) m
  rw [per_at hq hqt D R h0 h1, Int.add_mul]
  have e1 : q * (D * t + R - (t - q)) = D * q * t + q * (R - (t - q)) := by
    rw [show D * t + R - (t - q) = D * t + (R - (t - q)) by omega, Int.mul_add, ← Int.mul_assoc, Int.mul_comm q D]
  rw [e1]
  by_cases h : R - (t - q) ≤ 0
  · have a : max 0 (R - (t - q)) = 0 := by omega
    have b := Int.mul_nonneg (show 0 ≤ q by omega) (show 0 ≤ -(R - (t - q)) by omega)
    rw [Int.mul_neg] at b
    rw [a]
    omega
  · have a : max 0 (R - (t - q)) = R - (t - q) := by omega
    have b := Int.mul_le_mul_of_nonneg_right hqt (show 0 ≤ R - (t - q) by omega)
    rw [a, Int.mul_comm (R - (t - q)) t]
    omega

/-- WHAT THE STATEMENTS ASK OF A ROW. -/
theorem given_le {g q t l : Int} (hg : 0 ≤ g) (hq : 1 ≤ q) (hqt : q ≤ t) (hl : 0 ≤ l) : 0 ≤ given g q t l ∧ given g q t l ≤ l := by
  rw [given_per]
  split
  · omega
  · have := per_le hq hqt (m := l - g) (by omega)
    omega
theorem given_gap {g g' q t l : Int} (hgg : g' ≤ g) (hq : 1 ≤ q) (hqt : q ≤ t) : given g q t l ≤ given g' q t l := by
  rw [given_per, given_per]
  split
  · split
    · omega
    · exact (per_le hq hqt (by omega)).1
  · rw [if_neg (by omega)]
    exact per_mono hq hqt (by omega)
theorem given_more {g q q' t l : Int} (hq : 1 ≤ q) (hqq : q ≤ q') (hqt : q' ≤ t) : given g q t l ≤ given g q' t l := by
  rw [given_per, given_per]
  split
  · omega
  · exact per_more hq hqq hqt (by omega)
theorem given_step {g q t l : Int} (hq : 1 ≤ q) (hqt : q ≤ t) : given g q t l ≤ given g q t (l + 1) ∧ given g q t (l + 1) ≤ given g q t l + 1 := by
  rw [given_per, given_per]
  by_cases h : l + 1 ≤ g
  · rw [if_pos (by omega), if_pos h]; omega
  · rw [if_neg h]
    by_cases h2 : l ≤ g
    · rw [if_pos h2]
      have := per_le hq hqt (m := l + 1 - g) (by omega)
      omega
    · rw [if_neg h2, show l + 1 - g = l - g + 1 by omega]
      exact per_step hq hqt _
theorem given_both {g q t a b : Int} (hg : t - q ≤ g) (hq : 1 ≤ q) (hqt : q ≤ t) (ha : 0 ≤ a) (hb : 0 ≤ b) : given g q t a + given g q t b ≤ given g q t (a + b) := by
  have mono : ∀ {x y : Int}, x ≤ y → given g q t x ≤ given g q t y := fun {x y} h => by
    rw [given_per, given_per]
    by_cases h1 : x ≤ g
    · rw [if_pos h1]
      split
      · omega
      · exact (per_le hq hqt (by omega)).1
    · rw [if_neg h1, if_neg (by omega)]
      exact per_mono hq hqt (by omega)
  by_cases h1 : a ≤ g
  · have e : given g q t a = 0 := by rw [given_per, if_pos h1]
    have := mono (x := b) (y := a + b) (by omega)
    omega
  · by_cases h2 : b ≤ g
    · have e : given g q t b = 0 := by rw [given_per, if_pos h2]
      have := mono (x := a) (y := a + b) (by omega)
      omega
    · rw [given_per, given_per, given_per, if_neg h1, if_neg h2, if_neg (by omega)]
      have h3 := per_both hq hqt (m := a - g) (n := b - g)
      have h4 := per_mono hq hqt (m := a - g + (b - g) + (t - q)) (m' := a + b - g) (by omega)
      omega
theorem given_line {g q t a : Int} (hg : 0 ≤ g) (hq : 1 ≤ q) (hqt : q ≤ t) : q * (a - (g + t - q)) ≤ given g q t a * t := by
  rw [given_per]
  split
  · have b := Int.mul_nonneg (show 0 ≤ q by omega) (show 0 ≤ -(a - (g + t - q)) by omega)
    rw [Int.mul_neg] at b
    omega
  · have := per_line hq hqt (m := a - g)
    rwa [show a - g - (t - q) = a - (g + t - q) by omega] at this
theorem given_one {l : Int} (hl : 0 ≤ l) : given 0 1 1 l = l := by
  unfold given
  split
  · omega
  · rw [Int.sub_zero, Int.ediv_one, Int.emod_one]; omega
end Go.Proofs.YtimjmacjkefljaaDoor
