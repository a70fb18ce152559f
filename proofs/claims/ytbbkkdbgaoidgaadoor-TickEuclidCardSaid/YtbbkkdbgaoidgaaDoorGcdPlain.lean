/-
  Greatest common divisors, plainly: twos and odd parts; how long Euclid takes.
-/
import Derived.Lib.TrailingZeros
namespace Go.Proofs.YtbbkkdbgaoidgaaDoor.Gcd

theorem coprime_two_pow {x : Nat} (h : x % 2 = 1) (k : Nat) : Nat.Coprime (2 ^ k) x := by
  induction k with
  | zero => simp [Nat.Coprime]
  | succ k ih =>
    rw [Nat.pow_succ]
    refine Nat.Coprime.mul_left ih ?_
    unfold Nat.Coprime
    rw [Nat.gcd_rec, h]
    decide
/-- Twos do not matter beside an odd number. -/
theorem gcd_twos {x : Nat} (h : x % 2 = 1) (k y : Nat) : Nat.gcd x (2 ^ k * y) = Nat.gcd x y := by
  rw [Nat.gcd_comm, Nat.Coprime.gcd_mul_left_cancel _ (coprime_two_pow h k), Nat.gcd_comm]

/-- A number of 64 bits is twos times an odd number. -/
theorem odd_part {x : Nat} (h0 : x ≠ 0) (h : x < 18446744073709551616) : ∃ m, x = 2 ^ Lib.ctz 64 x * (2 * m + 1) ∧ Lib.ctz 64 x < 64 ∧ x / 2 ^ Lib.ctz 64 x = 2 * m + 1 := by
  obtain ⟨m, hm, hk⟩ := Lib.ctzFrom_spec 64 x (by omega) h
  have e : Lib.ctz 64 x = Lib.ctzFrom 64 x := by unfold Lib.ctz; rw [if_neg h0]
  rw [e]
  generalize Lib.ctzFrom 64 x = k at *
  refine ⟨m, hm, hk, ?_⟩
  rw [hm]
  exact Nat.mul_div_cancel_left _ (Nat.pow_pos (by omega))

/-- The twos that two numbers share. -/
theorem shared {x y : Nat} (hx : x ≠ 0) (hx' : x < 18446744073709551616) (hy' : y < 18446744073709551616) :
    Nat.gcd x y = Nat.gcd (x / 2 ^ Lib.ctz 64 x) y * 2 ^ Lib.ctz 64 (x ||| y) := by
  have ho0 : x ||| y ≠ 0 := fun h => hx (Nat.or_eq_zero_iff.1 h).1
  have ho : x ||| y < 18446744073709551616 := Nat.or_lt_two_pow (n := 64) hx' hy'
  obtain ⟨m, hm, _, hq⟩ := odd_part ho0 ho
  obtain ⟨n, hn, _, hp⟩ := odd_part hx hx'
  rw [hp]
  generalize Lib.ctz 64 (x ||| y) = t at *
  generalize Lib.ctz 64 x = s at *
  have hz : (x % 2 ^ t) ||| (y % 2 ^ t) = 0 := by
    rw [← Nat.or_mod_two_pow, hm, Nat.mul_mod_right]
  obtain ⟨zx, zy⟩ := Nat.or_eq_zero_iff.1 hz
  obtain ⟨X, rfl⟩ := Nat.dvd_of_mod_eq_zero zx
  obtain ⟨Y, rfl⟩ := Nat.dvd_of_mod_eq_zero zy
  have hodd : (X ||| Y) % 2 = 1 := by
    have e : (2 ^ t * X ||| 2 ^ t * Y) / 2 ^ t = X ||| Y := by
      rw [Nat.or_div_two_pow, Nat.mul_div_cancel_left _ (Nat.pow_pos (by omega)), Nat.mul_div_cancel_left _ (Nat.pow_pos (by omega))]
    rw [← e, hq]
    omega
  rw [Nat.gcd_mul_left, Nat.mul_comm (2 ^ t), gcd_twos (by omega)]
  congr 1
  -- X is twos times the odd part; where there are any twos, Y is odd
  have hst : t ≤ s := by
    refine Nat.le_of_not_lt fun h => ?_
    have e1 : 2 ^ t * X = 2 ^ s * (2 * (2 ^ (t - s - 1) * X)) := by
      have : (2 : Nat) ^ t = 2 ^ s * (2 * 2 ^ (t - s - 1)) := by
        rw [← Nat.pow_succ', ← Nat.pow_add]
        congr 1
        omega
      rw [this]
      ac_rfl
    rw [e1] at hn
    have := Nat.eq_of_mul_eq_mul_left (Nat.pow_pos (by omega)) hn
    omega
  have hX : X = 2 ^ (s - t) * (2 * n + 1) := by
    have e1 : (2 : Nat) ^ s = 2 ^ t * 2 ^ (s - t) := by rw [← Nat.pow_add]; congr 1; omega
    rw [e1, Nat.mul_assoc] at hn
    exact Nat.eq_of_mul_eq_mul_left (Nat.pow_pos (by omega)) hn
  by_cases h0 : s - t = 0
  · rw [hX, h0]; simp
  · have hXe : X % 2 = 0 := by
      rw [hX, show s - t = (s - t - 1) + 1 by omega, Nat.pow_succ]
      have : 2 ^ (s - t - 1) * 2 * (2 * n + 1) = 2 * (2 ^ (s - t - 1) * (2 * n + 1)) := by ac_rfl
      rw [this, Nat.mul_mod_right]
    have hY : Y % 2 = 1 := by
      have h1 := Nat.or_mod_two_pow (a := X) (b := Y) (n := 1)
      simp only [Nat.pow_one] at h1
      rw [hodd, hXe] at h1
      simpa using h1.symm
    rw [hX, Nat.Coprime.gcd_mul_left_cancel _ (coprime_two_pow hY _)]

/-! ### how long Euclid takes -/
def fib : Nat → Nat
  | 0 => 0
  | 1 => 1
  | n + 2 => fib (n + 1) + fib n
/-- From (x, y) Euclid ends within n steps. -/
def Ends : Nat → Nat → Nat → Prop
  | 0, _, y => y = 0
  | n + 1, x, y => y = 0 ∨ Ends n y (x % y)
theorem lame (n : Nat) : ∀ x y, y < x → ¬ Ends n x y → fib (n + 1) ≤ y ∧ fib (n + 2) ≤ x := by
  induction n with
  | zero =>
    intro x y h he
    have : y ≠ 0 := he
    exact ⟨by show 1 ≤ y; omega, by show 1 ≤ x; omega⟩
  | succ n ih =>
    intro x y h he
    have h0 : y ≠ 0 := fun e => he (.inl e)
    have h1 : ¬ Ends n y (x % y) := fun e => he (.inr e)
    obtain ⟨a, b⟩ := ih y (x % y) (Nat.mod_lt _ (by omega)) h1
    refine ⟨b, ?_⟩
    show fib (n + 2) + fib (n + 1) ≤ x
    have h2 := Nat.div_add_mod x y
    have h3 : 1 ≤ x / y := (Nat.one_le_div_iff (by omega)).2 (by omega)
    have h4 : y * 1 ≤ y * (x / y) := Nat.mul_le_mul_left _ h3
    omega
def fibPair : Nat → Nat × Nat
  | 0 => (0, 1)
  | n + 1 => let p := fibPair n; (p.2, p.1 + p.2)
theorem fibPair_eq (n : Nat) : fibPair n = (fib n, fib (n + 1)) := by
  induction n with
  | zero => rfl
  | succ n ih =>
    show ((fibPair n).2, (fibPair n).1 + (fibPair n).2) = _
    rw [ih]
    exact Prod.ext rfl (Nat.add_comm (fib n) (fib (n + 1)))
theorem fib93 : fib 93 = 12200160415121876738 := by
  have h := fibPair_eq 93
  have h2 : (fibPair 93).1 = 12200160415121876738 := by decide +kernel
  rw [h] at h2
  exact h2
theorem ends_all {a b : Nat} (hb : b < 9223372036854775808) : Ends 92 a b := by
  by_cases h : b = 0
  · exact .inl h
  · refine .inr ?_
    refine Classical.byContradiction fun he => ?_
    have := (lame 91 b (a % b) (Nat.mod_lt _ (by omega)) he).2
    rw [show 91 + 2 = 93 from rfl, fib93] at this
    omega
end Go.Proofs.YtbbkkdbgaoidgaaDoor.Gcd
