/-
  Plain law of a division of two words by one, two digits at a time (no program in sight).
-/
import Derived.Test.YtbclkhkpmdbedaaWShift2
namespace Go.Proofs.Ytbclkhkpmdbedaa
set_option linter.unusedVariables false
namespace Knuth
variable {u d v1 v0 q r : Nat}
/-- The true digit. -/
def dig (u d v1 v0 : Nat) : Nat := (u * 4294967296 + d) / (v1 * 4294967296 + v0)
theorem prod_eq : q * (v1 * 4294967296 + v0) = q * v1 * 4294967296 + q * v0 := by
  rw [Nat.mul_add, Nat.mul_assoc]
theorem stop (hY : 0 < v1) (hu : u = q * v1 + r) (hq : dig u d v1 v0 ≤ q) (hex : q * v0 ≤ 4294967296 * r + d) : dig u d v1 v0 = q := by
  refine Nat.le_antisymm hq ?_
  unfold dig
  rw [Nat.le_div_iff_mul_le (by omega), prod_eq]
  generalize q * v1 = a at *
  generalize q * v0 = b at *
  omega
theorem more (hY : 0 < v1) (hd : d < 4294967296) (hlt : u < v1 * 4294967296 + v0) (hu : u = q * v1 + r) (hc : 4294967296 ≤ q ∨ 4294967296 * r + d < q * v0) : dig u d v1 v0 + 1 ≤ q := by
  unfold dig
  rcases hc with h | h
  · have : (u * 4294967296 + d) / (v1 * 4294967296 + v0) < 4294967296 := by
      rw [Nat.div_lt_iff_lt_mul (by omega)]
      omega
    omega
  · have : (u * 4294967296 + d) / (v1 * 4294967296 + v0) < q := by
      rw [Nat.div_lt_iff_lt_mul (by omega), prod_eq]
      generalize q * v1 = a at *
      generalize q * v0 = b at *
      omega
    omega
theorem start (hY : 2147483648 ≤ v1) (hd : d < 4294967296) (h0 : v0 < 4294967296) (hlt : u < v1 * 4294967296 + v0) : dig u d v1 v0 ≤ u / v1 ∧ u / v1 ≤ 4294967297 := by
  refine ⟨?_, ?_⟩
  · rw [Nat.le_div_iff_mul_le (by omega)]
    have h1 : dig u d v1 v0 * (v1 * 4294967296 + v0) ≤ u * 4294967296 + d := Nat.div_mul_le_self _ _
    rw [prod_eq] at h1
    generalize dig u d v1 v0 * v1 = a at *
    generalize dig u d v1 v0 * v0 = b at *
    omega
  · have : u / v1 < 4294967298 := by
      rw [Nat.div_lt_iff_lt_mul (by omega)]
      omega
    omega
theorem brk (h0 : v0 < 4294967296) (hq : q ≤ 4294967296) (hr : 4294967296 ≤ r) : q * v0 ≤ 4294967296 * r + d := by
  have : q * v0 ≤ 4294967296 * v0 := Nat.mul_le_mul_right _ hq
  omega
/-- What one round keeps. -/
theorem down (hu : u = (q + 1) * v1 + r) : u = q * v1 + (r + v1) := by
  rw [Nat.add_mul, Nat.one_mul] at hu
  omega
theorem rest_lt (hY : 0 < v1) : (u * 4294967296 + d) % (v1 * 4294967296 + v0) < v1 * 4294967296 + v0 := Nat.mod_lt _ (by omega)
theorem rest_eq {U Y : Nat} : U % Y = U - U / Y * Y := by
  have := Nat.div_add_mod U Y
  rw [Nat.mul_comm] at this
  omega
/-- Two digits make the quotient. -/
theorem both {U d0 Y : Nat} (hY : 0 < Y) : (U * 4294967296 + d0) / Y = U / Y * 4294967296 + (U % Y * 4294967296 + d0) / Y ∧
    (U * 4294967296 + d0) % Y = (U % Y * 4294967296 + d0) % Y := by
  have h := Nat.div_add_mod U Y
  have e : U * 4294967296 + d0 = Y * (U / Y * 4294967296) + (U % Y * 4294967296 + d0) := by
    rw [← Nat.mul_assoc]
    generalize Y * (U / Y) = a at *
    omega
  rw [e]
  exact ⟨Nat.mul_add_div hY _ _, Nat.mul_add_mod _ _ _⟩
/-- All moved to the left by s. -/
theorem moved {N y s : Nat} (hy : 0 < y) : N * 2 ^ s / (y * 2 ^ s) = N / y ∧ N * 2 ^ s % (y * 2 ^ s) / 2 ^ s = N % y := by
  refine ⟨Nat.mul_div_mul_right _ _ (Nat.two_pow_pos s), ?_⟩
  rw [Nat.mul_mod_mul_right, Nat.mul_div_cancel _ (Nat.two_pow_pos s)]
end Knuth
end Go.Proofs.Ytbclkhkpmdbedaa
