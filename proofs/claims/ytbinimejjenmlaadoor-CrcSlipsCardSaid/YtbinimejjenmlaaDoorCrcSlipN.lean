/-
  The place of the turned bit, in plain numbers.
-/
import Derived.Test.YtbinimejjenmlaaDoorCrcSlipQ
namespace Go.Proofs.YtbinimejjenmlaaDoor
open Go.RowKit
set_option linter.unusedVariables false
structure Bit (n : Nat) (bit : Int) (N8 R B i r : Nat) (q : Int) : Prop where
  n8 : 8 * ((n : Int) + 8 - 4) = (N8 : Int)
  wq : bit.tmod (N8 : Int) = q
  nz : (N8 : Int) ≠ 0
  w2 : wrap64 (q + (N8 : Int)) = q + (N8 : Int)
  w3 : (q + (N8 : Int)).tmod (N8 : Int) = (R : Int)
  w4 : wrap64 (32 + (R : Int)) = (B : Int)
  w5 : (B : Int).tdiv 8 = (i : Int)
  w6 : (B : Int).tmod 8 = (r : Int)
  w7 : (B : Int) / 8 = (i : Int)
  w8 : (B : Int) % 8 = (r : Int)
  q0 : -(N8 : Int) < q
  q1 : q < (N8 : Int)
  n8b : N8 ≤ 1000000
  b0 : B = 32 + R
  i4 : 4 ≤ i
  hi : i < n + 8
  r8 : r < 8
theorem bit_nums (n : Nat) (hn : n ≤ 32768) (bit : Int) : ∃ N8 R B i r q, Bit n bit N8 R B i r q := by
  obtain ⟨N8, hN8⟩ : ∃ N8 : Nat, 8 * (n + 4) = N8 := ⟨_, rfl⟩
  obtain ⟨q, hq⟩ : ∃ q, bit.tmod (N8 : Int) = q := ⟨_, rfl⟩
  have hq0 : -(N8 : Int) < q := by rw [← hq]; have := Int.lt_tmod_of_pos bit (b := (N8 : Int)) (by omega); omega
  have hq1 : q < N8 := by rw [← hq]; exact Int.tmod_lt_of_pos bit (b := (N8 : Int)) (by omega)
  obtain ⟨R, hR⟩ : ∃ R : Nat, (q + (N8 : Int)) % (N8 : Int) = R := Int.eq_ofNat_of_zero_le (Int.emod_nonneg _ (by omega))
  have hRn : R < N8 := by have := Int.emod_lt_of_pos (q + (N8 : Int)) (b := (N8 : Int)) (by omega); omega
  have w3 : (q + (N8 : Int)).tmod (N8 : Int) = (R : Int) := by rw [Int.tmod_eq_emod_of_nonneg (by omega), hR]
  clear hR
  refine ⟨N8, R, 32 + R, (32 + R) / 8, (32 + R) % 8, q, by omega, hq, by omega, by unfold wrap64; omega, w3, by unfold wrap64; omega, ?_, ?_, by omega, by omega, hq0, hq1, by omega, rfl, by omega, by omega, by omega⟩
  · rw [Int.tdiv_eq_ediv_of_nonneg (by omega)]; omega
  · rw [Int.tmod_eq_emod_of_nonneg (by omega)]; omega
/-- One bit of a byte turned. -/
theorem turn_ne (x r : Nat) (hx : x < 256) (hr : r < 8) : x ^^^ 2 ^ r ≠ x ∧ x ^^^ 2 ^ r < 256 := by
  have h2 : 2 ^ r < 2 ^ 8 := Nat.pow_lt_pow_right (by decide) hr
  refine ⟨fun h => ?_, Nat.xor_lt_two_pow (n := 8) hx h2⟩
  have h1 : x ^^^ (x ^^^ 2 ^ r) = x ^^^ x := by rw [h]
  rw [← Nat.xor_assoc, Nat.xor_self, Nat.zero_xor] at h1
  have := Nat.one_le_two_pow (n := r)
  omega
end Go.Proofs.YtbinimejjenmlaaDoor
