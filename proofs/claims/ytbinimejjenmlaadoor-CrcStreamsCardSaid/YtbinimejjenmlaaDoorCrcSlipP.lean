/-
  One byte changed changes the check, in plain numbers.
-/
import Derived.Test.YtbinimejjenmlaaDoorCrcRead
namespace Go.Proofs.YtbinimejjenmlaaDoor
set_option linter.unusedVariables false
theorem xor_zero_eq {a b : Nat} (h : a ^^^ b = 0) : a = b := by
  have h1 : (a ^^^ b) ^^^ b = b := by rw [h, Nat.zero_xor]
  rwa [Nat.xor_assoc, Nat.xor_self, Nat.xor_zero] at h1
theorem Crc.bit_zero {c : Nat} (hc : c < 4294967296) (h : Crc.bit c = 0) : c = 0 := by
  unfold Crc.bit at h
  by_cases ho : c % 2 = 1
  · rw [if_pos ho] at h
    have := xor_zero_eq h
    omega
  · rw [if_neg ho, Nat.xor_zero] at h
    omega
theorem Crc.bits_zero {k c : Nat} (hc : c < 4294967296) (h : Crc.bits k c = 0) : c = 0 := by
  induction k with
  | zero => exact h
  | succ k ih => exact ih (Crc.bit_zero (Crc.bits_lt k c hc) h)
theorem Crc.bits_inj {k a b : Nat} (ha : a < 4294967296) (hb : b < 4294967296) (h : Crc.bits k a = Crc.bits k b) : a = b := by
  have h1 : Crc.bits k (a ^^^ b) = 0 := by rw [Crc.bits_xor, h, Nat.xor_self]
  exact xor_zero_eq (Crc.bits_zero (Nat.xor_lt_two_pow (n := 32) ha hb) h1)
theorem Crc.byte_inj {w w' c c' : Nat} (hw : w < 4294967296) (hw' : w' < 4294967296) (hc : c < 256) (hc' : c' < 256) (h : Crc.byte w c = Crc.byte w' c') : w ^^^ c = w' ^^^ c' := by
  rw [Crc.byte_eq, Crc.byte_eq] at h
  exact Crc.bits_inj (Nat.xor_lt_two_pow (n := 32) hw (by omega)) (Nat.xor_lt_two_pow (n := 32) hw' (by omega)) h
theorem Crc.upd_inj {w w' : Nat} (l : List Nat) (hl : ∀ x ∈ l, x < 256) (hw : w < 4294967296) (hw' : w' < 4294967296) (h : Crc.upd w l = Crc.upd w' l) : w = w' := by
  induction l generalizing w w' with
  | nil => exact h
  | cons c l ih =>
    have hc := hl c (by simp)
    have hl' : ∀ x ∈ l, x < 256 := fun x hx => hl x (by simp [hx])
    have h1 := ih hl' (by have := Crc.upd_lt w [c] hw (by simpa using hc); exact this) (by have := Crc.upd_lt w' [c] hw' (by simpa using hc); exact this) h
    have h2 := Crc.byte_inj hw hw' hc hc h1
    have h3 : (w ^^^ c) ^^^ c = (w' ^^^ c) ^^^ c := by rw [h2]
    rwa [Nat.xor_assoc, Nat.xor_self, Nat.xor_zero, Nat.xor_assoc, Nat.xor_self, Nat.xor_zero] at h3
/-- One byte changed. -/
theorem Crc.upd_set {w i y : Nat} {l : List Nat} (hl : ∀ x ∈ l, x < 256) (hw : w < 4294967296) (hy : y < 256) (hi : i < l.length) (hne : l[i]'hi ≠ y) : Crc.upd w (l.set i y) ≠ Crc.upd w l := by
  induction l generalizing w i with
  | nil => simp at hi
  | cons c l ih =>
    have hc := hl c (by simp)
    have hl' : ∀ x ∈ l, x < 256 := fun x hx => hl x (by simp [hx])
    cases i with
    | zero =>
      intro h
      have h1 := Crc.upd_inj l hl' (by have := Crc.upd_lt w [y] hw (by simpa using hy); exact this) (by have := Crc.upd_lt w [c] hw (by simpa using hc); exact this) (show Crc.upd (Crc.byte w y) l = Crc.upd (Crc.byte w c) l from h)
      have h2 := Crc.byte_inj hw hw hy hc h1
      have h3 : w ^^^ (w ^^^ y) = w ^^^ (w ^^^ c) := by rw [h2]
      rw [← Nat.xor_assoc, ← Nat.xor_assoc, Nat.xor_self, Nat.zero_xor, Nat.zero_xor] at h3
      exact hne (by simpa using h3.symm)
    | succ i =>
      have hi' : i < l.length := by simpa using hi
      exact ih hl' (by have := Crc.upd_lt w [c] hw (by simpa using hc); exact this) hi' (by simpa using hne)
theorem Crc.sum_set {i y : Nat} {l : List Nat} (hl : ∀ x ∈ l, x < 256) (hy : y < 256) (hi : i < l.length) (hne : l[i]'hi ≠ y) : Crc.sum (l.set i y) ≠ Crc.sum l := by
  intro h
  unfold Crc.sum at h
  have h1 : (Crc.upd 4294967295 (l.set i y) ^^^ 4294967295) ^^^ 4294967295 = (Crc.upd 4294967295 l ^^^ 4294967295) ^^^ 4294967295 := by rw [h]
  rw [Nat.xor_assoc, Nat.xor_self, Nat.xor_zero, Nat.xor_assoc, Nat.xor_self, Nat.xor_zero] at h1
  exact Crc.upd_set hl (by omega) hy hi hne h1
theorem bw_wb {x : Nat} (hx : x < 4294967296) : bw (x % 256) (x / 256 % 256) (x / 65536 % 256) (x / 16777216) = x := by unfold bw; omega
theorem bw_inj {a b c d a' b' c' d' : Nat} (ha : a < 256) (hb : b < 256) (hc : c < 256) (ha' : a' < 256) (hb' : b' < 256) (hc' : c' < 256) (h : bw a b c d = bw a' b' c' d') : a = a' ∧ b = b' ∧ c = c' ∧ d = d' := by
  unfold bw at h
  omega
end Go.Proofs.YtbinimejjenmlaaDoor
