/-
  How many binary digits a number of two words has: package wide's Bits, the document's Bit and Bits, walked.
-/
import Derived.Test.YtbclkhkpmdbedaaWRef4
import Derived.Test.YtbclkhkpmdbedaaWShelf
namespace Go.Proofs.Ytbclkhkpmdbedaa
open Go.RowKit
set_option linter.unusedVariables false
theorem bitLen_spec : ∀ (k x : Nat), x < 2 ^ k → k ≤ 64 → x < 2 ^ Lib.bitLen x ∧ (x ≠ 0 → 1 ≤ Lib.bitLen x ∧ 2 ^ (Lib.bitLen x - 1) ≤ x) ∧ Lib.bitLen x ≤ k
  | 0, x, h, _ => by
    obtain rfl : x = 0 := by simpa using h
    exact ⟨by decide, fun h => absurd rfl h, by decide⟩
  | k + 1, x, h, hk => by
    by_cases h0 : x = 0
    · subst h0
      exact ⟨by decide, fun h => absurd rfl h, Nat.le_trans (by decide) (Nat.zero_le _)⟩
    · have hx : x < 2 ^ 64 := Nat.lt_of_lt_of_le h (Nat.pow_le_pow_right (by omega) hk)
      have e := Lib.bitLen_half x h0 hx
      obtain ⟨i1, i2, i3⟩ := bitLen_spec k (x / 2) (by rw [Nat.pow_succ] at h; omega) (by omega)
      rw [e]
      refine ⟨by rw [Nat.add_comm 1, Nat.pow_succ]; omega, fun _ => ⟨by omega, ?_⟩, by omega⟩
      rw [show 1 + Lib.bitLen (x / 2) - 1 = Lib.bitLen (x / 2) by omega]
      by_cases h1 : x / 2 = 0
      · rw [h1]
        have : Lib.bitLen 0 = 0 := by decide
        rw [this]
        omega
      · obtain ⟨j1, j2⟩ := i2 h1
        obtain ⟨m, hm⟩ : ∃ m, Lib.bitLen (x / 2) = m + 1 := ⟨_, (Nat.sub_add_cancel j1).symm⟩
        rw [hm] at j2 ⊢
        rw [Nat.add_sub_cancel] at j2
        rw [Nat.pow_succ]
        omega
theorem pow64 : (2 : Nat) ^ 64 = 18446744073709551616 := by decide
theorem p64 (k : Nat) : (2 : Nat) ^ (64 + k) = 18446744073709551616 * 2 ^ k := by rw [Nat.pow_add, pow64]
theorem lt64 {x : Nat} (h : x < 18446744073709551616) : x < 2 ^ 64 := by rw [pow64]; exact h
/-- How many binary digits. -/
def nb (h l : Nat) : Nat := if h = 0 then Lib.bitLen l else 64 + Lib.bitLen h
theorem nb_spec {h l : Nat} (hh : h < 18446744073709551616) (hl : l < 18446744073709551616) : N2 h l < 2 ^ nb h l ∧ (nb h l ≠ 0 → 2 ^ (nb h l - 1) ≤ N2 h l) ∧ nb h l ≤ 128 := by
  unfold nb N2
  by_cases h0 : h = 0
  · subst h0
    rw [if_pos rfl, Nat.zero_mul, Nat.zero_add]
    obtain ⟨i1, i2, i3⟩ := bitLen_spec 64 l (lt64 hl) (by omega)
    refine ⟨i1, fun hne => (i2 fun e => ?_).2, by omega⟩
    subst e
    exact hne (by decide)
  · rw [if_neg h0]
    obtain ⟨i1, i2, i3⟩ := bitLen_spec 64 h (lt64 hh) (by omega)
    obtain ⟨j1, j2⟩ := i2 h0
    refine ⟨?_, fun _ => ?_, by omega⟩
    · refine Nat.lt_of_lt_of_eq ?_ (p64 _).symm
      have : (h + 1) * 18446744073709551616 ≤ 2 ^ Lib.bitLen h * 18446744073709551616 := Nat.mul_le_mul_right _ i1
      generalize 2 ^ Lib.bitLen h = K at *
      omega
    · rw [show 64 + Lib.bitLen h - 1 = 64 + (Lib.bitLen h - 1) by omega]
      refine Nat.le_trans (Nat.le_of_eq (p64 _)) ?_
      have : 2 ^ (Lib.bitLen h - 1) * 18446744073709551616 ≤ h * 18446744073709551616 := Nat.mul_le_mul_right _ j2
      generalize 2 ^ (Lib.bitLen h - 1) = K at *
      omega
set_option maxHeartbeats 400000 in
theorem wbits_any (h l : Nat) (w : World) (hh : h < 18446744073709551616) (hl : l < 18446744073709551616) :
    Calls Try.prog 20 #[wv h l] w fun e w' => e = .returned (.int .i64 (nb h l : Nat)) ∧ Ext w w' := by
  have L1 := Lib.hid (fun w => Try.bits_Len64 (h : Int) w (by omega) (by omega))
  have L2 := Lib.hid (fun w => Try.bits_Len64 (l : Int) w (by omega) (by omega))
  have g1 := (bitLen_spec 64 h (lt64 hh) (by omega)).2.2
  simp only [Int.toNat_natCast] at L1 L2
  unfold nb
  generalize Lib.bitLen h = x at *
  generalize Lib.bitLen l = y at *
  by_cases h0 : h = 0
  · subst h0
    rw [if_pos rfl]
    unfold wv
    go_enter Try.func20, Try.ntmps20
    go_wp2_with fail
    refine (L2.out _).mono ?_
    rintro e w1 ⟨rfl, rfl⟩
    go_wp2_with fail
    go_ret
    exact ⟨rfl, (Ext.refl w).alloc _⟩
  · rw [if_neg h0]
    have hne : ((h : Int) != 0) = true := by simp; omega
    clear h0
    unfold wv
    go_enter Try.func20, Try.ntmps20
    go_wp2_with fail
    refine (L1.out _).mono ?_
    rintro e w1 ⟨rfl, rfl⟩
    go_wp2_with fail
    go_ret
    exact ⟨by simp, (Ext.refl w).alloc _⟩
/-- Binary digit i of two words. -/
def bitB (h l i : Nat) : Bool := (N2 h l).testBit i
theorem and1 (x k : Nat) (hx : x < 18446744073709551616) : (Go.bits .and .u64 ((x : Int) / 2 ^ k) 1 == 1) = decide (x / 2 ^ k % 2 = 1) := by
  have e : (x : Int) / 2 ^ k = ((x / 2 ^ k : Nat) : Int) := by
    have : ((2 : Int) ^ k) = ((2 ^ k : Nat) : Int) := by norm_cast
    rw [this, Int.natCast_ediv]
  have h := u64_and_nat (x / 2 ^ k) 1 (Nat.lt_of_le_of_lt (Nat.div_le_self _ _) hx) (by decide)
  rw [Nat.and_one_is_mod] at h
  rw [e]
  have h' : Go.bits .and .u64 ((x / 2 ^ k : Nat) : Int) 1 = ((x / 2 ^ k % 2 : Nat) : Int) := h
  rw [h']
  by_cases h1 : x / 2 ^ k % 2 = 1
  · rw [h1]; rfl
  · rw [show x / 2 ^ k % 2 = 0 by omega]; rfl
theorem bitB_hi (h l k : Nat) (hl : l < 18446744073709551616) : bitB h l (k + 64) = decide (h / 2 ^ k % 2 = 1) := by
  unfold bitB
  rw [Nat.testBit_eq_decide_div_mod_eq, Nat.add_comm k, p64, ← Nat.div_div_eq_div_mul]
  have : N2 h l / 18446744073709551616 = h := by unfold N2; omega
  rw [this]
theorem bitB_lo (h l i : Nat) (hi : i < 64) : bitB h l i = decide (l / 2 ^ i % 2 = 1) := by
  unfold bitB
  rw [Nat.testBit_eq_decide_div_mod_eq]
  obtain ⟨m, hm⟩ : ∃ m, 64 = i + (m + 1) := ⟨64 - i - 1, by omega⟩
  have e : N2 h l = l + (h * 2 ^ m * 2) * 2 ^ i := by
    unfold N2
    have : (18446744073709551616 : Nat) = 2 ^ i * (2 ^ m * 2) := by rw [← Nat.pow_succ, ← Nat.pow_add, ← hm, pow64]
    rw [this, Nat.add_comm]
    congr 1
    rw [Nat.mul_assoc, Nat.mul_assoc, Nat.mul_comm (2 ^ i), Nat.mul_assoc]
  rw [e, Nat.add_mul_div_right _ _ (Nat.two_pow_pos i)]
  congr 2
  omega
set_option maxHeartbeats 800000 in
theorem bit_any (h l i : Nat) (w : World) (hh : h < 18446744073709551616) (hl : l < 18446744073709551616) (hi : i < 128) :
    Calls Try.prog 36 #[wv h l, .int .i64 (i : Int)] w fun e w' => e = .returned (.bool (bitB h l i)) ∧ Ext w w' := by
  by_cases h64 : 64 ≤ i
  · obtain ⟨k, rfl⟩ : ∃ k, i = k + 64 := ⟨i - 64, by omega⟩
    have e1 : (((k + 64 : Nat) : Int) - 64) = (k : Int) := by omega
    unfold wv
    go_enter Try.func36, Try.ntmps36
    go_wp2_with fail
    go_ret
    refine ⟨?_, (Ext.refl w).alloc _⟩
    rw [bitB_hi h l k hl, ← and1 h k hh]
    rfl
  · unfold wv
    go_enter Try.func36, Try.ntmps36
    go_wp2_with fail
    go_ret
    refine ⟨?_, (Ext.refl w).alloc _⟩
    rw [bitB_lo h l i (by omega), ← and1 l i hl]
    rfl
end Go.Proofs.Ytbclkhkpmdbedaa
