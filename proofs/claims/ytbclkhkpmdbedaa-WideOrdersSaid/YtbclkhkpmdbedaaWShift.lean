/-
  Package wide: right, Shift, walked.
-/
import Derived.Test.YtbclkhkpmdbedaaWDiv
namespace Go.Proofs.Ytbclkhkpmdbedaa
open Go.RowKit
set_option linter.unusedVariables false
theorem right_plain {h l s m : Nat} (hsm : s + m = 64) (hh : h < 18446744073709551616) (hl : l < 18446744073709551616) :
    h * 2 ^ s % 18446744073709551616 = 2 ^ s * (h % 2 ^ m) ∧ l / 2 ^ m ||| 2 ^ s * (h % 2 ^ m) = 2 ^ s * (h % 2 ^ m) + l / 2 ^ m ∧ N2 h l / 2 ^ m = N2 (h / 2 ^ m) (2 ^ s * (h % 2 ^ m) + l / 2 ^ m) ∧
      2 ^ s * (h % 2 ^ m) + l / 2 ^ m < 18446744073709551616 ∧ 2 ^ s * (h % 2 ^ m) < 18446744073709551616 := by
  have e : (18446744073709551616 : Nat) = 2 ^ s * 2 ^ m := by rw [← Nat.pow_add, hsm, pow64]
  have hm : 0 < 2 ^ m := Nat.two_pow_pos m
  have hs : 0 < 2 ^ s := Nat.two_pow_pos s
  have hlm : l / 2 ^ m < 2 ^ s := by rw [Nat.div_lt_iff_lt_mul hm, ← e]; exact hl
  have hmod : h % 2 ^ m + 1 ≤ 2 ^ m := Nat.mod_lt _ hm
  have h5 : 2 ^ s * (h % 2 ^ m + 1) ≤ 2 ^ s * 2 ^ m := Nat.mul_le_mul_left _ hmod
  rw [← e, Nat.mul_add, Nat.mul_one] at h5
  refine ⟨by rw [e, Nat.mul_comm h, Nat.mul_mod_mul_left], ?_, ?_, by omega, by omega⟩
  · rw [Nat.or_comm]
    exact (Nat.two_pow_add_eq_or_of_lt hlm _).symm
  · have h1 : N2 h l = 2 ^ m * (h * 2 ^ s) + l := by
      unfold N2
      rw [e, Nat.mul_comm (2 ^ m), Nat.mul_assoc]
    rw [h1, Nat.mul_add_div hm]
    unfold N2
    have h2 : h * 2 ^ s = h / 2 ^ m * 18446744073709551616 + 2 ^ s * (h % 2 ^ m) := by
      have h3 := Nat.div_add_mod h (2 ^ m)
      rw [e, Nat.mul_comm (2 ^ s) (2 ^ m), ← Nat.mul_assoc, Nat.mul_comm (h / 2 ^ m), Nat.mul_comm (2 ^ s), ← Nat.add_mul, h3]
    rw [h2]
    omega
set_option maxHeartbeats 800000 in
theorem right_any (h l m : Nat) (w : World) (hh : h < 18446744073709551616) (hl : l < 18446744073709551616) (hm : m ≤ 127) :
    Calls Try.prog 30 #[wv h l, .int .u64 (m : Int)] w fun e w' => e = .returned (wn (N2 h l / 2 ^ m)) ∧ Ext w w' := by
  by_cases h64 : 64 ≤ m
  · obtain ⟨k, rfl⟩ : ∃ k, m = 64 + k := ⟨m - 64, by omega⟩
    have e0 : N2 h l / 2 ^ (64 + k) = N2 0 (h / 2 ^ k) := by
      rw [p64, ← Nat.div_div_eq_div_mul]
      unfold N2
      rw [show (h * 18446744073709551616 + l) / 18446744073709551616 = h by omega]
      omega
    have hb : h / 2 ^ k < 18446744073709551616 := Nat.lt_of_le_of_lt (Nat.div_le_self _ _) hh
    rw [e0, wn_of hb]
    have e1 : (((64 + k : Nat) : Int) - 64) = (k : Int) := by omega
    have e2 : (h : Int) / 2 ^ k = ((h / 2 ^ k : Nat) : Int) := by
      have : ((2 : Int) ^ k) = ((2 ^ k : Nat) : Int) := by norm_cast
      rw [this, Int.natCast_ediv]
    obtain ⟨X, hX⟩ : ∃ X, h / 2 ^ k = X := ⟨_, rfl⟩
    rw [hX] at e2 ⊢
    clear e0 hb hX
    unfold wv
    go_enter Try.func30, Try.ntmps30
    go_wp2_with fail
    go_returns
    exact ⟨rfl, ((Ext.refl w).alloc _).alloc _⟩
  · obtain ⟨s, hs⟩ : ∃ s, s + m = 64 := ⟨64 - m, by omega⟩
    obtain ⟨p1, p2, p3, p4, p5⟩ := right_plain hs hh hl
    rw [p3, wn_of p4]
    have e1 : (64 : Int) - (m : Int) = (s : Int) := by omega
    have e2 : (h : Int) / 2 ^ m = ((h / 2 ^ m : Nat) : Int) := by
      have : ((2 : Int) ^ m) = ((2 ^ m : Nat) : Int) := by norm_cast
      rw [this, Int.natCast_ediv]
    have e3 : (l : Int) / 2 ^ m = ((l / 2 ^ m : Nat) : Int) := by
      have : ((2 : Int) ^ m) = ((2 ^ m : Nat) : Int) := by norm_cast
      rw [this, Int.natCast_ediv]
    have e4 : IntKind.u64.wrap ((h : Int) * 2 ^ s) = ((2 ^ s * (h % 2 ^ m) : Nat) : Int) := by
      have : (h : Int) * 2 ^ s = ((h * 2 ^ s : Nat) : Int) := by push_cast; rfl
      rw [this, IntKind.wrap_u64, ← p1]
      omega
    have e5 := u64_or_nat (l / 2 ^ m) (2 ^ s * (h % 2 ^ m)) (Nat.lt_of_le_of_lt (Nat.div_le_self _ _) hl) p5
    rw [p2] at e5
    obtain ⟨X, hX⟩ : ∃ X, h / 2 ^ m = X := ⟨_, rfl⟩
    obtain ⟨Y, hY⟩ : ∃ Y, l / 2 ^ m = Y := ⟨_, rfl⟩
    obtain ⟨Z, hZ⟩ : ∃ Z, 2 ^ s * (h % 2 ^ m) = Z := ⟨_, rfl⟩
    rw [hX] at e2 ⊢
    rw [hY] at e3 e5 ⊢
    rw [hZ] at e4 e5 ⊢
    have hs64 : s ≤ 64 := by omega
    clear p1 p2 p3 p4 p5 hX hY hZ
    unfold wv
    go_enter Try.func30, Try.ntmps30
    go_wp2_with fail
    trace_state
    go_returns
    exact ⟨rfl, ((Ext.refl w).alloc _).alloc _⟩
end Go.Proofs.Ytbclkhkpmdbedaa
