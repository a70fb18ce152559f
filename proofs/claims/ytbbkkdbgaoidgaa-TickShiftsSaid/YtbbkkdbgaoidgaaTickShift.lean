/-
  Package tick: Shift; the statement TickShifts, walked.
-/
import Derived.Test.YtbbkkdbgaoidgaaTickQuo
import Derived.Test.YtbbkkdbgaoidgaaBigWalks2
namespace Go.Proofs.Ytbbkkdbgaoidgaa
open Go.RowKit

theorem pow2_pos (m : Nat) : (1 : Int) ≤ 2 ^ m := by have := Int.pow_pos (m := m) (show (0 : Int) < 2 by omega); omega
theorem shl_fits {a : Int} {m : Nat} (h : I64 (a * 2 ^ m)) : wrap64 (a * 2 ^ m) = a * 2 ^ m ∧ (a * 2 ^ m / 2 ^ m != a) = false := by
  unfold I64 at h
  refine ⟨?_, ?_⟩
  · generalize a * 2 ^ m = z at *
    unfold wrap64
    omega
  · rw [Int.mul_ediv_cancel _ (by have := pow2_pos m; omega)]
    simp
theorem shl_over {a : Int} {m : Nat} (hm : m ≤ 63) (h : ¬ I64 (a * 2 ^ m)) : (wrap64 (a * 2 ^ m) / 2 ^ m != a) = true := by
  obtain ⟨k, hk⟩ : ∃ k : Int, wrap64 (a * 2 ^ m) = a * 2 ^ m - k * 18446744073709551616 := ⟨(a * 2 ^ m + 9223372036854775808) / 18446744073709551616, by unfold wrap64; omega⟩
  have hk0 : k ≠ 0 := by
    intro hk0
    subst hk0
    apply h
    have : wrap64 (a * 2 ^ m) = a * 2 ^ m := by omega
    unfold I64
    rw [← this]
    unfold wrap64
    omega
  have hp := pow2_pos m
  have e : (18446744073709551616 : Int) = 2 ^ (64 - m) * 2 ^ m := by rw [← Int.pow_add, show 64 - m + m = 64 by omega]; rfl
  rw [hk, e, ← Int.mul_assoc, ← Int.sub_mul, Int.mul_ediv_cancel _ (by omega)]
  have hq : (1 : Int) ≤ 2 ^ (64 - m) := pow2_pos _
  have : k * 2 ^ (64 - m) ≠ 0 := Int.mul_ne_zero hk0 (by omega)
  simp only [bne_iff_ne, ne_eq]
  omega
theorem mul_far {a : Int} {m : Nat} (h0 : a ≠ 0) (hm : 64 ≤ m) : ¬ I64 (a * 2 ^ m) := by
  have hp : (18446744073709551616 : Int) ≤ 2 ^ m := by
    have e : (2 : Int) ^ m = 2 ^ (m - 64) * 2 ^ 64 := by rw [← Int.pow_add, show m - 64 + 64 = m by omega]
    have := pow2_pos (m - 64)
    rw [e]
    have h2 : (1 : Int) * 2 ^ 64 ≤ 2 ^ (m - 64) * 2 ^ 64 := Int.mul_le_mul_of_nonneg_right this (by decide)
    exact h2
  intro h
  unfold I64 at h
  rcases Int.lt_or_gt_of_ne h0 with h1 | h1
  · have : a * 2 ^ m ≤ -1 * 2 ^ m := Int.mul_le_mul_of_nonneg_right (by omega) (by omega)
    omega
  · have : 1 * 2 ^ m ≤ a * 2 ^ m := Int.mul_le_mul_of_nonneg_right (by omega) (by omega)
    omega
theorem div_far {a : Int} {m : Nat} (ha : I64 a) (hm : 63 ≤ m) : a / 2 ^ m = a / 9223372036854775808 := by
  unfold I64 at ha
  have hp : (9223372036854775808 : Int) ≤ 2 ^ m := by
    have e : (2 : Int) ^ m = 2 ^ (m - 63) * 2 ^ 63 := by rw [← Int.pow_add, show m - 63 + 63 = m by omega]
    have := pow2_pos (m - 63)
    rw [e]
    have h2 : (1 : Int) * 2 ^ 63 ≤ 2 ^ (m - 63) * 2 ^ 63 := Int.mul_le_mul_of_nonneg_right this (by decide)
    exact h2
  generalize (2 : Int) ^ m = z at *
  by_cases h : 0 ≤ a
  · rw [Int.ediv_eq_zero_of_lt h (by omega), Int.ediv_eq_zero_of_lt h (by omega)]
  · have e1 : ∀ z : Int, 9223372036854775808 ≤ z → a / z = -1 := fun z hz =>
      ((Int.ediv_emod_unique (a := a) (b := z) (q := -1) (r := a + z) (by omega)).2 ⟨by omega, by omega, by omega⟩).1
    rw [e1 z hp, e1 _ (Int.le_refl _)]

/-- What Shift comes to. -/
def shZ (a n : Int) : Int := if 0 ≤ n then a * 2 ^ n.toNat else a / 2 ^ (-n).toNat

set_option maxHeartbeats 800000 in
theorem shift_any (a n : Int) (w : World) (ha : I64 a) (hn : I64 n) :
    Calls Try.prog 9 #[.int .i64 a, .int .i64 n] w fun e w' => e = Pair (okV (shZ a n)) (okB (shZ a n)) ∧ w = w' := by
  obtain ⟨n1, n2⟩ := hn
  by_cases h0 : 0 ≤ n
  · obtain ⟨m, rfl⟩ := Int.eq_ofNat_of_zero_le h0
    have ez : shZ a m = a * 2 ^ m := by unfold shZ; rw [if_pos h0, Int.toNat_natCast]
    rw [ez]
    clear ez
    by_cases h1 : a = 0
    · subst h1
      rw [Int.zero_mul, okV_yes (by omega), okB_yes (by omega)]
      go_enter Try.func9, Try.ntmps9
      go_wp2
      go_ret2
      exact ⟨rfl, rfl⟩
    · have h1' : (a == 0) = false := by simp [h1]
      by_cases h2 : m ≤ 63
      · by_cases h3 : I64 (a * 2 ^ m)
        · obtain ⟨f1, f2⟩ := shl_fits h3
          rw [okV_yes h3, okB_yes h3]
          have F1 := Lib.hid f1
          have f3 : (wrap64 (a * 2 ^ m) / 2 ^ m != a) = false := by rw [f1]; exact f2
          clear h1 h3 f1 f2
          obtain ⟨a1, a2⟩ := ha
          go_enter Try.func9, Try.ntmps9
          go_wp2
          go_ret2
          refine ⟨?_, rfl⟩
          have h := F1.out
          simp [Pair, h]
        · have f2 := shl_over h2 h3
          rw [okV_no h3, okB_no h3]
          clear h1 h3
          obtain ⟨a1, a2⟩ := ha
          go_enter Try.func9, Try.ntmps9
          go_wp2
          go_ret2
          exact ⟨rfl, rfl⟩
      · have h3 := mul_far h1 (show 64 ≤ m by omega)
        rw [okV_no h3, okB_no h3]
        clear h1 h3
        obtain ⟨a1, a2⟩ := ha
        go_enter Try.func9, Try.ntmps9
        go_wp2
        go_ret2
        exact ⟨rfl, rfl⟩
  · obtain ⟨m, hm⟩ : ∃ m : Nat, n = -(m : Int) := ⟨n.natAbs, by omega⟩
    subst hm
    have ez : shZ a (-(m : Int)) = a / 2 ^ m := by unfold shZ; rw [if_neg h0, Int.neg_neg, Int.toNat_natCast]
    rw [ez]
    obtain ⟨q1, q2, _⟩ := quo_facts ha (pow2_pos m)
    rw [okV_yes ⟨q1, q2⟩, okB_yes ⟨q1, q2⟩]
    clear ez q1 q2
    by_cases h1 : m ≤ 63
    · obtain ⟨a1, a2⟩ := ha
      have h2 : 0 < m := by omega
      clear h0
      go_enter Try.func9, Try.ntmps9
      go_wp2
      go_ret2
      exact ⟨rfl, rfl⟩
    · rw [div_far ha (show 63 ≤ m by omega)]
      obtain ⟨a1, a2⟩ := ha
      go_enter Try.func9, Try.ntmps9
      go_wp2
      go_ret2
      exact ⟨rfl, rfl⟩

theorem mul2_pow (a : Int) (k : Nat) : a * 2 ^ k * 2 = a * 2 ^ (k + 1) := by rw [Int.pow_succ, Int.mul_assoc]
theorem div2_pow (a : Int) (k : Nat) : a / 2 ^ k / 2 = a / 2 ^ (k + 1) := by rw [Int.pow_succ, Int.ediv_ediv_of_nonneg (by have := pow2_pos k; omega)]
theorem mul_ge {z p : Int} (hp : 1 ≤ p) (h1 : -9223372036854775808 ≤ z * p) (h2 : z * p ≤ 9223372036854775807) : -9223372036854775808 ≤ z ∧ z ≤ 9223372036854775807 := by
  by_cases hz : 0 ≤ z
  · have : z * 1 ≤ z * p := Int.mul_le_mul_of_nonneg_left hp hz
    omega
  · have : (-z) * 1 ≤ (-z) * p := Int.mul_le_mul_of_nonneg_left hp (by omega)
    rw [Int.neg_mul, Int.neg_mul, Int.mul_one] at this
    omega
theorem over_up {a : Int} {k m : Nat} (hk : k ≤ m) (h : ¬ I64 (a * 2 ^ k)) : ¬ I64 (a * 2 ^ m) := by
  intro h'
  apply h
  have e : a * 2 ^ m = a * 2 ^ k * 2 ^ (m - k) := by rw [Int.mul_assoc, ← Int.pow_add, show k + (m - k) = m by omega]
  unfold I64 at h'
  rw [e] at h'
  exact mul_ge (pow2_pos (m - k)) h'.1 h'.2

set_option maxHeartbeats 1600000 in
theorem tickShifts_up (a : Int) (n : Nat) (w : World) (ha : I64 a) (hn : (n : Int) ≤ 9223372036854775807) :
    Calls Try.prog 3 #[.int .i64 a, .int .i64 (n : Int)] w fun e w' => e = .returned (.bool true) ∧ Ext w w' := by
  have S := Lib.hid (fun w => shift_any a n w ha (by unfold I64; omega))
  have hz : shZ a n = a * 2 ^ n := by unfold shZ; rw [if_pos (by omega), Int.toNat_natCast]
  rw [hz] at S
  have HA := Lib.hid ha
  unfold I64 at ha
  obtain ⟨V, hV⟩ : ∃ V, okV (a * 2 ^ n) = V := ⟨_, rfl⟩
  obtain ⟨O, hO⟩ : ∃ O, okB (a * 2 ^ n) = O := ⟨_, rfl⟩
  rw [hV, hO] at S
  have HV := Lib.hid hV
  have HO := Lib.hid hO
  clear hz hV hO
  go_enter Try.func3, Try.ntmps3
  go_wp2_with fail
  refine (alive_any _).mono ?_
  rintro e w1 ⟨rfl, rfl⟩
  go_wp2_with fail
  refine (S.out _).mono ?_
  rintro e w1 ⟨rfl, rfl⟩
  unfold Pair
  go_wp2_with fail
  clear S
  go_loopw [7, 8, 9, 32] (fun vw vs vi _ wr => ∃ k : Nat, k ≤ 70 ∧ k ≤ n ∧ vi = .int .i64 k ∧ Ext w wr ∧ ((vs = .bool true ∧ vw = .int .i64 (a * 2 ^ k) ∧ I64 (a * 2 ^ k)) ∨ (vs = .bool false ∧ vw = .int .i64 0 ∧ ¬ I64 (a * 2 ^ k)))) (fun _ _ i _ _ => 70 - (intOf i).toNat)
  case atStart => exact ⟨0, by omega, by omega, rfl, Ext.refl w, .inl ⟨rfl, by simp, by simpa using HA.out⟩⟩
  case round =>
    obtain ⟨k, hk, hkn, rfl, hx, ⟨rfl, rfl, hf⟩ | ⟨rfl, rfl, hf⟩⟩ := hrel
    · by_cases h1 : k < 70 ∧ k < n
      · obtain ⟨h1, h2⟩ := h1
        have m2 := fun w => rmul_any (a * 2 ^ k) 2 w hf (by unfold I64; omega)
        rw [mul2_pow] at m2
        have M := Lib.hid m2
        clear hf m2
        by_cases h3 : I64 (a * 2 ^ (k + 1))
        · rw [okV_yes h3, okB_yes h3] at M
          have H3 := Lib.hid h3
          clear h3
          obtain ⟨z, hz⟩ : ∃ z, a * 2 ^ k = z := ⟨_, rfl⟩
          obtain ⟨z', hz'⟩ : ∃ z', a * 2 ^ (k + 1) = z' := ⟨_, rfl⟩
          rw [hz, hz'] at M
          rw [hz]
          have HZ' := Lib.hid hz'
          clear hz hz'
          go_wp2_with fail
          refine (M.out _).mono ?_
          rintro e w2 ⟨rfl, hx2⟩
          unfold Pair
          go_wp2_with fail
          go_roundw
          case rel => exact ⟨k + 1, by omega, by omega, by go_num, hx.trans hx2, .inl ⟨rfl, by rw [HZ'.out], H3.out⟩⟩
          case measure => simp [intOf]; omega
        · rw [okV_no h3, okB_no h3] at M
          have H3 := Lib.hid h3
          clear h3
          obtain ⟨z, hz⟩ : ∃ z, a * 2 ^ k = z := ⟨_, rfl⟩
          rw [hz] at M
          rw [hz]
          clear hz
          go_wp2_with fail
          refine (M.out _).mono ?_
          rintro e w2 ⟨rfl, hx2⟩
          unfold Pair
          go_wp2_with fail
          go_roundw
          case rel => exact ⟨k + 1, by omega, by omega, by go_num, hx.trans hx2, .inr ⟨rfl, rfl, H3.out⟩⟩
          case measure => simp [intOf]; omega
      · have hres : V = a * 2 ^ k ∧ O = true := by
          by_cases h2 : k = n
          · subst h2
            rw [← HV.out, ← HO.out, okV_yes hf, okB_yes hf]; exact ⟨rfl, rfl⟩
          · have hk70 : k = 70 := by omega
            by_cases h0 : a = 0
            · subst h0
              rw [← HV.out, ← HO.out, Int.zero_mul, Int.zero_mul, okV_yes (by omega), okB_yes (by omega)]; exact ⟨rfl, rfl⟩
            · exact absurd hf (mul_far h0 (by omega))
        obtain ⟨r1, rfl⟩ := hres
        rw [← r1]
        clear r1 hf HV HO HA
        have h4 : ¬ (k < 70 ∧ k < n) := h1
        clear h1
        have h5 : (decide ((k : Int) < 70) && decide ((k : Int) < n)) = false := by simp; omega
        by_cases h6 : k < 70
        · have h7 : ¬ k < n := by omega
          clear h4 h5
          go_wp2_with fail
          go_loop [7, 10] (fun x i => x = .int .i64 V ∧ i = .int .i64 0) (fun _ _ => 0)
          case atStart => exact ⟨rfl, rfl⟩
          case round =>
            obtain ⟨rfl, rfl⟩ := hrel
            go_wp2_with fail
            go_ret
            exact ⟨rfl, hx⟩
        · clear h4 h5
          go_wp2_with fail
          go_loop [7, 10] (fun x i => x = .int .i64 V ∧ i = .int .i64 0) (fun _ _ => 0)
          case atStart => exact ⟨rfl, rfl⟩
          case round =>
            obtain ⟨rfl, rfl⟩ := hrel
            go_wp2_with fail
            go_ret
            exact ⟨rfl, hx⟩
    · have hno := over_up hkn hf
      obtain ⟨r1, r2⟩ : V = 0 ∧ O = false := ⟨by rw [← HV.out, okV_no hno], by rw [← HO.out, okB_no hno]⟩
      subst r1
      subst r2
      clear hf hno HV HO HA
      by_cases h6 : k < 70
      · by_cases h7 : k < n
        · go_wp2_with fail
          go_loop [10] (fun i => i = .int .i64 0) (fun _ => 0)
          case atStart => rfl
          case round =>
            subst hrel
            go_wp2_with fail
            go_ret
            exact ⟨rfl, hx⟩
        · go_wp2_with fail
          go_loop [10] (fun i => i = .int .i64 0) (fun _ => 0)
          case atStart => rfl
          case round =>
            subst hrel
            go_wp2_with fail
            go_ret
            exact ⟨rfl, hx⟩
      · go_wp2_with fail
        go_loop [10] (fun i => i = .int .i64 0) (fun _ => 0)
        case atStart => rfl
        case round =>
          subst hrel
          go_wp2_with fail
          go_ret
          exact ⟨rfl, hx⟩

set_option maxHeartbeats 1600000 in
theorem tickShifts_dn (a : Int) (n : Nat) (w : World) (ha : I64 a) (h0 : 0 < n) (hn : (n : Int) ≤ 9223372036854775808) :
    Calls Try.prog 3 #[.int .i64 a, .int .i64 (-(n : Int))] w fun e w' => e = .returned (.bool true) ∧ Ext w w' := by
  have S := Lib.hid (fun w => shift_any a (-(n : Int)) w ha (by unfold I64; omega))
  have hz : shZ a (-(n : Int)) = a / 2 ^ n := by unfold shZ; rw [if_neg (by omega), Int.neg_neg, Int.toNat_natCast]
  obtain ⟨q1, q2, _⟩ := quo_facts ha (pow2_pos n)
  rw [hz, okV_yes ⟨q1, q2⟩, okB_yes ⟨q1, q2⟩] at S
  have HA := Lib.hid ha
  unfold I64 at ha
  obtain ⟨V, hV⟩ : ∃ V, a / 2 ^ n = V := ⟨_, rfl⟩
  rw [hV] at S
  have HV := Lib.hid hV
  clear hz hV q1 q2
  go_enter Try.func3, Try.ntmps3
  go_wp2_with fail
  refine (alive_any _).mono ?_
  rintro e w1 ⟨rfl, rfl⟩
  go_wp2_with fail
  refine (S.out _).mono ?_
  rintro e w1 ⟨rfl, rfl⟩
  unfold Pair
  go_wp2_with fail
  clear S
  go_loop [7, 8, 9] (fun x b i => x = .int .i64 a ∧ b = .bool true ∧ i = .int .i64 0) (fun _ _ _ => 0)
  case atStart => exact ⟨rfl, rfl, rfl⟩
  case round =>
    obtain ⟨rfl, rfl, rfl⟩ := hrel
    go_wp2_with fail
    go_loop [7, 10] (fun x i => ∃ k : Nat, k ≤ 70 ∧ k ≤ n ∧ i = .int .i64 k ∧ x = .int .i64 (a / 2 ^ k)) (fun _ i => 70 - (intOf i).toNat)
    case atStart => exact ⟨0, by omega, by omega, rfl, by simp⟩
    case round =>
      obtain ⟨k, hk, hkn, rfl, rfl⟩ := hrel
      by_cases h1 : k < 70
      · by_cases h2 : k < n
        · obtain ⟨r1, r2, _⟩ := quo_facts HA.out (pow2_pos k)
          have F := Lib.hid (fun w => rfloor_any (a / 2 ^ k) 2 w ⟨r1, r2⟩ (by omega) (by omega))
          rw [div2_pow] at F
          generalize hz : a / 2 ^ k = z at *
          clear hz
          obtain ⟨z', hz'⟩ : ∃ z', a / 2 ^ (k + 1) = z' := ⟨_, rfl⟩
          rw [hz'] at F
          have HZ' := Lib.hid hz'
          clear hz'
          go_wp2_with fail
          refine (F.out _).mono ?_
          rintro e w2 ⟨rfl, rfl⟩
          go_wp2_with fail
          go_round
          case rel => exact ⟨k + 1, by omega, by omega, by go_num, by rw [HZ'.out]⟩
          case measure => simp [intOf]; omega
        · obtain rfl : k = n := by omega
          rw [HV.out]
          go_wp2_with fail
          go_ret
          exact ⟨rfl, Ext.refl _⟩
      · have e1 : a / 2 ^ k = V := by
          rw [← HV.out, div_far HA.out (by omega), div_far HA.out (by omega)]
        rw [e1]
        clear e1
        go_wp2_with fail
        go_ret
        exact ⟨rfl, Ext.refl _⟩

theorem tickShifts_walk (a n : Int) (w : World) (ha : I64 a) (hn : I64 n) :
    Calls Try.prog 3 #[.int .i64 a, .int .i64 n] w fun e w' => e = .returned (.bool true) ∧ Ext w w' := by
  obtain ⟨n1, n2⟩ := hn
  by_cases h : 0 ≤ n
  · obtain ⟨m, rfl⟩ := Int.eq_ofNat_of_zero_le h
    exact tickShifts_up a m w ha n2
  · obtain ⟨m, rfl⟩ : ∃ m : Nat, n = -(m : Int) := ⟨n.natAbs, by omega⟩
    exact tickShifts_dn a m w ha (by omega) (by omega)
end Go.Proofs.Ytbbkkdbgaoidgaa
