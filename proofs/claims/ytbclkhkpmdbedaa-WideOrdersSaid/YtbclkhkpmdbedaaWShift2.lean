/-
  Package wide: Shift, walked.
-/
import Derived.Test.YtbclkhkpmdbedaaWShift
namespace Go.Proofs.Ytbclkhkpmdbedaa
open Go.RowKit
set_option linter.unusedVariables false
/-- A number times a power of two, or divided by one. -/
def ShE (h l : Nat) (n : Int) : Ending := if n < 0 then .returned (.tuple #[wn (N2 h l / 2 ^ (-n).toNat), .bool true]) else WOk (N2 h l * 2 ^ n.toNat)
theorem pow128 : (2 : Nat) ^ 128 = 340282366920938463463374607431768211456 := by decide
theorem wn_zero : wn 0 = wv 0 0 := rfl
theorem n2_ne {h l : Nat} (hz : h ≠ 0 ∨ (h = 0 ∧ l ≠ 0)) : 1 ≤ N2 h l := by unfold N2; omega
theorem nb_pos {h l : Nat} (hh : h < 18446744073709551616) (hl : l < 18446744073709551616) (hz : 1 ≤ N2 h l) : nb h l ≠ 0 := by
  intro h0
  have := (nb_spec hh hl).1
  rw [h0] at this
  omega
theorem over_no {h l n : Nat} (hh : h < 18446744073709551616) (hl : l < 18446744073709551616) (hz : 1 ≤ N2 h l) (h1 : 128 < nb h l + n) : 340282366920938463463374607431768211456 ≤ N2 h l * 2 ^ n := by
  have h2 := (nb_spec hh hl).2.1 (nb_pos hh hl hz)
  have h3 : 2 ^ (nb h l - 1) * 2 ^ n ≤ N2 h l * 2 ^ n := Nat.mul_le_mul_right _ h2
  rw [← Nat.pow_add] at h3
  have h4 : (2 : Nat) ^ 128 ≤ 2 ^ (nb h l - 1 + n) := Nat.pow_le_pow_right (by omega) (by omega)
  rw [pow128] at h4
  omega
theorem over_yes {h l n : Nat} (hh : h < 18446744073709551616) (hl : l < 18446744073709551616) (h1 : nb h l + n ≤ 128) : N2 h l * 2 ^ n < 340282366920938463463374607431768211456 := by
  have h2 := (nb_spec hh hl).1
  have h3 : N2 h l * 2 ^ n < 2 ^ nb h l * 2 ^ n := Nat.mul_lt_mul_of_pos_right h2 (Nat.two_pow_pos n)
  rw [← Nat.pow_add] at h3
  have h4 : 2 ^ (nb h l + n) ≤ (2 : Nat) ^ 128 := Nat.pow_le_pow_right (by omega) h1
  rw [pow128] at h4
  omega
/-- To the left by 64 and more. -/
theorem left_hi {h l k : Nat} (hl : l < 18446744073709551616) (hf : N2 h l * 2 ^ (64 + k) < 340282366920938463463374607431768211456) : N2 h l * 2 ^ (64 + k) = N2 (l * 2 ^ k) 0 ∧ l * 2 ^ k < 18446744073709551616 := by
  have hk : 1 ≤ 2 ^ k := Nat.two_pow_pos k
  rw [p64, Nat.mul_left_comm] at hf ⊢
  have h1 : N2 h l * 1 ≤ N2 h l * 2 ^ k := Nat.mul_le_mul_left _ hk
  have h0 : h = 0 := by unfold N2 at h1 hf; omega
  subst h0
  have e : N2 0 l = l := by unfold N2; omega
  rw [e] at hf ⊢
  unfold N2
  omega
theorem left_lo {h l s n : Nat} (hsn : s + n = 64) (hl : l < 18446744073709551616) (hf : N2 h l * 2 ^ n < 340282366920938463463374607431768211456) :
    h * 2 ^ n ||| l / 2 ^ s = h * 2 ^ n + l / 2 ^ s ∧ N2 h l * 2 ^ n = N2 (h * 2 ^ n + l / 2 ^ s) (l * 2 ^ n % 18446744073709551616) ∧ h * 2 ^ n + l / 2 ^ s < 18446744073709551616 := by
  have e : (18446744073709551616 : Nat) = 2 ^ n * 2 ^ s := by rw [← Nat.pow_add, Nat.add_comm n, hsn, pow64]
  have hn : 0 < 2 ^ n := Nat.two_pow_pos n
  have hs : 0 < 2 ^ s := Nat.two_pow_pos s
  have hls : l / 2 ^ s < 2 ^ n := by rw [Nat.div_lt_iff_lt_mul hs, ← e]; exact hl
  have h1 : l * 2 ^ n / 18446744073709551616 = l / 2 ^ s := by rw [e, Nat.mul_comm l, Nat.mul_div_mul_left _ _ hn]
  have h2 : N2 h l * 2 ^ n = h * 2 ^ n * 18446744073709551616 + l * 2 ^ n := by
    unfold N2
    rw [Nat.add_mul, Nat.mul_right_comm]
  refine ⟨?_, ?_, ?_⟩
  · rw [Nat.mul_comm h]
    exact (Nat.two_pow_add_eq_or_of_lt hls h).symm
  · rw [h2]
    unfold N2
    omega
  · rw [h2] at hf
    omega
set_option maxHeartbeats 1600000 in
theorem shift_zero (n : Int) (w : World) : Calls Try.prog 11 #[wv 0 0, .int .i64 n] w fun e w' => e = ShE 0 0 n ∧ Ext w w' := by
  have e : ShE 0 0 n = .returned (.tuple #[wv 0 0, .bool true]) := by
    unfold ShE
    have e0 : N2 0 0 = 0 := rfl
    rw [e0, Nat.zero_div, Nat.zero_mul, wn_zero]
    split
    · rfl
    · have := wok_yes (h := 0) (l := 0) (by omega) (by omega)
      rwa [e0] at this
  rw [e]
  clear e
  unfold wv
  go_enter Try.func11, Try.ntmps11
  go_wp2_with fail
  go_returns
  exact ⟨rfl, ((Ext.refl w).alloc _).alloc _⟩
set_option maxHeartbeats 1600000 in
theorem shift_far (h l : Nat) (n : Int) (w : World) (hh : h < 18446744073709551616) (hl : l < 18446744073709551616) (hz : h ≠ 0 ∨ (h = 0 ∧ l ≠ 0)) (hn : n < -127) : Calls Try.prog 11 #[wv h l, .int .i64 n] w fun e w' => e = ShE h l n ∧ Ext w w' := by
  have e : ShE h l n = .returned (.tuple #[wv 0 0, .bool true]) := by
    unfold ShE
    rw [if_pos (by omega), Nat.div_eq_of_lt, wn_zero]
    have h4 : (2 : Nat) ^ 128 ≤ 2 ^ (-n).toNat := Nat.pow_le_pow_right (by omega) (by omega)
    rw [pow128] at h4
    have := n2_lt hh hl
    omega
  rw [e]
  clear e
  unfold wv
  rcases hz with hz | ⟨rfl, hz⟩
  all_goals
    first
      | (have hz' : ((h : Int) == 0) = false := by simp; omega)
      | (have hz' : ((l : Int) == 0) = false := by simp; omega)
    clear hz
    go_enter Try.func11, Try.ntmps11
    go_wp2_with fail
    go_returns
    exact ⟨rfl, ((Ext.refl w).alloc _).alloc _⟩
set_option maxHeartbeats 3200000 in
theorem shift_neg (h l : Nat) (m : Nat) (w : World) (hh : h < 18446744073709551616) (hl : l < 18446744073709551616) (hz : h ≠ 0 ∨ (h = 0 ∧ l ≠ 0)) (hm1 : 1 ≤ m) (hm : m ≤ 127) : Calls Try.prog 11 #[wv h l, .int .i64 (-(m : Int))] w fun e w' => e = ShE h l (-(m : Int)) ∧ Ext w w' := by
  have RG := Lib.hid (fun w => right_any h l m w hh hl hm)
  have e : ShE h l (-(m : Int)) = .returned (.tuple #[wn (N2 h l / 2 ^ m), .bool true]) := by
    unfold ShE
    rw [if_pos (by omega), show (- -(m : Int)).toNat = m by omega]
  rw [e]
  clear e
  unfold wn at *
  generalize N2 h l / 2 ^ m / 18446744073709551616 = X at *
  generalize N2 h l / 2 ^ m % 18446744073709551616 = Y at *
  unfold wv at *
  by_cases hne : h = 0
  · have hz' : ((l : Int) == 0) = false := by simp; omega
    have hz0 : ((h : Int) == 0) = true := by simp; omega
    clear hz hne
    go_enter Try.func11, Try.ntmps11
    go_wp2_with fail
    have bR : BoxW ((w.alloc (.cells #[.int .u64 (h : Int), .int .u64 (l : Int)] 24)).alloc (.cells #[.int .u64 0, .int .u64 0] 24)) (w.heap.size + 1) (.int .u64 0) (.int .u64 0) := by
      have hb := BoxW.new (w.alloc (.cells #[.int .u64 (h : Int), .int .u64 (l : Int)] 24)) (.int .u64 0) (.int .u64 0) 24
      simpa using hb
    have bA : BoxW ((w.alloc (.cells #[.int .u64 (h : Int), .int .u64 (l : Int)] 24)).alloc (.cells #[.int .u64 0, .int .u64 0] 24)) w.heap.size (.int .u64 (h : Int)) (.int .u64 (l : Int)) := (BoxW.new w _ _ _).ext ((Ext.refl _).alloc _)
    have hw : Ext w ((w.alloc (.cells #[.int .u64 (h : Int), .int .u64 (l : Int)] 24)).alloc (.cells #[.int .u64 0, .int .u64 0] 24)) := ((Ext.refl w).alloc _).alloc _
    refine (RG.out _).mono ?_
    rintro e w1 ⟨rfl, hy⟩
    have bR := bR.ext hy
    have bA := bA.ext hy
    have hw := hw.trans hy
    obtain ⟨a0, a1, a2, a3, a4⟩ := bA.ext (Ext.refl _)
    obtain ⟨b0, b1, b2, b3, b4⟩ := bR.ext (Ext.refl _)
    have hr : w.heap.size ≤ w.heap.size + 1 := by omega
    clear bA bR hy
    go_wp2_with fail
    refine bodyPost_ret (v := .tuple #[.agg #[.int .u64 (X : Int), .int .u64 (Y : Int)], .bool true]) (by simp [results, Try.results11, go_sem, b0, b1]) rfl ?_
    exact ⟨rfl, (hw.setCell hr _).setCell hr _⟩
  · have hz' : ((h : Int) == 0) = false := by simp; omega
    clear hz hne
    go_enter Try.func11, Try.ntmps11
    go_wp2_with fail
    have bR : BoxW ((w.alloc (.cells #[.int .u64 (h : Int), .int .u64 (l : Int)] 24)).alloc (.cells #[.int .u64 0, .int .u64 0] 24)) (w.heap.size + 1) (.int .u64 0) (.int .u64 0) := by
      have hb := BoxW.new (w.alloc (.cells #[.int .u64 (h : Int), .int .u64 (l : Int)] 24)) (.int .u64 0) (.int .u64 0) 24
      simpa using hb
    have bA : BoxW ((w.alloc (.cells #[.int .u64 (h : Int), .int .u64 (l : Int)] 24)).alloc (.cells #[.int .u64 0, .int .u64 0] 24)) w.heap.size (.int .u64 (h : Int)) (.int .u64 (l : Int)) := (BoxW.new w _ _ _).ext ((Ext.refl _).alloc _)
    have hw : Ext w ((w.alloc (.cells #[.int .u64 (h : Int), .int .u64 (l : Int)] 24)).alloc (.cells #[.int .u64 0, .int .u64 0] 24)) := ((Ext.refl w).alloc _).alloc _
    refine (RG.out _).mono ?_
    rintro e w1 ⟨rfl, hy⟩
    have bR := bR.ext hy
    have bA := bA.ext hy
    have hw := hw.trans hy
    obtain ⟨a0, a1, a2, a3, a4⟩ := bA.ext (Ext.refl _)
    obtain ⟨b0, b1, b2, b3, b4⟩ := bR.ext (Ext.refl _)
    have hr : w.heap.size ≤ w.heap.size + 1 := by omega
    clear bA bR hy
    go_wp2_with fail
    refine bodyPost_ret (v := .tuple #[.agg #[.int .u64 (X : Int), .int .u64 (Y : Int)], .bool true]) (by simp [results, Try.results11, go_sem, b0, b1]) rfl ?_
    exact ⟨rfl, (hw.setCell hr _).setCell hr _⟩
set_option maxHeartbeats 3200000 in
theorem shift_big (h l : Nat) (n : Int) (w : World) (hh : h < 18446744073709551616) (hl : l < 18446744073709551616) (hz : h ≠ 0 ∨ (h = 0 ∧ l ≠ 0)) (hn : 127 < n) : Calls Try.prog 11 #[wv h l, .int .i64 n] w fun e w' => e = ShE h l n ∧ Ext w w' := by
  have hN := n2_ne hz
  have e : ShE h l n = WNo := by
    unfold ShE
    rw [if_neg (by omega), wok_no]
    have h4 : (2 : Nat) ^ 128 ≤ 2 ^ n.toNat := Nat.pow_le_pow_right (by omega) (by omega)
    rw [pow128] at h4
    have h5 : 1 * 2 ^ n.toNat ≤ N2 h l * 2 ^ n.toNat := Nat.mul_le_mul_right _ hN
    omega
  rw [e]
  clear e hN
  unfold WNo wv
  by_cases hne : h = 0
  · have hz' : ((l : Int) == 0) = false := by simp; omega
    have hz0 : ((h : Int) == 0) = true := by simp; omega
    clear hz hne
    go_enter Try.func11, Try.ntmps11
    go_wp2_with fail
    go_returns
    exact ⟨rfl, ((Ext.refl w).alloc _).alloc _⟩
  · have hz' : ((h : Int) == 0) = false := by simp; omega
    clear hz hne
    go_enter Try.func11, Try.ntmps11
    go_wp2_with fail
    go_returns
    exact ⟨rfl, ((Ext.refl w).alloc _).alloc _⟩
set_option maxHeartbeats 3200000 in
theorem shift_over (h l : Nat) (n : Nat) (w : World) (hh : h < 18446744073709551616) (hl : l < 18446744073709551616) (hz : h ≠ 0 ∨ (h = 0 ∧ l ≠ 0)) (hn : n ≤ 127) (hov : 128 < nb h l + n) : Calls Try.prog 11 #[wv h l, .int .i64 (n : Int)] w fun e w' => e = ShE h l (n : Int) ∧ Ext w w' := by
  have BT := Lib.hid (fun w => wbits_any h l w hh hl)
  have hnb := (nb_spec hh hl).2.2
  have hN := n2_ne hz
  have e : ShE h l (n : Int) = WNo := by
    unfold ShE
    rw [if_neg (by omega), Int.toNat_natCast, wok_no (over_no hh hl hN hov)]
  rw [e]
  clear e hN
  generalize nb h l = B at *
  unfold WNo wv at *
  by_cases hne : h = 0
  · have hz' : ((l : Int) == 0) = false := by simp; omega
    have hz0 : ((h : Int) == 0) = true := by simp; omega
    clear hz hne
    go_enter Try.func11, Try.ntmps11
    go_wp2_with fail
    have bR : BoxW ((w.alloc (.cells #[.int .u64 (h : Int), .int .u64 (l : Int)] 24)).alloc (.cells #[.int .u64 0, .int .u64 0] 24)) (w.heap.size + 1) (.int .u64 0) (.int .u64 0) := by
      have hb := BoxW.new (w.alloc (.cells #[.int .u64 (h : Int), .int .u64 (l : Int)] 24)) (.int .u64 0) (.int .u64 0) 24
      simpa using hb
    have bA : BoxW ((w.alloc (.cells #[.int .u64 (h : Int), .int .u64 (l : Int)] 24)).alloc (.cells #[.int .u64 0, .int .u64 0] 24)) w.heap.size (.int .u64 (h : Int)) (.int .u64 (l : Int)) := (BoxW.new w _ _ _).ext ((Ext.refl _).alloc _)
    have hw : Ext w ((w.alloc (.cells #[.int .u64 (h : Int), .int .u64 (l : Int)] 24)).alloc (.cells #[.int .u64 0, .int .u64 0] 24)) := ((Ext.refl w).alloc _).alloc _
    refine (BT.out _).mono ?_
    rintro e w1 ⟨rfl, hy⟩
    have bR := bR.ext hy
    have bA := bA.ext hy
    have hw := hw.trans hy
    obtain ⟨a0, a1, a2, a3, a4⟩ := bA.ext (Ext.refl _)
    obtain ⟨b0, b1, b2, b3, b4⟩ := bR.ext (Ext.refl _)
    have hr : w.heap.size ≤ w.heap.size + 1 := by omega
    clear bA bR hy
    go_wp2_with fail
    refine bodyPost_ret (v := .tuple #[.agg #[.int .u64 0, .int .u64 0], .bool false]) (by simp [results, Try.results11, go_sem, b0, b1]) rfl ?_
    exact ⟨rfl, (hw.setCell hr _).setCell hr _⟩
  · have hz' : ((h : Int) == 0) = false := by simp; omega
    clear hz hne
    go_enter Try.func11, Try.ntmps11
    go_wp2_with fail
    have bR : BoxW ((w.alloc (.cells #[.int .u64 (h : Int), .int .u64 (l : Int)] 24)).alloc (.cells #[.int .u64 0, .int .u64 0] 24)) (w.heap.size + 1) (.int .u64 0) (.int .u64 0) := by
      have hb := BoxW.new (w.alloc (.cells #[.int .u64 (h : Int), .int .u64 (l : Int)] 24)) (.int .u64 0) (.int .u64 0) 24
      simpa using hb
    have bA : BoxW ((w.alloc (.cells #[.int .u64 (h : Int), .int .u64 (l : Int)] 24)).alloc (.cells #[.int .u64 0, .int .u64 0] 24)) w.heap.size (.int .u64 (h : Int)) (.int .u64 (l : Int)) := (BoxW.new w _ _ _).ext ((Ext.refl _).alloc _)
    have hw : Ext w ((w.alloc (.cells #[.int .u64 (h : Int), .int .u64 (l : Int)] 24)).alloc (.cells #[.int .u64 0, .int .u64 0] 24)) := ((Ext.refl w).alloc _).alloc _
    refine (BT.out _).mono ?_
    rintro e w1 ⟨rfl, hy⟩
    have bR := bR.ext hy
    have bA := bA.ext hy
    have hw := hw.trans hy
    obtain ⟨a0, a1, a2, a3, a4⟩ := bA.ext (Ext.refl _)
    obtain ⟨b0, b1, b2, b3, b4⟩ := bR.ext (Ext.refl _)
    have hr : w.heap.size ≤ w.heap.size + 1 := by omega
    clear bA bR hy
    go_wp2_with fail
    refine bodyPost_ret (v := .tuple #[.agg #[.int .u64 0, .int .u64 0], .bool false]) (by simp [results, Try.results11, go_sem, b0, b1]) rfl ?_
    exact ⟨rfl, (hw.setCell hr _).setCell hr _⟩
set_option maxHeartbeats 3200000 in
theorem shift_hi (h l : Nat) (k : Nat) (w : World) (hh : h < 18446744073709551616) (hl : l < 18446744073709551616) (hz : h ≠ 0 ∨ (h = 0 ∧ l ≠ 0)) (hn : k ≤ 63) (hov : nb h l + (64 + k) ≤ 128) : Calls Try.prog 11 #[wv h l, .int .i64 ((64 + k : Nat) : Int)] w fun e w' => e = ShE h l ((64 + k : Nat) : Int) ∧ Ext w w' := by
  have BT := Lib.hid (fun w => wbits_any h l w hh hl)
  have hnb := (nb_spec hh hl).2.2
  obtain ⟨p1, p2⟩ := left_hi hl (over_yes hh hl hov)
  have e : ShE h l ((64 + k : Nat) : Int) = .returned (.tuple #[wv (l * 2 ^ k) 0, .bool true]) := by
    unfold ShE
    rw [if_neg (by omega), Int.toNat_natCast, p1, wok_yes p2 (by omega)]
  rw [e]
  generalize nb h l = B at *
  have e1 : (((64 + k : Nat) : Int) - 64) = (k : Int) := by omega
  have e4 : IntKind.u64.wrap ((l : Int) * 2 ^ k) = ((l * 2 ^ k : Nat) : Int) := by
    have : (l : Int) * 2 ^ k = ((l * 2 ^ k : Nat) : Int) := by push_cast; rfl
    rw [this, IntKind.wrap_u64]
    omega
  obtain ⟨X, hX⟩ : ∃ X, l * 2 ^ k = X := ⟨_, rfl⟩
  rw [hX] at e4 ⊢
  clear e p1 p2 hX
  unfold wv at *
  by_cases hne : h = 0
  · have hz' : ((l : Int) == 0) = false := by simp; omega
    have hz0 : ((h : Int) == 0) = true := by simp; omega
    clear hz hne
    go_enter Try.func11, Try.ntmps11
    go_wp2_with fail
    have bR : BoxW ((w.alloc (.cells #[.int .u64 (h : Int), .int .u64 (l : Int)] 24)).alloc (.cells #[.int .u64 0, .int .u64 0] 24)) (w.heap.size + 1) (.int .u64 0) (.int .u64 0) := by
      have hb := BoxW.new (w.alloc (.cells #[.int .u64 (h : Int), .int .u64 (l : Int)] 24)) (.int .u64 0) (.int .u64 0) 24
      simpa using hb
    have bA : BoxW ((w.alloc (.cells #[.int .u64 (h : Int), .int .u64 (l : Int)] 24)).alloc (.cells #[.int .u64 0, .int .u64 0] 24)) w.heap.size (.int .u64 (h : Int)) (.int .u64 (l : Int)) := (BoxW.new w _ _ _).ext ((Ext.refl _).alloc _)
    have hw : Ext w ((w.alloc (.cells #[.int .u64 (h : Int), .int .u64 (l : Int)] 24)).alloc (.cells #[.int .u64 0, .int .u64 0] 24)) := ((Ext.refl w).alloc _).alloc _
    refine (BT.out _).mono ?_
    rintro e w1 ⟨rfl, hy⟩
    have bR := bR.ext hy
    have bA := bA.ext hy
    have hw := hw.trans hy
    obtain ⟨a0, a1, a2, a3, a4⟩ := bA.ext (Ext.refl _)
    obtain ⟨b0, b1, b2, b3, b4⟩ := bR.ext (Ext.refl _)
    have hr : w.heap.size ≤ w.heap.size + 1 := by omega
    clear bA bR hy
    go_wp2_with fail
    refine bodyPost_ret (v := .tuple #[.agg #[.int .u64 (X : Int), .int .u64 0], .bool true]) (by simp [results, Try.results11, go_sem, b0, b1]) rfl ?_
    exact ⟨rfl, (hw.setCell hr _).setCell hr _⟩
  · have hz' : ((h : Int) == 0) = false := by simp; omega
    clear hz hne
    go_enter Try.func11, Try.ntmps11
    go_wp2_with fail
    have bR : BoxW ((w.alloc (.cells #[.int .u64 (h : Int), .int .u64 (l : Int)] 24)).alloc (.cells #[.int .u64 0, .int .u64 0] 24)) (w.heap.size + 1) (.int .u64 0) (.int .u64 0) := by
      have hb := BoxW.new (w.alloc (.cells #[.int .u64 (h : Int), .int .u64 (l : Int)] 24)) (.int .u64 0) (.int .u64 0) 24
      simpa using hb
    have bA : BoxW ((w.alloc (.cells #[.int .u64 (h : Int), .int .u64 (l : Int)] 24)).alloc (.cells #[.int .u64 0, .int .u64 0] 24)) w.heap.size (.int .u64 (h : Int)) (.int .u64 (l : Int)) := (BoxW.new w _ _ _).ext ((Ext.refl _).alloc _)
    have hw : Ext w ((w.alloc (.cells #[.int .u64 (h : Int), .int .u64 (l : Int)] 24)).alloc (.cells #[.int .u64 0, .int .u64 0] 24)) := ((Ext.refl w).alloc _).alloc _
    refine (BT.out _).mono ?_
    rintro e w1 ⟨rfl, hy⟩
    have bR := bR.ext hy
    have bA := bA.ext hy
    have hw := hw.trans hy
    obtain ⟨a0, a1, a2, a3, a4⟩ := bA.ext (Ext.refl _)
    obtain ⟨b0, b1, b2, b3, b4⟩ := bR.ext (Ext.refl _)
    have hr : w.heap.size ≤ w.heap.size + 1 := by omega
    clear bA bR hy
    go_wp2_with fail
    refine bodyPost_ret (v := .tuple #[.agg #[.int .u64 (X : Int), .int .u64 0], .bool true]) (by simp [results, Try.results11, go_sem, b0, b1]) rfl ?_
    exact ⟨rfl, (hw.setCell hr _).setCell hr _⟩
set_option maxHeartbeats 3200000 in
theorem shift_lo (h l : Nat) (n s : Nat) (w : World) (hh : h < 18446744073709551616) (hl : l < 18446744073709551616) (hz : h ≠ 0 ∨ (h = 0 ∧ l ≠ 0)) (hsn : s + n = 64) (hs1 : 1 ≤ s) (hov : nb h l + n ≤ 128) : Calls Try.prog 11 #[wv h l, .int .i64 (n : Int)] w fun e w' => e = ShE h l (n : Int) ∧ Ext w w' := by
  have BT := Lib.hid (fun w => wbits_any h l w hh hl)
  have hnb := (nb_spec hh hl).2.2
  obtain ⟨p1, p2, p3⟩ := left_lo hsn hl (over_yes hh hl hov)
  have e : ShE h l (n : Int) = .returned (.tuple #[wv (h * 2 ^ n + l / 2 ^ s) (l * 2 ^ n % 18446744073709551616), .bool true]) := by
    unfold ShE
    rw [if_neg (by omega), Int.toNat_natCast, p2, wok_yes p3 (by omega)]
  rw [e]
  have hX2 : h * 2 ^ n < 18446744073709551616 := Nat.lt_of_le_of_lt (Nat.le_add_right _ _) p3
  generalize nb h l = B at *
  have e1 : (64 : Int) - (n : Int) = (s : Int) := by omega
  have e2 : IntKind.u64.wrap ((h : Int) * 2 ^ n) = ((h * 2 ^ n : Nat) : Int) := by
    have : (h : Int) * 2 ^ n = ((h * 2 ^ n : Nat) : Int) := by push_cast; rfl
    rw [this, IntKind.wrap_u64]
    omega
  have e3 : (l : Int) / 2 ^ s = ((l / 2 ^ s : Nat) : Int) := by
    have : ((2 : Int) ^ s) = ((2 ^ s : Nat) : Int) := by norm_cast
    rw [this, Int.natCast_ediv]
  have e4 : IntKind.u64.wrap ((l : Int) * 2 ^ n) = ((l * 2 ^ n % 18446744073709551616 : Nat) : Int) := by
    have : (l : Int) * 2 ^ n = ((l * 2 ^ n : Nat) : Int) := by push_cast; rfl
    rw [this, IntKind.wrap_u64]
    omega
  have e5 := u64_or_nat (h * 2 ^ n) (l / 2 ^ s) hX2 (Nat.lt_of_le_of_lt (Nat.div_le_self _ _) hl)
  rw [p1] at e5
  obtain ⟨X, hX⟩ : ∃ X, h * 2 ^ n = X := ⟨_, rfl⟩
  obtain ⟨Y, hY⟩ : ∃ Y, l / 2 ^ s = Y := ⟨_, rfl⟩
  obtain ⟨Z, hZ⟩ : ∃ Z, l * 2 ^ n % 18446744073709551616 = Z := ⟨_, rfl⟩
  rw [hX] at e2 e5 ⊢
  rw [hY] at e3 e5 ⊢
  rw [hZ] at e4 ⊢
  clear e p1 p2 p3 hX2 hX hY hZ
  unfold wv at *
  by_cases hne : h = 0
  · have hz' : ((l : Int) == 0) = false := by simp; omega
    have hz0 : ((h : Int) == 0) = true := by simp; omega
    clear hz hne
    go_enter Try.func11, Try.ntmps11
    go_wp2_with fail
    have bR : BoxW ((w.alloc (.cells #[.int .u64 (h : Int), .int .u64 (l : Int)] 24)).alloc (.cells #[.int .u64 0, .int .u64 0] 24)) (w.heap.size + 1) (.int .u64 0) (.int .u64 0) := by
      have hb := BoxW.new (w.alloc (.cells #[.int .u64 (h : Int), .int .u64 (l : Int)] 24)) (.int .u64 0) (.int .u64 0) 24
      simpa using hb
    have bA : BoxW ((w.alloc (.cells #[.int .u64 (h : Int), .int .u64 (l : Int)] 24)).alloc (.cells #[.int .u64 0, .int .u64 0] 24)) w.heap.size (.int .u64 (h : Int)) (.int .u64 (l : Int)) := (BoxW.new w _ _ _).ext ((Ext.refl _).alloc _)
    have hw : Ext w ((w.alloc (.cells #[.int .u64 (h : Int), .int .u64 (l : Int)] 24)).alloc (.cells #[.int .u64 0, .int .u64 0] 24)) := ((Ext.refl w).alloc _).alloc _
    refine (BT.out _).mono ?_
    rintro e w1 ⟨rfl, hy⟩
    have bR := bR.ext hy
    have bA := bA.ext hy
    have hw := hw.trans hy
    obtain ⟨a0, a1, a2, a3, a4⟩ := bA.ext (Ext.refl _)
    obtain ⟨b0, b1, b2, b3, b4⟩ := bR.ext (Ext.refl _)
    have hr : w.heap.size ≤ w.heap.size + 1 := by omega
    clear bA bR hy
    go_wp2_with fail
    refine bodyPost_ret (v := .tuple #[.agg #[.int .u64 ((X + Y : Nat) : Int), .int .u64 (Z : Int)], .bool true]) (by simp [results, Try.results11, go_sem, b0, b1]) rfl ?_
    exact ⟨rfl, (hw.setCell hr _).setCell hr _⟩
  · have hz' : ((h : Int) == 0) = false := by simp; omega
    clear hz hne
    go_enter Try.func11, Try.ntmps11
    go_wp2_with fail
    have bR : BoxW ((w.alloc (.cells #[.int .u64 (h : Int), .int .u64 (l : Int)] 24)).alloc (.cells #[.int .u64 0, .int .u64 0] 24)) (w.heap.size + 1) (.int .u64 0) (.int .u64 0) := by
      have hb := BoxW.new (w.alloc (.cells #[.int .u64 (h : Int), .int .u64 (l : Int)] 24)) (.int .u64 0) (.int .u64 0) 24
      simpa using hb
    have bA : BoxW ((w.alloc (.cells #[.int .u64 (h : Int), .int .u64 (l : Int)] 24)).alloc (.cells #[.int .u64 0, .int .u64 0] 24)) w.heap.size (.int .u64 (h : Int)) (.int .u64 (l : Int)) := (BoxW.new w _ _ _).ext ((Ext.refl _).alloc _)
    have hw : Ext w ((w.alloc (.cells #[.int .u64 (h : Int), .int .u64 (l : Int)] 24)).alloc (.cells #[.int .u64 0, .int .u64 0] 24)) := ((Ext.refl w).alloc _).alloc _
    refine (BT.out _).mono ?_
    rintro e w1 ⟨rfl, hy⟩
    have bR := bR.ext hy
    have bA := bA.ext hy
    have hw := hw.trans hy
    obtain ⟨a0, a1, a2, a3, a4⟩ := bA.ext (Ext.refl _)
    obtain ⟨b0, b1, b2, b3, b4⟩ := bR.ext (Ext.refl _)
    have hr : w.heap.size ≤ w.heap.size + 1 := by omega
    clear bA bR hy
    go_wp2_with fail
    refine bodyPost_ret (v := .tuple #[.agg #[.int .u64 ((X + Y : Nat) : Int), .int .u64 (Z : Int)], .bool true]) (by simp [results, Try.results11, go_sem, b0, b1]) rfl ?_
    exact ⟨rfl, (hw.setCell hr _).setCell hr _⟩
theorem shift_any (h l : Nat) (n : Int) (w : World) (hh : h < 18446744073709551616) (hl : l < 18446744073709551616) : Calls Try.prog 11 #[wv h l, .int .i64 n] w fun e w' => e = ShE h l n ∧ Ext w w' := by
  by_cases h0 : h = 0 ∧ l = 0
  · obtain ⟨rfl, rfl⟩ := h0
    exact shift_zero n w
  have hz : h ≠ 0 ∨ (h = 0 ∧ l ≠ 0) := by omega
  by_cases h1 : n < -127
  · exact shift_far h l n w hh hl hz h1
  by_cases h2 : n < 0
  · obtain ⟨m, hm⟩ := Int.eq_ofNat_of_zero_le (show 0 ≤ -n by omega)
    obtain rfl : n = -(m : Int) := by omega
    exact shift_neg h l m w hh hl hz (by omega) (by omega)
  by_cases h3 : 127 < n
  · exact shift_big h l n w hh hl hz h3
  obtain ⟨m, rfl⟩ := Int.eq_ofNat_of_zero_le (show 0 ≤ n by omega)
  by_cases h4 : 128 < nb h l + m
  · exact shift_over h l m w hh hl hz (by omega) h4
  by_cases h5 : 64 ≤ m
  · obtain ⟨k, rfl⟩ : ∃ k, m = 64 + k := ⟨m - 64, by omega⟩
    exact shift_hi h l k w hh hl hz (by omega) (by omega)
  · exact shift_lo h l m (64 - m) w hh hl hz (by omega) (by omega) (by omega)
end Go.Proofs.Ytbclkhkpmdbedaa
