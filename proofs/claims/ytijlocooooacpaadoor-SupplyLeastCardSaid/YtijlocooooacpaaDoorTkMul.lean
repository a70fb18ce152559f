/-
  Package tick in a seat of another layer: Add, amount, signed, Mul; math/bits.Mul64 (I64 lies in YtijlocooooacpaaDoorSupWalks).
-/
import Derived.Test.YtijlocooooacpaaDoorSupWalks
import Derived.Lib.Mul64
import Derived.Laws.Bits64
namespace Go.Proofs.YtijlocooooacpaaDoor
open Go.RowKit
/-- Does a number fit 64 bits? What is answered for it: itself, or 0. -/
def okB (x : Int) : Bool := decide (-9223372036854775808 ≤ x ∧ x ≤ 9223372036854775807)
def okV (x : Int) : Int := if okB x then x else 0
theorem okB_yes {x : Int} (h : -9223372036854775808 ≤ x ∧ x ≤ 9223372036854775807) : okB x = true := by simp [okB, h]
theorem okB_no {x : Int} (h : ¬ (-9223372036854775808 ≤ x ∧ x ≤ 9223372036854775807)) : okB x = false := by simp only [okB, decide_eq_false_iff_not]; exact h
theorem okV_yes {x : Int} (h : -9223372036854775808 ≤ x ∧ x ≤ 9223372036854775807) : okV x = x := by simp [okV, okB_yes h]
theorem okV_no {x : Int} (h : ¬ (-9223372036854775808 ≤ x ∧ x ≤ 9223372036854775807)) : okV x = 0 := by simp [okV, okB_no h]
/-- The two results of a call that says whether its number fits. -/
def Pair (x : Int) (ok : Bool) : Ending := .returned (.tuple #[.int .i64 x, .bool ok])

set_option maxHeartbeats 400000 in
theorem add_any (a b : Int) (w : World) (ha : I64 a) (hb : I64 b) :
    Calls Tryd.prog 28 #[.int .i64 a, .int .i64 b] w fun e w' => e = Pair (okV (a + b)) (okB (a + b)) ∧ w = w' := by
  obtain ⟨a1, a2⟩ := ha
  obtain ⟨b1, b2⟩ := hb
  by_cases h : -9223372036854775808 ≤ a + b ∧ a + b ≤ 9223372036854775807
  · rw [okV_yes h, okB_yes h]
    obtain ⟨h1, h2⟩ := h
    by_cases h3 : 0 ≤ a <;> by_cases h4 : 0 ≤ b
    · have h5 : 0 ≤ a + b := by omega
      go_enter Tryd.func28, Tryd.ntmps28
      go_wp2
      go_ret2
      exact ⟨rfl, rfl⟩
    · go_enter Tryd.func28, Tryd.ntmps28
      go_wp2
      go_ret2
      exact ⟨rfl, rfl⟩
    · go_enter Tryd.func28, Tryd.ntmps28
      go_wp2
      go_ret2
      exact ⟨rfl, rfl⟩
    · have h5 : ¬ 0 ≤ a + b := by omega
      go_enter Tryd.func28, Tryd.ntmps28
      go_wp2
      go_ret2
      exact ⟨rfl, rfl⟩
  · rw [okV_no h, okB_no h]
    by_cases h3 : 0 ≤ a
    · have h4 : 0 ≤ b := by omega
      obtain ⟨c, hc⟩ : ∃ c, wrap64 (a + b) = c := ⟨_, rfl⟩
      have h5 : ¬ 0 ≤ c := by rw [← hc]; unfold wrap64; omega
      clear h
      go_enter Tryd.func28, Tryd.ntmps28
      go_wp2
      go_ret2
      exact ⟨rfl, rfl⟩
    · have h4 : ¬ 0 ≤ b := by omega
      obtain ⟨c, hc⟩ : ∃ c, wrap64 (a + b) = c := ⟨_, rfl⟩
      have h5 : 0 ≤ c := by rw [← hc]; unfold wrap64; omega
      clear h
      go_enter Tryd.func28, Tryd.ntmps28
      go_wp2
      go_ret2
      exact ⟨rfl, rfl⟩

theorem and32_u64 (n : Nat) (h : n < 18446744073709551616) : Go.bits .and .u64 (n : Int) 4294967295 = ((n % 4294967296 : Nat) : Int) := by
  have := u64_and_nat n 4294967295 h (by decide)
  rw [nat_mask32] at this
  exact this

/-- The two words of a product. -/
def Words (p : Nat) : Ending := .returned (.tuple #[.int .u64 (p / 18446744073709551616 : Nat), .int .u64 (p % 18446744073709551616 : Nat)])

theorem mul64_plain (x y : Nat) (hx : x < 18446744073709551616) (hy : y < 18446744073709551616) :
    ∃ x0 x1 y0 y1 w0 p q r : Nat, x % 4294967296 = x0 ∧ x / 4294967296 = x1 ∧ y % 4294967296 = y0 ∧ y / 4294967296 = y1 ∧ x0 * y0 = w0 ∧ x1 * y0 = p ∧ x0 * y1 = q ∧ x1 * y1 = r ∧
      w0 < 18446744073709551616 ∧ p + w0 / 4294967296 < 18446744073709551616 ∧ (p + w0 / 4294967296) % 4294967296 + q < 18446744073709551616 ∧
      r + (p + w0 / 4294967296) / 4294967296 + ((p + w0 / 4294967296) % 4294967296 + q) / 4294967296 = x * y / 18446744073709551616 ∧ p < 18446744073709551616 ∧ q < 18446744073709551616 ∧ r < 18446744073709551616 ∧
      r + (p + w0 / 4294967296) / 4294967296 < 18446744073709551616 ∧ x * y / 18446744073709551616 < 18446744073709551616 := by
  obtain ⟨h1, h2, h3, h4⟩ := Lib.mul64_hi x y hx hy
  have g1 := Lib.half_mul_le (a := x / 4294967296) (b := y % 4294967296) (by omega) (by omega)
  have g2 := Lib.half_mul_le (a := x % 4294967296) (b := y / 4294967296) (by omega) (by omega)
  have g3 := Lib.half_mul_le (a := x / 4294967296) (b := y / 4294967296) (by omega) (by omega)
  have g4 : x * y / 18446744073709551616 < 18446744073709551616 := by
    have : x * y ≤ 18446744073709551615 * 18446744073709551615 := Nat.mul_le_mul (by omega) (by omega)
    omega
  refine ⟨_, _, _, _, _, _, _, _, rfl, rfl, rfl, rfl, rfl, rfl, rfl, rfl, h1, h2, h3, h4, by omega, by omega, by omega, by omega, g4⟩

set_option maxHeartbeats 800000 in
theorem mul64_any (x y : Nat) (w : World) (hx : x < 18446744073709551616) (hy : y < 18446744073709551616) :
    Calls Tryd.prog 29 #[.int .u64 (x : Int), .int .u64 (y : Int)] w fun e w' => e = Words (x * y) ∧ w = w' := by
  obtain ⟨x0, x1, y0, y1, w0, p, q, r, a1, a2, a3, a4, m1, m2, m3, m4, b1, b2, b3, b4, b5, b6, b7, b8, b9⟩ := mul64_plain x y hx hy
  have c1 : Go.bits .and .u64 (x : Int) 4294967295 = (x0 : Int) := by rw [← a1]; exact and32_u64 x hx
  have c2 : (x : Int) / 4294967296 = (x1 : Int) := by rw [← a2]; omega
  have c3 : Go.bits .and .u64 (y : Int) 4294967295 = (y0 : Int) := by rw [← a3]; exact and32_u64 y hy
  have c4 : (y : Int) / 4294967296 = (y1 : Int) := by rw [← a4]; omega
  have d1 : (x0 : Int) * (y0 : Int) = (w0 : Int) := by rw [← m1]; simp
  have d2 : (x1 : Int) * (y0 : Int) = (p : Int) := by rw [← m2]; simp
  have d3 : (x0 : Int) * (y1 : Int) = (q : Int) := by rw [← m3]; simp
  have d4 : (x1 : Int) * (y1 : Int) = (r : Int) := by rw [← m4]; simp
  obtain ⟨t, ht⟩ : ∃ t, p + w0 / 4294967296 = t := ⟨_, rfl⟩
  rw [ht] at b2 b3 b4 b8
  have e1 : (p : Int) + (w0 : Int) / 4294967296 = (t : Int) := by omega
  obtain ⟨u, hu⟩ : ∃ u, t % 4294967296 = u := ⟨_, rfl⟩
  have e2 : Go.bits .and .u64 (t : Int) 4294967295 = (u : Int) := by rw [← hu]; exact and32_u64 t b2
  rw [hu] at b3 b4
  obtain ⟨v, hv⟩ : ∃ v, u + q = v := ⟨_, rfl⟩
  have e3 : (u : Int) + (q : Int) = (v : Int) := by omega
  rw [hv] at b3 b4
  obtain ⟨P, hP⟩ : ∃ P, x * y = P := ⟨_, rfl⟩
  have e4 : (x : Int) * (y : Int) = (P : Int) := by rw [← hP]; simp
  rw [hP] at b4 b9
  have e5 : (r : Int) + (t : Int) / 4294967296 + (v : Int) / 4294967296 = ((P / 18446744073709551616 : Nat) : Int) := by omega
  rw [hP]
  obtain ⟨H, hH⟩ : ∃ H, P / 18446744073709551616 = H := ⟨_, rfl⟩
  rw [hH] at e5 b9
  have HH := Lib.hid hH
  clear a1 a2 a3 a4 m1 m2 m3 m4 b4 ht hu hv hP hH
  go_enter Tryd.func29, Tryd.ntmps29
  go_wp2
  go_ret2
  exact ⟨by unfold Words; rw [HH.out]; rfl, rfl⟩

set_option maxHeartbeats 400000 in
theorem tamount_any (a : Int) (w : World) (ha : I64 a) :
    Calls Tryd.prog 30 #[.int .i64 a] w fun e w' => e = .returned (.int .u64 (a.natAbs : Nat)) ∧ w = w' := by
  obtain ⟨a1, a2⟩ := ha
  by_cases h : a < 0
  · obtain ⟨n, hn⟩ : ∃ n : Nat, (a.natAbs : Int) = n := ⟨_, rfl⟩
    rw [hn]
    have h1 : a = -(n : Int) := by omega
    subst h1
    clear hn
    go_enter Tryd.func30, Tryd.ntmps30
    go_wp2
    go_ret
    refine ⟨?_, rfl⟩
    simp [IntKind.wrap_u64]
    omega
  · obtain ⟨n, rfl⟩ := Int.eq_ofNat_of_zero_le (a := a) (by omega)
    rw [Int.natAbs_natCast]
    go_enter Tryd.func30, Tryd.ntmps30
    go_wp2
    go_ret
    exact ⟨rfl, rfl⟩

set_option maxHeartbeats 800000 in
theorem signed_any (V : Nat) (m : Bool) (w : World) (hV : V < 18446744073709551616) :
    Calls Tryd.prog 31 #[.int .u64 (V : Int), .bool m] w fun e w' => e = Pair (okV (if m then -(V : Int) else V)) (okB (if m then -(V : Int) else V)) ∧ w = w' := by
  cases m
  · rw [if_neg (by simp)]
    by_cases h2 : (V : Int) ≤ 9223372036854775807
    · rw [okV_yes (by omega), okB_yes (by omega)]
      go_enter Tryd.func31, Tryd.ntmps31
      go_wp2
      go_ret2
      exact ⟨rfl, rfl⟩
    · rw [okV_no (by omega), okB_no (by omega)]
      go_enter Tryd.func31, Tryd.ntmps31
      go_wp2
      go_ret2
      exact ⟨rfl, rfl⟩
  · rw [if_pos rfl]
    by_cases h2 : (V : Int) ≤ 9223372036854775808
    · rw [okV_yes (by omega), okB_yes (by omega)]
      go_enter Tryd.func31, Tryd.ntmps31
      go_wp2
      go_ret2
      refine ⟨?_, rfl⟩
      simp [Pair, IntKind.wrap_u64]
      unfold wrap64
      omega
    · rw [okV_no (by omega), okB_no (by omega)]
      go_enter Tryd.func31, Tryd.ntmps31
      go_wp2
      go_ret2
      exact ⟨rfl, rfl⟩

theorem prod_abs (a b : Int) : (if (!(decide (a < 0) == decide (b < 0))) = true then -((a.natAbs * b.natAbs : Nat) : Int) else ((a.natAbs * b.natAbs : Nat) : Int)) = a * b := by
  rw [← Int.natAbs_mul]
  by_cases h1 : a < 0 <;> by_cases h2 : b < 0
  · have := Int.mul_pos_of_neg_of_neg h1 h2
    simp [h1, h2]; omega
  · have := Int.mul_nonpos_of_nonpos_of_nonneg (a := a) (b := b) (by omega) (by omega)
    simp [h1, h2]; omega
  · have := Int.mul_nonpos_of_nonneg_of_nonpos (a := a) (b := b) (by omega) (by omega)
    simp [h1, h2]; omega
  · have := Int.mul_nonneg (a := a) (b := b) (by omega) (by omega)
    simp [h1, h2]; omega
set_option maxHeartbeats 800000 in
theorem mul_any (a b : Int) (w : World) (ha : I64 a) (hb : I64 b) :
    Calls Tryd.prog 27 #[.int .i64 a, .int .i64 b] w fun e w' => e = Pair (okV (a * b)) (okB (a * b)) ∧ w = w' := by
  have HPR := Lib.hid (prod_abs a b)
  have ha' := ha
  have hb' := hb
  unfold I64 at ha' hb'
  generalize hx : a.natAbs = x at *
  generalize hy : b.natAbs = y at *
  have HX := Lib.hid hx
  have HY := Lib.hid hy
  have hx1 : x < 18446744073709551616 := by omega
  have hy1 : y < 18446744073709551616 := by omega
  clear hx hy
  have M := Lib.hid (fun w => mul64_any x y w hx1 hy1)
  by_cases h : x * y < 18446744073709551616
  · have hw : Words (x * y) = .returned (.tuple #[.int .u64 0, .int .u64 (x * y : Nat)]) := by
      unfold Words
      rw [Nat.div_eq_of_lt h, Nat.mod_eq_of_lt h]
      rfl
    have HW := Lib.hid hw
    clear hw
    generalize hP : x * y = P at *
    clear hP
    go_enter Tryd.func27, Tryd.ntmps27
    go_wp2_with fail
    refine (tamount_any a _ ha).mono ?_
    rintro e w1 ⟨rfl, rfl⟩
    rw [HX.out]
    go_wp2_with fail
    refine (tamount_any b _ hb).mono ?_
    rintro e w1 ⟨rfl, rfl⟩
    rw [HY.out]
    go_wp2_with fail
    refine (M.out _).mono ?_
    rintro e w1 ⟨rfl, rfl⟩
    rw [HW.out]
    go_wp2_with fail
    refine (signed_any P _ _ h).mono ?_
    rintro e w1 ⟨rfl, rfl⟩
    rw [HPR.out]
    unfold Pair
    go_wp2_with fail
    go_ret2
    exact ⟨rfl, rfl⟩
  · have hbig : ¬ (-9223372036854775808 ≤ a * b ∧ a * b ≤ 9223372036854775807) := by
      have := HPR.out
      split at this <;> omega
    rw [okV_no hbig, okB_no hbig]
    obtain ⟨H, L, hw, hH⟩ : ∃ H L : Nat, Words (x * y) = .returned (.tuple #[.int .u64 (H : Int), .int .u64 (L : Int)]) ∧ 1 ≤ H := ⟨_, _, rfl, by omega⟩
    have HW := Lib.hid hw
    have hH' : ((H : Int) == 0) = false := by simp; omega
    clear hw h hbig
    generalize hP : x * y = P at *
    clear hP
    go_enter Tryd.func27, Tryd.ntmps27
    go_wp2_with fail
    refine (tamount_any a _ ha).mono ?_
    rintro e w1 ⟨rfl, rfl⟩
    rw [HX.out]
    go_wp2_with fail
    refine (tamount_any b _ hb).mono ?_
    rintro e w1 ⟨rfl, rfl⟩
    rw [HY.out]
    go_wp2_with fail
    refine (M.out _).mono ?_
    rintro e w1 ⟨rfl, rfl⟩
    rw [HW.out]
    go_wp2_with fail
    go_ret2
    exact ⟨rfl, rfl⟩

end Go.Proofs.YtijlocooooacpaaDoor
