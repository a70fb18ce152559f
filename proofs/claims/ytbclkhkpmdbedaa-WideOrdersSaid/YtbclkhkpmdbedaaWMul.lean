/-
  Package wide: Mul, Compare, Against, Cross, walked; math/bits.Mul64, cmp.Or, cmp.Compare.
-/
import Derived.Test.YtbclkhkpmdbedaaWide
namespace Go.Proofs.Ytbclkhkpmdbedaa
open Go.RowKit
set_option linter.unusedVariables false

theorem and32_u64 (n : Nat) (h : n < 18446744073709551616) : Go.bits .and .u64 (n : Int) 4294967295 = ((n % 4294967296 : Nat) : Int) := by
  have := u64_and_nat n 4294967295 h (by decide)
  rw [nat_mask32] at this
  exact this

/-- The two words of a product. -/
def Words (p : Nat) : Ending := .returned (.tuple #[.int .u64 (p / 18446744073709551616 : Nat), .int .u64 (p % 18446744073709551616 : Nat)])

theorem mul64_plain (x y : Nat) (hx : x < 18446744073709551616) (hy : y < 18446744073709551616) :
    ∃ x0 x1 y0 y1 w0 p q r : Nat, x % 4294967296 = x0 ∧ x / 4294967296 = x1 ∧ y % 4294967296 = y0 ∧ y / 4294967296 = y1 ∧ x0 * y0 = w0 ∧ x1 * y0 = p ∧ x0 * y1 = q ∧ x1 * y1 = r ∧
      w0 < 18446744073709551616 ∧ p + w0 / 4294967296 < 18446744073709551616 ∧ (p + w0 / 4294967296) % 4294967296 + q < 18446744073709551616 ∧
      r + (p + w0 / 4294967296) / 4294967296 + ((p + w0 / 4294967296) % 4294967296 + q) / 4294967296 = x * y / 18446744073709551616 ∧ p < 18446744073709551616 ∧ q < 18446744073709551616 ∧ r < 18446744073709551616 ∧
      r + (p + w0 / 4294967296) / 4294967296 < 18446744073709551616 ∧ x * y / 18446744073709551616 < 18446744073709551616 := by
  obtain ⟨h1, h2, h3, h4⟩ := Lib.mul64_hi x y hx hy
  have g1 := Lib.half_mul_le (a := x / 4294967296) (b := y % 4294967296) (by omega) (by omega)
  have g2 := Lib.half_mul_le (a := x % 4294967296) (b := y / 4294967296) (by omega) (by omega)
  have g3 := Lib.half_mul_le (a := x / 4294967296) (b := y / 4294967296) (by omega) (by omega)
  have g4 : x * y / 18446744073709551616 < 18446744073709551616 := by
    have : x * y ≤ 18446744073709551615 * 18446744073709551615 := Nat.mul_le_mul (by omega) (by omega)
    omega
  refine ⟨_, _, _, _, _, _, _, _, rfl, rfl, rfl, rfl, rfl, rfl, rfl, rfl, h1, h2, h3, h4, by omega, by omega, by omega, by omega, g4⟩

set_option maxHeartbeats 800000 in
theorem mul64_any (x y : Nat) (w : World) (hx : x < 18446744073709551616) (hy : y < 18446744073709551616) :
    Calls Try.prog 47 #[.int .u64 (x : Int), .int .u64 (y : Int)] w fun e w' => e = Words (x * y) ∧ w = w' := by
  obtain ⟨x0, x1, y0, y1, w0, p, q, r, a1, a2, a3, a4, m1, m2, m3, m4, b1, b2, b3, b4, b5, b6, b7, b8, b9⟩ := mul64_plain x y hx hy
  have c1 : Go.bits .and .u64 (x : Int) 4294967295 = (x0 : Int) := by rw [← a1]; exact and32_u64 x hx
  have c2 : (x : Int) / 4294967296 = (x1 : Int) := by rw [← a2]; omega
  have c3 : Go.bits .and .u64 (y : Int) 4294967295 = (y0 : Int) := by rw [← a3]; exact and32_u64 y hy
  have c4 : (y : Int) / 4294967296 = (y1 : Int) := by rw [← a4]; omega
  have d1 : (x0 : Int) * (y0 : Int) = (w0 : Int) := by rw [← m1]; simp
  have d2 : (x1 : Int) * (y0 : Int) = (p : Int) := by rw [← m2]; simp
  have d3 : (x0 : Int) * (y1 : Int) = (q : Int) := by rw [← m3]; simp
  have d4 : (x1 : Int) * (y1 : Int) = (r : Int) := by rw [← m4]; simp
  obtain ⟨t, ht⟩ : ∃ t, p + w0 / 4294967296 = t := ⟨_, rfl⟩
  rw [ht] at b2 b3 b4 b8
  have e1 : (p : Int) + (w0 : Int) / 4294967296 = (t : Int) := by omega
  obtain ⟨u, hu⟩ : ∃ u, t % 4294967296 = u := ⟨_, rfl⟩
  have e2 : Go.bits .and .u64 (t : Int) 4294967295 = (u : Int) := by rw [← hu]; exact and32_u64 t b2
  rw [hu] at b3 b4
  obtain ⟨v, hv⟩ : ∃ v, u + q = v := ⟨_, rfl⟩
  have e3 : (u : Int) + (q : Int) = (v : Int) := by omega
  rw [hv] at b3 b4
  obtain ⟨P, hP⟩ : ∃ P, x * y = P := ⟨_, rfl⟩
  have e4 : (x : Int) * (y : Int) = (P : Int) := by rw [← hP]; simp
  rw [hP] at b4 b9
  have e5 : (r : Int) + (t : Int) / 4294967296 + (v : Int) / 4294967296 = ((P / 18446744073709551616 : Nat) : Int) := by omega
  rw [hP]
  obtain ⟨H, hH⟩ : ∃ H, P / 18446744073709551616 = H := ⟨_, rfl⟩
  rw [hH] at e5 b9
  have HH := Lib.hid hH
  clear a1 a2 a3 a4 m1 m2 m3 m4 b4 ht hu hv hP hH
  go_enter Try.func47, Try.ntmps47
  go_wp2
  go_ret2
  exact ⟨by unfold Words; rw [HH.out]; rfl, rfl⟩


/-- A product of two words by one, in words. -/
theorem wmul_plain {a b n : Nat} (ha : a < 18446744073709551616) (hb : b < 18446744073709551616) (hn : n < 18446744073709551616) :
    ∃ P Q lo cy h0 ov hi mo : Nat, b * n = P ∧ a * n = Q ∧ P % 18446744073709551616 = lo ∧ P / 18446744073709551616 = cy ∧ Q % 18446744073709551616 = h0 ∧ Q / 18446744073709551616 = ov ∧
      (h0 + cy) % 18446744073709551616 = hi ∧ (h0 + cy) / 18446744073709551616 = mo ∧ lo < 18446744073709551616 ∧ cy < 18446744073709551616 ∧ h0 < 18446744073709551616 ∧ ov < 18446744073709551616 ∧ hi < 18446744073709551616 ∧ mo ≤ 1 ∧
      N2 a b * n = (ov + mo) * 340282366920938463463374607431768211456 + N2 hi lo := by
  have g1 : b * n ≤ 18446744073709551615 * 18446744073709551615 := Nat.mul_le_mul (by omega) (by omega)
  have g2 : a * n ≤ 18446744073709551615 * 18446744073709551615 := Nat.mul_le_mul (by omega) (by omega)
  refine ⟨_, _, _, _, _, _, _, _, rfl, rfl, rfl, rfl, rfl, rfl, rfl, rfl, by omega, by omega, by omega, by omega, by omega, by omega, ?_⟩
  have e : N2 a b * n = a * n * 18446744073709551616 + b * n := by
    unfold N2
    rw [Nat.add_mul, Nat.mul_right_comm]
  rw [e]
  generalize a * n = Q at *
  generalize b * n = P at *
  unfold N2
  omega
theorem or_no (x y : Nat) (hx : x < 18446744073709551616) (hy : y < 18446744073709551616) (h : x + y ≠ 0) : (Go.bits .or .u64 (x : Int) (y : Int) != 0) = true := by
  rw [u64_or_nat x y hx hy]
  have h1 : x ≤ x ||| y := Nat.left_le_or
  have h2 : y ≤ x ||| y := Nat.right_le_or
  simp
  omega

set_option maxHeartbeats 800000 in
theorem wmul_any (a b n : Nat) (w : World) (ha : a < 18446744073709551616) (hb : b < 18446744073709551616) (hn : n < 18446744073709551616) :
    Calls Try.prog 27 #[wv a b, .int .u64 (n : Int)] w fun e w' => e = WOk (N2 a b * n) ∧ Ext w w' := by
  obtain ⟨P, Q, lo, cy, h0, ov, hi, mo, e1, e2, e3, e4, e5, e6, e7, e8, l1, l2, l3, l4, l5, l6, e9⟩ := wmul_plain ha hb hn
  have M1 := Lib.hid (fun w => mul64_any b n w hb hn)
  have M2 := Lib.hid (fun w => mul64_any a n w ha hn)
  unfold Words at M1 M2
  simp only [e1, e3, e4] at M1
  simp only [e2, e5, e6] at M2
  have A1 := Lib.hid (fun w => add64_zero h0 cy w)
  simp only [e7, e8] at A1
  rw [e9]
  clear e1 e2 e3 e4 e5 e6 e7 e8 e9
  by_cases hz : ov + mo = 0
  · obtain ⟨rfl, rfl⟩ : ov = 0 ∧ mo = 0 := by omega
    have z : ((0 : Nat) : Int) = 0 := rfl
    rw [z] at M2 A1
    rw [show (0 + 0) * 340282366920938463463374607431768211456 + N2 hi lo = N2 hi lo by omega, wok_yes l5 l1]
    clear z
    unfold wv
    go_enter Try.func27, Try.ntmps27
    go_wp2_with fail
    refine (M1.out _).mono ?_
    rintro e w1 ⟨rfl, rfl⟩
    go_wp2_with fail
    refine (M2.out _).mono ?_
    rintro e w1 ⟨rfl, rfl⟩
    go_wp2_with (simp only [A1.out])
    go_returns
    exact ⟨rfl, ((Ext.refl w).alloc _).alloc _⟩
  · have hor := or_no ov mo l4 (by omega) hz
    rw [wok_no (by omega)]
    unfold wv WNo
    go_enter Try.func27, Try.ntmps27
    go_wp2_with fail
    refine (M1.out _).mono ?_
    rintro e w1 ⟨rfl, rfl⟩
    go_wp2_with fail
    refine (M2.out _).mono ?_
    rintro e w1 ⟨rfl, rfl⟩
    go_wp2_with (simp only [A1.out])
    go_returns
    exact ⟨rfl, ((Ext.refl w).alloc _).alloc _⟩

/-- How two numbers compare. -/
def cmpI (x y : Nat) : Int := if x < y then -1 else if y < x then 1 else 0
set_option maxHeartbeats 400000 in
theorem nan_any (x : Nat) (w : World) : Calls Try.prog 50 #[.int .u64 (x : Int)] w fun e w' => e = .returned (.bool false) ∧ w = w' := by
  go_enter Try.func50, Try.ntmps50
  go_wp2_with fail
  go_ret
  exact ⟨rfl, rfl⟩
set_option maxHeartbeats 400000 in
theorem cmp_any (x y : Nat) (w : World) : Calls Try.prog 43 #[.int .u64 (x : Int), .int .u64 (y : Int)] w fun e w' => e = .returned (.int .i64 (cmpI x y)) ∧ w = w' := by
  have N := Lib.hid nan_any
  unfold cmpI
  by_cases h1 : x < y
  · rw [if_pos h1]
    go_enter Try.func43, Try.ntmps43
    go_wp2_with fail
    refine (N.out x _).mono ?_
    rintro e w1 ⟨rfl, rfl⟩
    go_wp2_with fail
    refine (N.out y _).mono ?_
    rintro e w1 ⟨rfl, rfl⟩
    go_wp2_with fail
    go_ret
    exact ⟨rfl, rfl⟩
  · rw [if_neg h1]
    by_cases h2 : y < x
    · rw [if_pos h2]
      go_enter Try.func43, Try.ntmps43
      go_wp2_with fail
      refine (N.out x _).mono ?_
      rintro e w1 ⟨rfl, rfl⟩
      go_wp2_with fail
      refine (N.out y _).mono ?_
      rintro e w1 ⟨rfl, rfl⟩
      go_wp2_with fail
      go_ret
      exact ⟨rfl, rfl⟩
    · rw [if_neg h2]
      go_enter Try.func43, Try.ntmps43
      go_wp2_with fail
      refine (N.out x _).mono ?_
      rintro e w1 ⟨rfl, rfl⟩
      go_wp2_with fail
      refine (N.out y _).mono ?_
      rintro e w1 ⟨rfl, rfl⟩
      go_wp2_with fail
      go_ret
      exact ⟨rfl, rfl⟩
set_option maxHeartbeats 400000 in
/-- The first of two numbers that is not 0. -/
theorem or_any (x y : Int) (c g : Nat) (w : World) (h0 : w.cell? ⟨g, 0, none⟩ = some (.int .i64 x)) (h1 : w.cell? ⟨g, 1, none⟩ = some (.int .i64 y)) :
    Calls Try.prog 42 #[.slice (some ⟨g, 0, none⟩) 2 c] w fun e w' => e = .returned (.int .i64 (if x = 0 then y else x)) ∧ w = w' := by
  by_cases hx : x = 0
  · rw [if_pos hx]
    subst hx
    by_cases hy : y = 0
    · subst hy
      go_enter Try.func42, Try.ntmps42
      go_wp2_with fail
      refine wp_loop_rounds 3 ?_
      rw [rounds_succ]
      go_wp2_with fail
      rw [rounds_succ]
      go_wp2_with fail
      rw [rounds_succ]
      go_wp2_with fail
      go_ret
      exact ⟨rfl, rfl⟩
    · have e : (y != 0) = true := by simpa using hy
      go_enter Try.func42, Try.ntmps42
      go_wp2_with fail
      refine wp_loop_rounds 2 ?_
      rw [rounds_succ]
      go_wp2_with fail
      rw [rounds_succ]
      go_wp2_with fail
      go_ret
      exact ⟨rfl, rfl⟩
  · have e : (x != 0) = true := by simpa using hx
    rw [if_neg hx]
    go_enter Try.func42, Try.ntmps42
    go_wp2_with fail
    refine wp_loop_rounds 1 ?_
    rw [rounds_succ]
    go_wp2_with fail
    go_ret
    exact ⟨rfl, rfl⟩
end Go.Proofs.Ytbclkhkpmdbedaa
