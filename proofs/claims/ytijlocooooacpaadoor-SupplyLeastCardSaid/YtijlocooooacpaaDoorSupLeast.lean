/-
  Package supply: Least.
-/
import Derived.Test.YtijlocooooacpaaDoorSupSlope
import Derived.Test.YtijlocooooacpaaDoorTkMul
namespace Go.Proofs.YtijlocooooacpaaDoor
open Go.RowKit
set_option linter.unusedVariables false
/-- The least interval in which x ticks are given. -/
def leastOf (g q t x : Int) : Int := if x = 0 then 0 else (x - 1) / q * t + (g + t - q + x - (x - 1) / q * q)
theorem given_mono {g q t x y : Int} (hq : 1 ≤ q) (hqt : q ≤ t) (h : x ≤ y) : given g q t x ≤ given g q t y := by
  rw [given_per, given_per]
  by_cases h1 : x ≤ g
  · rw [if_pos h1]
    split
    · omega
    · exact (per_le hq hqt (by omega)).1
  · rw [if_neg h1, if_neg (by omega)]
    exact per_mono hq hqt (by omega)
theorem given_ge {g q t l : Int} (hq : 1 ≤ q) (hqt : q ≤ t) (h : g ≤ l) : given g q t l = per q t (l - g) := by
  rw [given_per]
  split
  · rw [show l - g = 0 by omega, per_zero hq hqt]
  · rfl
theorem least_rest {q x : Int} (hq : 1 ≤ q) (hx : 1 ≤ x) : 0 ≤ (x - 1) / q ∧ 1 ≤ x - (x - 1) / q * q ∧ x - (x - 1) / q * q ≤ q := by
  have h1 := Int.ediv_mul_add_emod (x - 1) q
  have h2 := Int.emod_nonneg (x - 1) (show q ≠ 0 by omega)
  have h3 := Int.emod_lt_of_pos (x - 1) (show 0 < q by omega)
  exact ⟨Int.ediv_nonneg (by omega) (by omega), by omega, by omega⟩
theorem least_gives {g q t x : Int} (hg : 0 ≤ g) (hq : 1 ≤ q) (hqt : q ≤ t) (hx : 1 ≤ x) :
    given g q t (leastOf g q t x) = x ∧ given g q t (leastOf g q t x - 1) = x - 1 ∧ 1 ≤ leastOf g q t x := by
  obtain ⟨p0, r1, r2⟩ := least_rest hq hx
  unfold leastOf
  rw [if_neg (by omega)]
  generalize (x - 1) / q = P at *
  have pt := Int.mul_nonneg p0 (show 0 ≤ t by omega)
  refine ⟨?_, ?_, by omega⟩
  · rw [given_ge hq hqt (by omega), show P * t + (g + t - q + x - P * q) - g = P * t + (t - q + (x - P * q)) by omega, per_period hq hqt, per_low hq hqt (by omega) r2]
    omega
  · rw [given_ge hq hqt (by omega), show P * t + (g + t - q + x - P * q) - 1 - g = P * t + (t - q + (x - P * q - 1)) by omega, per_period hq hqt, per_low hq hqt (by omega) (by omega)]
    omega
theorem least_bound {g q t x : Int} (hg : 0 ≤ g) (hg1 : g ≤ 256) (hq : 1 ≤ q) (hqt : q ≤ t) (ht : t ≤ 256) (hx : 1 ≤ x) (hx1 : x ≤ 1099511627776) :
    0 ≤ (x - 1) / q ∧ (x - 1) / q ≤ 1099511627776 ∧ 0 ≤ (x - 1) / q * t ∧ (x - 1) / q * t ≤ 281474976710656 ∧ 0 ≤ (x - 1) / q * q ∧ (x - 1) / q * q ≤ x := by
  obtain ⟨p0, r1, r2⟩ := least_rest hq hx
  have h1 := Int.mul_le_mul_of_nonneg_left hq p0
  have h2 := Int.mul_le_mul_of_nonneg_left ht p0
  have h3 := Int.mul_nonneg p0 (show 0 ≤ t by omega)
  have h4 := Int.mul_nonneg p0 (show 0 ≤ q by omega)
  generalize (x - 1) / q = P at *
  omega

set_option maxHeartbeats 1600000 in
theorem rleast_any (g q t x : Int) (w : World) (hg : 0 ≤ g) (hg1 : g ≤ 256) (hq : 1 ≤ q) (hqt : q ≤ t) (ht : t ≤ 256) (hx : 0 ≤ x) (hx1 : x ≤ 1099511627776) :
    Calls Tryd.prog 25 #[rowV g q t, .int .i64 x] w fun e w' => e = Pair (leastOf g q t x) (decide (leastOf g q t x ≤ 1099511627776)) ∧ Ext w w' := by
  unfold rowV
  by_cases h0 : x = 0
  · subst h0
    have e : leastOf g q t 0 = 0 := by unfold leastOf; rw [if_pos rfl]
    rw [e]
    unfold Pair
    go_enter Tryd.func25, Tryd.ntmps25
    go_wp2_with fail
    go_returns
    exact ⟨rfl, (Ext.refl w).alloc _⟩
  · obtain ⟨b1, b2, b3, b4, b5, b6⟩ := least_bound hg hg1 hq hqt ht (show 1 ≤ x by omega) hx1
    have e : leastOf g q t x = (x - 1) / q * t + (g + t - q + x - (x - 1) / q * q) := by unfold leastOf; rw [if_neg h0]
    have hd : Int.tdiv (x - 1) q = (x - 1) / q := Int.tdiv_eq_ediv_of_nonneg (by omega)
    have h0' : (x == 0) = false := by simpa using h0
    have hq0 : (q == 0) = false := by simp; omega
    rw [e]
    obtain ⟨P, hP⟩ : ∃ P, (x - 1) / q = P := ⟨_, rfl⟩
    rw [hP] at b1 b2 b3 b4 b5 b6 hd ⊢
    have MU := Lib.hid (fun w => mul_any P t w (by unfold I64; omega) (by unfold I64; omega))
    obtain ⟨M, hM⟩ : ∃ M, P * t = M := ⟨_, rfl⟩
    obtain ⟨R, hR⟩ : ∃ R, P * q = R := ⟨_, rfl⟩
    rw [hM] at b3 b4 MU ⊢
    rw [hR] at b5 b6 ⊢
    rw [okV_yes (x := M) (by omega), okB_yes (x := M) (by omega)] at MU
    have AD := Lib.hid (fun w => add_any M (g + t - q + x - R) w (by unfold I64; omega) (by unfold I64; omega))
    rw [okV_yes (x := M + (g + t - q + x - R)) (by omega), okB_yes (x := M + (g + t - q + x - R)) (by omega)] at AD
    have w1 : wrap64 (P * q) = R := by rw [hR]; unfold wrap64; omega
    clear e hP hM hR h0
    unfold Pair at *
    go_enter Tryd.func25, Tryd.ntmps25
    go_wp2_with fail
    refine (MU.out _).mono ?_
    rintro e u1 ⟨rfl, rfl⟩
    go_wp2_with fail
    refine (AD.out _).mono ?_
    rintro e u2 ⟨rfl, rfl⟩
    go_wp2_with fail
    go_returns
    exact ⟨rfl, (Ext.refl w).alloc _⟩
end Go.Proofs.YtijlocooooacpaaDoor
