/-
  Package wide: Cross, walked; alive; the statement WideOrdered, walked.
-/
import Derived.Test.YtbclkhkpmdbedaaWAgainst
import Derived.Test.YtbclkhkpmdbedaaWOpen
namespace Go.Proofs.Ytbclkhkpmdbedaa
open Go.RowKit
set_option linter.unusedVariables false
/-- Are a / b and c / d quotients? How they compare. -/
def crB (a b c d : Int) : Bool := decide (0 ≤ a ∧ 1 ≤ b ∧ 0 ≤ c ∧ 1 ≤ d)
def crV (a b c d : Int) : Int := if crB a b c d then cmpI (a.toNat * d.toNat) (b.toNat * c.toNat) else 0
def CrE (a b c d : Int) : Ending := .returned (.tuple #[.int .i64 (crV a b c d), .bool (crB a b c d)])
theorem mul63 {a b : Nat} (ha : a ≤ 9223372036854775807) (hb : b ≤ 9223372036854775807) : a * b < 340282366920938463463374607431768211456 :=
  Nat.lt_of_le_of_lt (Nat.mul_le_mul ha hb) (by decide)
set_option maxHeartbeats 1600000 in
theorem cross_any (a b c d : Int) (w : World) (ha : I64 a) (hb : I64 b) (hc : I64 c) (hd : I64 d) :
    Calls Try.prog 22 #[.int .i64 a, .int .i64 b, .int .i64 c, .int .i64 d] w fun e w' => e = CrE a b c d ∧ Ext w w' := by
  unfold I64 at *
  by_cases h : 0 ≤ a ∧ 1 ≤ b
  · obtain ⟨h1, h2⟩ := h
    obtain ⟨a, rfl⟩ := Int.eq_ofNat_of_zero_le h1
    obtain ⟨b, rfl⟩ := Int.eq_ofNat_of_zero_le (show 0 ≤ b by omega)
    have O1 := Lib.hid (fun w => wof_any a w)
    have O2 := Lib.hid (fun w => wof_any b w)
    by_cases h3 : 0 ≤ c ∧ 1 ≤ d
    · obtain ⟨h3, h4⟩ := h3
      obtain ⟨c, rfl⟩ := Int.eq_ofNat_of_zero_le h3
      obtain ⟨d, rfl⟩ := Int.eq_ofNat_of_zero_le (show 0 ≤ d by omega)
      have e : Ag (N2 0 a) (N2 0 b) c d = CrE a b c d := by
        have e1 : N2 0 a = a := by unfold N2; omega
        have e2 : N2 0 b = b := by unfold N2; omega
        have g1 := mul63 (a := a) (b := d) (by omega) (by omega)
        have g2 := mul63 (a := b) (b := c) (by omega) (by omega)
        have e3 : crB a b c d = true := by unfold crB; exact decide_eq_true ⟨by omega, by omega, by omega, by omega⟩
        unfold Ag CrE crV
        rw [e1, e2, e3, if_pos ⟨g1, g2⟩]
        rfl
      have AG := Lib.hid (fun w => against_any 0 a 0 b c d w (by omega) (by omega) (by omega) (by omega) (.inr (by omega)) (by omega) (by omega) (by omega))
      simp only [e] at AG
      clear e
      unfold CrE pv wv at *
      generalize crV a b c d = V at *
      generalize crB a b c d = B at *
      go_enter Try.func22, Try.ntmps22
      go_wp2_with fail
      refine (O1.out _).mono ?_
      rintro e w1 ⟨rfl, hx⟩
      go_wp2_with fail
      refine (O2.out _).mono ?_
      rintro e w2 ⟨rfl, hy⟩
      have hx := hx.trans hy
      clear hy
      go_wp2_with fail
      refine (AG.out _).mono ?_
      rintro e w3 ⟨rfl, hy⟩
      have hx := hx.trans hy
      clear hy
      go_wp2_with fail
      go_ret2
      exact ⟨rfl, hx⟩
    · have e3 : crB a b c d = false := by unfold crB; exact decide_eq_false (fun h => h3 ⟨h.2.2.1, h.2.2.2⟩)
      have AG := Lib.hid (fun w => against_no 0 a 0 b c d w (by omega))
      unfold CrE crV
      rw [e3, if_neg (by simp)]
      clear e3 h3
      unfold pv wv at *
      go_enter Try.func22, Try.ntmps22
      go_wp2_with fail
      refine (O1.out _).mono ?_
      rintro e w1 ⟨rfl, hx⟩
      go_wp2_with fail
      refine (O2.out _).mono ?_
      rintro e w2 ⟨rfl, hy⟩
      have hx := hx.trans hy
      clear hy
      go_wp2_with fail
      refine (AG.out _).mono ?_
      rintro e w3 ⟨rfl, hy⟩
      have hx := hx.trans hy
      clear hy
      go_wp2_with fail
      go_ret2
      exact ⟨rfl, hx⟩
  · have e3 : crB a b c d = false := by unfold crB; exact decide_eq_false (fun h' => h ⟨h'.1, h'.2.1⟩)
    unfold CrE crV
    rw [e3, if_neg (by simp)]
    clear e3
    by_cases h1 : a < 0
    · clear h
      go_enter Try.func22, Try.ntmps22
      go_wp2_with fail
      go_ret2
      exact ⟨rfl, Ext.refl w⟩
    · have h2 : b < 1 := by omega
      clear h
      go_enter Try.func22, Try.ntmps22
      go_wp2_with fail
      go_ret2
      exact ⟨rfl, Ext.refl w⟩
set_option maxHeartbeats 800000 in
theorem alive_any (w : World) : Calls Try.prog 10 #[] w fun e w' => e = .returned (.bool true) ∧ Ext w w' := by
  have O1 := Lib.hid (fun w => wof_any 1 w)
  have A1 := Lib.hid (fun w => wadd_any 0 18446744073709551615 0 1 w (by omega) (by omega) (by omega) (by omega))
  have e : WOk (N2 0 18446744073709551615 + N2 0 1) = .returned (.tuple #[wv 1 0, .bool true]) := by
    rw [show N2 0 18446744073709551615 + N2 0 1 = N2 1 0 by unfold N2; omega, wok_yes (by omega) (by omega)]
  simp only [e] at A1
  clear e
  unfold wv at *
  go_enter Try.func10, Try.ntmps10
  go_wp2_with fail
  refine (O1.out _).mono ?_
  rintro e w1 ⟨rfl, hx⟩
  go_wp2_with fail
  refine (A1.out _).mono ?_
  rintro e w2 ⟨rfl, hy⟩
  have hx := hx.trans hy
  clear hy
  go_wp2_with fail
  go_ret
  exact ⟨rfl, hx.alloc _⟩
end Go.Proofs.Ytbclkhkpmdbedaa
