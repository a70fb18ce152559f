/-
  The statement WideParts: both sides' calls, of whatever is handed in.
-/
import Derived.Test.YtbclkhkpmdbedaaWPlus2
import Derived.BigRegion
namespace Go.Proofs.Ytbclkhkpmdbedaa
open Go.RowKit
set_option linter.unusedVariables false
theorem legal_or (c d : Nat) (q t : Int) : (∃ q' t' : Nat, q = q' ∧ t = t' ∧ 1 ≤ t' ∧ (c ≠ 0 ∨ d ≠ 0)) ∨ ((c = 0 ∧ d = 0) ∨ q < 0 ∨ t < 1) := by
  by_cases h : (c = 0 ∧ d = 0) ∨ q < 0 ∨ t < 1
  · exact .inr h
  · left
    obtain ⟨q', rfl⟩ := Int.eq_ofNat_of_zero_le (show 0 ≤ q by omega)
    obtain ⟨t', rfl⟩ := Int.eq_ofNat_of_zero_le (show 0 ≤ t by omega)
    exact ⟨q', t', rfl, rfl, by omega, by omega⟩
theorem plusE_ex (S T : Nat) : ∃ r1 r2 r3 r4 ok, PlusE S T = .returned (.tuple #[pv r1 r2 r3 r4, .bool ok]) := by
  unfold PlusE
  split
  · exact ⟨_, _, _, _, _, rfl⟩
  · exact ⟨_, _, _, _, _, rfl⟩
theorem ag_ex (n d q t : Nat) : ∃ v ok, Ag n d q t = .returned (.tuple #[.int .i64 v, .bool ok]) := by
  unfold Ag
  split
  · exact ⟨_, _, rfl⟩
  · exact ⟨_, _, rfl⟩
/-- Both Plus, of whatever is handed in. -/
theorem plus_both (a b c d : Nat) (q t : Int) (ha : a < 18446744073709551616) (hb : b < 18446744073709551616) (hc : c < 18446744073709551616) (hd : d < 18446744073709551616) (hq : I64 q) (ht : I64 t) :
    ∃ r1 r2 r3 r4 ok, (∀ w : World, Calls Try.prog 23 #[pv a b c d, .int .i64 q, .int .i64 t] w fun e w' => e = .returned (.tuple #[pv r1 r2 r3 r4, .bool ok]) ∧ Ext w w') ∧
      (∀ w : World, Calls Try.prog 24 #[pv a b c d, .int .i64 q, .int .i64 t] w fun e w' => e = .returned (.tuple #[pv r1 r2 r3 r4, .bool ok]) ∧ Ext w w') := by
  unfold I64 at hq ht
  rcases legal_or c d q t with ⟨q', t', rfl, rfl, h1, h2⟩ | h
  · obtain ⟨r1, r2, r3, r4, ok, e⟩ := plusE_ex (N2 a b * t' + N2 c d * q') (N2 c d * t')
    refine ⟨r1, r2, r3, r4, ok, fun w => ?_, fun w => ?_⟩
    · rw [← e]; exact wplus_any a b c d q' t' w ha hb hc hd h2 (by omega) h1 (by omega)
    · rw [← e]; exact rplus_any a b c d q' t' w ha hb hc hd h2 (by omega) h1 (by omega)
  · exact ⟨0, 0, 0, 0, false, fun w => wplus_no a b c d q t w h, fun w => rplus_no a b c d q t w h⟩
theorem ag_both (a b c d : Nat) (q t : Int) (ha : a < 18446744073709551616) (hb : b < 18446744073709551616) (hc : c < 18446744073709551616) (hd : d < 18446744073709551616) (hq : I64 q) (ht : I64 t) :
    ∃ v ok, (∀ w : World, Calls Try.prog 25 #[pv a b c d, .int .i64 q, .int .i64 t] w fun e w' => e = .returned (.tuple #[.int .i64 v, .bool ok]) ∧ Ext w w') ∧
      (∀ w : World, Calls Try.prog 26 #[pv a b c d, .int .i64 q, .int .i64 t] w fun e w' => e = .returned (.tuple #[.int .i64 v, .bool ok]) ∧ Ext w w') := by
  unfold I64 at hq ht
  rcases legal_or c d q t with ⟨q', t', rfl, rfl, h1, h2⟩ | h
  · obtain ⟨v, ok, e⟩ := ag_ex (N2 a b) (N2 c d) q' t'
    refine ⟨v, ok, fun w => ?_, fun w => ?_⟩
    · rw [← e]; exact against_any a b c d q' t' w ha hb hc hd h2 (by omega) h1 (by omega)
    · rw [← e]; exact ragainst_any a b c d q' t' w ha hb hc hd h2 (by omega) h1 (by omega)
  · exact ⟨0, false, fun w => against_no a b c d q t w h, fun w => ragainst_no a b c d q t w h⟩
theorem crE_ag (x y q t : Int) (hx : I64 x) (hy : I64 y) (hq : I64 q) (ht : I64 t) (h : 0 ≤ x ∧ 1 ≤ y) (w : World) :
    Calls Try.prog 26 #[pv 0 x.toNat 0 y.toNat, .int .i64 q, .int .i64 t] w fun e w' => e = CrE x y q t ∧ Ext w w' := by
  unfold I64 at *
  obtain ⟨a, rfl⟩ := Int.eq_ofNat_of_zero_le h.1
  obtain ⟨b, rfl⟩ := Int.eq_ofNat_of_zero_le (show 0 ≤ y by omega)
  rw [Int.toNat_natCast, Int.toNat_natCast]
  by_cases h3 : 0 ≤ q ∧ 1 ≤ t
  · obtain ⟨c, rfl⟩ := Int.eq_ofNat_of_zero_le h3.1
    obtain ⟨d, rfl⟩ := Int.eq_ofNat_of_zero_le (show 0 ≤ t by omega)
    have e : Ag (N2 0 a) (N2 0 b) c d = CrE a b c d := by
      have e1 : N2 0 a = a := by unfold N2; omega
      have e2 : N2 0 b = b := by unfold N2; omega
      have g1 := mul63 (a := a) (b := d) (by omega) (by omega)
      have g2 := mul63 (a := b) (b := c) (by omega) (by omega)
      have e3 : crB a b c d = true := by unfold crB; exact decide_eq_true ⟨by omega, by omega, by omega, by omega⟩
      unfold Ag CrE crV
      rw [e1, e2, e3, if_pos ⟨g1, g2⟩]
      rfl
    rw [← e]
    exact ragainst_any 0 a 0 b c d w (by omega) (by omega) (by omega) (by omega) (.inr (by omega)) (by omega) (by omega) (by omega)
  · have e3 : crB a b q t = false := by unfold crB; exact decide_eq_false (fun h => h3 ⟨h.2.2.1, h.2.2.2⟩)
    have e4 : CrE a b q t = .returned (.tuple #[.int .i64 0, .bool false]) := by
      unfold CrE crV
      rw [e3, if_neg (by simp)]
    rw [e4]
    exact ragainst_no 0 a 0 b q t w (by omega)
/-- A fraction and four ints that came in. -/
def parts (a b c d : Nat) (q t x y : Int) : Value := .agg #[.int .u64 (a : Int), .int .u64 (b : Int), .int .u64 (c : Int), .int .u64 (d : Int), .int .i64 q, .int .i64 t, .int .i64 x, .int .i64 y]
end Go.Proofs.Ytbclkhkpmdbedaa
