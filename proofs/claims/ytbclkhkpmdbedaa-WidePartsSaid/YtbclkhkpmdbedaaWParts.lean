/-
  The statement WideParts, walked.
-/
import Derived.Test.YtbclkhkpmdbedaaWParts1
import Derived.Test.YtbclkhkpmdbedaaWParts2
import Derived.Test.YtbclkhkpmdbedaaWParts3
import Derived.BigRegion
namespace Go.Proofs.Ytbclkhkpmdbedaa
open Go.RowKit
set_option linter.unusedVariables false
theorem parts_any (a b c d : Nat) (q t x y : Int) (w : World) (ha : a < 18446744073709551616) (hb : b < 18446744073709551616) (hc : c < 18446744073709551616) (hd : d < 18446744073709551616) (hq : I64 q) (ht : I64 t) (hx : I64 x) (hy : I64 y) :
    Calls Try.prog 6 #[parts a b c d q t x y] w fun e w' => e = .returned (.bool true) ∧ Ext w w' := by
  have AL := Lib.hid alive_any
  obtain ⟨r1, r2, r3, r4, ok, P1, P2⟩ := plus_both a b c d q t ha hb hc hd hq ht
  obtain ⟨v, ok2, P3, P4⟩ := ag_both a b c d q t ha hb hc hd hq ht
  have P5 := fun w => cross_any x y q t w hx hy hq ht
  have P6 := crE_ag x y q t hx hy hq ht
  have e0 : ¬ (0 ≤ x ∧ 1 ≤ y) → crV x y q t = 0 ∧ crB x y q t = false := fun h => by
    have e3 : crB x y q t = false := by unfold crB; exact decide_eq_false (fun h' => h ⟨h'.1, h'.2.1⟩)
    unfold crV
    rw [e3, if_neg (by simp)]
    exact ⟨rfl, rfl⟩
  unfold CrE at P5 P6
  by_cases h : 0 ≤ x ∧ 1 ≤ y
  · have P6 := P6 h
    unfold I64 at hx hy
    obtain ⟨x, rfl⟩ := Int.eq_ofNat_of_zero_le h.1
    obtain ⟨y, rfl⟩ := Int.eq_ofNat_of_zero_le (show 0 ≤ y by omega)
    rw [Int.toNat_natCast, Int.toNat_natCast] at P6
    exact parts_w0 a b c d r1 r2 r3 r4 q t v _ ok ok2 _ x y w hx.2 h.2 hy.2 AL (Lib.hid P1) (Lib.hid P2) (Lib.hid P3) (Lib.hid P4) (Lib.hid P5) (Lib.hid P6)
  · obtain ⟨e1, e2⟩ := e0 h
    rw [e1, e2] at P5
    by_cases g1 : 0 ≤ x
    · exact parts_w1 a b c d r1 r2 r3 r4 q t v 0 ok ok2 false x y w g1 (fun g2 => h ⟨g1, g2⟩) AL (Lib.hid P1) (Lib.hid P2) (Lib.hid P3) (Lib.hid P4) (Lib.hid P5)
    · exact parts_w2 a b c d r1 r2 r3 r4 q t v 0 ok ok2 false x y w g1 AL (Lib.hid P1) (Lib.hid P2) (Lib.hid P3) (Lib.hid P4) (Lib.hid P5)
end Go.Proofs.Ytbclkhkpmdbedaa
