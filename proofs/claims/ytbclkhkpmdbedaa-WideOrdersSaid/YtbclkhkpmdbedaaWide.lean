/-
  Package wide: numbers of two words; Of, Add, Sub, Mul, Compare, walked.
-/
import Derived.Test.YtbclkhkpmdbedaaLib
import Derived.Laws.Externs
import Derived.Laws.Bits64
import Derived.Laws.BitsAllLaws
import Derived.Shelf.Spec.BitsCarry
import Derived.Lib.Mul64
import Derived.Handy
namespace Go.Proofs.Ytbclkhkpmdbedaa
open Go.RowKit
set_option linter.unusedVariables false

/-- The number of two words. -/
def N2 (h l : Nat) : Nat := h * 18446744073709551616 + l
/-- Two words' value. -/
def wv (h l : Nat) : Value := .agg #[.int .u64 (h : Int), .int .u64 (l : Int)]
def wn (n : Nat) : Value := wv (n / 18446744073709551616) (n % 18446744073709551616)
/-- A number, and whether it fits two words. -/
def WOk (n : Nat) : Ending := if n < 340282366920938463463374607431768211456 then .returned (.tuple #[wn n, .bool true]) else .returned (.tuple #[wv 0 0, .bool false])
def WNo : Ending := .returned (.tuple #[wv 0 0, .bool false])
theorem wn_of {h l : Nat} (hl : l < 18446744073709551616) : wn (N2 h l) = wv h l := by
  unfold wn N2
  rw [show (h * 18446744073709551616 + l) / 18446744073709551616 = h by omega, show (h * 18446744073709551616 + l) % 18446744073709551616 = l by omega]
theorem wok_yes {h l : Nat} (hh : h < 18446744073709551616) (hl : l < 18446744073709551616) : WOk (N2 h l) = .returned (.tuple #[wv h l, .bool true]) := by
  unfold WOk
  rw [wn_of hl, if_pos (by unfold N2; omega)]
theorem wok_no {n : Nat} (h : 340282366920938463463374607431768211456 ≤ n) : WOk n = WNo := by
  unfold WOk WNo
  rw [if_neg (by omega)]

theorem add64_at (x y c : Nat) (hc : c ≤ 1) (w : World) :
    (callFunc 40 #[.int .u64 (x : Int), .int .u64 (y : Int), .int .u64 (c : Int)]).run Try.prog w =
      .ok (.value (.tuple #[.int .u64 (((x + y + c) % 18446744073709551616 : Nat) : Int), .int .u64 (((x + y + c) / 18446744073709551616 : Nat) : Int)])) w := by
  rw [run_callFunc_extern Try.func40 (by kernel_rfl) (by kernel_rfl) (by kernel_rfl) (e := add64Entry) (by kernel_rfl), run_add64 x y c (by omega) (by omega) (by omega) (by omega)]
  simp only [Result.andThen]
  congr 5 <;> omega

theorem add64_zero (x y : Nat) (w : World) :
    (callFunc 40 #[.int .u64 (x : Int), .int .u64 (y : Int), .int .u64 0]).run Try.prog w =
      .ok (.value (.tuple #[.int .u64 (((x + y) % 18446744073709551616 : Nat) : Int), .int .u64 (((x + y) / 18446744073709551616 : Nat) : Int)])) w := by
  have h := add64_at x y 0 (by omega) w
  rw [Nat.add_zero] at h
  exact h

/-- A sum of two words, in words. -/
theorem add_plain {a b c d : Nat} (ha : a < 18446744073709551616) (hb : b < 18446744073709551616) (hc : c < 18446744073709551616) (hd : d < 18446744073709551616) :
    ∃ lo cy hi ov : Nat, (b + d) % 18446744073709551616 = lo ∧ (b + d) / 18446744073709551616 = cy ∧ (a + c + cy) % 18446744073709551616 = hi ∧ (a + c + cy) / 18446744073709551616 = ov ∧
      lo < 18446744073709551616 ∧ cy ≤ 1 ∧ hi < 18446744073709551616 ∧ ov ≤ 1 ∧ N2 a b + N2 c d = ov * 340282366920938463463374607431768211456 + N2 hi lo := by
  refine ⟨_, _, _, _, rfl, rfl, rfl, rfl, by omega, by omega, by omega, by omega, ?_⟩
  unfold N2
  omega

set_option maxHeartbeats 400000 in
theorem wadd_any (a b c d : Nat) (w : World) (ha : a < 18446744073709551616) (hb : b < 18446744073709551616) (hc : c < 18446744073709551616) (hd : d < 18446744073709551616) :
    Calls Try.prog 14 #[wv a b, wv c d] w fun e w' => e = WOk (N2 a b + N2 c d) ∧ Ext w w' := by
  obtain ⟨lo, cy, hi, ov, h1, h2, h3, h4, l1, l2, l3, l4, h5⟩ := add_plain ha hb hc hd
  have A1 := Lib.hid (fun w => add64_zero b d w)
  have A2 := Lib.hid (fun w => add64_at a c cy l2 w)
  simp only [h1, h2] at A1
  simp only [h3, h4] at A2
  rw [h5]
  clear h1 h2 h3 h4 h5
  by_cases h0 : ov = 0
  · subst h0
    rw [Nat.zero_mul, Nat.zero_add, wok_yes l3 l1]
    unfold wv
    go_enter Try.func14, Try.ntmps14
    go_wp2_with (simp only [A1.out, A2.out])
    go_returns
    exact ⟨rfl, (((Ext.refl w).alloc _).alloc _).alloc _⟩
  · obtain rfl : ov = 1 := by omega
    rw [Nat.one_mul, wok_no (by omega)]
    unfold wv WNo
    go_enter Try.func14, Try.ntmps14
    go_wp2_with (simp only [A1.out, A2.out])
    go_returns
    exact ⟨rfl, (((Ext.refl w).alloc _).alloc _).alloc _⟩

end Go.Proofs.Ytbclkhkpmdbedaa
