/-
  Package wide: Div, walked.
-/
import Derived.Test.YtbclkhkpmdbedaaWDiv64
import Derived.Test.YtbclkhkpmdbedaaWDiv
namespace Go.Proofs.Ytbclkhkpmdbedaa
open Go.RowKit
set_option linter.unusedVariables false
set_option maxRecDepth 8000 in
set_option maxHeartbeats 3200000 in
theorem div64_small (lo y : Nat) (w : World) (hy0 : 0 < y) (hlo : lo < 18446744073709551616) (hy : y < 18446744073709551616) :
    Calls Try.prog 48 #[.int .u64 ((0 : Nat) : Int), .int .u64 (lo : Int), .int .u64 (y : Int)] w fun e w' => e = .returned (.tuple #[.int .u64 ((lo / y : Nat) : Int), .int .u64 ((lo % y : Nat) : Int)]) ∧ Ext w w' := by
  have e1 : (lo : Int) / (y : Int) = ((lo / y : Nat) : Int) := (Int.natCast_ediv lo y).symm
  have e2 : (lo : Int) % (y : Int) = ((lo % y : Nat) : Int) := (Int.natCast_emod lo y).symm
  have b1 : lo / y < 18446744073709551616 := Nat.lt_of_le_of_lt (Nat.div_le_self _ _) hlo
  have b2 : lo % y < 18446744073709551616 := Nat.lt_of_le_of_lt (Nat.mod_le _ _) hlo
  generalize lo / y = Q at *
  generalize lo % y = R at *
  go_enter Try.func48, Try.ntmps48
  go_wp2_with fail
  go_quiet (fail)
  go_wp2_with fail
  go_returns
  exact ⟨by rw [e2]; rfl, (Ext.refl w).drewN _⟩
theorem div64_any (hi lo y : Nat) (w : World) (hlt : hi < y) (hlo : lo < 18446744073709551616) (hy : y < 18446744073709551616) :
    Calls Try.prog 48 #[.int .u64 (hi : Int), .int .u64 (lo : Int), .int .u64 (y : Int)] w fun e w' => e = .returned (.tuple #[.int .u64 ((N2 hi lo / y : Nat) : Int), .int .u64 ((N2 hi lo % y : Nat) : Int)]) ∧ Ext w w' := by
  by_cases h0 : hi = 0
  · subst h0
    have h := div64_small lo y w hlt hlo hy
    rw [show N2 0 lo = lo by unfold N2; omega]
    exact h
  · obtain ⟨i1, i2, i3⟩ := bitLen_spec 64 y (lt64 hy) (by omega)
    obtain ⟨j1, j2⟩ := i2 (by omega)
    obtain ⟨s, hs⟩ : ∃ s, s + Lib.bitLen y = 64 := ⟨64 - Lib.bitLen y, by omega⟩
    have LZ := Lib.hid (fun w => Try.bits_LeadingZeros64 (y : Int) w (by omega) (by omega))
    rw [show ((y : Int)).toNat = y from Int.toNat_natCast y] at LZ
    rw [show (64 : Int) - (Lib.bitLen y : Int) = (s : Int) by omega] at LZ
    have hp : 0 < 2 ^ s := Nat.two_pow_pos s
    have s1 : y * 2 ^ s < 18446744073709551616 := by
      have h := Nat.mul_lt_mul_of_pos_right i1 hp
      rw [← Nat.pow_add, Nat.add_comm, hs, pow64] at h
      exact h
    have s2 : 9223372036854775808 ≤ y * 2 ^ s := by
      have h := Nat.mul_le_mul_right (2 ^ s) j2
      rw [← Nat.pow_add, show Lib.bitLen y - 1 + s = 63 by omega] at h
      have e : (2 : Nat) ^ 63 = 9223372036854775808 := by decide
      rw [e] at h
      exact h
    exact (div64_big hi lo y s w (by omega) hlt hlo hy (by omega) LZ s1 s2).mono fun e w' ⟨h1, h2⟩ => ⟨h1, by rw [h2]; exact Ext.refl _⟩
/-- The quotient's two words, word by word. -/
theorem two_step {h l n : Nat} (hn : 0 < n) : N2 h l / n = N2 (h / n) (N2 (h % n) l / n) ∧ N2 h l % n = N2 (h % n) l % n := by
  have h1 := Nat.div_add_mod h n
  have e : N2 h l = n * (h / n * 18446744073709551616) + N2 (h % n) l := by
    unfold N2
    rw [← Nat.mul_assoc]
    generalize n * (h / n) = a at *
    omega
  rw [e]
  exact ⟨by rw [Nat.mul_add_div hn]; rfl, Nat.mul_add_mod _ _ _⟩
theorem low_lt {h l n : Nat} (hn : 0 < n) (hl : l < 18446744073709551616) : N2 (h % n) l / n < 18446744073709551616 := by
  have : h % n < n := Nat.mod_lt _ hn
  rw [Nat.div_lt_iff_lt_mul hn]
  unfold N2
  omega
set_option maxRecDepth 8000 in
set_option maxHeartbeats 3200000 in
theorem wdiv_any (h l n : Nat) (w : World) (hh : h < 18446744073709551616) (hl : l < 18446744073709551616) (hn0 : 0 < n) (hn : n < 18446744073709551616) :
    Calls Try.prog 28 #[wv h l, .int .u64 (n : Int)] w fun e w' => e = .returned (.tuple #[wn (N2 h l / n), .int .u64 ((N2 h l % n : Nat) : Int), .bool true]) ∧ Ext w w' := by
  obtain ⟨s1, s2⟩ := two_step (h := h) (l := l) hn0
  have b1 := low_lt (h := h) hn0 hl
  have D := Lib.hid (fun w => div64_any (h % n) l n w (Nat.mod_lt _ hn0) hl hn)
  rw [s1, wn_of b1, s2]
  have e1 : (h : Int) / (n : Int) = ((h / n : Nat) : Int) := (Int.natCast_ediv h n).symm
  have e2 : (h : Int) % (n : Int) = ((h % n : Nat) : Int) := (Int.natCast_emod h n).symm
  have b2 : h / n < 18446744073709551616 := Nat.lt_of_le_of_lt (Nat.div_le_self _ _) hh
  have b3 : h % n < 18446744073709551616 := Nat.lt_of_le_of_lt (Nat.mod_le _ _) hh
  have b4 : N2 (h % n) l % n < 18446744073709551616 := Nat.lt_trans (Nat.mod_lt _ hn0) hn
  clear s1 s2
  generalize N2 (h % n) l / n = B at *
  generalize N2 (h % n) l % n = R at *
  generalize h / n = A at *
  generalize h % n = M at *
  unfold wv
  go_enter Try.func28, Try.ntmps28
  go_wp2_with fail
  have hx : Ext w ((w.alloc (.cells #[.int .u64 (h : Int), .int .u64 (l : Int)] 24)).alloc (.cells #[.int .u64 0, .int .u64 0] 24)) := ((Ext.refl w).alloc _).alloc _
  have bA : BoxW ((w.alloc (.cells #[.int .u64 (h : Int), .int .u64 (l : Int)] 24)).alloc (.cells #[.int .u64 0, .int .u64 0] 24)) w.heap.size (.int .u64 (h : Int)) (.int .u64 (l : Int)) := (BoxW.new w _ _ _).ext ((Ext.refl _).alloc _)
  have bR : BoxW ((w.alloc (.cells #[.int .u64 (h : Int), .int .u64 (l : Int)] 24)).alloc (.cells #[.int .u64 0, .int .u64 0] 24)) (w.heap.size + 1) (.int .u64 0) (.int .u64 0) := by
    have hb := BoxW.new (w.alloc (.cells #[.int .u64 (h : Int), .int .u64 (l : Int)] 24)) (.int .u64 0) (.int .u64 0) 24
    simpa using hb
  generalize (w.alloc (.cells #[.int .u64 (h : Int), .int .u64 (l : Int)] 24)).alloc (.cells #[.int .u64 0, .int .u64 0] 24) = W at *
  obtain ⟨a0, a1, a2, a3, a4⟩ := bA.ext (Ext.refl _)
  obtain ⟨b0, b1', b2', b3', b4'⟩ := bR.ext (Ext.refl _)
  go_quiet (fail)
  all_goals (try go_wp2_with fail)
  refine (D.out _).mono ?_
  rintro e w1 ⟨rfl, hy⟩
  have bR := (bR.ext ((Ext.refl _).drewN _)).ext hy
  have hx := (Ext.trans hx ((Ext.refl _).drewN _)).trans hy
  clear a0 a1 a2 a3 a4 b0 b1' b2' b3' b4' bA hy
  obtain ⟨b0, b1', b2', b3', b4'⟩ := bR.ext (Ext.refl _)
  have hr : w.heap.size ≤ w.heap.size + 1 := by omega
  go_wp2_with fail
  refine bodyPost_ret (v := .tuple #[.agg #[.int .u64 (A : Int), .int .u64 (B : Int)], .int .u64 (R : Int), .bool true]) (by simp [results, Try.results28, go_sem, b0, b1']) rfl ?_
  exact ⟨rfl, (hx.setCell hr _).setCell hr _⟩
set_option maxHeartbeats 1600000 in
theorem wdiv_zero (h l : Nat) (w : World) :
    Calls Try.prog 28 #[wv h l, .int .u64 ((0 : Nat) : Int)] w fun e w' => e = .returned (.tuple #[wv 0 0, .int .u64 0, .bool false]) ∧ Ext w w' := by
  unfold wv
  go_enter Try.func28, Try.ntmps28
  go_wp2_with fail
  all_goals (try go_returns)
  exact ⟨rfl, ((Ext.refl w).alloc _).alloc _⟩
end Go.Proofs.Ytbclkhkpmdbedaa
