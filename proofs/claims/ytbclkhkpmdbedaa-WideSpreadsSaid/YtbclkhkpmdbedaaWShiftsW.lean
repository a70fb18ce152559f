/-
  The statement WideShifts, walked.
-/
import Derived.Test.YtbclkhkpmdbedaaWShift2
import Derived.Test.YtbclkhkpmdbedaaWDiv
import Derived.Test.YtbclkhkpmdbedaaWSums
namespace Go.Proofs.Ytbclkhkpmdbedaa
open Go.RowKit
set_option linter.unusedVariables false
theorem wok_is {n h l : Nat} {ok : Bool} (e : WOk n = .returned (.tuple #[wv h l, .bool ok])) : (ok = true ∧ n = N2 h l) ∨ (ok = false ∧ 340282366920938463463374607431768211456 ≤ n) := by
  unfold WOk at e
  split at e
  · simp [wn, wv] at e
    obtain ⟨⟨e1, e2⟩, e3⟩ := e
    refine Or.inl ⟨by first | exact e3 | exact e3.symm, ?_⟩
    unfold N2
    omega
  · simp [wv] at e
    exact Or.inr ⟨by first | exact e.2 | exact e.2.symm, by omega⟩
theorem end_inj {h l h' l' : Nat} {ok ok' : Bool} (e : (.returned (.tuple #[wv h l, .bool ok]) : Ending) = .returned (.tuple #[wv h' l', .bool ok'])) : h = h' ∧ l = l' ∧ ok = ok' := by
  simp [wv] at e
  obtain ⟨⟨e1, e2⟩, e3⟩ := e
  exact ⟨by omega, by omega, e3⟩
theorem up_done {N k m h' l' xh xl : Nat} {b ok : Bool} (hk : k ≤ m) (e : WOk (N * 2 ^ k) = .returned (.tuple #[wv h' l', .bool b])) (e1 : WOk (N * 2 ^ m) = .returned (.tuple #[wv xh xl, .bool ok])) (hl : N2 h' l' < 340282366920938463463374607431768211456)
    (hex : 130 ≤ k ∨ m ≤ k ∨ b = false) : h' = xh ∧ l' = xl ∧ b = ok := by
  have h1 : N * 2 ^ k ≤ N * 2 ^ m := Nat.mul_le_mul_left _ (Nat.pow_le_pow_right (by omega) hk)
  have h2 : WOk (N * 2 ^ m) = WOk (N * 2 ^ k) := by
    rcases wok_is e with ⟨i1, i2⟩ | ⟨i1, i2⟩
    · rcases hex with g | g | g
      · have h3 : (2 : Nat) ^ 130 ≤ 2 ^ k := Nat.pow_le_pow_right (by omega) g
        have h4 : (2 : Nat) ^ 130 = 1361129467683753853853498429727072845824 := by decide
        have h5 : N * 2 ^ 130 ≤ N * 2 ^ k := Nat.mul_le_mul_left _ h3
        have h6 : N = 0 := by
          rw [h4] at h5
          omega
        rw [h6, Nat.zero_mul, Nat.zero_mul]
      · rw [show k = m by omega]
      · rw [g] at i1; cases i1
    · rw [wok_no i2, wok_no (by omega)]
  rw [e, e1] at h2
  obtain ⟨j1, j2, j3⟩ := end_inj h2
  exact ⟨j1.symm, j2.symm, j3.symm⟩
theorem n2_le {h l : Nat} (hh : h < 18446744073709551616) (hl : l < 18446744073709551616) : N2 h l < 340282366920938463463374607431768211456 := by unfold N2; omega
theorem n2_in {h l h' l' : Nat} (hl : l < 18446744073709551616) (hl' : l' < 18446744073709551616) (e : N2 h l = N2 h' l') : h = h' ∧ l = l' := by unfold N2 at e; omega
theorem down_done {N k m h' l' xh xl : Nat} (hk : k ≤ m) (hN : N < 340282366920938463463374607431768211456) (e : N / 2 ^ k = N2 h' l') (e1 : N / 2 ^ m = N2 xh xl) (hl : l' < 18446744073709551616) (hx : xl < 18446744073709551616)
    (hex : 130 ≤ k ∨ m ≤ k) : h' = xh ∧ l' = xl := by
  have h2 : N / 2 ^ k = N / 2 ^ m := by
    rcases hex with g | g
    · have z : ∀ j, 128 ≤ j → N / 2 ^ j = 0 := fun j hj => Nat.div_eq_of_lt (by
        have h3 : (2 : Nat) ^ 128 ≤ 2 ^ j := Nat.pow_le_pow_right (by omega) hj
        rw [pow128] at h3
        omega)
      rw [z k (by omega), z m (by omega)]
    · rw [show k = m by omega]
  exact n2_in hl hx (by rw [← e, ← e1, h2])
theorem half_step {N k h l h' l' : Nat} (e : N / 2 ^ k = N2 h l) (e1 : N2 h l / 2 = N2 h' l') : N / 2 ^ (k + 1) = N2 h' l' := by
  rw [Nat.pow_succ, ← Nat.div_div_eq_div_mul, e, e1]
theorem twice_step {N k h l : Nat} (e : N * 2 ^ k = N2 h l) : N2 h l * 2 = N * 2 ^ (k + 1) := by
  rw [← e, Nat.pow_succ, Nat.mul_assoc]
theorem she_up (h l m : Nat) : ShE h l (m : Int) = WOk (N2 h l * 2 ^ m) := by
  unfold ShE
  rw [if_neg (by omega), Int.toNat_natCast]
theorem she_down (h l m : Nat) (hm : 0 < m) : ShE h l (-(m : Int)) = .returned (.tuple #[wn (N2 h l / 2 ^ m), .bool true]) := by
  unfold ShE
  rw [if_pos (by omega), Int.neg_neg, Int.toNat_natCast]
theorem she_back {h l xh xl m : Nat} (hh : h < 18446744073709551616) (hl : l < 18446744073709551616) (e : N2 h l * 2 ^ m = N2 xh xl) : ShE xh xl (-(m : Int)) = .returned (.tuple #[wv h l, .bool true]) := by
  by_cases h0 : m = 0
  · subst h0
    rw [Nat.pow_zero, Nat.mul_one] at e
    have := she_up xh xl 0
    rw [show (-((0 : Nat) : Int)) = ((0 : Nat) : Int) by rfl, this, ← e, Nat.pow_zero, Nat.mul_one, wok_yes hh hl]
  · rw [she_down _ _ _ (by omega), ← e, Nat.mul_div_cancel _ (Nat.two_pow_pos m), wn_of hl]
set_option maxRecDepth 100000 in
set_option maxHeartbeats 6400000 in
theorem shifts_up_true (h l m xh xl : Nat) (w : World) (hh : h < 18446744073709551616) (hl : l < 18446744073709551616) (hm : m < 9223372036854775808) (x1 : xh < 18446744073709551616) (x2 : xl < 18446744073709551616) (e1 : WOk (N2 h l * 2 ^ m) = .returned (.tuple #[wv xh xl, .bool true])) :
    Calls Try.prog 3 #[wv h l, .int .i64 (m : Int)] w fun e w' => e = .returned (.bool true) ∧ Ext w w' := by
  have AL := Lib.hid alive_any
  have S1 := Lib.hid (fun w => shift_any h l (m : Int) w hh hl)
  simp only [she_up, e1] at S1
  have S2 := Lib.hid (fun w => shift_any xh xl (-(m : Int)) w x1 x2)
  have eb := she_back hh hl (show N2 h l * 2 ^ m = N2 xh xl by rcases wok_is e1 with ⟨_, g⟩ | ⟨g, _⟩ <;> first | exact g | cases g)
  simp only [eb] at S2
  clear eb
  have UD := Lib.hid (fun k h' l' b (hk : k ≤ m) e hl hex => up_done (N := N2 h l) (k := k) (h' := h') (l' := l') (b := b) hk e e1 hl hex)
  clear e1
  have W0 : Hid (WOk (N2 h l * 2 ^ 0) = .returned (.tuple #[wv h l, .bool true])) := by
    show _ = _
    rw [Nat.pow_zero, Nat.mul_one, wok_yes hh hl]
  unfold wv at *
  go_enter Try.func3, Try.ntmps3
  go_wp2_with fail
  have hx : Ext w (w.alloc (.cells #[.int .u64 (h : Int), .int .u64 (l : Int)] 24)) := (Ext.refl w).alloc _
  have bA : BoxW (w.alloc (.cells #[.int .u64 (h : Int), .int .u64 (l : Int)] 24)) w.heap.size (.int .u64 (h : Int)) (.int .u64 (l : Int)) := BoxW.new _ _ _ _
  refine (AL.out _).mono ?_
  rintro en u0 ⟨rfl, hy⟩
  have hx' := hx.trans hy
  clear hx
  have hx := hx'
  clear hx'
  have bA' := bA.ext hy
  clear bA hy
  have bA := bA'
  clear bA'
  obtain ⟨bA0, bA1, bA2, bA3, bA4⟩ := bA.ext (Ext.refl _)
  go_wp2_with fail
  refine (S1.out _).mono ?_
  rintro en u1 ⟨rfl, hy⟩
  have hx' := hx.trans hy
  clear hx
  have hx := hx'
  clear hx'
  clear bA0 bA1 bA2 bA3 bA4
  have bA' := bA.ext hy
  clear bA
  have bA := bA'
  clear bA'
  clear hy
  obtain ⟨bA0, bA1, bA2, bA3, bA4⟩ := bA.ext (Ext.refl _)
  have hpq : w.heap.size < u1.heap.size := bA.lt
  go_wp2_with fail
  have bX : BoxW ((u1.alloc (.cells #[.int .u64 (xh : Int), .int .u64 (xl : Int)] 24)).alloc (.cells #[.int .u64 (h : Int), .int .u64 (l : Int)] 24)) u1.heap.size (.int .u64 (xh : Int)) (.int .u64 (xl : Int)) := (BoxW.new _ _ _ _).ext ((Ext.refl _).alloc _)
  have bW : BoxW ((u1.alloc (.cells #[.int .u64 (xh : Int), .int .u64 (xl : Int)] 24)).alloc (.cells #[.int .u64 (h : Int), .int .u64 (l : Int)] 24)) (u1.heap.size + 1) (.int .u64 (h : Int)) (.int .u64 (l : Int)) := by
    have hb := BoxW.new (u1.alloc (.cells #[.int .u64 (xh : Int), .int .u64 (xl : Int)] 24)) (.int .u64 (h : Int)) (.int .u64 (l : Int)) 24
    simpa using hb
  have bA' := bA.ext (((Ext.refl u1).alloc (.cells #[.int .u64 (xh : Int), .int .u64 (xl : Int)] 24)).alloc (.cells #[.int .u64 (h : Int), .int .u64 (l : Int)] 24))
  have hx' := (hx.alloc (.cells #[.int .u64 (xh : Int), .int .u64 (xl : Int)] 24)).alloc (.cells #[.int .u64 (h : Int), .int .u64 (l : Int)] 24)
  clear hx bA
  have hx := hx'
  have bA := bA'
  clear bA' hx'
  clear bA0 bA1 bA2 bA3 bA4
  generalize hW : (u1.alloc (.cells #[.int .u64 (xh : Int), .int .u64 (xl : Int)] 24)).alloc (.cells #[.int .u64 (h : Int), .int .u64 (l : Int)] 24) = W at *
  generalize u1.heap.size = p at *
  clear hW
  go_loopw [8, 9] (fun vs vi wr => ∃ (k h' l' : Nat) (b : Bool), vs = .bool b ∧ vi = .int .i64 (k : Int) ∧ k ≤ 130 ∧ k ≤ m ∧ h' < 18446744073709551616 ∧ l' < 18446744073709551616 ∧ Hid (WOk (N2 h l * 2 ^ k) = .returned (.tuple #[.agg #[.int .u64 (h' : Int), .int .u64 (l' : Int)], .bool b])) ∧ Ext w wr ∧ BoxW wr w.heap.size (.int .u64 (h : Int)) (.int .u64 (l : Int)) ∧ BoxW wr p (.int .u64 (xh : Int)) (.int .u64 (xl : Int)) ∧ BoxW wr (p + 1) (.int .u64 (h' : Int)) (.int .u64 (l' : Int))) (fun _ vi _ => (130 - intOf vi).toNat)
  case atStart => exact ⟨0, h, l, true, rfl, rfl, by omega, by omega, hh, hl, W0, hx, bA, bX, bW⟩
  case round =>
    clear hx bA bX bW W0
    obtain ⟨k, h', l', b, hvs, rfl, hk, hkm, bh, bl, hE, hx, bA, bX, bW⟩ := hrel
    obtain ⟨bA0, bA1, bA2, bA3, bA4⟩ := bA.ext (Ext.refl _)
    obtain ⟨bX0, bX1, bX2, bX3, bX4⟩ := bX.ext (Ext.refl _)
    obtain ⟨bW0, bW1, bW2, bW3, bW4⟩ := bW.ext (Ext.refl _)
    by_cases hc : k < 130 ∧ k < m ∧ b = true
    · obtain ⟨hc1, hc2, hc3⟩ := hc
      rw [hc3] at hvs hE
      subst hvs
      clear b hc3
      have hN : N2 h l * 2 ^ k = N2 h' l' := by rcases wok_is hE.out with ⟨_, g⟩ | ⟨g, _⟩ <;> first | exact g | cases g
      have hN := twice_step hN
      have MU := Lib.hid (fun w => rmulw_any h' l' 2 w bh bl (by omega))
      obtain ⟨yh, yl, yb, y1, y2, ye, _⟩ := wok_ex (N2 h' l' * 2)
      simp only [ye] at MU
      rw [hN] at ye
      have YE := Lib.hid ye
      clear ye hN hE UD S1
      unfold wv at *
      go_wp2_with fail
      refine (MU.out _).mono ?_
      rintro e w1 ⟨rfl, hy⟩
      have hx' := hx.trans hy
      clear hx
      have hx := hx'
      clear hx'
      clear bA0 bA1 bA2 bA3 bA4
      clear bX0 bX1 bX2 bX3 bX4
      clear bW0 bW1 bW2 bW3 bW4
      have bA' := bA.ext hy
      clear bA
      have bA := bA'
      clear bA'
      have bX' := bX.ext hy
      clear bX
      have bX := bX'
      clear bX'
      have bW' := bW.ext hy
      clear bW
      have bW := bW'
      clear bW'
      clear hy
      obtain ⟨bA0, bA1, bA2, bA3, bA4⟩ := bA.ext (Ext.refl _)
      obtain ⟨bX0, bX1, bX2, bX3, bX4⟩ := bX.ext (Ext.refl _)
      obtain ⟨bW0, bW1, bW2, bW3, bW4⟩ := bW.ext (Ext.refl _)
      go_wp2_with fail
      go_roundw
      case rel => exact ⟨k + 1, yh, yl, yb, rfl, by go_num, by omega, by omega, y1, y2, YE, (hx.setCell (by show w.heap.size ≤ p + 1; omega) _).setCell (by show w.heap.size ≤ p + 1; omega) _, (bA.far (by omega) _).far (by omega) _, (bX.far (by omega) _).far (by omega) _, (bW.put0 _).put1 _⟩
      case measure => simp [intOf]; omega
    · have hex : 130 ≤ k ∨ (k < 130 ∧ m ≤ k) ∨ (k < 130 ∧ k < m ∧ b = false) := by
        by_cases g1 : k < 130
        · by_cases g2 : k < m
          · exact Or.inr (Or.inr ⟨g1, g2, by cases b; · rfl
                                             · exact absurd ⟨g1, g2, rfl⟩ hc⟩)
          · exact Or.inr (Or.inl ⟨g1, by omega⟩)
        · exact Or.inl (by omega)
      obtain ⟨i1, i2, i3⟩ := UD.out k h' l' b hkm hE.out (n2_le bh bl) (by rcases hex with g | ⟨_, g⟩ | ⟨_, _, g⟩ <;> simp [g])
      rw [i3] at hvs hex
      subst hvs
      rw [i1] at bW bW0
      rw [i2] at bW bW1
      clear hc i1 i2 i3 hE bh bl h' l' b UD S1
      rcases hex with hc1 | ⟨hc1, hc2⟩ | ⟨hc1, hc2, hc3⟩
      · skip
        go_wp2_with fail
        go_loopw [10] (fun vi wr => vi = .int .i64 0 ∧ Ext w wr ∧ BoxW wr w.heap.size (.int .u64 (h : Int)) (.int .u64 (l : Int)) ∧ BoxW wr p (.int .u64 (xh : Int)) (.int .u64 (xl : Int)) ∧ BoxW wr (p + 1) (.int .u64 (xh : Int)) (.int .u64 (xl : Int))) (fun _ _ => 0)
        case atStart => exact ⟨rfl, hx, bA, bX, bW⟩
        case round =>
          clear hx bA bX bW
          clear bA0 bA1 bA2 bA3 bA4 bX0 bX1 bX2 bX3 bX4 bW0 bW1 bW2 bW3 bW4
          obtain ⟨rfl, hx, bA, bX, bW⟩ := hrel
          obtain ⟨bA0, bA1, bA2, bA3, bA4⟩ := bA.ext (Ext.refl _)
          obtain ⟨bX0, bX1, bX2, bX3, bX4⟩ := bX.ext (Ext.refl _)
          obtain ⟨bW0, bW1, bW2, bW3, bW4⟩ := bW.ext (Ext.refl _)
          by_cases h200 : 200 < m
          · go_wp2_with fail
            all_goals (go_ret; exact ⟨rfl, hx⟩)
          · go_wp2_with fail
            refine (S2.out _).mono ?_
            rintro e w4 ⟨rfl, hy⟩
            have hx' := hx.trans hy
            clear hx
            have hx := hx'
            clear hx'
            clear bA0 bA1 bA2 bA3 bA4
            clear bX0 bX1 bX2 bX3 bX4
            clear bW0 bW1 bW2 bW3 bW4
            have bA' := bA.ext hy
            clear bA
            have bA := bA'
            clear bA'
            have bX' := bX.ext hy
            clear bX
            have bX := bX'
            clear bX'
            have bW' := bW.ext hy
            clear bW
            have bW := bW'
            clear bW'
            clear hy
            obtain ⟨bA0, bA1, bA2, bA3, bA4⟩ := bA.ext (Ext.refl _)
            obtain ⟨bX0, bX1, bX2, bX3, bX4⟩ := bX.ext (Ext.refl _)
            obtain ⟨bW0, bW1, bW2, bW3, bW4⟩ := bW.ext (Ext.refl _)
            go_wp2_with fail
            go_ret
            exact ⟨rfl, hx.alloc _⟩
      · skip
        go_wp2_with fail
        go_loopw [10] (fun vi wr => vi = .int .i64 0 ∧ Ext w wr ∧ BoxW wr w.heap.size (.int .u64 (h : Int)) (.int .u64 (l : Int)) ∧ BoxW wr p (.int .u64 (xh : Int)) (.int .u64 (xl : Int)) ∧ BoxW wr (p + 1) (.int .u64 (xh : Int)) (.int .u64 (xl : Int))) (fun _ _ => 0)
        case atStart => exact ⟨rfl, hx, bA, bX, bW⟩
        case round =>
          clear hx bA bX bW
          clear bA0 bA1 bA2 bA3 bA4 bX0 bX1 bX2 bX3 bX4 bW0 bW1 bW2 bW3 bW4
          obtain ⟨rfl, hx, bA, bX, bW⟩ := hrel
          obtain ⟨bA0, bA1, bA2, bA3, bA4⟩ := bA.ext (Ext.refl _)
          obtain ⟨bX0, bX1, bX2, bX3, bX4⟩ := bX.ext (Ext.refl _)
          obtain ⟨bW0, bW1, bW2, bW3, bW4⟩ := bW.ext (Ext.refl _)
          by_cases h200 : 200 < m
          · go_wp2_with fail
            all_goals (go_ret; exact ⟨rfl, hx⟩)
          · go_wp2_with fail
            refine (S2.out _).mono ?_
            rintro e w4 ⟨rfl, hy⟩
            have hx' := hx.trans hy
            clear hx
            have hx := hx'
            clear hx'
            clear bA0 bA1 bA2 bA3 bA4
            clear bX0 bX1 bX2 bX3 bX4
            clear bW0 bW1 bW2 bW3 bW4
            have bA' := bA.ext hy
            clear bA
            have bA := bA'
            clear bA'
            have bX' := bX.ext hy
            clear bX
            have bX := bX'
            clear bX'
            have bW' := bW.ext hy
            clear bW
            have bW := bW'
            clear bW'
            clear hy
            obtain ⟨bA0, bA1, bA2, bA3, bA4⟩ := bA.ext (Ext.refl _)
            obtain ⟨bX0, bX1, bX2, bX3, bX4⟩ := bX.ext (Ext.refl _)
            obtain ⟨bW0, bW1, bW2, bW3, bW4⟩ := bW.ext (Ext.refl _)
            go_wp2_with fail
            go_ret
            exact ⟨rfl, hx.alloc _⟩
      · cases hc3
set_option maxRecDepth 100000 in
set_option maxHeartbeats 6400000 in
theorem shifts_up_false (h l m xh xl : Nat) (w : World) (hh : h < 18446744073709551616) (hl : l < 18446744073709551616) (hm : m < 9223372036854775808) (x1 : xh < 18446744073709551616) (x2 : xl < 18446744073709551616) (e1 : WOk (N2 h l * 2 ^ m) = .returned (.tuple #[wv xh xl, .bool false])) :
    Calls Try.prog 3 #[wv h l, .int .i64 (m : Int)] w fun e w' => e = .returned (.bool true) ∧ Ext w w' := by
  have AL := Lib.hid alive_any
  have S1 := Lib.hid (fun w => shift_any h l (m : Int) w hh hl)
  simp only [she_up, e1] at S1
  have UD := Lib.hid (fun k h' l' b (hk : k ≤ m) e hl hex => up_done (N := N2 h l) (k := k) (h' := h') (l' := l') (b := b) hk e e1 hl hex)
  clear e1
  have W0 : Hid (WOk (N2 h l * 2 ^ 0) = .returned (.tuple #[wv h l, .bool true])) := by
    show _ = _
    rw [Nat.pow_zero, Nat.mul_one, wok_yes hh hl]
  unfold wv at *
  go_enter Try.func3, Try.ntmps3
  go_wp2_with fail
  have hx : Ext w (w.alloc (.cells #[.int .u64 (h : Int), .int .u64 (l : Int)] 24)) := (Ext.refl w).alloc _
  have bA : BoxW (w.alloc (.cells #[.int .u64 (h : Int), .int .u64 (l : Int)] 24)) w.heap.size (.int .u64 (h : Int)) (.int .u64 (l : Int)) := BoxW.new _ _ _ _
  refine (AL.out _).mono ?_
  rintro en u0 ⟨rfl, hy⟩
  have hx' := hx.trans hy
  clear hx
  have hx := hx'
  clear hx'
  have bA' := bA.ext hy
  clear bA hy
  have bA := bA'
  clear bA'
  obtain ⟨bA0, bA1, bA2, bA3, bA4⟩ := bA.ext (Ext.refl _)
  go_wp2_with fail
  refine (S1.out _).mono ?_
  rintro en u1 ⟨rfl, hy⟩
  have hx' := hx.trans hy
  clear hx
  have hx := hx'
  clear hx'
  clear bA0 bA1 bA2 bA3 bA4
  have bA' := bA.ext hy
  clear bA
  have bA := bA'
  clear bA'
  clear hy
  obtain ⟨bA0, bA1, bA2, bA3, bA4⟩ := bA.ext (Ext.refl _)
  have hpq : w.heap.size < u1.heap.size := bA.lt
  go_wp2_with fail
  have bX : BoxW ((u1.alloc (.cells #[.int .u64 (xh : Int), .int .u64 (xl : Int)] 24)).alloc (.cells #[.int .u64 (h : Int), .int .u64 (l : Int)] 24)) u1.heap.size (.int .u64 (xh : Int)) (.int .u64 (xl : Int)) := (BoxW.new _ _ _ _).ext ((Ext.refl _).alloc _)
  have bW : BoxW ((u1.alloc (.cells #[.int .u64 (xh : Int), .int .u64 (xl : Int)] 24)).alloc (.cells #[.int .u64 (h : Int), .int .u64 (l : Int)] 24)) (u1.heap.size + 1) (.int .u64 (h : Int)) (.int .u64 (l : Int)) := by
    have hb := BoxW.new (u1.alloc (.cells #[.int .u64 (xh : Int), .int .u64 (xl : Int)] 24)) (.int .u64 (h : Int)) (.int .u64 (l : Int)) 24
    simpa using hb
  have bA' := bA.ext (((Ext.refl u1).alloc (.cells #[.int .u64 (xh : Int), .int .u64 (xl : Int)] 24)).alloc (.cells #[.int .u64 (h : Int), .int .u64 (l : Int)] 24))
  have hx' := (hx.alloc (.cells #[.int .u64 (xh : Int), .int .u64 (xl : Int)] 24)).alloc (.cells #[.int .u64 (h : Int), .int .u64 (l : Int)] 24)
  clear hx bA
  have hx := hx'
  have bA := bA'
  clear bA' hx'
  clear bA0 bA1 bA2 bA3 bA4
  generalize hW : (u1.alloc (.cells #[.int .u64 (xh : Int), .int .u64 (xl : Int)] 24)).alloc (.cells #[.int .u64 (h : Int), .int .u64 (l : Int)] 24) = W at *
  generalize u1.heap.size = p at *
  clear hW
  go_loopw [8, 9] (fun vs vi wr => ∃ (k h' l' : Nat) (b : Bool), vs = .bool b ∧ vi = .int .i64 (k : Int) ∧ k ≤ 130 ∧ k ≤ m ∧ h' < 18446744073709551616 ∧ l' < 18446744073709551616 ∧ Hid (WOk (N2 h l * 2 ^ k) = .returned (.tuple #[.agg #[.int .u64 (h' : Int), .int .u64 (l' : Int)], .bool b])) ∧ Ext w wr ∧ BoxW wr w.heap.size (.int .u64 (h : Int)) (.int .u64 (l : Int)) ∧ BoxW wr p (.int .u64 (xh : Int)) (.int .u64 (xl : Int)) ∧ BoxW wr (p + 1) (.int .u64 (h' : Int)) (.int .u64 (l' : Int))) (fun _ vi _ => (130 - intOf vi).toNat)
  case atStart => exact ⟨0, h, l, true, rfl, rfl, by omega, by omega, hh, hl, W0, hx, bA, bX, bW⟩
  case round =>
    clear hx bA bX bW W0
    obtain ⟨k, h', l', b, hvs, rfl, hk, hkm, bh, bl, hE, hx, bA, bX, bW⟩ := hrel
    obtain ⟨bA0, bA1, bA2, bA3, bA4⟩ := bA.ext (Ext.refl _)
    obtain ⟨bX0, bX1, bX2, bX3, bX4⟩ := bX.ext (Ext.refl _)
    obtain ⟨bW0, bW1, bW2, bW3, bW4⟩ := bW.ext (Ext.refl _)
    by_cases hc : k < 130 ∧ k < m ∧ b = true
    · obtain ⟨hc1, hc2, hc3⟩ := hc
      rw [hc3] at hvs hE
      subst hvs
      clear b hc3
      have hN : N2 h l * 2 ^ k = N2 h' l' := by rcases wok_is hE.out with ⟨_, g⟩ | ⟨g, _⟩ <;> first | exact g | cases g
      have hN := twice_step hN
      have MU := Lib.hid (fun w => rmulw_any h' l' 2 w bh bl (by omega))
      obtain ⟨yh, yl, yb, y1, y2, ye, _⟩ := wok_ex (N2 h' l' * 2)
      simp only [ye] at MU
      rw [hN] at ye
      have YE := Lib.hid ye
      clear ye hN hE UD S1
      unfold wv at *
      go_wp2_with fail
      refine (MU.out _).mono ?_
      rintro e w1 ⟨rfl, hy⟩
      have hx' := hx.trans hy
      clear hx
      have hx := hx'
      clear hx'
      clear bA0 bA1 bA2 bA3 bA4
      clear bX0 bX1 bX2 bX3 bX4
      clear bW0 bW1 bW2 bW3 bW4
      have bA' := bA.ext hy
      clear bA
      have bA := bA'
      clear bA'
      have bX' := bX.ext hy
      clear bX
      have bX := bX'
      clear bX'
      have bW' := bW.ext hy
      clear bW
      have bW := bW'
      clear bW'
      clear hy
      obtain ⟨bA0, bA1, bA2, bA3, bA4⟩ := bA.ext (Ext.refl _)
      obtain ⟨bX0, bX1, bX2, bX3, bX4⟩ := bX.ext (Ext.refl _)
      obtain ⟨bW0, bW1, bW2, bW3, bW4⟩ := bW.ext (Ext.refl _)
      go_wp2_with fail
      go_roundw
      case rel => exact ⟨k + 1, yh, yl, yb, rfl, by go_num, by omega, by omega, y1, y2, YE, (hx.setCell (by show w.heap.size ≤ p + 1; omega) _).setCell (by show w.heap.size ≤ p + 1; omega) _, (bA.far (by omega) _).far (by omega) _, (bX.far (by omega) _).far (by omega) _, (bW.put0 _).put1 _⟩
      case measure => simp [intOf]; omega
    · have hex : 130 ≤ k ∨ (k < 130 ∧ m ≤ k) ∨ (k < 130 ∧ k < m ∧ b = false) := by
        by_cases g1 : k < 130
        · by_cases g2 : k < m
          · exact Or.inr (Or.inr ⟨g1, g2, by cases b; · rfl
                                             · exact absurd ⟨g1, g2, rfl⟩ hc⟩)
          · exact Or.inr (Or.inl ⟨g1, by omega⟩)
        · exact Or.inl (by omega)
      obtain ⟨i1, i2, i3⟩ := UD.out k h' l' b hkm hE.out (n2_le bh bl) (by rcases hex with g | ⟨_, g⟩ | ⟨_, _, g⟩ <;> simp [g])
      rw [i3] at hvs hex
      subst hvs
      rw [i1] at bW bW0
      rw [i2] at bW bW1
      clear hc i1 i2 i3 hE bh bl h' l' b UD S1
      rcases hex with hc1 | ⟨hc1, hc2⟩ | ⟨hc1, hc2, hc3⟩
      · skip
        go_wp2_with fail
        go_loopw [10] (fun vi wr => vi = .int .i64 0 ∧ Ext w wr ∧ BoxW wr w.heap.size (.int .u64 (h : Int)) (.int .u64 (l : Int)) ∧ BoxW wr p (.int .u64 (xh : Int)) (.int .u64 (xl : Int)) ∧ BoxW wr (p + 1) (.int .u64 (xh : Int)) (.int .u64 (xl : Int))) (fun _ _ => 0)
        case atStart => exact ⟨rfl, hx, bA, bX, bW⟩
        case round =>
          clear hx bA bX bW
          clear bA0 bA1 bA2 bA3 bA4 bX0 bX1 bX2 bX3 bX4 bW0 bW1 bW2 bW3 bW4
          obtain ⟨rfl, hx, bA, bX, bW⟩ := hrel
          obtain ⟨bA0, bA1, bA2, bA3, bA4⟩ := bA.ext (Ext.refl _)
          obtain ⟨bX0, bX1, bX2, bX3, bX4⟩ := bX.ext (Ext.refl _)
          obtain ⟨bW0, bW1, bW2, bW3, bW4⟩ := bW.ext (Ext.refl _)
          go_wp2_with fail
          go_ret
          exact ⟨rfl, hx⟩
      · skip
        go_wp2_with fail
        go_loopw [10] (fun vi wr => vi = .int .i64 0 ∧ Ext w wr ∧ BoxW wr w.heap.size (.int .u64 (h : Int)) (.int .u64 (l : Int)) ∧ BoxW wr p (.int .u64 (xh : Int)) (.int .u64 (xl : Int)) ∧ BoxW wr (p + 1) (.int .u64 (xh : Int)) (.int .u64 (xl : Int))) (fun _ _ => 0)
        case atStart => exact ⟨rfl, hx, bA, bX, bW⟩
        case round =>
          clear hx bA bX bW
          clear bA0 bA1 bA2 bA3 bA4 bX0 bX1 bX2 bX3 bX4 bW0 bW1 bW2 bW3 bW4
          obtain ⟨rfl, hx, bA, bX, bW⟩ := hrel
          obtain ⟨bA0, bA1, bA2, bA3, bA4⟩ := bA.ext (Ext.refl _)
          obtain ⟨bX0, bX1, bX2, bX3, bX4⟩ := bX.ext (Ext.refl _)
          obtain ⟨bW0, bW1, bW2, bW3, bW4⟩ := bW.ext (Ext.refl _)
          go_wp2_with fail
          go_ret
          exact ⟨rfl, hx⟩
      · skip
        go_wp2_with fail
        go_loopw [10] (fun vi wr => vi = .int .i64 0 ∧ Ext w wr ∧ BoxW wr w.heap.size (.int .u64 (h : Int)) (.int .u64 (l : Int)) ∧ BoxW wr p (.int .u64 (xh : Int)) (.int .u64 (xl : Int)) ∧ BoxW wr (p + 1) (.int .u64 (xh : Int)) (.int .u64 (xl : Int))) (fun _ _ => 0)
        case atStart => exact ⟨rfl, hx, bA, bX, bW⟩
        case round =>
          clear hx bA bX bW
          clear bA0 bA1 bA2 bA3 bA4 bX0 bX1 bX2 bX3 bX4 bW0 bW1 bW2 bW3 bW4
          obtain ⟨rfl, hx, bA, bX, bW⟩ := hrel
          obtain ⟨bA0, bA1, bA2, bA3, bA4⟩ := bA.ext (Ext.refl _)
          obtain ⟨bX0, bX1, bX2, bX3, bX4⟩ := bX.ext (Ext.refl _)
          obtain ⟨bW0, bW1, bW2, bW3, bW4⟩ := bW.ext (Ext.refl _)
          go_wp2_with fail
          go_ret
          exact ⟨rfl, hx⟩
set_option maxRecDepth 100000 in
set_option maxHeartbeats 6400000 in
theorem shifts_down (h l m : Nat) (w : World) (hh : h < 18446744073709551616) (hl : l < 18446744073709551616) (hm0 : 0 < m) (hm : m ≤ 9223372036854775808) :
    Calls Try.prog 3 #[wv h l, .int .i64 (-(m : Int))] w fun e w' => e = .returned (.bool true) ∧ Ext w w' := by
  have AL := Lib.hid alive_any
  have S1 := Lib.hid (fun w => shift_any h l (-(m : Int)) w hh hl)
  have hN := n2_le hh hl
  have hM : N2 h l / 2 ^ m < 340282366920938463463374607431768211456 := Nat.lt_of_le_of_lt (Nat.div_le_self _ _) hN
  simp only [she_down h l m hm0] at S1
  unfold wn at S1
  obtain ⟨xh, hxh⟩ : ∃ xh, N2 h l / 2 ^ m / 18446744073709551616 = xh := ⟨_, rfl⟩
  obtain ⟨xl, hxl⟩ : ∃ xl, N2 h l / 2 ^ m % 18446744073709551616 = xl := ⟨_, rfl⟩
  simp only [hxh, hxl] at S1
  have hX : N2 h l / 2 ^ m = N2 xh xl := by unfold N2 at *; omega
  have x2 : xl < 18446744073709551616 := by omega
  have DD := Lib.hid (fun k h' l' (hk : k ≤ m) e hl hex => down_done (N := N2 h l) (k := k) (h' := h') (l' := l') hk hN e hX hl x2 hex)
  clear hxh hxl hX hM hN x2
  have W0 : Hid (N2 h l / 2 ^ 0 = N2 h l) := by
    show _ = _
    rw [Nat.pow_zero, Nat.div_one]
  unfold wv at *
  go_enter Try.func3, Try.ntmps3
  go_wp2_with fail
  have hx : Ext w (w.alloc (.cells #[.int .u64 (h : Int), .int .u64 (l : Int)] 24)) := (Ext.refl w).alloc _
  have bA : BoxW (w.alloc (.cells #[.int .u64 (h : Int), .int .u64 (l : Int)] 24)) w.heap.size (.int .u64 (h : Int)) (.int .u64 (l : Int)) := BoxW.new _ _ _ _
  refine (AL.out _).mono ?_
  rintro en u0 ⟨rfl, hy⟩
  have hx' := hx.trans hy
  clear hx
  have hx := hx'
  clear hx'
  have bA' := bA.ext hy
  clear bA hy
  have bA := bA'
  clear bA'
  obtain ⟨bA0, bA1, bA2, bA3, bA4⟩ := bA.ext (Ext.refl _)
  go_wp2_with fail
  refine (S1.out _).mono ?_
  rintro en u1 ⟨rfl, hy⟩
  have hx' := hx.trans hy
  clear hx
  have hx := hx'
  clear hx'
  clear bA0 bA1 bA2 bA3 bA4
  have bA' := bA.ext hy
  clear bA
  have bA := bA'
  clear bA'
  clear hy
  obtain ⟨bA0, bA1, bA2, bA3, bA4⟩ := bA.ext (Ext.refl _)
  have hpq : w.heap.size < u1.heap.size := bA.lt
  go_wp2_with fail
  have bX : BoxW ((u1.alloc (.cells #[.int .u64 (xh : Int), .int .u64 (xl : Int)] 24)).alloc (.cells #[.int .u64 (h : Int), .int .u64 (l : Int)] 24)) u1.heap.size (.int .u64 (xh : Int)) (.int .u64 (xl : Int)) := (BoxW.new _ _ _ _).ext ((Ext.refl _).alloc _)
  have bW : BoxW ((u1.alloc (.cells #[.int .u64 (xh : Int), .int .u64 (xl : Int)] 24)).alloc (.cells #[.int .u64 (h : Int), .int .u64 (l : Int)] 24)) (u1.heap.size + 1) (.int .u64 (h : Int)) (.int .u64 (l : Int)) := by
    have hb := BoxW.new (u1.alloc (.cells #[.int .u64 (xh : Int), .int .u64 (xl : Int)] 24)) (.int .u64 (h : Int)) (.int .u64 (l : Int)) 24
    simpa using hb
  have bA' := bA.ext (((Ext.refl u1).alloc (.cells #[.int .u64 (xh : Int), .int .u64 (xl : Int)] 24)).alloc (.cells #[.int .u64 (h : Int), .int .u64 (l : Int)] 24))
  have hx' := (hx.alloc (.cells #[.int .u64 (xh : Int), .int .u64 (xl : Int)] 24)).alloc (.cells #[.int .u64 (h : Int), .int .u64 (l : Int)] 24)
  clear hx bA
  have hx := hx'
  have bA := bA'
  clear bA' hx'
  clear bA0 bA1 bA2 bA3 bA4
  generalize hW : (u1.alloc (.cells #[.int .u64 (xh : Int), .int .u64 (xl : Int)] 24)).alloc (.cells #[.int .u64 (h : Int), .int .u64 (l : Int)] 24) = W at *
  generalize u1.heap.size = p at *
  clear hW
  go_loopw [8, 9] (fun vs vi wr => vs = .bool true ∧ vi = .int .i64 0 ∧ Ext w wr ∧ BoxW wr w.heap.size (.int .u64 (h : Int)) (.int .u64 (l : Int)) ∧ BoxW wr p (.int .u64 (xh : Int)) (.int .u64 (xl : Int)) ∧ BoxW wr (p + 1) (.int .u64 (h : Int)) (.int .u64 (l : Int))) (fun _ _ _ => 0)
  case atStart => exact ⟨rfl, rfl, hx, bA, bX, bW⟩
  case round =>
    clear hx bA bX bW
    obtain ⟨rfl, rfl, hx, bA, bX, bW⟩ := hrel
    go_wp2_with fail
    go_loopw [10] (fun vi wr => ∃ (k h' l' : Nat), vi = .int .i64 (k : Int) ∧ k ≤ 130 ∧ k ≤ m ∧ h' < 18446744073709551616 ∧ l' < 18446744073709551616 ∧ Hid (N2 h l / 2 ^ k = N2 h' l') ∧ Ext w wr ∧ BoxW wr w.heap.size (.int .u64 (h : Int)) (.int .u64 (l : Int)) ∧ BoxW wr p (.int .u64 (xh : Int)) (.int .u64 (xl : Int)) ∧ BoxW wr (p + 1) (.int .u64 (h' : Int)) (.int .u64 (l' : Int))) (fun vi _ => (130 - intOf vi).toNat)
    case atStart => exact ⟨0, h, l, rfl, by omega, by omega, hh, hl, W0, hx, bA, bX, bW⟩
    case round =>
      clear hx bA bX bW W0
      obtain ⟨k, h', l', rfl, hk, hkm, bh, bl, hE, hx, bA, bX, bW⟩ := hrel
      obtain ⟨bA0, bA1, bA2, bA3, bA4⟩ := bA.ext (Ext.refl _)
      obtain ⟨bX0, bX1, bX2, bX3, bX4⟩ := bX.ext (Ext.refl _)
      obtain ⟨bW0, bW1, bW2, bW3, bW4⟩ := bW.ext (Ext.refl _)
      by_cases hc : k < 130 ∧ k < m
      · obtain ⟨hc1, hc2⟩ := hc
        have DV := Lib.hid (fun w => rdiv_any h' l' 2 w bh bl (by omega) (by omega))
        have hN' := n2_le bh bl
        unfold wn at DV
        obtain ⟨yh, hyh⟩ : ∃ yh, N2 h' l' / 2 / 18446744073709551616 = yh := ⟨_, rfl⟩
        obtain ⟨yl, hyl⟩ : ∃ yl, N2 h' l' / 2 % 18446744073709551616 = yl := ⟨_, rfl⟩
        simp only [hyh, hyl] at DV
        have y1 : yh < 18446744073709551616 := by omega
        have y2 : yl < 18446744073709551616 := by omega
        have hY : N2 h' l' / 2 = N2 yh yl := by
          show _ = yh * 18446744073709551616 + yl
          omega
        have YE := Lib.hid (half_step hE.out hY)
        generalize N2 h' l' % 2 = r at *
        clear hyh hyl hY hE hN' DD S1
        unfold wv at *
        go_wp2_with fail
        refine (DV.out _).mono ?_
        rintro e w1 ⟨rfl, hy⟩
        have hx' := hx.trans hy
        clear hx
        have hx := hx'
        clear hx'
        clear bA0 bA1 bA2 bA3 bA4
        clear bX0 bX1 bX2 bX3 bX4
        clear bW0 bW1 bW2 bW3 bW4
        have bA' := bA.ext hy
        clear bA
        have bA := bA'
        clear bA'
        have bX' := bX.ext hy
        clear bX
        have bX := bX'
        clear bX'
        have bW' := bW.ext hy
        clear bW
        have bW := bW'
        clear bW'
        clear hy
        obtain ⟨bA0, bA1, bA2, bA3, bA4⟩ := bA.ext (Ext.refl _)
        obtain ⟨bX0, bX1, bX2, bX3, bX4⟩ := bX.ext (Ext.refl _)
        obtain ⟨bW0, bW1, bW2, bW3, bW4⟩ := bW.ext (Ext.refl _)
        go_wp2_with fail
        go_roundw
        case rel => exact ⟨k + 1, yh, yl, by go_num, by omega, by omega, y1, y2, YE, (hx.setCell (by show w.heap.size ≤ p + 1; omega) _).setCell (by show w.heap.size ≤ p + 1; omega) _, (bA.far (by omega) _).far (by omega) _, (bX.far (by omega) _).far (by omega) _, (bW.put0 _).put1 _⟩
        case measure => simp [intOf]; omega
      · obtain ⟨i1, i2⟩ := DD.out k h' l' hkm hE.out bl (by omega)
        rw [i1] at bW bW0
        rw [i2] at bW bW1
        clear i1 i2 hE bh bl h' l' DD S1
        have hex : 130 ≤ k ∨ (k < 130 ∧ m ≤ k) := by omega
        clear hc
        rcases hex with hc1 | ⟨hc1, hc2⟩
        · go_wp2_with fail
          go_ret
          exact ⟨rfl, hx⟩
        · go_wp2_with fail
          go_ret
          exact ⟨rfl, hx⟩
theorem shifts_any (h l : Nat) (n : Int) (w : World) (hh : h < 18446744073709551616) (hl : l < 18446744073709551616) (hn : -9223372036854775808 ≤ n ∧ n ≤ 9223372036854775807) :
    Calls Try.prog 3 #[wv h l, .int .i64 n] w fun e w' => e = .returned (.bool true) ∧ Ext w w' := by
  by_cases h0 : n < 0
  · obtain ⟨m, hm⟩ := Int.eq_ofNat_of_zero_le (show 0 ≤ -n by omega)
    obtain rfl : n = -(m : Int) := by omega
    exact shifts_down h l m w hh hl (by omega) (by omega)
  · obtain ⟨m, rfl⟩ := Int.eq_ofNat_of_zero_le (show 0 ≤ n by omega)
    obtain ⟨xh, xl, ok, x1, x2, e, _⟩ := wok_ex (N2 h l * 2 ^ m)
    cases ok
    · exact shifts_up_false h l m xh xl w hh hl (by omega) x1 x2 e
    · exact shifts_up_true h l m xh xl w hh hl (by omega) x1 x2 e
end Go.Proofs.Ytbclkhkpmdbedaa
