/-
  The document's Bits, walked; the statement WideSums, walked.
-/
import Derived.Test.YtbclkhkpmdbedaaWBits
import Derived.Test.YtbclkhkpmdbedaaWCross
import Derived.Deep.Cut
namespace Go.Proofs.Ytbclkhkpmdbedaa
open Go.RowKit
set_option linter.unusedVariables false
theorem bit_above {h l i : Nat} (hh : h < 18446744073709551616) (hl : l < 18446744073709551616) (hi : nb h l ≤ i) : bitB h l i = false :=
  Nat.testBit_lt_two_pow (Nat.lt_of_lt_of_le (nb_spec hh hl).1 (Nat.pow_le_pow_right (by omega) hi))
theorem bit_top {h l : Nat} (hh : h < 18446744073709551616) (hl : l < 18446744073709551616) (h0 : nb h l ≠ 0) : bitB h l (nb h l - 1) = true := by
  obtain ⟨i1, i2, i3⟩ := nb_spec hh hl
  have h2 := i2 h0
  obtain ⟨m, hm⟩ : ∃ m, nb h l = m + 1 := ⟨nb h l - 1, by omega⟩
  rw [hm, Nat.add_sub_cancel] at h2 ⊢
  rw [hm, Nat.pow_succ] at i1
  unfold bitB
  rw [Nat.testBit_eq_decide_div_mod_eq]
  have : N2 h l / 2 ^ m = 1 := by
    have hp : 0 < 2 ^ m := Nat.two_pow_pos m
    refine Nat.div_eq_of_lt_le ?_ ?_ <;> omega
  rw [this]
  rfl
set_option maxHeartbeats 1600000 in
theorem rbits_any (h l : Nat) (w : World) (hh : h < 18446744073709551616) (hl : l < 18446744073709551616) :
    Calls Try.prog 21 #[wv h l] w fun e w' => e = .returned (.int .i64 (nb h l : Nat)) ∧ Ext w w' := by
  have BT := Lib.hid (fun i w hi => bit_any h l i w hh hl hi)
  have BA := Lib.hid (fun i hi => bit_above (i := i) hh hl hi)
  have BP := Lib.hid (bit_top hh hl)
  have hn := (nb_spec hh hl).2.2
  generalize nb h l = n at *
  generalize bitB h l = B at *
  unfold wv at *
  go_enter Try.func21, Try.ntmps21
  go_wp2_with fail
  have B2 := Lib.hid (fun W (hx : Ext (w.alloc (.cells #[.int .u64 (h : Int), .int .u64 (l : Int)] 24)) W) => box2 hx)
  have hw : Ext w (w.alloc (.cells #[.int .u64 (h : Int), .int .u64 (l : Int)] 24)) := (Ext.refl w).alloc _
  generalize hWB : w.alloc (.cells #[.int .u64 (h : Int), .int .u64 (l : Int)] 24) = WB at *
  clear hWB
  go_loopw [3] (fun vi wr => ∃ k : Nat, vi = .int .i64 (k : Int) ∧ n ≤ k ∧ k ≤ 128 ∧ Ext WB wr) (fun i _ => (intOf i).toNat)
  case atStart => exact ⟨128, rfl, hn, by omega, Ext.refl _⟩
  case round =>
    obtain ⟨k, rfl, hk, hk1, hx⟩ := hrel
    obtain ⟨c0, c1, _⟩ := B2.out _ hx
    by_cases h0 : k = 0
    · subst h0
      obtain rfl : n = 0 := by omega
      go_wp2_with fail
      go_ret
      exact ⟨rfl, hw.trans hx⟩
    · obtain ⟨j, rfl⟩ : ∃ j, k = j + 1 := ⟨k - 1, by omega⟩
      have e1 : (((j + 1 : Nat) : Int) - 1) = (j : Int) := by omega
      have C := BT.out j
      by_cases hj : n ≤ j
      · rw [BA.out j hj] at C
        have C := Lib.hid (fun w => C w (by omega))
        clear BT BA BP
        go_wp2_with fail
        refine (C.out _).mono ?_
        rintro e w1 ⟨rfl, hy⟩
        go_wp2_with fail
        go_roundw
        case rel => exact ⟨j, by go_num, hj, by omega, hx.trans hy⟩
        case measure => simp [intOf]
      · obtain rfl : n = j + 1 := by omega
        have hb := BP.out (by omega)
        rw [Nat.add_sub_cancel] at hb
        rw [hb] at C
        have C := Lib.hid (fun w => C w (by omega))
        clear BT BA BP hb
        go_wp2_with fail
        refine (C.out _).mono ?_
        rintro e w1 ⟨rfl, hy⟩
        go_wp2_with fail
        go_ret
        exact ⟨rfl, (hw.trans hx).trans hy⟩
/-- A block of two cells that stands. -/
structure Box (u : World) (p : Nat) (x y : Value) : Prop where
  c0 : u.cell? ⟨p, 0, none⟩ = some x
  c1 : u.cell? ⟨p, 1, none⟩ = some y
  lt : p < u.heap.size
theorem Box.ext {u v : World} {p : Nat} {x y : Value} (h : Box u p x y) (hx : Ext u v) : Box v p x y :=
  ⟨(hx.cell (p := ⟨p, 0, none⟩) h.lt).trans h.c0, (hx.cell (p := ⟨p, 1, none⟩) h.lt).trans h.c1, Nat.lt_of_lt_of_le h.lt hx.size⟩
theorem Box.new (u : World) (x y : Value) (t : TypeId) : Box (u.alloc (.cells #[x, y] t)) u.heap.size x y :=
  ⟨boxAt (Ext.refl _) rfl, boxAt (Ext.refl _) rfl, by simp⟩
theorem Box.alloc {u : World} {p : Nat} {x y : Value} (h : Box u p x y) (o : Obj) : Box (u.alloc o) p x y := h.ext ((Ext.refl _).alloc _)
theorem wok_ex (n : Nat) : ∃ h l ok, h < 18446744073709551616 ∧ l < 18446744073709551616 ∧ WOk n = .returned (.tuple #[wv h l, .bool ok]) ∧ (ok = true → n = N2 h l) := by
  rcases wok_or n with ⟨h, l, h1, h2, h3, h4⟩ | ⟨_, h4⟩
  · exact ⟨h, l, true, h1, h2, h4, fun _ => h3⟩
  · exact ⟨0, 0, false, by omega, by omega, h4, fun h => by cases h⟩
theorem wsub_ex (x y : Nat) : ∃ h l ok, h < 18446744073709551616 ∧ l < 18446744073709551616 ∧ WSub x y = .returned (.tuple #[wv h l, .bool ok]) := by
  unfold WSub
  split
  · exact ⟨0, 0, false, by omega, by omega, rfl⟩
  · obtain ⟨h, l, ok, h1, h2, h3, _⟩ := wok_ex (x - y)
    exact ⟨h, l, ok, h1, h2, h3⟩
set_option maxRecDepth 100000 in
set_option maxHeartbeats 6400000 in
theorem sums_any (a b c d : Nat) (w : World) (ha : a < 18446744073709551616) (hb : b < 18446744073709551616) (hc : c < 18446744073709551616) (hd : d < 18446744073709551616) :
    Calls Try.prog 4 #[wv a b, wv c d] w fun e w' => e = .returned (.bool true) ∧ Ext w w' := by
  have AL := Lib.hid alive_any
  have C1 := Lib.hid (fun w => wadd_any a b c d w ha hb hc hd)
  have C2 := Lib.hid (fun w => raddw_any a b c d w ha hb hc hd)
  have C3 := Lib.hid (fun w => wsub_any a b c d w ha hb hc hd)
  have C4 := Lib.hid (fun w => rsubw_any a b c d w ha hb hc hd)
  have C5 := Lib.hid (fun w => wcmp_any a b c d w ha hb hc hd)
  have C6 := Lib.hid (fun w => rcmpw_any a b c d w ha hb hc hd)
  have C7 := Lib.hid (fun w => wbits_any a b w ha hb)
  have C8 := Lib.hid (fun w => rbits_any a b w ha hb)
  obtain ⟨xh, xl, o1, x1, x2, e1, f1⟩ := wok_ex (N2 a b + N2 c d)
  obtain ⟨yh, yl, o2, y1, y2, e2⟩ := wsub_ex (N2 a b) (N2 c d)
  simp only [e1] at C1 C2
  simp only [e2] at C3 C4
  have C9 := Lib.hid (fun (ho : o1 = true) w => (by
    have h := wsub_any xh xl c d w x1 x2 hc hd
    have e3 : WSub (N2 xh xl) (N2 c d) = .returned (.tuple #[wv a b, .bool true]) := by
      rw [← f1 ho]
      unfold WSub
      rw [if_neg (by omega), Nat.add_sub_cancel, wok_yes ha hb]
    rw [e3] at h
    exact h : Calls Try.prog 16 #[wv xh xl, wv c d] w fun e w' => e = .returned (.tuple #[wv a b, .bool true]) ∧ Ext w w'))
  generalize cmpI (N2 a b) (N2 c d) = k at *
  generalize nb a b = m at *
  clear e1 e2 f1 x1 x2 y1 y2 ha hb hc hd
  unfold wv at *
  go_enter Try.func4, Try.ntmps4
  go_wp2_with fail
  have hw : Ext w ((w.alloc (.cells #[.int .u64 (a : Int), .int .u64 (b : Int)] 24)).alloc (.cells #[.int .u64 (c : Int), .int .u64 (d : Int)] 24)) := ((Ext.refl w).alloc _).alloc _
  have bA : Box ((w.alloc (.cells #[.int .u64 (a : Int), .int .u64 (b : Int)] 24)).alloc (.cells #[.int .u64 (c : Int), .int .u64 (d : Int)] 24)) w.heap.size (.int .u64 (a : Int)) (.int .u64 (b : Int)) := (Box.new _ _ _ _).alloc _
  have bB : Box ((w.alloc (.cells #[.int .u64 (a : Int), .int .u64 (b : Int)] 24)).alloc (.cells #[.int .u64 (c : Int), .int .u64 (d : Int)] 24)) (w.heap.size + 1) (.int .u64 (c : Int)) (.int .u64 (d : Int)) := by
    have h := Box.new (w.alloc (.cells #[.int .u64 (a : Int), .int .u64 (b : Int)] 24)) (.int .u64 (c : Int)) (.int .u64 (d : Int)) 24
    simpa using h
  refine (AL.out _).mono ?_
  rintro en u0 ⟨rfl, hy⟩
  have hw := hw.trans hy
  have bA := bA.ext hy
  have bB := bB.ext hy
  clear hy
  obtain ⟨bA0, bA1, bA2⟩ := bA.ext (Ext.refl _)
  obtain ⟨bB0, bB1, bB2⟩ := bB.ext (Ext.refl _)
  go_wp2_with fail
  refine (C1.out _).mono ?_
  rintro en u1 ⟨rfl, hy⟩
  have hq := hy
  have hw := hw.trans hq
  have bA := bA.ext hq
  have bB := bB.ext hq
  clear bA0 bA1 bA2 bB0 bB1 bB2 hy hq
  obtain ⟨bA0, bA1, bA2⟩ := bA.ext (Ext.refl _)
  obtain ⟨bB0, bB1, bB2⟩ := bB.ext (Ext.refl _)
  go_wp2_with fail
  refine (C2.out _).mono ?_
  rintro en u2 ⟨rfl, hy⟩
  have bX := (Box.new u1 (.int .u64 (xh : Int)) (.int .u64 (xl : Int)) 24).ext hy
  have hq := ((Ext.refl u1).alloc (.cells #[.int .u64 (xh : Int), .int .u64 (xl : Int)] 24)).trans hy
  have hw := hw.trans hq
  have bA := bA.ext hq
  have bB := bB.ext hq
  clear bA0 bA1 bA2 bB0 bB1 bB2 hy hq
  obtain ⟨bA0, bA1, bA2⟩ := bA.ext (Ext.refl _)
  obtain ⟨bB0, bB1, bB2⟩ := bB.ext (Ext.refl _)
  obtain ⟨bX0, bX1, bX2⟩ := bX.ext (Ext.refl _)
  go_wp2_with fail
  refine (C3.out _).mono ?_
  rintro en u3 ⟨rfl, hy⟩
  have bW := (Box.new u2 (.int .u64 (xh : Int)) (.int .u64 (xl : Int)) 24).ext hy
  have hq := ((Ext.refl u2).alloc (.cells #[.int .u64 (xh : Int), .int .u64 (xl : Int)] 24)).trans hy
  have hw := hw.trans hq
  have bA := bA.ext hq
  have bB := bB.ext hq
  have bX := bX.ext hq
  clear bA0 bA1 bA2 bB0 bB1 bB2 bX0 bX1 bX2 hy hq
  obtain ⟨bA0, bA1, bA2⟩ := bA.ext (Ext.refl _)
  obtain ⟨bB0, bB1, bB2⟩ := bB.ext (Ext.refl _)
  obtain ⟨bX0, bX1, bX2⟩ := bX.ext (Ext.refl _)
  obtain ⟨bW0, bW1, bW2⟩ := bW.ext (Ext.refl _)
  go_wp2_with fail
  refine (C4.out _).mono ?_
  rintro en u4 ⟨rfl, hy⟩
  have bY := (Box.new u3 (.int .u64 (yh : Int)) (.int .u64 (yl : Int)) 24).ext hy
  have hq := ((Ext.refl u3).alloc (.cells #[.int .u64 (yh : Int), .int .u64 (yl : Int)] 24)).trans hy
  have hw := hw.trans hq
  have bA := bA.ext hq
  have bB := bB.ext hq
  have bX := bX.ext hq
  have bW := bW.ext hq
  clear bA0 bA1 bA2 bB0 bB1 bB2 bX0 bX1 bX2 bW0 bW1 bW2 hy hq
  have bV := Box.new u4 (.int .u64 (yh : Int)) (.int .u64 (yl : Int)) 24
  have hw := hw.alloc (.cells #[.int .u64 (yh : Int), .int .u64 (yl : Int)] 24)
  have bA := bA.alloc (.cells #[.int .u64 (yh : Int), .int .u64 (yl : Int)] 24)
  have bB := bB.alloc (.cells #[.int .u64 (yh : Int), .int .u64 (yl : Int)] 24)
  have bX := bX.alloc (.cells #[.int .u64 (yh : Int), .int .u64 (yl : Int)] 24)
  have bW := bW.alloc (.cells #[.int .u64 (yh : Int), .int .u64 (yl : Int)] 24)
  have bY := bY.alloc (.cells #[.int .u64 (yh : Int), .int .u64 (yl : Int)] 24)
  obtain ⟨bA0, bA1, bA2⟩ := bA.ext (Ext.refl _)
  obtain ⟨bB0, bB1, bB2⟩ := bB.ext (Ext.refl _)
  obtain ⟨bX0, bX1, bX2⟩ := bX.ext (Ext.refl _)
  obtain ⟨bW0, bW1, bW2⟩ := bW.ext (Ext.refl _)
  obtain ⟨bY0, bY1, bY2⟩ := bY.ext (Ext.refl _)
  go_upto_region 7 with (fail)
  clear bA0 bA1 bA2 bB0 bB1 bB2 bX0 bX1 bX2 bW0 bW1 bW2 bY0 bY1 bY2
  generalize hW : u4.alloc (.cells #[.int .u64 (yh : Int), .int .u64 (yl : Int)] 24) = W at *
  generalize u1.heap.size = pX at *
  generalize u2.heap.size = pW at *
  generalize u3.heap.size = pY at *
  generalize u4.heap.size = pV at *
  clear hW
  have BX := Lib.hid (fun w' (hx : Ext W w') => (⟨(bA.ext hx).c0, (bA.ext hx).c1, (bB.ext hx).c0, (bB.ext hx).c1, (bX.ext hx).c0, (bX.ext hx).c1, (bW.ext hx).c0, (bW.ext hx).c1, (bY.ext hx).c0, (bY.ext hx).c1, (bV.ext hx).c0, (bV.ext hx).c1⟩ : w'.cell? ⟨w.heap.size, 0, none⟩ = some (.int .u64 (a : Int)) ∧ w'.cell? ⟨w.heap.size, 1, none⟩ = some (.int .u64 (b : Int)) ∧ w'.cell? ⟨w.heap.size + 1, 0, none⟩ = some (.int .u64 (c : Int)) ∧ w'.cell? ⟨w.heap.size + 1, 1, none⟩ = some (.int .u64 (d : Int)) ∧ w'.cell? ⟨pX, 0, none⟩ = some (.int .u64 (xh : Int)) ∧ w'.cell? ⟨pX, 1, none⟩ = some (.int .u64 (xl : Int)) ∧ w'.cell? ⟨pW, 0, none⟩ = some (.int .u64 (xh : Int)) ∧ w'.cell? ⟨pW, 1, none⟩ = some (.int .u64 (xl : Int)) ∧ w'.cell? ⟨pY, 0, none⟩ = some (.int .u64 (yh : Int)) ∧ w'.cell? ⟨pY, 1, none⟩ = some (.int .u64 (yl : Int)) ∧ w'.cell? ⟨pV, 0, none⟩ = some (.int .u64 (yh : Int)) ∧ w'.cell? ⟨pV, 1, none⟩ = some (.int .u64 (yl : Int))))
  obtain ⟨i0, i1, i2, i3, i4, i5, i6, i7, i8, i9, i10, i11⟩ := BX.out _ (Ext.refl W)
  have x0 := Ext.refl W
  clear bA bB bX bW bY bV
  go_region_held3 (fun w' => w'.cell? ⟨w.heap.size, 0, none⟩ = some (.int .u64 (a : Int)) ∧ w'.cell? ⟨w.heap.size, 1, none⟩ = some (.int .u64 (b : Int)) ∧ w'.cell? ⟨w.heap.size + 1, 0, none⟩ = some (.int .u64 (c : Int)) ∧ w'.cell? ⟨w.heap.size + 1, 1, none⟩ = some (.int .u64 (d : Int)) ∧ w'.cell? ⟨pX, 0, none⟩ = some (.int .u64 (xh : Int)) ∧ w'.cell? ⟨pX, 1, none⟩ = some (.int .u64 (xl : Int)) ∧ w'.cell? ⟨pW, 0, none⟩ = some (.int .u64 (xh : Int)) ∧ w'.cell? ⟨pW, 1, none⟩ = some (.int .u64 (xl : Int)) ∧ w'.cell? ⟨pY, 0, none⟩ = some (.int .u64 (yh : Int)) ∧ w'.cell? ⟨pY, 1, none⟩ = some (.int .u64 (yl : Int)) ∧ w'.cell? ⟨pV, 0, none⟩ = some (.int .u64 (yh : Int)) ∧ w'.cell? ⟨pV, 1, none⟩ = some (.int .u64 (yl : Int)) ∧ Ext W w')
    (first | (refine ⟨?_, ?_, ?_, ?_, ?_, ?_, ?_, ?_, ?_, ?_, ?_, ?_, ?_⟩ <;> first | assumption | (apply Ext.drew; assumption)))
    (first
      | (go_at_call 18; (with_reducible refine (C5.out _).mono ?_); rintro en vC5 ⟨rfl, hy⟩; have yC5 : Ext W vC5 := Ext.trans (by first | assumption | exact Ext.drew (by assumption)) hy; obtain ⟨j0, j1, j2, j3, j4, j5, j6, j7, j8, j9, j10, j11⟩ := BX.out _ yC5)
      | (go_at_call 19; (with_reducible refine (C6.out _).mono ?_); rintro en vC6 ⟨rfl, hy⟩; have yC6 : Ext W vC6 := Ext.trans (by first | assumption | exact Ext.drew (by assumption)) hy; obtain ⟨j0, j1, j2, j3, j4, j5, j6, j7, j8, j9, j10, j11⟩ := BX.out _ yC6)
      | (go_at_call 20; (with_reducible refine (C7.out _).mono ?_); rintro en vC7 ⟨rfl, hy⟩; have yC7 : Ext W vC7 := Ext.trans (by first | assumption | exact Ext.drew (by assumption)) hy; obtain ⟨j0, j1, j2, j3, j4, j5, j6, j7, j8, j9, j10, j11⟩ := BX.out _ yC7)
      | (go_at_call 21; (with_reducible refine (C8.out _).mono ?_); rintro en vC8 ⟨rfl, hy⟩; have yC8 : Ext W vC8 := Ext.trans (by first | assumption | exact Ext.drew (by assumption)) hy; obtain ⟨j0, j1, j2, j3, j4, j5, j6, j7, j8, j9, j10, j11⟩ := BX.out _ yC8))
  all_goals
    cases o1
    · go_wp2_with fail
      go_ret
      exact ⟨rfl, hw.trans yC8⟩
    · have C9' := Lib.hid (fun w => C9.out (by trivial) w)
      clear C9
      go_wp2_with fail
      refine (C9'.out _).mono ?_
      rintro en v9 ⟨rfl, hy⟩
      have y9 := yC8.trans hy
      obtain ⟨k0, k1, _⟩ := BX.out _ y9
      have hpl : w.heap.size < v9.heap.size := World.block_lt_of_cell? v9 _ k0
      go_wp2_with fail
      go_ret
      exact ⟨rfl, (hw.trans y9).alloc _⟩
end Go.Proofs.Ytbclkhkpmdbedaa
