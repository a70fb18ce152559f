/-
  The statement WideProducts, walked.
-/
import Derived.Test.YtbclkhkpmdbedaaWDivW
import Derived.Test.YtbclkhkpmdbedaaWShiftsW
namespace Go.Proofs.Ytbclkhkpmdbedaa
open Go.RowKit
set_option linter.unusedVariables false
theorem boxE {u v : World} {x y : Value} {T : TypeId} (h : Ext (u.alloc (.cells #[x, y] T)) v) : BoxW v u.heap.size x y := (BoxW.new u x y T).ext h
theorem boxED {u v : World} {x y : Value} {T : TypeId} (h : Ext (u.alloc (.cells #[x, y] T)).drew v) : BoxW v u.heap.size x y := ((BoxW.new u x y T).ext ((Ext.refl _).drew)).ext h
theorem n2_zero (r : Nat) : N2 0 r = r := by unfold N2; omega
set_option maxRecDepth 100000 in
set_option maxHeartbeats 6400000 in
theorem prods_zero (a b : Nat) (w : World) (ha : a < 18446744073709551616) (hb : b < 18446744073709551616) :
    Calls Try.prog 7 #[wv a b, .int .u64 ((0 : Nat) : Int)] w fun e w' => e = .returned (.bool true) ∧ Ext w w' := by
  have AL := Lib.hid alive_any
  have C1 := Lib.hid (fun w => wmul_any a b 0 w ha hb (by omega))
  have C2 := Lib.hid (fun w => rmulw_any a b 0 w ha hb (by omega))
  have C3 := Lib.hid (fun w => wdiv_zero a b w)
  have CO := Lib.hid (fun w => wof_any 0 w)
  have e0 : WOk (N2 a b * 0) = .returned (.tuple #[wv 0 0, .bool true]) := by
    rw [Nat.mul_zero]
    exact wok_yes (h := 0) (l := 0) (by omega) (by omega)
  simp only [e0] at C1 C2
  clear e0 ha hb
  unfold wv at *
  go_enter Try.func7, Try.ntmps7
  go_wp2_with fail
  have hx : Ext w (w.alloc (.cells #[.int .u64 (a : Int), .int .u64 (b : Int)] 24)) := (Ext.refl w).alloc _
  have bA : BoxW (w.alloc (.cells #[.int .u64 (a : Int), .int .u64 (b : Int)] 24)) w.heap.size (.int .u64 (a : Int)) (.int .u64 (b : Int)) := BoxW.new _ _ _ _
  refine (AL.out _).mono ?_
  rintro en u0 ⟨rfl, hy⟩
  have hx' := hx.trans hy
  clear hx
  have hx := hx'
  clear hx'
  have bA' := bA.ext hy
  clear bA
  have bA := bA'
  clear bA'
  clear hy
  obtain ⟨bA0, bA1, bA2, bA3, bA4⟩ := bA.ext (Ext.refl _)
  go_wp2_with fail
  refine (C1.out _).mono ?_
  rintro en u1 ⟨rfl, hy⟩
  clear bA0 bA1 bA2 bA3 bA4
  have hx' := hx.trans hy
  clear hx
  have hx := hx'
  clear hx'
  have bA' := bA.ext hy
  clear bA
  have bA := bA'
  clear bA'
  clear hy
  obtain ⟨bA0, bA1, bA2, bA3, bA4⟩ := bA.ext (Ext.refl _)
  go_wp2_with fail
  clear bA0 bA1 bA2 bA3 bA4
  have bX := BoxW.new u1 (.int .u64 0) (.int .u64 0) 24
  have hal := (Ext.refl u1).alloc (.cells #[.int .u64 0, .int .u64 0] 24)
  have hx' := hx.trans hal
  clear hx
  have hx := hx'
  clear hx'
  have bA' := bA.ext hal
  clear bA
  have bA := bA'
  clear bA'
  clear hal
  refine (C2.out _).mono ?_
  rintro en u2 ⟨rfl, hy⟩
  have hx' := hx.trans hy
  clear hx
  have hx := hx'
  clear hx'
  have bA' := bA.ext hy
  clear bA
  have bA := bA'
  clear bA'
  have bX' := bX.ext hy
  clear bX
  have bX := bX'
  clear bX'
  clear hy
  obtain ⟨bA0, bA1, bA2, bA3, bA4⟩ := bA.ext (Ext.refl _)
  obtain ⟨bX0, bX1, bX2, bX3, bX4⟩ := bX.ext (Ext.refl _)
  go_wp2_with fail
  clear bA0 bA1 bA2 bA3 bA4
  clear bX0 bX1 bX2 bX3 bX4
  have bY := BoxW.new u2 (.int .u64 0) (.int .u64 0) 24
  have hal := (Ext.refl u2).alloc (.cells #[.int .u64 0, .int .u64 0] 24)
  have hx' := hx.trans hal
  clear hx
  have hx := hx'
  clear hx'
  have bA' := bA.ext hal
  clear bA
  have bA := bA'
  clear bA'
  have bX' := bX.ext hal
  clear bX
  have bX := bX'
  clear bX'
  clear hal
  refine (C3.out _).mono ?_
  rintro en u3 ⟨rfl, hy⟩
  have hx' := hx.trans hy
  clear hx
  have hx := hx'
  clear hx'
  have bA' := bA.ext hy
  clear bA
  have bA := bA'
  clear bA'
  have bX' := bX.ext hy
  clear bX
  have bX := bX'
  clear bX'
  have bY' := bY.ext hy
  clear bY
  have bY := bY'
  clear bY'
  clear hy
  obtain ⟨bA0, bA1, bA2, bA3, bA4⟩ := bA.ext (Ext.refl _)
  obtain ⟨bX0, bX1, bX2, bX3, bX4⟩ := bX.ext (Ext.refl _)
  obtain ⟨bY0, bY1, bY2, bY3, bY4⟩ := bY.ext (Ext.refl _)
  go_wp2_with fail
  clear bA0 bA1 bA2 bA3 bA4
  clear bX0 bX1 bX2 bX3 bX4
  clear bY0 bY1 bY2 bY3 bY4
  have bQ := BoxW.new u3 (.int .u64 0) (.int .u64 0) 24
  have hal := (Ext.refl u3).alloc (.cells #[.int .u64 0, .int .u64 0] 24)
  have hx' := hx.trans hal
  clear hx
  have hx := hx'
  clear hx'
  have bA' := bA.ext hal
  clear bA
  have bA := bA'
  clear bA'
  have bX' := bX.ext hal
  clear bX
  have bX := bX'
  clear bX'
  have bY' := bY.ext hal
  clear bY
  have bY := bY'
  clear bY'
  clear hal
  refine (CO.out _).mono ?_
  rintro en u4 ⟨rfl, hy⟩
  have hx' := hx.trans hy
  clear hx
  have hx := hx'
  clear hx'
  have bA' := bA.ext hy
  clear bA
  have bA := bA'
  clear bA'
  have bX' := bX.ext hy
  clear bX
  have bX := bX'
  clear bX'
  have bY' := bY.ext hy
  clear bY
  have bY := bY'
  clear bY'
  have bQ' := bQ.ext hy
  clear bQ
  have bQ := bQ'
  clear bQ'
  clear hy
  obtain ⟨bA0, bA1, bA2, bA3, bA4⟩ := bA.ext (Ext.refl _)
  obtain ⟨bX0, bX1, bX2, bX3, bX4⟩ := bX.ext (Ext.refl _)
  obtain ⟨bY0, bY1, bY2, bY3, bY4⟩ := bY.ext (Ext.refl _)
  obtain ⟨bQ0, bQ1, bQ2, bQ3, bQ4⟩ := bQ.ext (Ext.refl _)
  go_wp2_with fail
  go_ret
  exact ⟨rfl, hx⟩
set_option maxRecDepth 100000 in
set_option maxHeartbeats 6400000 in
theorem prods_pos (a b n : Nat) (w : World) (ha : a < 18446744073709551616) (hb : b < 18446744073709551616) (hn0 : 0 < n) (hn : n < 18446744073709551616) :
    Calls Try.prog 7 #[wv a b, .int .u64 (n : Int)] w fun e w' => e = .returned (.bool true) ∧ Ext w w' := by
  have AL := Lib.hid alive_any
  have C1 := Lib.hid (fun w => wmul_any a b n w ha hb hn)
  have C2 := Lib.hid (fun w => rmulw_any a b n w ha hb hn)
  obtain ⟨xh, xl, ok, x1, x2, xe, _⟩ := wok_ex (N2 a b * n)
  simp only [xe] at C1 C2
  have C3 := Lib.hid (fun w => wdiv_any a b n w ha hb hn0 hn)
  have C4 := Lib.hid (fun w => rdiv_any a b n w ha hb hn0 hn)
  have hN := n2_le ha hb
  have hdm := Nat.div_add_mod (N2 a b) n
  have hq : N2 a b / n < 340282366920938463463374607431768211456 := Nat.lt_of_le_of_lt (Nat.div_le_self _ _) hN
  have hr : N2 a b % n < n := Nat.mod_lt _ hn0
  obtain ⟨qh, ql, q1, q2, qe, qw⟩ : ∃ qh ql, qh < 18446744073709551616 ∧ ql < 18446744073709551616 ∧ wn (N2 a b / n) = wv qh ql ∧ N2 a b / n = N2 qh ql := ⟨N2 a b / n / 18446744073709551616, N2 a b / n % 18446744073709551616, by omega, by omega, rfl, by show _ = _ * 18446744073709551616 + _; omega⟩
  simp only [qe] at C3 C4
  rw [qw, Nat.mul_comm] at hdm
  generalize N2 a b % n = r at *
  have C5 := Lib.hid (fun w => wmul_any qh ql n w q1 q2 hn)
  obtain ⟨bh, bl, b1, b2, be, bw⟩ : ∃ bh bl, bh < 18446744073709551616 ∧ bl < 18446744073709551616 ∧ WOk (N2 qh ql * n) = .returned (.tuple #[wv bh bl, .bool true]) ∧ N2 qh ql * n = N2 bh bl := by
    have h1 : N2 qh ql * n < 340282366920938463463374607431768211456 := by omega
    rcases wok_or (N2 qh ql * n) with ⟨h, l, i1, i2, i3, i4⟩ | ⟨i1, _⟩
    · exact ⟨h, l, i1, i2, i4, i3⟩
    · exact absurd h1 i1
  simp only [be] at C5
  have CO := Lib.hid (fun w => wof_any r w)
  have CN := Lib.hid (fun w => wof_any n w)
  have C6 : Hid (∀ w, Calls Try.prog 14 #[wv bh bl, .agg #[.int .u64 0, .int .u64 (r : Int)]] w fun e w' => e = WOk (N2 bh bl + N2 0 r) ∧ Ext w w') := Lib.hid (fun w => wadd_any bh bl 0 r w b1 b2 (by omega) (by omega))
  have e6 : WOk (N2 bh bl + N2 0 r) = .returned (.tuple #[wv a b, .bool true]) := by
    rw [n2_zero, ← bw, hdm, wok_yes ha hb]
  simp only [e6] at C6
  have hrn : r < n := hr
  clear e6 be bw qe qw xe hdm hq hN hr x1 x2 q1 q2 b1 b2 ha hb
  unfold wv at *
  go_enter Try.func7, Try.ntmps7
  go_wp2_with fail
  have hx : Ext w (w.alloc (.cells #[.int .u64 (a : Int), .int .u64 (b : Int)] 24)) := (Ext.refl w).alloc _
  have bA : BoxW (w.alloc (.cells #[.int .u64 (a : Int), .int .u64 (b : Int)] 24)) w.heap.size (.int .u64 (a : Int)) (.int .u64 (b : Int)) := BoxW.new _ _ _ _
  refine (AL.out _).mono ?_
  rintro en u0 ⟨rfl, hy⟩
  have hx' := hx.trans hy
  clear hx
  have hx := hx'
  clear hx'
  have bA' := bA.ext hy
  clear bA
  have bA := bA'
  clear bA'
  clear hy
  obtain ⟨bA0, bA1, bA2, bA3, bA4⟩ := bA.ext (Ext.refl _)
  go_wp2_with fail
  refine (C1.out _).mono ?_
  rintro en u1 ⟨rfl, hy⟩
  clear bA0 bA1 bA2 bA3 bA4
  have hx' := hx.trans hy
  clear hx
  have hx := hx'
  clear hx'
  have bA' := bA.ext hy
  clear bA
  have bA := bA'
  clear bA'
  clear hy
  obtain ⟨bA0, bA1, bA2, bA3, bA4⟩ := bA.ext (Ext.refl _)
  go_wp2_with fail
  clear bA0 bA1 bA2 bA3 bA4
  have bX := BoxW.new u1 (.int .u64 (xh : Int)) (.int .u64 (xl : Int)) 24
  have hal := (Ext.refl u1).alloc (.cells #[.int .u64 (xh : Int), .int .u64 (xl : Int)] 24)
  have hx' := hx.trans hal
  clear hx
  have hx := hx'
  clear hx'
  have bA' := bA.ext hal
  clear bA
  have bA := bA'
  clear bA'
  clear hal
  refine (C2.out _).mono ?_
  rintro en u2 ⟨rfl, hy⟩
  have hx' := hx.trans hy
  clear hx
  have hx := hx'
  clear hx'
  have bA' := bA.ext hy
  clear bA
  have bA := bA'
  clear bA'
  have bX' := bX.ext hy
  clear bX
  have bX := bX'
  clear bX'
  clear hy
  obtain ⟨bA0, bA1, bA2, bA3, bA4⟩ := bA.ext (Ext.refl _)
  obtain ⟨bX0, bX1, bX2, bX3, bX4⟩ := bX.ext (Ext.refl _)
  go_wp2_with fail
  clear bA0 bA1 bA2 bA3 bA4
  clear bX0 bX1 bX2 bX3 bX4
  have bY := BoxW.new u2 (.int .u64 (xh : Int)) (.int .u64 (xl : Int)) 24
  have hal := (Ext.refl u2).alloc (.cells #[.int .u64 (xh : Int), .int .u64 (xl : Int)] 24)
  have hx' := hx.trans hal
  clear hx
  have hx := hx'
  clear hx'
  have bA' := bA.ext hal
  clear bA
  have bA := bA'
  clear bA'
  have bX' := bX.ext hal
  clear bX
  have bX := bX'
  clear bX'
  clear hal
  refine (C3.out _).mono ?_
  rintro en u3 ⟨rfl, hy⟩
  have hx' := hx.trans hy
  clear hx
  have hx := hx'
  clear hx'
  have bA' := bA.ext hy
  clear bA
  have bA := bA'
  clear bA'
  have bX' := bX.ext hy
  clear bX
  have bX := bX'
  clear bX'
  have bY' := bY.ext hy
  clear bY
  have bY := bY'
  clear bY'
  clear hy
  obtain ⟨bA0, bA1, bA2, bA3, bA4⟩ := bA.ext (Ext.refl _)
  obtain ⟨bX0, bX1, bX2, bX3, bX4⟩ := bX.ext (Ext.refl _)
  obtain ⟨bY0, bY1, bY2, bY3, bY4⟩ := bY.ext (Ext.refl _)
  go_wp2_with fail
  clear bA0 bA1 bA2 bA3 bA4
  clear bX0 bX1 bX2 bX3 bX4
  clear bY0 bY1 bY2 bY3 bY4
  have bQ := BoxW.new u3 (.int .u64 (qh : Int)) (.int .u64 (ql : Int)) 24
  have hal := (Ext.refl u3).alloc (.cells #[.int .u64 (qh : Int), .int .u64 (ql : Int)] 24)
  have hx' := hx.trans hal
  clear hx
  have hx := hx'
  clear hx'
  have bA' := bA.ext hal
  clear bA
  have bA := bA'
  clear bA'
  have bX' := bX.ext hal
  clear bX
  have bX := bX'
  clear bX'
  have bY' := bY.ext hal
  clear bY
  have bY := bY'
  clear bY'
  clear hal
  refine (CN.out _).mono ?_
  rintro en u4 ⟨rfl, hy⟩
  have hx' := hx.trans hy
  clear hx
  have hx := hx'
  clear hx'
  have bA' := bA.ext hy
  clear bA
  have bA := bA'
  clear bA'
  have bX' := bX.ext hy
  clear bX
  have bX := bX'
  clear bX'
  have bY' := bY.ext hy
  clear bY
  have bY := bY'
  clear bY'
  have bQ' := bQ.ext hy
  clear bQ
  have bQ := bQ'
  clear bQ'
  clear hy
  obtain ⟨bA0, bA1, bA2, bA3, bA4⟩ := bA.ext (Ext.refl _)
  obtain ⟨bX0, bX1, bX2, bX3, bX4⟩ := bX.ext (Ext.refl _)
  obtain ⟨bY0, bY1, bY2, bY3, bY4⟩ := bY.ext (Ext.refl _)
  obtain ⟨bQ0, bQ1, bQ2, bQ3, bQ4⟩ := bQ.ext (Ext.refl _)
  go_wp2_with fail
  refine (C4.out _).mono ?_
  rintro en u5 ⟨rfl, hy⟩
  clear bA0 bA1 bA2 bA3 bA4
  clear bX0 bX1 bX2 bX3 bX4
  clear bY0 bY1 bY2 bY3 bY4
  clear bQ0 bQ1 bQ2 bQ3 bQ4
  have hx' := hx.trans hy
  clear hx
  have hx := hx'
  clear hx'
  have bA' := bA.ext hy
  clear bA
  have bA := bA'
  clear bA'
  have bX' := bX.ext hy
  clear bX
  have bX := bX'
  clear bX'
  have bY' := bY.ext hy
  clear bY
  have bY := bY'
  clear bY'
  have bQ' := bQ.ext hy
  clear bQ
  have bQ := bQ'
  clear bQ'
  clear hy
  obtain ⟨bA0, bA1, bA2, bA3, bA4⟩ := bA.ext (Ext.refl _)
  obtain ⟨bX0, bX1, bX2, bX3, bX4⟩ := bX.ext (Ext.refl _)
  obtain ⟨bY0, bY1, bY2, bY3, bY4⟩ := bY.ext (Ext.refl _)
  obtain ⟨bQ0, bQ1, bQ2, bQ3, bQ4⟩ := bQ.ext (Ext.refl _)
  go_wp2_with fail
  clear bA0 bA1 bA2 bA3 bA4
  clear bX0 bX1 bX2 bX3 bX4
  clear bY0 bY1 bY2 bY3 bY4
  clear bQ0 bQ1 bQ2 bQ3 bQ4
  have bV := BoxW.new u5 (.int .u64 (qh : Int)) (.int .u64 (ql : Int)) 24
  have hal := (Ext.refl u5).alloc (.cells #[.int .u64 (qh : Int), .int .u64 (ql : Int)] 24)
  have hx' := hx.trans hal
  clear hx
  have hx := hx'
  clear hx'
  have bA' := bA.ext hal
  clear bA
  have bA := bA'
  clear bA'
  have bX' := bX.ext hal
  clear bX
  have bX := bX'
  clear bX'
  have bY' := bY.ext hal
  clear bY
  have bY := bY'
  clear bY'
  have bQ' := bQ.ext hal
  clear bQ
  have bQ := bQ'
  clear bQ'
  clear hal
  refine (C5.out _).mono ?_
  rintro en u6 ⟨rfl, hy⟩
  have hx' := hx.trans hy
  clear hx
  have hx := hx'
  clear hx'
  have bA' := bA.ext hy
  clear bA
  have bA := bA'
  clear bA'
  have bX' := bX.ext hy
  clear bX
  have bX := bX'
  clear bX'
  have bY' := bY.ext hy
  clear bY
  have bY := bY'
  clear bY'
  have bQ' := bQ.ext hy
  clear bQ
  have bQ := bQ'
  clear bQ'
  have bV' := bV.ext hy
  clear bV
  have bV := bV'
  clear bV'
  clear hy
  obtain ⟨bA0, bA1, bA2, bA3, bA4⟩ := bA.ext (Ext.refl _)
  obtain ⟨bX0, bX1, bX2, bX3, bX4⟩ := bX.ext (Ext.refl _)
  obtain ⟨bY0, bY1, bY2, bY3, bY4⟩ := bY.ext (Ext.refl _)
  obtain ⟨bQ0, bQ1, bQ2, bQ3, bQ4⟩ := bQ.ext (Ext.refl _)
  obtain ⟨bV0, bV1, bV2, bV3, bV4⟩ := bV.ext (Ext.refl _)
  go_upto_region 12 with (fail)
  clear bA0 bA1 bA2 bA3 bA4
  clear bX0 bX1 bX2 bX3 bX4
  clear bY0 bY1 bY2 bY3 bY4
  clear bQ0 bQ1 bQ2 bQ3 bQ4
  clear bV0 bV1 bV2 bV3 bV4
  have bB := BoxW.new u6 (.int .u64 (bh : Int)) (.int .u64 (bl : Int)) 24
  have hal := (Ext.refl u6).alloc (.cells #[.int .u64 (bh : Int), .int .u64 (bl : Int)] 24)
  have hx' := hx.trans hal
  clear hx
  have hx := hx'
  clear hx'
  have bA' := bA.ext hal
  clear bA
  have bA := bA'
  clear bA'
  have bX' := bX.ext hal
  clear bX
  have bX := bX'
  clear bX'
  have bY' := bY.ext hal
  clear bY
  have bY := bY'
  clear bY'
  have bQ' := bQ.ext hal
  clear bQ
  have bQ := bQ'
  clear bQ'
  have bV' := bV.ext hal
  clear bV
  have bV := bV'
  clear bV'
  clear hal
  generalize u6.alloc (.cells #[.int .u64 (bh : Int), .int .u64 (bl : Int)] 24) = W at *
  generalize u1.heap.size = pX at *
  generalize u2.heap.size = pY at *
  generalize u3.heap.size = pQ at *
  generalize u5.heap.size = pV at *
  generalize u6.heap.size = pB at *
  have BX := Lib.hid (fun w' (hx : Ext W w') => (⟨(bA.ext hx).c0, (bA.ext hx).c1, (bQ.ext hx).c0, (bQ.ext hx).c1, (bV.ext hx).c0, (bV.ext hx).c1, (bB.ext hx).c0, (bB.ext hx).c1, hx⟩ : w'.cell? ⟨w.heap.size, 0, none⟩ = some (.int .u64 (a : Int)) ∧ w'.cell? ⟨w.heap.size, 1, none⟩ = some (.int .u64 (b : Int)) ∧ w'.cell? ⟨pQ, 0, none⟩ = some (.int .u64 (qh : Int)) ∧ w'.cell? ⟨pQ, 1, none⟩ = some (.int .u64 (ql : Int)) ∧ w'.cell? ⟨pV, 0, none⟩ = some (.int .u64 (qh : Int)) ∧ w'.cell? ⟨pV, 1, none⟩ = some (.int .u64 (ql : Int)) ∧ w'.cell? ⟨pB, 0, none⟩ = some (.int .u64 (bh : Int)) ∧ w'.cell? ⟨pB, 1, none⟩ = some (.int .u64 (bl : Int)) ∧ Ext W w'))
  obtain ⟨i0, i1, i2, i3, i4, i5, i6, i7, i8⟩ := BX.out _ (Ext.refl W)
  go_region_held3 (fun w' => w'.cell? ⟨w.heap.size, 0, none⟩ = some (.int .u64 (a : Int)) ∧ w'.cell? ⟨w.heap.size, 1, none⟩ = some (.int .u64 (b : Int)) ∧ w'.cell? ⟨pQ, 0, none⟩ = some (.int .u64 (qh : Int)) ∧ w'.cell? ⟨pQ, 1, none⟩ = some (.int .u64 (ql : Int)) ∧ w'.cell? ⟨pV, 0, none⟩ = some (.int .u64 (qh : Int)) ∧ w'.cell? ⟨pV, 1, none⟩ = some (.int .u64 (ql : Int)) ∧ w'.cell? ⟨pB, 0, none⟩ = some (.int .u64 (bh : Int)) ∧ w'.cell? ⟨pB, 1, none⟩ = some (.int .u64 (bl : Int)) ∧ Ext W w')
    (first | (refine ⟨?_, ?_, ?_, ?_, ?_, ?_, ?_, ?_, ?_⟩ <;> first | assumption | (apply Ext.drew; assumption)) | (refine BX.out _ ?_; repeat (first | assumption | with_reducible refine Ext.drew ?_ | with_reducible refine Ext.alloc ?_ _ | (with_reducible refine Ext.setCell ?_ (by first | exact Nat.le_refl _ | exact yO.size | exact yS.size) _))))
    (first
      | (go_at_call 29; (with_reducible refine (CO.out _).mono ?_); rintro en vO ⟨rfl, hy⟩; have yO : Ext W vO := Ext.trans (by repeat (first | assumption | with_reducible refine Ext.drew ?_ | with_reducible refine Ext.alloc ?_ _)) hy; obtain ⟨j0, j1, j2, j3, j4, j5, j6, j7, j8⟩ := BX.out _ yO; first | (with_reducible have gO := boxE hy; obtain ⟨g0, g1, g2, g3, g4⟩ := gO.ext (Ext.refl _)) | (with_reducible have gO := boxED hy; obtain ⟨g0, g1, g2, g3, g4⟩ := gO.ext (Ext.refl _)) | skip)
      | (go_at_call 14; (with_reducible refine (C6.out _).mono ?_); rintro en vS ⟨rfl, hy⟩; have yS : Ext W vS := Ext.trans (by repeat (first | assumption | with_reducible refine Ext.drew ?_ | with_reducible refine Ext.alloc ?_ _)) hy; obtain ⟨k0, k1, k2, k3, k4, k5, k6, k7, k8⟩ := BX.out _ yS; first | (with_reducible have gS := boxE hy; obtain ⟨h0, h1, h2, h3, h4⟩ := gS.ext (Ext.refl _)) | (with_reducible have gS := boxED hy; obtain ⟨h0, h1, h2, h3, h4⟩ := gS.ext (Ext.refl _)) | (with_reducible have gS := gO.ext hy; obtain ⟨h0, h1, h2, h3, h4⟩ := gS.ext (Ext.refl _)) | (with_reducible have gS := gO.ext (Ext.trans (Ext.drew (Ext.refl _)) hy); obtain ⟨h0, h1, h2, h3, h4⟩ := gS.ext (Ext.refl _)) | skip))
  all_goals
    go_wp2_with fail
    go_ret
    refine ⟨rfl, hx.trans ?_⟩
    repeat (first | assumption | with_reducible refine Ext.drew ?_ | with_reducible refine Ext.alloc ?_ _ | (with_reducible refine Ext.setCell ?_ (by first | exact Nat.le_refl _ | exact yO.size | exact yS.size) _))
theorem prods_any (a b : Nat) (x : Int) (w : World) (ha : a < 18446744073709551616) (hb : b < 18446744073709551616) (hx : 0 ≤ x ∧ x < 18446744073709551616) :
    Calls Try.prog 7 #[wv a b, .int .u64 x] w fun e w' => e = .returned (.bool true) ∧ Ext w w' := by
  obtain ⟨n, rfl⟩ := Int.eq_ofNat_of_zero_le hx.1
  by_cases h0 : n = 0
  · subst h0
    exact prods_zero a b w ha hb
  · exact prods_pos a b n w ha hb (by omega) (by omega)
end Go.Proofs.Ytbclkhkpmdbedaa
