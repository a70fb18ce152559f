/-
  The statement WideSpreads, walked.
-/
import Derived.Test.YtbclkhkpmdbedaaWDivW
import Derived.Test.YtbclkhkpmdbedaaWShiftsW
namespace Go.Proofs.Ytbclkhkpmdbedaa
open Go.RowKit
set_option linter.unusedVariables false
theorem wn_ex (n : Nat) (hn : n < 340282366920938463463374607431768211456) : ∃ h l, h < 18446744073709551616 ∧ l < 18446744073709551616 ∧ wn n = wv h l ∧ n = N2 h l :=
  ⟨n / 18446744073709551616, n % 18446744073709551616, by omega, by omega, rfl, by show _ = _ * 18446744073709551616 + _; omega⟩
theorem mask64 (n : Nat) (hn : n < 18446744073709551616) : Go.bits .and .u64 (n : Int) 65535 = ((n % 65536 : Nat) : Int) := by
  have h1 : Go.bits .and .u64 (n : Int) 65535 = IntKind.u64.wrap (((BitVec.ofInt 64 (n : Int) &&& BitVec.ofInt 64 65535).toNat : Nat) : Int) := rfl
  have h2 : (BitVec.ofInt 64 (n : Int)).toNat = n := by
    rw [BitVec.toNat_ofInt]
    show ((n : Int) % 18446744073709551616).toNat = n
    omega
  have h3 : (BitVec.ofInt 64 65535).toNat = 2 ^ 16 - 1 := by decide
  rw [h1, BitVec.toNat_and, h2, h3, Nat.and_two_pow_sub_one_eq_mod]
  show IntKind.u64.wrap ((n % 65536 : Nat) : Int) = _
  rw [IntKind.wrap_u64]
  omega
set_option maxRecDepth 100000 in
set_option maxHeartbeats 12800000 in
theorem spreads_yes (a b c d n : Nat) (w : World) (ha : a < 18446744073709551616) (hb : b < 18446744073709551616) (hc : c < 18446744073709551616) (hd : d < 18446744073709551616) (hn : n < 18446744073709551616) (hs : N2 a b + N2 c d < 340282366920938463463374607431768211456) (h1 : N2 a b * n < 340282366920938463463374607431768211456) (h2 : N2 c d * n < 340282366920938463463374607431768211456) :
    Calls Try.prog 8 #[wv a b, wv c d, .int .u64 (n : Int)] w fun e w' => e = .returned (.bool true) ∧ Ext w w' := by
  have AL := Lib.hid alive_any
  have CS := Lib.hid (fun w => wadd_any a b c d w ha hb hc hd)
  have CX := Lib.hid (fun w => wmul_any a b n w ha hb hn)
  have CY := Lib.hid (fun w => wmul_any c d n w hc hd hn)
  obtain ⟨sh, sl, s1, s2, se, sw⟩ := wn_ex _ hs
  obtain ⟨xh, xl, x1, x2, xe, xw⟩ := wn_ex _ h1
  obtain ⟨yh, yl, y1, y2, ye, yw⟩ := wn_ex _ h2
  simp only [sw, wok_yes s1 s2] at CS
  simp only [xw, wok_yes x1 x2] at CX
  simp only [yw, wok_yes y1 y2] at CY
  have CZ := Lib.hid (fun w => wmul_any sh sl n w s1 s2 hn)
  have CW := Lib.hid (fun w => wadd_any xh xl yh yl w x1 x2 y1 y2)
  rw [← xw, ← yw, ← Nat.add_mul, sw] at CW
  obtain ⟨zh, zl, ok, z1, z2, ze, _⟩ := wok_ex (N2 sh sl * n)
  simp only [ze] at CZ CW
  obtain ⟨m, hm⟩ : ∃ m, m = n % 65536 + 1 := ⟨_, rfl⟩
  obtain ⟨k, hk⟩ : ∃ k, k = n / 65536 % 65536 + 1 := ⟨_, rfl⟩
  obtain ⟨mk, hmk⟩ : ∃ mk, mk = m * k := ⟨_, rfl⟩
  have m0 : 0 < m := by omega
  have k0 : 0 < k := by omega
  have m1 : m ≤ 65536 := by omega
  have k1 : k ≤ 65536 := by omega
  have mk0 : 0 < mk := by rw [hmk]; exact Nat.mul_pos m0 k0
  have mk1 : mk ≤ 4294967296 := by rw [hmk]; exact Nat.mul_le_mul m1 k1
  have D1 := Lib.hid (fun w => wdiv_any a b m w ha hb m0 (by omega))
  have hN := n2_le ha hb
  obtain ⟨qh, ql, q1, q2, qe, qw⟩ := wn_ex (N2 a b / m) (Nat.lt_of_le_of_lt (Nat.div_le_self _ _) hN)
  have D2 := Lib.hid (fun w => wdiv_any qh ql k w q1 q2 k0 (by omega))
  have D3 := Lib.hid (fun w => wdiv_any a b mk w ha hb mk0 (by omega))
  rw [← qw, Nat.div_div_eq_div_mul, ← hmk] at D2
  obtain ⟨ph, pl, p1, p2, pe, pw⟩ := wn_ex (N2 a b / mk) (Nat.lt_of_le_of_lt (Nat.div_le_self _ _) hN)
  simp only [qe, pe] at D1 D2 D3
  generalize ((N2 a b % m : Nat) : Int) = r1 at D1
  generalize ((N2 qh ql % k : Nat) : Int) = r2 at D2
  generalize ((N2 a b % mk : Nat) : Int) = r3 at D3
  have g1 : Go.bits .and .u64 (n : Int) 65535 = ((n % 65536 : Nat) : Int) := mask64 n hn
  have g2 : IntKind.u64.wrap (((n % 65536 : Nat) : Int) + 1) = (m : Int) := by rw [IntKind.wrap_u64]; omega
  have g3 : IntKind.u64.wrap ((m : Int) * (k : Int)) = (mk : Int) := by
    have e : (m : Int) * (k : Int) = (mk : Int) := by rw [hmk]; exact (Int.natCast_mul m k).symm
    rw [e, IntKind.wrap_u64]; omega
  have g4 : Go.bits .and .u64 ((n / 65536 : Nat) : Int) 65535 = ((n / 65536 % 65536 : Nat) : Int) := mask64 _ (by omega)
  have g5 : IntKind.u64.wrap (((n / 65536 % 65536 : Nat) : Int) + 1) = (k : Int) := by rw [IntKind.wrap_u64]; omega
  have g6 : (n : Int) / 65536 = ((n / 65536 : Nat) : Int) := by omega
  generalize n % 65536 = nm at g1 g2
  generalize n / 65536 % 65536 = nk at g4 g5
  generalize n / 65536 = nd at g4 g6
  clear qw pw qe pe hN q1 q2 p1 p2 m0 k0 m1 k1 mk0 mk1 hmk hm hk hn
  clear se sw xe xw ye yw s1 s2 x1 x2 y1 y2 z1 z2 ze hs h1 h2
  unfold wv at *
  go_enter Try.func8, Try.ntmps8
  go_wp2_with fail
  have hx : Ext w ((w.alloc (.cells #[.int .u64 (a : Int), .int .u64 (b : Int)] 24)).alloc (.cells #[.int .u64 (c : Int), .int .u64 (d : Int)] 24)) := ((Ext.refl w).alloc _).alloc _
  have bA : BoxW (w.alloc (.cells #[.int .u64 (a : Int), .int .u64 (b : Int)] 24)) w.heap.size (.int .u64 (a : Int)) (.int .u64 (b : Int)) := BoxW.new _ _ _ _
  have bA' := bA.ext ((Ext.refl _).alloc (.cells #[.int .u64 (c : Int), .int .u64 (d : Int)] 24))
  clear bA
  have bA := bA'
  clear bA'
  have bB : BoxW ((w.alloc (.cells #[.int .u64 (a : Int), .int .u64 (b : Int)] 24)).alloc (.cells #[.int .u64 (c : Int), .int .u64 (d : Int)] 24)) (w.heap.size + 1) (.int .u64 (c : Int)) (.int .u64 (d : Int)) := by
    have hb := BoxW.new (w.alloc (.cells #[.int .u64 (a : Int), .int .u64 (b : Int)] 24)) (.int .u64 (c : Int)) (.int .u64 (d : Int)) 24
    simpa using hb
  refine (AL.out _).mono ?_
  rintro en u0 ⟨rfl, hy⟩
  have hx' := hx.trans hy
  clear hx
  have hx := hx'
  clear hx'
  have bA' := bA.ext hy
  clear bA
  have bA := bA'
  clear bA'
  have bB' := bB.ext hy
  clear bB
  have bB := bB'
  clear bB'
  clear hy
  obtain ⟨bA0, bA1, bA2, bA3, bA4⟩ := bA.ext (Ext.refl _)
  obtain ⟨bB0, bB1, bB2, bB3, bB4⟩ := bB.ext (Ext.refl _)
  go_wp2_with fail
  clear bA0 bA1 bA2 bA3 bA4
  clear bB0 bB1 bB2 bB3 bB4
  refine (CS.out _).mono ?_
  rintro en u1 ⟨rfl, hy⟩
  have hx' := hx.trans hy
  clear hx
  have hx := hx'
  clear hx'
  have bA' := bA.ext hy
  clear bA
  have bA := bA'
  clear bA'
  have bB' := bB.ext hy
  clear bB
  have bB := bB'
  clear bB'
  clear hy
  obtain ⟨bA0, bA1, bA2, bA3, bA4⟩ := bA.ext (Ext.refl _)
  obtain ⟨bB0, bB1, bB2, bB3, bB4⟩ := bB.ext (Ext.refl _)
  go_wp2_with fail
  clear bA0 bA1 bA2 bA3 bA4
  clear bB0 bB1 bB2 bB3 bB4
  have bS := BoxW.new u1 (.int .u64 (sh : Int)) (.int .u64 (sl : Int)) 24
  have hal := (Ext.refl u1).alloc (.cells #[.int .u64 (sh : Int), .int .u64 (sl : Int)] 24)
  have hx' := hx.trans hal
  clear hx
  have hx := hx'
  clear hx'
  have bA' := bA.ext hal
  clear bA
  have bA := bA'
  clear bA'
  have bB' := bB.ext hal
  clear bB
  have bB := bB'
  clear bB'
  clear hal
  refine (CX.out _).mono ?_
  rintro en u2 ⟨rfl, hy⟩
  have hx' := hx.trans hy
  clear hx
  have hx := hx'
  clear hx'
  have bA' := bA.ext hy
  clear bA
  have bA := bA'
  clear bA'
  have bB' := bB.ext hy
  clear bB
  have bB := bB'
  clear bB'
  have bS' := bS.ext hy
  clear bS
  have bS := bS'
  clear bS'
  clear hy
  obtain ⟨bA0, bA1, bA2, bA3, bA4⟩ := bA.ext (Ext.refl _)
  obtain ⟨bB0, bB1, bB2, bB3, bB4⟩ := bB.ext (Ext.refl _)
  obtain ⟨bS0, bS1, bS2, bS3, bS4⟩ := bS.ext (Ext.refl _)
  go_wp2_with fail
  clear bA0 bA1 bA2 bA3 bA4
  clear bB0 bB1 bB2 bB3 bB4
  clear bS0 bS1 bS2 bS3 bS4
  have bX := BoxW.new u2 (.int .u64 (xh : Int)) (.int .u64 (xl : Int)) 24
  have hal := (Ext.refl u2).alloc (.cells #[.int .u64 (xh : Int), .int .u64 (xl : Int)] 24)
  have hx' := hx.trans hal
  clear hx
  have hx := hx'
  clear hx'
  have bA' := bA.ext hal
  clear bA
  have bA := bA'
  clear bA'
  have bB' := bB.ext hal
  clear bB
  have bB := bB'
  clear bB'
  have bS' := bS.ext hal
  clear bS
  have bS := bS'
  clear bS'
  clear hal
  refine (CY.out _).mono ?_
  rintro en u3 ⟨rfl, hy⟩
  have hx' := hx.trans hy
  clear hx
  have hx := hx'
  clear hx'
  have bA' := bA.ext hy
  clear bA
  have bA := bA'
  clear bA'
  have bB' := bB.ext hy
  clear bB
  have bB := bB'
  clear bB'
  have bS' := bS.ext hy
  clear bS
  have bS := bS'
  clear bS'
  have bX' := bX.ext hy
  clear bX
  have bX := bX'
  clear bX'
  clear hy
  obtain ⟨bA0, bA1, bA2, bA3, bA4⟩ := bA.ext (Ext.refl _)
  obtain ⟨bB0, bB1, bB2, bB3, bB4⟩ := bB.ext (Ext.refl _)
  obtain ⟨bS0, bS1, bS2, bS3, bS4⟩ := bS.ext (Ext.refl _)
  obtain ⟨bX0, bX1, bX2, bX3, bX4⟩ := bX.ext (Ext.refl _)
  go_wp2_with fail
  clear bA0 bA1 bA2 bA3 bA4
  clear bB0 bB1 bB2 bB3 bB4
  clear bS0 bS1 bS2 bS3 bS4
  clear bX0 bX1 bX2 bX3 bX4
  have bY := BoxW.new u3 (.int .u64 (yh : Int)) (.int .u64 (yl : Int)) 24
  have hal := (Ext.refl u3).alloc (.cells #[.int .u64 (yh : Int), .int .u64 (yl : Int)] 24)
  have hx' := hx.trans hal
  clear hx
  have hx := hx'
  clear hx'
  have bA' := bA.ext hal
  clear bA
  have bA := bA'
  clear bA'
  have bB' := bB.ext hal
  clear bB
  have bB := bB'
  clear bB'
  have bS' := bS.ext hal
  clear bS
  have bS := bS'
  clear bS'
  have bX' := bX.ext hal
  clear bX
  have bX := bX'
  clear bX'
  clear hal
  refine (CZ.out _).mono ?_
  rintro en u4 ⟨rfl, hy⟩
  have hx' := hx.trans hy
  clear hx
  have hx := hx'
  clear hx'
  have bA' := bA.ext hy
  clear bA
  have bA := bA'
  clear bA'
  have bB' := bB.ext hy
  clear bB
  have bB := bB'
  clear bB'
  have bS' := bS.ext hy
  clear bS
  have bS := bS'
  clear bS'
  have bX' := bX.ext hy
  clear bX
  have bX := bX'
  clear bX'
  have bY' := bY.ext hy
  clear bY
  have bY := bY'
  clear bY'
  clear hy
  obtain ⟨bA0, bA1, bA2, bA3, bA4⟩ := bA.ext (Ext.refl _)
  obtain ⟨bB0, bB1, bB2, bB3, bB4⟩ := bB.ext (Ext.refl _)
  obtain ⟨bS0, bS1, bS2, bS3, bS4⟩ := bS.ext (Ext.refl _)
  obtain ⟨bX0, bX1, bX2, bX3, bX4⟩ := bX.ext (Ext.refl _)
  obtain ⟨bY0, bY1, bY2, bY3, bY4⟩ := bY.ext (Ext.refl _)
  go_wp2_with fail
  clear bA0 bA1 bA2 bA3 bA4
  clear bB0 bB1 bB2 bB3 bB4
  clear bS0 bS1 bS2 bS3 bS4
  clear bX0 bX1 bX2 bX3 bX4
  clear bY0 bY1 bY2 bY3 bY4
  have bZ := BoxW.new u4 (.int .u64 (zh : Int)) (.int .u64 (zl : Int)) 24
  have hal := (Ext.refl u4).alloc (.cells #[.int .u64 (zh : Int), .int .u64 (zl : Int)] 24)
  have hx' := hx.trans hal
  clear hx
  have hx := hx'
  clear hx'
  have bA' := bA.ext hal
  clear bA
  have bA := bA'
  clear bA'
  have bB' := bB.ext hal
  clear bB
  have bB := bB'
  clear bB'
  have bS' := bS.ext hal
  clear bS
  have bS := bS'
  clear bS'
  have bX' := bX.ext hal
  clear bX
  have bX := bX'
  clear bX'
  have bY' := bY.ext hal
  clear bY
  have bY := bY'
  clear bY'
  clear hal
  refine (CW.out _).mono ?_
  rintro en u5 ⟨rfl, hy⟩
  have hx' := hx.trans hy
  clear hx
  have hx := hx'
  clear hx'
  have bA' := bA.ext hy
  clear bA
  have bA := bA'
  clear bA'
  have bB' := bB.ext hy
  clear bB
  have bB := bB'
  clear bB'
  have bS' := bS.ext hy
  clear bS
  have bS := bS'
  clear bS'
  have bX' := bX.ext hy
  clear bX
  have bX := bX'
  clear bX'
  have bY' := bY.ext hy
  clear bY
  have bY := bY'
  clear bY'
  have bZ' := bZ.ext hy
  clear bZ
  have bZ := bZ'
  clear bZ'
  clear hy
  obtain ⟨bA0, bA1, bA2, bA3, bA4⟩ := bA.ext (Ext.refl _)
  obtain ⟨bB0, bB1, bB2, bB3, bB4⟩ := bB.ext (Ext.refl _)
  obtain ⟨bS0, bS1, bS2, bS3, bS4⟩ := bS.ext (Ext.refl _)
  obtain ⟨bX0, bX1, bX2, bX3, bX4⟩ := bX.ext (Ext.refl _)
  obtain ⟨bY0, bY1, bY2, bY3, bY4⟩ := bY.ext (Ext.refl _)
  obtain ⟨bZ0, bZ1, bZ2, bZ3, bZ4⟩ := bZ.ext (Ext.refl _)
  go_upto_region 9 with (fail)
  clear bA0 bA1 bA2 bA3 bA4
  clear bB0 bB1 bB2 bB3 bB4
  clear bS0 bS1 bS2 bS3 bS4
  clear bX0 bX1 bX2 bX3 bX4
  clear bY0 bY1 bY2 bY3 bY4
  clear bZ0 bZ1 bZ2 bZ3 bZ4
  have bW := BoxW.new u5 (.int .u64 (zh : Int)) (.int .u64 (zl : Int)) 24
  have hal := (Ext.refl u5).alloc (.cells #[.int .u64 (zh : Int), .int .u64 (zl : Int)] 24)
  have hx' := hx.trans hal
  clear hx
  have hx := hx'
  clear hx'
  have bA' := bA.ext hal
  clear bA
  have bA := bA'
  clear bA'
  have bB' := bB.ext hal
  clear bB
  have bB := bB'
  clear bB'
  have bS' := bS.ext hal
  clear bS
  have bS := bS'
  clear bS'
  have bX' := bX.ext hal
  clear bX
  have bX := bX'
  clear bX'
  have bY' := bY.ext hal
  clear bY
  have bY := bY'
  clear bY'
  have bZ' := bZ.ext hal
  clear bZ
  have bZ := bZ'
  clear bZ'
  clear hal
  obtain ⟨bA0, bA1, bA2, bA3, bA4⟩ := bA.ext (Ext.refl _)
  obtain ⟨bB0, bB1, bB2, bB3, bB4⟩ := bB.ext (Ext.refl _)
  obtain ⟨bS0, bS1, bS2, bS3, bS4⟩ := bS.ext (Ext.refl _)
  obtain ⟨bX0, bX1, bX2, bX3, bX4⟩ := bX.ext (Ext.refl _)
  obtain ⟨bY0, bY1, bY2, bY3, bY4⟩ := bY.ext (Ext.refl _)
  obtain ⟨bZ0, bZ1, bZ2, bZ3, bZ4⟩ := bZ.ext (Ext.refl _)
  obtain ⟨bW0, bW1, bW2, bW3, bW4⟩ := bW.ext (Ext.refl _)
  go_wp2_with fail
  clear bA0 bA1 bA2 bA3 bA4
  clear bB0 bB1 bB2 bB3 bB4
  clear bS0 bS1 bS2 bS3 bS4
  clear bX0 bX1 bX2 bX3 bX4
  clear bY0 bY1 bY2 bY3 bY4
  clear bZ0 bZ1 bZ2 bZ3 bZ4
  clear bW0 bW1 bW2 bW3 bW4
  clear bB
  clear bS
  clear bX
  clear bY
  clear bZ
  clear bW
  refine (D1.out _).mono ?_
  rintro en e1 ⟨rfl, hy⟩
  have hx' := hx.trans hy
  clear hx
  have hx := hx'
  clear hx'
  have bA' := bA.ext hy
  clear bA
  have bA := bA'
  clear bA'
  clear hy
  have hxe1 := hx
  obtain ⟨bA0, bA1, bA2, bA3, bA4⟩ := bA.ext (Ext.refl _)
  go_wp2_with fail
  clear bA0 bA1 bA2 bA3 bA4
  have nA := Nat.ne_of_gt bA.lt
  have bQ := BoxW.new e1 (.int .u64 (qh : Int)) (.int .u64 (ql : Int)) 24
  have hal := (Ext.refl e1).alloc (.cells #[.int .u64 (qh : Int), .int .u64 (ql : Int)] 24)
  have hx' := hx.trans hal
  clear hx
  have hx := hx'
  clear hx'
  have bA' := bA.ext hal
  clear bA
  have bA := bA'
  clear bA'
  clear hal
  refine (D2.out _).mono ?_
  rintro en e2 ⟨rfl, hy⟩
  have hx' := hx.trans hy
  clear hx
  have hx := hx'
  clear hx'
  have bA' := bA.ext hy
  clear bA
  have bA := bA'
  clear bA'
  have bQ' := bQ.ext hy
  clear bQ
  have bQ := bQ'
  clear bQ'
  clear hy
  obtain ⟨bA0, bA1, bA2, bA3, bA4⟩ := bA.ext (Ext.refl _)
  obtain ⟨bQ0, bQ1, bQ2, bQ3, bQ4⟩ := bQ.ext (Ext.refl _)
  go_wp2_with fail
  clear bA0 bA1 bA2 bA3 bA4
  clear bQ0 bQ1 bQ2 bQ3 bQ4
  have hle : w.heap.size ≤ e1.heap.size := hxe1.size
  have hx' := (hx.setCell (p := ⟨e1.heap.size, 0, none⟩) hle (.int .u64 (ph : Int))).setCell (p := ⟨e1.heap.size, 0 + 1, none⟩) hle (.int .u64 (pl : Int))
  clear hx
  have hx := hx'
  clear hx'
  have bA' := (bA.far (k := 0) nA (.int .u64 (ph : Int))).far (k := 0 + 1) nA (.int .u64 (pl : Int))
  clear bA
  have bA := bA'
  clear bA'
  have bQ' := (bQ.put0 (.int .u64 (ph : Int))).put1 (.int .u64 (pl : Int))
  clear bQ
  have bQ := bQ'
  clear bQ'
  refine (D3.out _).mono ?_
  rintro en e3 ⟨rfl, hy⟩
  have hx' := hx.trans hy
  clear hx
  have hx := hx'
  clear hx'
  have bA' := bA.ext hy
  clear bA
  have bA := bA'
  clear bA'
  have bQ' := bQ.ext hy
  clear bQ
  have bQ := bQ'
  clear bQ'
  clear hy
  obtain ⟨bA0, bA1, bA2, bA3, bA4⟩ := bA.ext (Ext.refl _)
  obtain ⟨bQ0, bQ1, bQ2, bQ3, bQ4⟩ := bQ.ext (Ext.refl _)
  go_wp2_with fail
  go_ret
  exact ⟨rfl, hx.alloc _⟩
set_option maxRecDepth 100000 in
set_option maxHeartbeats 12800000 in
theorem spreads_no1 (a b c d n : Nat) (w : World) (ha : a < 18446744073709551616) (hb : b < 18446744073709551616) (hc : c < 18446744073709551616) (hd : d < 18446744073709551616) (hn : n < 18446744073709551616) (hs : 340282366920938463463374607431768211456 ≤ N2 a b + N2 c d) :
    Calls Try.prog 8 #[wv a b, wv c d, .int .u64 (n : Int)] w fun e w' => e = .returned (.bool true) ∧ Ext w w' := by
  have AL := Lib.hid alive_any
  have CS := Lib.hid (fun w => wadd_any a b c d w ha hb hc hd)
  have CX := Lib.hid (fun w => wmul_any a b n w ha hb hn)
  have CY := Lib.hid (fun w => wmul_any c d n w hc hd hn)
  have en : WOk (N2 a b + N2 c d) = .returned (.tuple #[wv 0 0, .bool false]) := wok_no (by omega)
  simp only [en] at CS
  clear en
  obtain ⟨xh, xl, ok1, _, _, xe, _⟩ := wok_ex (N2 a b * n)
  simp only [xe] at CX
  clear xe
  obtain ⟨yh, yl, ok2, _, _, ye, _⟩ := wok_ex (N2 c d * n)
  simp only [ye] at CY
  clear ye
  obtain ⟨m, hm⟩ : ∃ m, m = n % 65536 + 1 := ⟨_, rfl⟩
  obtain ⟨k, hk⟩ : ∃ k, k = n / 65536 % 65536 + 1 := ⟨_, rfl⟩
  obtain ⟨mk, hmk⟩ : ∃ mk, mk = m * k := ⟨_, rfl⟩
  have m0 : 0 < m := by omega
  have k0 : 0 < k := by omega
  have m1 : m ≤ 65536 := by omega
  have k1 : k ≤ 65536 := by omega
  have mk0 : 0 < mk := by rw [hmk]; exact Nat.mul_pos m0 k0
  have mk1 : mk ≤ 4294967296 := by rw [hmk]; exact Nat.mul_le_mul m1 k1
  have D1 := Lib.hid (fun w => wdiv_any a b m w ha hb m0 (by omega))
  have hN := n2_le ha hb
  obtain ⟨qh, ql, q1, q2, qe, qw⟩ := wn_ex (N2 a b / m) (Nat.lt_of_le_of_lt (Nat.div_le_self _ _) hN)
  have D2 := Lib.hid (fun w => wdiv_any qh ql k w q1 q2 k0 (by omega))
  have D3 := Lib.hid (fun w => wdiv_any a b mk w ha hb mk0 (by omega))
  rw [← qw, Nat.div_div_eq_div_mul, ← hmk] at D2
  obtain ⟨ph, pl, p1, p2, pe, pw⟩ := wn_ex (N2 a b / mk) (Nat.lt_of_le_of_lt (Nat.div_le_self _ _) hN)
  simp only [qe, pe] at D1 D2 D3
  generalize ((N2 a b % m : Nat) : Int) = r1 at D1
  generalize ((N2 qh ql % k : Nat) : Int) = r2 at D2
  generalize ((N2 a b % mk : Nat) : Int) = r3 at D3
  have g1 : Go.bits .and .u64 (n : Int) 65535 = ((n % 65536 : Nat) : Int) := mask64 n hn
  have g2 : IntKind.u64.wrap (((n % 65536 : Nat) : Int) + 1) = (m : Int) := by rw [IntKind.wrap_u64]; omega
  have g3 : IntKind.u64.wrap ((m : Int) * (k : Int)) = (mk : Int) := by
    have e : (m : Int) * (k : Int) = (mk : Int) := by rw [hmk]; exact (Int.natCast_mul m k).symm
    rw [e, IntKind.wrap_u64]; omega
  have g4 : Go.bits .and .u64 ((n / 65536 : Nat) : Int) 65535 = ((n / 65536 % 65536 : Nat) : Int) := mask64 _ (by omega)
  have g5 : IntKind.u64.wrap (((n / 65536 % 65536 : Nat) : Int) + 1) = (k : Int) := by rw [IntKind.wrap_u64]; omega
  have g6 : (n : Int) / 65536 = ((n / 65536 : Nat) : Int) := by omega
  generalize n % 65536 = nm at g1 g2
  generalize n / 65536 % 65536 = nk at g4 g5
  generalize n / 65536 = nd at g4 g6
  clear qw pw qe pe hN q1 q2 p1 p2 m0 k0 m1 k1 mk0 mk1 hmk hm hk hn
  try clear hs
  try clear h1
  try clear h2
  unfold wv at *
  go_enter Try.func8, Try.ntmps8
  go_wp2_with fail
  have hx : Ext w ((w.alloc (.cells #[.int .u64 (a : Int), .int .u64 (b : Int)] 24)).alloc (.cells #[.int .u64 (c : Int), .int .u64 (d : Int)] 24)) := ((Ext.refl w).alloc _).alloc _
  have bA : BoxW (w.alloc (.cells #[.int .u64 (a : Int), .int .u64 (b : Int)] 24)) w.heap.size (.int .u64 (a : Int)) (.int .u64 (b : Int)) := BoxW.new _ _ _ _
  have bA' := bA.ext ((Ext.refl _).alloc (.cells #[.int .u64 (c : Int), .int .u64 (d : Int)] 24))
  clear bA
  have bA := bA'
  clear bA'
  have bB : BoxW ((w.alloc (.cells #[.int .u64 (a : Int), .int .u64 (b : Int)] 24)).alloc (.cells #[.int .u64 (c : Int), .int .u64 (d : Int)] 24)) (w.heap.size + 1) (.int .u64 (c : Int)) (.int .u64 (d : Int)) := by
    have hb := BoxW.new (w.alloc (.cells #[.int .u64 (a : Int), .int .u64 (b : Int)] 24)) (.int .u64 (c : Int)) (.int .u64 (d : Int)) 24
    simpa using hb
  refine (AL.out _).mono ?_
  rintro en u0 ⟨rfl, hy⟩
  have hx' := hx.trans hy
  clear hx
  have hx := hx'
  clear hx'
  have bA' := bA.ext hy
  clear bA
  have bA := bA'
  clear bA'
  have bB' := bB.ext hy
  clear bB
  have bB := bB'
  clear bB'
  clear hy
  obtain ⟨bA0, bA1, bA2, bA3, bA4⟩ := bA.ext (Ext.refl _)
  obtain ⟨bB0, bB1, bB2, bB3, bB4⟩ := bB.ext (Ext.refl _)
  go_wp2_with fail
  clear bA0 bA1 bA2 bA3 bA4
  clear bB0 bB1 bB2 bB3 bB4
  refine (CS.out _).mono ?_
  rintro en u1 ⟨rfl, hy⟩
  have hx' := hx.trans hy
  clear hx
  have hx := hx'
  clear hx'
  have bA' := bA.ext hy
  clear bA
  have bA := bA'
  clear bA'
  have bB' := bB.ext hy
  clear bB
  have bB := bB'
  clear bB'
  clear hy
  obtain ⟨bA0, bA1, bA2, bA3, bA4⟩ := bA.ext (Ext.refl _)
  obtain ⟨bB0, bB1, bB2, bB3, bB4⟩ := bB.ext (Ext.refl _)
  go_wp2_with fail
  clear bA0 bA1 bA2 bA3 bA4
  clear bB0 bB1 bB2 bB3 bB4
  have bS := BoxW.new u1 (.int .u64 0) (.int .u64 0) 24
  have hal := (Ext.refl u1).alloc (.cells #[.int .u64 0, .int .u64 0] 24)
  have hx' := hx.trans hal
  clear hx
  have hx := hx'
  clear hx'
  have bA' := bA.ext hal
  clear bA
  have bA := bA'
  clear bA'
  have bB' := bB.ext hal
  clear bB
  have bB := bB'
  clear bB'
  clear hal
  refine (CX.out _).mono ?_
  rintro en u2 ⟨rfl, hy⟩
  have hx' := hx.trans hy
  clear hx
  have hx := hx'
  clear hx'
  have bA' := bA.ext hy
  clear bA
  have bA := bA'
  clear bA'
  have bB' := bB.ext hy
  clear bB
  have bB := bB'
  clear bB'
  have bS' := bS.ext hy
  clear bS
  have bS := bS'
  clear bS'
  clear hy
  obtain ⟨bA0, bA1, bA2, bA3, bA4⟩ := bA.ext (Ext.refl _)
  obtain ⟨bB0, bB1, bB2, bB3, bB4⟩ := bB.ext (Ext.refl _)
  obtain ⟨bS0, bS1, bS2, bS3, bS4⟩ := bS.ext (Ext.refl _)
  go_wp2_with fail
  clear bA0 bA1 bA2 bA3 bA4
  clear bB0 bB1 bB2 bB3 bB4
  clear bS0 bS1 bS2 bS3 bS4
  have bX := BoxW.new u2 (.int .u64 (xh : Int)) (.int .u64 (xl : Int)) 24
  have hal := (Ext.refl u2).alloc (.cells #[.int .u64 (xh : Int), .int .u64 (xl : Int)] 24)
  have hx' := hx.trans hal
  clear hx
  have hx := hx'
  clear hx'
  have bA' := bA.ext hal
  clear bA
  have bA := bA'
  clear bA'
  have bB' := bB.ext hal
  clear bB
  have bB := bB'
  clear bB'
  have bS' := bS.ext hal
  clear bS
  have bS := bS'
  clear bS'
  clear hal
  refine (CY.out _).mono ?_
  rintro en u3 ⟨rfl, hy⟩
  have hx' := hx.trans hy
  clear hx
  have hx := hx'
  clear hx'
  have bA' := bA.ext hy
  clear bA
  have bA := bA'
  clear bA'
  have bB' := bB.ext hy
  clear bB
  have bB := bB'
  clear bB'
  have bS' := bS.ext hy
  clear bS
  have bS := bS'
  clear bS'
  have bX' := bX.ext hy
  clear bX
  have bX := bX'
  clear bX'
  clear hy
  obtain ⟨bA0, bA1, bA2, bA3, bA4⟩ := bA.ext (Ext.refl _)
  obtain ⟨bB0, bB1, bB2, bB3, bB4⟩ := bB.ext (Ext.refl _)
  obtain ⟨bS0, bS1, bS2, bS3, bS4⟩ := bS.ext (Ext.refl _)
  obtain ⟨bX0, bX1, bX2, bX3, bX4⟩ := bX.ext (Ext.refl _)
  go_wp2_with fail
  clear bA0 bA1 bA2 bA3 bA4
  clear bB0 bB1 bB2 bB3 bB4
  clear bS0 bS1 bS2 bS3 bS4
  clear bX0 bX1 bX2 bX3 bX4
  have bY := BoxW.new u3 (.int .u64 (yh : Int)) (.int .u64 (yl : Int)) 24
  have hal := (Ext.refl u3).alloc (.cells #[.int .u64 (yh : Int), .int .u64 (yl : Int)] 24)
  have hx' := hx.trans hal
  clear hx
  have hx := hx'
  clear hx'
  have bA' := bA.ext hal
  clear bA
  have bA := bA'
  clear bA'
  have bB' := bB.ext hal
  clear bB
  have bB := bB'
  clear bB'
  have bS' := bS.ext hal
  clear bS
  have bS := bS'
  clear bS'
  have bX' := bX.ext hal
  clear bX
  have bX := bX'
  clear bX'
  clear hal
  clear bB
  clear bS
  clear bX
  clear bY
  refine (D1.out _).mono ?_
  rintro en e1 ⟨rfl, hy⟩
  have hx' := hx.trans hy
  clear hx
  have hx := hx'
  clear hx'
  have bA' := bA.ext hy
  clear bA
  have bA := bA'
  clear bA'
  clear hy
  have hxe1 := hx
  obtain ⟨bA0, bA1, bA2, bA3, bA4⟩ := bA.ext (Ext.refl _)
  go_wp2_with fail
  clear bA0 bA1 bA2 bA3 bA4
  have nA := Nat.ne_of_gt bA.lt
  have bQ := BoxW.new e1 (.int .u64 (qh : Int)) (.int .u64 (ql : Int)) 24
  have hal := (Ext.refl e1).alloc (.cells #[.int .u64 (qh : Int), .int .u64 (ql : Int)] 24)
  have hx' := hx.trans hal
  clear hx
  have hx := hx'
  clear hx'
  have bA' := bA.ext hal
  clear bA
  have bA := bA'
  clear bA'
  clear hal
  refine (D2.out _).mono ?_
  rintro en e2 ⟨rfl, hy⟩
  have hx' := hx.trans hy
  clear hx
  have hx := hx'
  clear hx'
  have bA' := bA.ext hy
  clear bA
  have bA := bA'
  clear bA'
  have bQ' := bQ.ext hy
  clear bQ
  have bQ := bQ'
  clear bQ'
  clear hy
  obtain ⟨bA0, bA1, bA2, bA3, bA4⟩ := bA.ext (Ext.refl _)
  obtain ⟨bQ0, bQ1, bQ2, bQ3, bQ4⟩ := bQ.ext (Ext.refl _)
  go_wp2_with fail
  clear bA0 bA1 bA2 bA3 bA4
  clear bQ0 bQ1 bQ2 bQ3 bQ4
  have hle : w.heap.size ≤ e1.heap.size := hxe1.size
  have hx' := (hx.setCell (p := ⟨e1.heap.size, 0, none⟩) hle (.int .u64 (ph : Int))).setCell (p := ⟨e1.heap.size, 0 + 1, none⟩) hle (.int .u64 (pl : Int))
  clear hx
  have hx := hx'
  clear hx'
  have bA' := (bA.far (k := 0) nA (.int .u64 (ph : Int))).far (k := 0 + 1) nA (.int .u64 (pl : Int))
  clear bA
  have bA := bA'
  clear bA'
  have bQ' := (bQ.put0 (.int .u64 (ph : Int))).put1 (.int .u64 (pl : Int))
  clear bQ
  have bQ := bQ'
  clear bQ'
  refine (D3.out _).mono ?_
  rintro en e3 ⟨rfl, hy⟩
  have hx' := hx.trans hy
  clear hx
  have hx := hx'
  clear hx'
  have bA' := bA.ext hy
  clear bA
  have bA := bA'
  clear bA'
  have bQ' := bQ.ext hy
  clear bQ
  have bQ := bQ'
  clear bQ'
  clear hy
  obtain ⟨bA0, bA1, bA2, bA3, bA4⟩ := bA.ext (Ext.refl _)
  obtain ⟨bQ0, bQ1, bQ2, bQ3, bQ4⟩ := bQ.ext (Ext.refl _)
  go_wp2_with fail
  go_ret
  exact ⟨rfl, hx.alloc _⟩
set_option maxRecDepth 100000 in
set_option maxHeartbeats 12800000 in
theorem spreads_no2 (a b c d n : Nat) (w : World) (ha : a < 18446744073709551616) (hb : b < 18446744073709551616) (hc : c < 18446744073709551616) (hd : d < 18446744073709551616) (hn : n < 18446744073709551616) (hs : N2 a b + N2 c d < 340282366920938463463374607431768211456) (h1 : 340282366920938463463374607431768211456 ≤ N2 a b * n) :
    Calls Try.prog 8 #[wv a b, wv c d, .int .u64 (n : Int)] w fun e w' => e = .returned (.bool true) ∧ Ext w w' := by
  have AL := Lib.hid alive_any
  have CS := Lib.hid (fun w => wadd_any a b c d w ha hb hc hd)
  have CX := Lib.hid (fun w => wmul_any a b n w ha hb hn)
  have CY := Lib.hid (fun w => wmul_any c d n w hc hd hn)
  obtain ⟨sh, sl, s1, s2, _, sw⟩ := wn_ex _ hs
  simp only [sw, wok_yes s1 s2] at CS
  clear sw s1 s2
  have en : WOk (N2 a b * n) = .returned (.tuple #[wv 0 0, .bool false]) := wok_no (by omega)
  simp only [en] at CX
  clear en
  obtain ⟨yh, yl, ok2, _, _, ye, _⟩ := wok_ex (N2 c d * n)
  simp only [ye] at CY
  clear ye
  obtain ⟨m, hm⟩ : ∃ m, m = n % 65536 + 1 := ⟨_, rfl⟩
  obtain ⟨k, hk⟩ : ∃ k, k = n / 65536 % 65536 + 1 := ⟨_, rfl⟩
  obtain ⟨mk, hmk⟩ : ∃ mk, mk = m * k := ⟨_, rfl⟩
  have m0 : 0 < m := by omega
  have k0 : 0 < k := by omega
  have m1 : m ≤ 65536 := by omega
  have k1 : k ≤ 65536 := by omega
  have mk0 : 0 < mk := by rw [hmk]; exact Nat.mul_pos m0 k0
  have mk1 : mk ≤ 4294967296 := by rw [hmk]; exact Nat.mul_le_mul m1 k1
  have D1 := Lib.hid (fun w => wdiv_any a b m w ha hb m0 (by omega))
  have hN := n2_le ha hb
  obtain ⟨qh, ql, q1, q2, qe, qw⟩ := wn_ex (N2 a b / m) (Nat.lt_of_le_of_lt (Nat.div_le_self _ _) hN)
  have D2 := Lib.hid (fun w => wdiv_any qh ql k w q1 q2 k0 (by omega))
  have D3 := Lib.hid (fun w => wdiv_any a b mk w ha hb mk0 (by omega))
  rw [← qw, Nat.div_div_eq_div_mul, ← hmk] at D2
  obtain ⟨ph, pl, p1, p2, pe, pw⟩ := wn_ex (N2 a b / mk) (Nat.lt_of_le_of_lt (Nat.div_le_self _ _) hN)
  simp only [qe, pe] at D1 D2 D3
  generalize ((N2 a b % m : Nat) : Int) = r1 at D1
  generalize ((N2 qh ql % k : Nat) : Int) = r2 at D2
  generalize ((N2 a b % mk : Nat) : Int) = r3 at D3
  have g1 : Go.bits .and .u64 (n : Int) 65535 = ((n % 65536 : Nat) : Int) := mask64 n hn
  have g2 : IntKind.u64.wrap (((n % 65536 : Nat) : Int) + 1) = (m : Int) := by rw [IntKind.wrap_u64]; omega
  have g3 : IntKind.u64.wrap ((m : Int) * (k : Int)) = (mk : Int) := by
    have e : (m : Int) * (k : Int) = (mk : Int) := by rw [hmk]; exact (Int.natCast_mul m k).symm
    rw [e, IntKind.wrap_u64]; omega
  have g4 : Go.bits .and .u64 ((n / 65536 : Nat) : Int) 65535 = ((n / 65536 % 65536 : Nat) : Int) := mask64 _ (by omega)
  have g5 : IntKind.u64.wrap (((n / 65536 % 65536 : Nat) : Int) + 1) = (k : Int) := by rw [IntKind.wrap_u64]; omega
  have g6 : (n : Int) / 65536 = ((n / 65536 : Nat) : Int) := by omega
  generalize n % 65536 = nm at g1 g2
  generalize n / 65536 % 65536 = nk at g4 g5
  generalize n / 65536 = nd at g4 g6
  clear qw pw qe pe hN q1 q2 p1 p2 m0 k0 m1 k1 mk0 mk1 hmk hm hk hn
  try clear hs
  try clear h1
  try clear h2
  unfold wv at *
  go_enter Try.func8, Try.ntmps8
  go_wp2_with fail
  have hx : Ext w ((w.alloc (.cells #[.int .u64 (a : Int), .int .u64 (b : Int)] 24)).alloc (.cells #[.int .u64 (c : Int), .int .u64 (d : Int)] 24)) := ((Ext.refl w).alloc _).alloc _
  have bA : BoxW (w.alloc (.cells #[.int .u64 (a : Int), .int .u64 (b : Int)] 24)) w.heap.size (.int .u64 (a : Int)) (.int .u64 (b : Int)) := BoxW.new _ _ _ _
  have bA' := bA.ext ((Ext.refl _).alloc (.cells #[.int .u64 (c : Int), .int .u64 (d : Int)] 24))
  clear bA
  have bA := bA'
  clear bA'
  have bB : BoxW ((w.alloc (.cells #[.int .u64 (a : Int), .int .u64 (b : Int)] 24)).alloc (.cells #[.int .u64 (c : Int), .int .u64 (d : Int)] 24)) (w.heap.size + 1) (.int .u64 (c : Int)) (.int .u64 (d : Int)) := by
    have hb := BoxW.new (w.alloc (.cells #[.int .u64 (a : Int), .int .u64 (b : Int)] 24)) (.int .u64 (c : Int)) (.int .u64 (d : Int)) 24
    simpa using hb
  refine (AL.out _).mono ?_
  rintro en u0 ⟨rfl, hy⟩
  have hx' := hx.trans hy
  clear hx
  have hx := hx'
  clear hx'
  have bA' := bA.ext hy
  clear bA
  have bA := bA'
  clear bA'
  have bB' := bB.ext hy
  clear bB
  have bB := bB'
  clear bB'
  clear hy
  obtain ⟨bA0, bA1, bA2, bA3, bA4⟩ := bA.ext (Ext.refl _)
  obtain ⟨bB0, bB1, bB2, bB3, bB4⟩ := bB.ext (Ext.refl _)
  go_wp2_with fail
  clear bA0 bA1 bA2 bA3 bA4
  clear bB0 bB1 bB2 bB3 bB4
  refine (CS.out _).mono ?_
  rintro en u1 ⟨rfl, hy⟩
  have hx' := hx.trans hy
  clear hx
  have hx := hx'
  clear hx'
  have bA' := bA.ext hy
  clear bA
  have bA := bA'
  clear bA'
  have bB' := bB.ext hy
  clear bB
  have bB := bB'
  clear bB'
  clear hy
  obtain ⟨bA0, bA1, bA2, bA3, bA4⟩ := bA.ext (Ext.refl _)
  obtain ⟨bB0, bB1, bB2, bB3, bB4⟩ := bB.ext (Ext.refl _)
  go_wp2_with fail
  clear bA0 bA1 bA2 bA3 bA4
  clear bB0 bB1 bB2 bB3 bB4
  have bS := BoxW.new u1 (.int .u64 (sh : Int)) (.int .u64 (sl : Int)) 24
  have hal := (Ext.refl u1).alloc (.cells #[.int .u64 (sh : Int), .int .u64 (sl : Int)] 24)
  have hx' := hx.trans hal
  clear hx
  have hx := hx'
  clear hx'
  have bA' := bA.ext hal
  clear bA
  have bA := bA'
  clear bA'
  have bB' := bB.ext hal
  clear bB
  have bB := bB'
  clear bB'
  clear hal
  refine (CX.out _).mono ?_
  rintro en u2 ⟨rfl, hy⟩
  have hx' := hx.trans hy
  clear hx
  have hx := hx'
  clear hx'
  have bA' := bA.ext hy
  clear bA
  have bA := bA'
  clear bA'
  have bB' := bB.ext hy
  clear bB
  have bB := bB'
  clear bB'
  have bS' := bS.ext hy
  clear bS
  have bS := bS'
  clear bS'
  clear hy
  obtain ⟨bA0, bA1, bA2, bA3, bA4⟩ := bA.ext (Ext.refl _)
  obtain ⟨bB0, bB1, bB2, bB3, bB4⟩ := bB.ext (Ext.refl _)
  obtain ⟨bS0, bS1, bS2, bS3, bS4⟩ := bS.ext (Ext.refl _)
  go_wp2_with fail
  clear bA0 bA1 bA2 bA3 bA4
  clear bB0 bB1 bB2 bB3 bB4
  clear bS0 bS1 bS2 bS3 bS4
  have bX := BoxW.new u2 (.int .u64 0) (.int .u64 0) 24
  have hal := (Ext.refl u2).alloc (.cells #[.int .u64 0, .int .u64 0] 24)
  have hx' := hx.trans hal
  clear hx
  have hx := hx'
  clear hx'
  have bA' := bA.ext hal
  clear bA
  have bA := bA'
  clear bA'
  have bB' := bB.ext hal
  clear bB
  have bB := bB'
  clear bB'
  have bS' := bS.ext hal
  clear bS
  have bS := bS'
  clear bS'
  clear hal
  refine (CY.out _).mono ?_
  rintro en u3 ⟨rfl, hy⟩
  have hx' := hx.trans hy
  clear hx
  have hx := hx'
  clear hx'
  have bA' := bA.ext hy
  clear bA
  have bA := bA'
  clear bA'
  have bB' := bB.ext hy
  clear bB
  have bB := bB'
  clear bB'
  have bS' := bS.ext hy
  clear bS
  have bS := bS'
  clear bS'
  have bX' := bX.ext hy
  clear bX
  have bX := bX'
  clear bX'
  clear hy
  obtain ⟨bA0, bA1, bA2, bA3, bA4⟩ := bA.ext (Ext.refl _)
  obtain ⟨bB0, bB1, bB2, bB3, bB4⟩ := bB.ext (Ext.refl _)
  obtain ⟨bS0, bS1, bS2, bS3, bS4⟩ := bS.ext (Ext.refl _)
  obtain ⟨bX0, bX1, bX2, bX3, bX4⟩ := bX.ext (Ext.refl _)
  go_wp2_with fail
  clear bA0 bA1 bA2 bA3 bA4
  clear bB0 bB1 bB2 bB3 bB4
  clear bS0 bS1 bS2 bS3 bS4
  clear bX0 bX1 bX2 bX3 bX4
  have bY := BoxW.new u3 (.int .u64 (yh : Int)) (.int .u64 (yl : Int)) 24
  have hal := (Ext.refl u3).alloc (.cells #[.int .u64 (yh : Int), .int .u64 (yl : Int)] 24)
  have hx' := hx.trans hal
  clear hx
  have hx := hx'
  clear hx'
  have bA' := bA.ext hal
  clear bA
  have bA := bA'
  clear bA'
  have bB' := bB.ext hal
  clear bB
  have bB := bB'
  clear bB'
  have bS' := bS.ext hal
  clear bS
  have bS := bS'
  clear bS'
  have bX' := bX.ext hal
  clear bX
  have bX := bX'
  clear bX'
  clear hal
  clear bB
  clear bS
  clear bX
  clear bY
  refine (D1.out _).mono ?_
  rintro en e1 ⟨rfl, hy⟩
  have hx' := hx.trans hy
  clear hx
  have hx := hx'
  clear hx'
  have bA' := bA.ext hy
  clear bA
  have bA := bA'
  clear bA'
  clear hy
  have hxe1 := hx
  obtain ⟨bA0, bA1, bA2, bA3, bA4⟩ := bA.ext (Ext.refl _)
  go_wp2_with fail
  clear bA0 bA1 bA2 bA3 bA4
  have nA := Nat.ne_of_gt bA.lt
  have bQ := BoxW.new e1 (.int .u64 (qh : Int)) (.int .u64 (ql : Int)) 24
  have hal := (Ext.refl e1).alloc (.cells #[.int .u64 (qh : Int), .int .u64 (ql : Int)] 24)
  have hx' := hx.trans hal
  clear hx
  have hx := hx'
  clear hx'
  have bA' := bA.ext hal
  clear bA
  have bA := bA'
  clear bA'
  clear hal
  refine (D2.out _).mono ?_
  rintro en e2 ⟨rfl, hy⟩
  have hx' := hx.trans hy
  clear hx
  have hx := hx'
  clear hx'
  have bA' := bA.ext hy
  clear bA
  have bA := bA'
  clear bA'
  have bQ' := bQ.ext hy
  clear bQ
  have bQ := bQ'
  clear bQ'
  clear hy
  obtain ⟨bA0, bA1, bA2, bA3, bA4⟩ := bA.ext (Ext.refl _)
  obtain ⟨bQ0, bQ1, bQ2, bQ3, bQ4⟩ := bQ.ext (Ext.refl _)
  go_wp2_with fail
  clear bA0 bA1 bA2 bA3 bA4
  clear bQ0 bQ1 bQ2 bQ3 bQ4
  have hle : w.heap.size ≤ e1.heap.size := hxe1.size
  have hx' := (hx.setCell (p := ⟨e1.heap.size, 0, none⟩) hle (.int .u64 (ph : Int))).setCell (p := ⟨e1.heap.size, 0 + 1, none⟩) hle (.int .u64 (pl : Int))
  clear hx
  have hx := hx'
  clear hx'
  have bA' := (bA.far (k := 0) nA (.int .u64 (ph : Int))).far (k := 0 + 1) nA (.int .u64 (pl : Int))
  clear bA
  have bA := bA'
  clear bA'
  have bQ' := (bQ.put0 (.int .u64 (ph : Int))).put1 (.int .u64 (pl : Int))
  clear bQ
  have bQ := bQ'
  clear bQ'
  refine (D3.out _).mono ?_
  rintro en e3 ⟨rfl, hy⟩
  have hx' := hx.trans hy
  clear hx
  have hx := hx'
  clear hx'
  have bA' := bA.ext hy
  clear bA
  have bA := bA'
  clear bA'
  have bQ' := bQ.ext hy
  clear bQ
  have bQ := bQ'
  clear bQ'
  clear hy
  obtain ⟨bA0, bA1, bA2, bA3, bA4⟩ := bA.ext (Ext.refl _)
  obtain ⟨bQ0, bQ1, bQ2, bQ3, bQ4⟩ := bQ.ext (Ext.refl _)
  go_wp2_with fail
  go_ret
  exact ⟨rfl, hx.alloc _⟩
set_option maxRecDepth 100000 in
set_option maxHeartbeats 12800000 in
theorem spreads_no3 (a b c d n : Nat) (w : World) (ha : a < 18446744073709551616) (hb : b < 18446744073709551616) (hc : c < 18446744073709551616) (hd : d < 18446744073709551616) (hn : n < 18446744073709551616) (hs : N2 a b + N2 c d < 340282366920938463463374607431768211456) (h1 : N2 a b * n < 340282366920938463463374607431768211456) (h2 : 340282366920938463463374607431768211456 ≤ N2 c d * n) :
    Calls Try.prog 8 #[wv a b, wv c d, .int .u64 (n : Int)] w fun e w' => e = .returned (.bool true) ∧ Ext w w' := by
  have AL := Lib.hid alive_any
  have CS := Lib.hid (fun w => wadd_any a b c d w ha hb hc hd)
  have CX := Lib.hid (fun w => wmul_any a b n w ha hb hn)
  have CY := Lib.hid (fun w => wmul_any c d n w hc hd hn)
  obtain ⟨sh, sl, s1, s2, _, sw⟩ := wn_ex _ hs
  simp only [sw, wok_yes s1 s2] at CS
  clear sw s1 s2
  obtain ⟨xh, xl, x1, x2, _, xw⟩ := wn_ex _ h1
  simp only [xw, wok_yes x1 x2] at CX
  clear xw x1 x2
  have en : WOk (N2 c d * n) = .returned (.tuple #[wv 0 0, .bool false]) := wok_no (by omega)
  simp only [en] at CY
  clear en
  obtain ⟨m, hm⟩ : ∃ m, m = n % 65536 + 1 := ⟨_, rfl⟩
  obtain ⟨k, hk⟩ : ∃ k, k = n / 65536 % 65536 + 1 := ⟨_, rfl⟩
  obtain ⟨mk, hmk⟩ : ∃ mk, mk = m * k := ⟨_, rfl⟩
  have m0 : 0 < m := by omega
  have k0 : 0 < k := by omega
  have m1 : m ≤ 65536 := by omega
  have k1 : k ≤ 65536 := by omega
  have mk0 : 0 < mk := by rw [hmk]; exact Nat.mul_pos m0 k0
  have mk1 : mk ≤ 4294967296 := by rw [hmk]; exact Nat.mul_le_mul m1 k1
  have D1 := Lib.hid (fun w => wdiv_any a b m w ha hb m0 (by omega))
  have hN := n2_le ha hb
  obtain ⟨qh, ql, q1, q2, qe, qw⟩ := wn_ex (N2 a b / m) (Nat.lt_of_le_of_lt (Nat.div_le_self _ _) hN)
  have D2 := Lib.hid (fun w => wdiv_any qh ql k w q1 q2 k0 (by omega))
  have D3 := Lib.hid (fun w => wdiv_any a b mk w ha hb mk0 (by omega))
  rw [← qw, Nat.div_div_eq_div_mul, ← hmk] at D2
  obtain ⟨ph, pl, p1, p2, pe, pw⟩ := wn_ex (N2 a b / mk) (Nat.lt_of_le_of_lt (Nat.div_le_self _ _) hN)
  simp only [qe, pe] at D1 D2 D3
  generalize ((N2 a b % m : Nat) : Int) = r1 at D1
  generalize ((N2 qh ql % k : Nat) : Int) = r2 at D2
  generalize ((N2 a b % mk : Nat) : Int) = r3 at D3
  have g1 : Go.bits .and .u64 (n : Int) 65535 = ((n % 65536 : Nat) : Int) := mask64 n hn
  have g2 : IntKind.u64.wrap (((n % 65536 : Nat) : Int) + 1) = (m : Int) := by rw [IntKind.wrap_u64]; omega
  have g3 : IntKind.u64.wrap ((m : Int) * (k : Int)) = (mk : Int) := by
    have e : (m : Int) * (k : Int) = (mk : Int) := by rw [hmk]; exact (Int.natCast_mul m k).symm
    rw [e, IntKind.wrap_u64]; omega
  have g4 : Go.bits .and .u64 ((n / 65536 : Nat) : Int) 65535 = ((n / 65536 % 65536 : Nat) : Int) := mask64 _ (by omega)
  have g5 : IntKind.u64.wrap (((n / 65536 % 65536 : Nat) : Int) + 1) = (k : Int) := by rw [IntKind.wrap_u64]; omega
  have g6 : (n : Int) / 65536 = ((n / 65536 : Nat) : Int) := by omega
  generalize n % 65536 = nm at g1 g2
  generalize n / 65536 % 65536 = nk at g4 g5
  generalize n / 65536 = nd at g4 g6
  clear qw pw qe pe hN q1 q2 p1 p2 m0 k0 m1 k1 mk0 mk1 hmk hm hk hn
  try clear hs
  try clear h1
  try clear h2
  unfold wv at *
  go_enter Try.func8, Try.ntmps8
  go_wp2_with fail
  have hx : Ext w ((w.alloc (.cells #[.int .u64 (a : Int), .int .u64 (b : Int)] 24)).alloc (.cells #[.int .u64 (c : Int), .int .u64 (d : Int)] 24)) := ((Ext.refl w).alloc _).alloc _
  have bA : BoxW (w.alloc (.cells #[.int .u64 (a : Int), .int .u64 (b : Int)] 24)) w.heap.size (.int .u64 (a : Int)) (.int .u64 (b : Int)) := BoxW.new _ _ _ _
  have bA' := bA.ext ((Ext.refl _).alloc (.cells #[.int .u64 (c : Int), .int .u64 (d : Int)] 24))
  clear bA
  have bA := bA'
  clear bA'
  have bB : BoxW ((w.alloc (.cells #[.int .u64 (a : Int), .int .u64 (b : Int)] 24)).alloc (.cells #[.int .u64 (c : Int), .int .u64 (d : Int)] 24)) (w.heap.size + 1) (.int .u64 (c : Int)) (.int .u64 (d : Int)) := by
    have hb := BoxW.new (w.alloc (.cells #[.int .u64 (a : Int), .int .u64 (b : Int)] 24)) (.int .u64 (c : Int)) (.int .u64 (d : Int)) 24
    simpa using hb
  refine (AL.out _).mono ?_
  rintro en u0 ⟨rfl, hy⟩
  have hx' := hx.trans hy
  clear hx
  have hx := hx'
  clear hx'
  have bA' := bA.ext hy
  clear bA
  have bA := bA'
  clear bA'
  have bB' := bB.ext hy
  clear bB
  have bB := bB'
  clear bB'
  clear hy
  obtain ⟨bA0, bA1, bA2, bA3, bA4⟩ := bA.ext (Ext.refl _)
  obtain ⟨bB0, bB1, bB2, bB3, bB4⟩ := bB.ext (Ext.refl _)
  go_wp2_with fail
  clear bA0 bA1 bA2 bA3 bA4
  clear bB0 bB1 bB2 bB3 bB4
  refine (CS.out _).mono ?_
  rintro en u1 ⟨rfl, hy⟩
  have hx' := hx.trans hy
  clear hx
  have hx := hx'
  clear hx'
  have bA' := bA.ext hy
  clear bA
  have bA := bA'
  clear bA'
  have bB' := bB.ext hy
  clear bB
  have bB := bB'
  clear bB'
  clear hy
  obtain ⟨bA0, bA1, bA2, bA3, bA4⟩ := bA.ext (Ext.refl _)
  obtain ⟨bB0, bB1, bB2, bB3, bB4⟩ := bB.ext (Ext.refl _)
  go_wp2_with fail
  clear bA0 bA1 bA2 bA3 bA4
  clear bB0 bB1 bB2 bB3 bB4
  have bS := BoxW.new u1 (.int .u64 (sh : Int)) (.int .u64 (sl : Int)) 24
  have hal := (Ext.refl u1).alloc (.cells #[.int .u64 (sh : Int), .int .u64 (sl : Int)] 24)
  have hx' := hx.trans hal
  clear hx
  have hx := hx'
  clear hx'
  have bA' := bA.ext hal
  clear bA
  have bA := bA'
  clear bA'
  have bB' := bB.ext hal
  clear bB
  have bB := bB'
  clear bB'
  clear hal
  refine (CX.out _).mono ?_
  rintro en u2 ⟨rfl, hy⟩
  have hx' := hx.trans hy
  clear hx
  have hx := hx'
  clear hx'
  have bA' := bA.ext hy
  clear bA
  have bA := bA'
  clear bA'
  have bB' := bB.ext hy
  clear bB
  have bB := bB'
  clear bB'
  have bS' := bS.ext hy
  clear bS
  have bS := bS'
  clear bS'
  clear hy
  obtain ⟨bA0, bA1, bA2, bA3, bA4⟩ := bA.ext (Ext.refl _)
  obtain ⟨bB0, bB1, bB2, bB3, bB4⟩ := bB.ext (Ext.refl _)
  obtain ⟨bS0, bS1, bS2, bS3, bS4⟩ := bS.ext (Ext.refl _)
  go_wp2_with fail
  clear bA0 bA1 bA2 bA3 bA4
  clear bB0 bB1 bB2 bB3 bB4
  clear bS0 bS1 bS2 bS3 bS4
  have bX := BoxW.new u2 (.int .u64 (xh : Int)) (.int .u64 (xl : Int)) 24
  have hal := (Ext.refl u2).alloc (.cells #[.int .u64 (xh : Int), .int .u64 (xl : Int)] 24)
  have hx' := hx.trans hal
  clear hx
  have hx := hx'
  clear hx'
  have bA' := bA.ext hal
  clear bA
  have bA := bA'
  clear bA'
  have bB' := bB.ext hal
  clear bB
  have bB := bB'
  clear bB'
  have bS' := bS.ext hal
  clear bS
  have bS := bS'
  clear bS'
  clear hal
  refine (CY.out _).mono ?_
  rintro en u3 ⟨rfl, hy⟩
  have hx' := hx.trans hy
  clear hx
  have hx := hx'
  clear hx'
  have bA' := bA.ext hy
  clear bA
  have bA := bA'
  clear bA'
  have bB' := bB.ext hy
  clear bB
  have bB := bB'
  clear bB'
  have bS' := bS.ext hy
  clear bS
  have bS := bS'
  clear bS'
  have bX' := bX.ext hy
  clear bX
  have bX := bX'
  clear bX'
  clear hy
  obtain ⟨bA0, bA1, bA2, bA3, bA4⟩ := bA.ext (Ext.refl _)
  obtain ⟨bB0, bB1, bB2, bB3, bB4⟩ := bB.ext (Ext.refl _)
  obtain ⟨bS0, bS1, bS2, bS3, bS4⟩ := bS.ext (Ext.refl _)
  obtain ⟨bX0, bX1, bX2, bX3, bX4⟩ := bX.ext (Ext.refl _)
  go_wp2_with fail
  clear bA0 bA1 bA2 bA3 bA4
  clear bB0 bB1 bB2 bB3 bB4
  clear bS0 bS1 bS2 bS3 bS4
  clear bX0 bX1 bX2 bX3 bX4
  have bY := BoxW.new u3 (.int .u64 0) (.int .u64 0) 24
  have hal := (Ext.refl u3).alloc (.cells #[.int .u64 0, .int .u64 0] 24)
  have hx' := hx.trans hal
  clear hx
  have hx := hx'
  clear hx'
  have bA' := bA.ext hal
  clear bA
  have bA := bA'
  clear bA'
  have bB' := bB.ext hal
  clear bB
  have bB := bB'
  clear bB'
  have bS' := bS.ext hal
  clear bS
  have bS := bS'
  clear bS'
  have bX' := bX.ext hal
  clear bX
  have bX := bX'
  clear bX'
  clear hal
  clear bB
  clear bS
  clear bX
  clear bY
  refine (D1.out _).mono ?_
  rintro en e1 ⟨rfl, hy⟩
  have hx' := hx.trans hy
  clear hx
  have hx := hx'
  clear hx'
  have bA' := bA.ext hy
  clear bA
  have bA := bA'
  clear bA'
  clear hy
  have hxe1 := hx
  obtain ⟨bA0, bA1, bA2, bA3, bA4⟩ := bA.ext (Ext.refl _)
  go_wp2_with fail
  clear bA0 bA1 bA2 bA3 bA4
  have nA := Nat.ne_of_gt bA.lt
  have bQ := BoxW.new e1 (.int .u64 (qh : Int)) (.int .u64 (ql : Int)) 24
  have hal := (Ext.refl e1).alloc (.cells #[.int .u64 (qh : Int), .int .u64 (ql : Int)] 24)
  have hx' := hx.trans hal
  clear hx
  have hx := hx'
  clear hx'
  have bA' := bA.ext hal
  clear bA
  have bA := bA'
  clear bA'
  clear hal
  refine (D2.out _).mono ?_
  rintro en e2 ⟨rfl, hy⟩
  have hx' := hx.trans hy
  clear hx
  have hx := hx'
  clear hx'
  have bA' := bA.ext hy
  clear bA
  have bA := bA'
  clear bA'
  have bQ' := bQ.ext hy
  clear bQ
  have bQ := bQ'
  clear bQ'
  clear hy
  obtain ⟨bA0, bA1, bA2, bA3, bA4⟩ := bA.ext (Ext.refl _)
  obtain ⟨bQ0, bQ1, bQ2, bQ3, bQ4⟩ := bQ.ext (Ext.refl _)
  go_wp2_with fail
  clear bA0 bA1 bA2 bA3 bA4
  clear bQ0 bQ1 bQ2 bQ3 bQ4
  have hle : w.heap.size ≤ e1.heap.size := hxe1.size
  have hx' := (hx.setCell (p := ⟨e1.heap.size, 0, none⟩) hle (.int .u64 (ph : Int))).setCell (p := ⟨e1.heap.size, 0 + 1, none⟩) hle (.int .u64 (pl : Int))
  clear hx
  have hx := hx'
  clear hx'
  have bA' := (bA.far (k := 0) nA (.int .u64 (ph : Int))).far (k := 0 + 1) nA (.int .u64 (pl : Int))
  clear bA
  have bA := bA'
  clear bA'
  have bQ' := (bQ.put0 (.int .u64 (ph : Int))).put1 (.int .u64 (pl : Int))
  clear bQ
  have bQ := bQ'
  clear bQ'
  refine (D3.out _).mono ?_
  rintro en e3 ⟨rfl, hy⟩
  have hx' := hx.trans hy
  clear hx
  have hx := hx'
  clear hx'
  have bA' := bA.ext hy
  clear bA
  have bA := bA'
  clear bA'
  have bQ' := bQ.ext hy
  clear bQ
  have bQ := bQ'
  clear bQ'
  clear hy
  obtain ⟨bA0, bA1, bA2, bA3, bA4⟩ := bA.ext (Ext.refl _)
  obtain ⟨bQ0, bQ1, bQ2, bQ3, bQ4⟩ := bQ.ext (Ext.refl _)
  go_wp2_with fail
  go_ret
  exact ⟨rfl, hx.alloc _⟩
theorem spreads_any (a b c d : Nat) (x : Int) (w : World) (ha : a < 18446744073709551616) (hb : b < 18446744073709551616) (hc : c < 18446744073709551616) (hd : d < 18446744073709551616) (hx : 0 ≤ x ∧ x < 18446744073709551616) :
    Calls Try.prog 8 #[wv a b, wv c d, .int .u64 x] w fun e w' => e = .returned (.bool true) ∧ Ext w w' := by
  obtain ⟨n, rfl⟩ := Int.eq_ofNat_of_zero_le hx.1
  have hn : n < 18446744073709551616 := by omega
  by_cases hs : N2 a b + N2 c d < 340282366920938463463374607431768211456
  · by_cases h1 : N2 a b * n < 340282366920938463463374607431768211456
    · by_cases h2 : N2 c d * n < 340282366920938463463374607431768211456
      · exact spreads_yes a b c d n w ha hb hc hd hn hs h1 h2
      · exact spreads_no3 a b c d n w ha hb hc hd hn hs h1 (Nat.le_of_not_lt h2)
    · exact spreads_no2 a b c d n w ha hb hc hd hn hs (Nat.le_of_not_lt h1)
  · exact spreads_no1 a b c d n w ha hb hc hd hn (Nat.le_of_not_lt hs)
end Go.Proofs.Ytbclkhkpmdbedaa
