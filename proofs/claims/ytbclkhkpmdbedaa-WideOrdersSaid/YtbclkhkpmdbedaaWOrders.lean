/-
  The statement WideOrders, walked.
-/
import Derived.Test.YtbclkhkpmdbedaaWOrdP
import Derived.Test.YtbclkhkpmdbedaaWCross
import Derived.Deep.RegionHeld3
namespace Go.Proofs.Ytbclkhkpmdbedaa
open Go.RowKit
set_option linter.unusedVariables false
set_option maxRecDepth 100000 in
set_option maxHeartbeats 12800000 in
theorem orders_f (qv tv : Nat → Int) (nn dd : Nat → Nat) (w : World) (hq : ∀ i, qv i % 1024 = (nn i : Int)) (ht : ∀ i, tv i % 1024 + 1 = (dd i : Int)) :
    Calls Try.prog 9 #[.agg #[.int .i64 (qv 0), .int .i64 (qv 1), .int .i64 (qv 2), .int .i64 (qv 3)], .agg #[.int .i64 (tv 0), .int .i64 (tv 1), .int .i64 (tv 2), .int .i64 (tv 3)]] w fun e w' => e = .returned (.bool true) ∧ Ext w w' := by
  have hn : ∀ i, nn i ≤ 1023 := fun i => by have := hq i; omega
  have hd : ∀ i, 1 ≤ dd i ∧ dd i ≤ 1024 := fun i => by have := ht i; omega
  have FU := Lib.hid (fun i (hi : i ≤ 4) => frac_fit hn hd hi)
  have FD := Lib.hid (fun i (hi : i ≤ 4) => frac_fit (n := fun i => nn (3 - i)) (d := fun i => dd (3 - i)) (fun i => hn _) (fun i => hd _) hi)
  have HN := Lib.hid hn
  have HD := Lib.hid hd
  have HQ := Lib.hid hq
  have HT := Lib.hid ht
  clear hn hd hq ht
  have AL := Lib.hid alive_any
  have CO : Hid (∀ w, Calls Try.prog 29 #[.int .u64 1] w fun e w' => e = .returned (.agg #[.int .u64 0, .int .u64 1]) ∧ Ext w w') := Lib.hid (fun w => wof_any 1 w)
  go_enter Try.func9, Try.ntmps9
  go_wp2_with fail
  have hx : Ext w ((w.alloc (.cells #[.int .i64 (qv 0), .int .i64 (qv 1), .int .i64 (qv 2), .int .i64 (qv 3)] 54)).alloc (.cells #[.int .i64 (tv 0), .int .i64 (tv 1), .int .i64 (tv 2), .int .i64 (tv 3)] 54)) := ((Ext.refl w).alloc _).alloc _
  have bQ := (Arr4.new w qv 54).ext ((Ext.refl _).alloc (.cells #[.int .i64 (tv 0), .int .i64 (tv 1), .int .i64 (tv 2), .int .i64 (tv 3)] 54))
  have bT : Arr4 ((w.alloc (.cells #[.int .i64 (qv 0), .int .i64 (qv 1), .int .i64 (qv 2), .int .i64 (qv 3)] 54)).alloc (.cells #[.int .i64 (tv 0), .int .i64 (tv 1), .int .i64 (tv 2), .int .i64 (tv 3)] 54)) (w.heap.size + 1) tv := by
    have hb := Arr4.new (w.alloc (.cells #[.int .i64 (qv 0), .int .i64 (qv 1), .int .i64 (qv 2), .int .i64 (qv 3)] 54)) tv 54
    simpa using hb
  refine (AL.out _).mono ?_
  rintro en u0 ⟨rfl, hy⟩
  have hx' := hx.trans hy
  clear hx
  have hx := hx'
  clear hx'
  have bQ' := bQ.ext hy
  clear bQ
  have bQ := bQ'
  clear bQ'
  have bT' := bT.ext hy
  clear bT
  have bT := bT'
  clear bT'
  clear hy
  go_wp2_with fail
  refine (CO.out _).mono ?_
  rintro en u1 ⟨rfl, hy⟩
  have hx' := hx.trans hy
  clear hx
  have hx := hx'
  clear hx'
  have bQ' := bQ.ext hy
  clear bQ
  have bQ := bQ'
  clear bQ'
  have bT' := bT.ext hy
  clear bT
  have bT := bT'
  clear bT'
  clear hy
  go_wp2_with fail
  have bU := (Box4.new u1 (.int .u64 0) (.int .u64 0) (.int .u64 0) (.int .u64 1) 41).ext ((Ext.refl _).alloc (.cells #[.int .u64 0, .int .u64 0, .int .u64 0, .int .u64 (1 : Int)] 41))
  have bD : Box4 ((u1.alloc (.cells #[.int .u64 0, .int .u64 0, .int .u64 0, .int .u64 (1 : Int)] 41)).alloc (.cells #[.int .u64 0, .int .u64 0, .int .u64 0, .int .u64 (1 : Int)] 41)) (u1.heap.size + 1) (.int .u64 0) (.int .u64 0) (.int .u64 0) (.int .u64 (1 : Int)) := by
    have hb := Box4.new (u1.alloc (.cells #[.int .u64 0, .int .u64 0, .int .u64 0, .int .u64 (1 : Int)] 41)) (.int .u64 0) (.int .u64 0) (.int .u64 0) (.int .u64 1) 41
    simpa using hb
  have hle : w.heap.size + 1 < u1.heap.size := bT.lt
  have hal := ((Ext.refl u1).alloc (.cells #[.int .u64 0, .int .u64 0, .int .u64 0, .int .u64 (1 : Int)] 41)).alloc (.cells #[.int .u64 0, .int .u64 0, .int .u64 0, .int .u64 (1 : Int)] 41)
  have hx' := hx.trans hal
  clear hx
  have hx := hx'
  clear hx'
  have bQ' := bQ.ext hal
  clear bQ
  have bQ := bQ'
  clear bQ'
  have bT' := bT.ext hal
  clear bT
  have bT := bT'
  clear bT'
  clear hal
  generalize hW : (u1.alloc (.cells #[.int .u64 0, .int .u64 0, .int .u64 0, .int .u64 (1 : Int)] 41)).alloc (.cells #[.int .u64 0, .int .u64 0, .int .u64 0, .int .u64 (1 : Int)] 41) = W at *
  generalize u1.heap.size = p at *
  clear hW
  go_loopw [7] (fun vi wr => ∃ (k N D N' D' : Nat), vi = .int .i64 (k : Int) ∧ k ≤ 4 ∧ Hid (frac nn dd k = (N, D)) ∧ Hid (frac (fun i => nn (3 - i)) (fun i => dd (3 - i)) k = (N', D')) ∧ Ext w wr ∧ Arr4 wr w.heap.size qv ∧ Arr4 wr (w.heap.size + 1) tv ∧ Box4 wr p (.int .u64 0) (.int .u64 (N : Int)) (.int .u64 0) (.int .u64 (D : Int)) ∧ Box4 wr (p + 1) (.int .u64 0) (.int .u64 (N' : Int)) (.int .u64 0) (.int .u64 (D' : Int))) (fun vi _ => (4 - intOf vi).toNat)
  case atStart => exact ⟨0, 0, 1, 0, 1, rfl, by omega, Lib.hid rfl, Lib.hid rfl, hx, bQ, bT, bU, bD⟩
  case round =>
  clear hx bQ bT bU bD
  obtain ⟨k, N, D, N', D', rfl, hk, hF, hG, hx, bQ, bT, bU, bD⟩ := hrel
  by_cases hk4 : k < 4
  · skip
    obtain ⟨f1, f2, f3⟩ := FU.out k hk
    obtain ⟨f4, f5, f6⟩ := FU.out (k + 1) hk4
    obtain ⟨g1, g2, g3⟩ := FD.out k hk
    obtain ⟨g4, g5, g6⟩ := FD.out (k + 1) hk4
    simp only [frac, hF.out, hG.out, stp] at f1 f2 f3 f4 f5 f6 g1 g2 g3 g4 g5 g6
    obtain ⟨N1, hN1⟩ : ∃ x, N * dd k + D * nn k = x := ⟨_, rfl⟩
    obtain ⟨D1, hD1⟩ : ∃ x, D * dd k = x := ⟨_, rfl⟩
    obtain ⟨N2', hN2⟩ : ∃ x, N' * dd (3 - k) + D' * nn (3 - k) = x := ⟨_, rfl⟩
    obtain ⟨D2, hD2⟩ : ∃ x, D' * dd (3 - k) = x := ⟨_, rfl⟩
    rw [hN1, hD1] at f6
    rw [hD1] at f4 f5
    rw [hN2, hD2] at g6
    rw [hD2] at g4 g5
    have NF : Hid (frac nn dd (k + 1) = (N1, D1)) := Lib.hid (by simp only [frac, hF.out, stp, hN1, hD1])
    have NG : Hid (frac (fun i => nn (3 - i)) (fun i => dd (3 - i)) (k + 1) = (N2', D2)) := Lib.hid (by simp only [frac, hG.out, stp, hN2, hD2])
    have P1 : Hid (∀ w, Calls Try.prog 23 #[(.agg #[.int .u64 0, .int .u64 (N : Int), .int .u64 0, .int .u64 (D : Int)]), .int .i64 (nn k : Int), .int .i64 (dd k : Int)] w fun e w' => e = .returned (.tuple #[(.agg #[.int .u64 0, .int .u64 (N1 : Int), .int .u64 0, .int .u64 (D1 : Int)]), .bool true]) ∧ Ext w w') := Lib.hid (fun w => plus_small N D (nn k) (dd k) N1 D1 w (by omega) (by omega) f1 (HN.out _) (HD.out _) hN1 hD1 (by omega) (by omega))
    have P2 : Hid (∀ w, Calls Try.prog 23 #[(.agg #[.int .u64 0, .int .u64 (N' : Int), .int .u64 0, .int .u64 (D' : Int)]), .int .i64 (nn (3 - k) : Int), .int .i64 (dd (3 - k) : Int)] w fun e w' => e = .returned (.tuple #[(.agg #[.int .u64 0, .int .u64 (N2' : Int), .int .u64 0, .int .u64 (D2 : Int)]), .bool true]) ∧ Ext w w') := Lib.hid (fun w => plus_small N' D' (nn (3 - k)) (dd (3 - k)) N2' D2 w (by omega) (by omega) g1 (HN.out _) (HD.out _) hN2 hD2 (by omega) (by omega))
    have A1 : Hid (∀ w, Calls Try.prog 25 #[(.agg #[.int .u64 0, .int .u64 (N1 : Int), .int .u64 0, .int .u64 (D1 : Int)]), .int .i64 1048576, .int .i64 1] w fun e w' => e = .returned (.tuple #[.int .i64 (-1), .bool true]) ∧ Ext w w') := Lib.hid (fun w => against_small N1 D1 1048576 1 (-1) w (by omega) (by omega) f4 (by omega) (by omega) (by unfold cmpI; rw [if_pos (by omega)]) (by omega) (by omega))
    clear f1 f2 f3 f4 f5 f6 g1 g2 g3 g4 g5 g6 hN1 hD1 hN2 hD2 hF hG
    have c1 := bQ.at_ k hk4
    have c2 := bT.at_ k hk4
    have c3 := bQ.at_ (3 - k) (by omega)
    have c4 := bT.at_ (3 - k) (by omega)
    have m1 : Go.bits .and .i64 (qv k) 1023 = (nn k : Int) := by rw [mask10, HQ.out]
    obtain ⟨tk, htk⟩ : ∃ x, tv k % 1024 = x := ⟨_, rfl⟩
    obtain ⟨tj, htj⟩ : ∃ x, tv (3 - k) % 1024 = x := ⟨_, rfl⟩
    have m2 : Go.bits .and .i64 (tv k) 1023 = tk := by rw [mask10, htk]
    have m5 : 1 + tk = (dd k : Int) := by have := HT.out k; omega
    have m6 : 1 + tj = (dd (3 - k) : Int) := by have := HT.out (3 - k); omega
    have m3 : Go.bits .and .i64 (qv (3 - k)) 1023 = (nn (3 - k) : Int) := by rw [mask10, HQ.out]
    have m4 : Go.bits .and .i64 (tv (3 - k)) 1023 = tj := by rw [mask10, htj]
    clear htk htj
    have d1 := HD.out k
    have d2 := HD.out (3 - k)
    have i1 : (0 : Int) ≤ (k : Int) := by omega
    have i2 : (k : Int) < 4 := by omega
    have i3 : (3 : Int) - (k : Int) = ((3 - k : Nat) : Int) := by omega
    have i4 : (0 : Int) ≤ ((3 - k : Nat) : Int) := by omega
    have i5 : ((3 - k : Nat) : Int) < 4 := by omega
    generalize 3 - k = j at *
    go_wp2_with fail
    obtain ⟨bU0, bU1, bU2, bU3, bU4, bU5, bU6, bU7, bU8⟩ := bU.ext (Ext.refl _)
    obtain ⟨bD0, bD1, bD2, bD3, bD4, bD5, bD6, bD7, bD8⟩ := bD.ext (Ext.refl _)
    go_quiet (fail)
    go_wp2_with fail
    go_quiet (fail)
    go_wp2_with fail
    refine (P1.out _).mono ?_
    rintro en v1 ⟨rfl, hy⟩
    have hy' := ((Ext.refl wr).drewN _).trans hy
    clear hy
    have hy := hy'
    clear hy'
    clear bU0 bU1 bU2 bU3 bU4 bU5 bU6 bU7 bU8
    clear bD0 bD1 bD2 bD3 bD4 bD5 bD6 bD7 bD8
    have hx' := hx.trans hy
    clear hx
    have hx := hx'
    clear hx'
    have bQ' := bQ.ext hy
    clear bQ
    have bQ := bQ'
    clear bQ'
    have bT' := bT.ext hy
    clear bT
    have bT := bT'
    clear bT'
    have bU' := bU.ext hy
    clear bU
    have bU := bU'
    clear bU'
    have bD' := bD.ext hy
    clear bD
    have bD := bD'
    clear bD'
    clear hy
    have hpX : p + 1 < v1.heap.size := bD.lt
    obtain ⟨bU0, bU1, bU2, bU3, bU4, bU5, bU6, bU7, bU8⟩ := bU.ext (Ext.refl _)
    obtain ⟨bD0, bD1, bD2, bD3, bD4, bD5, bD6, bD7, bD8⟩ := bD.ext (Ext.refl _)
    go_wp2_with fail
    clear bU0 bU1 bU2 bU3 bU4 bU5 bU6 bU7 bU8
    clear bD0 bD1 bD2 bD3 bD4 bD5 bD6 bD7 bD8
    have bX := Box4.new v1 (.int .u64 0) (.int .u64 (N1 : Int)) (.int .u64 0) (.int .u64 (D1 : Int)) 41
    have hal := (Ext.refl v1).alloc (.cells #[.int .u64 0, .int .u64 (N1 : Int), .int .u64 0, .int .u64 (D1 : Int)] 41)
    have hx' := hx.trans hal
    clear hx
    have hx := hx'
    clear hx'
    have bQ' := bQ.ext hal
    clear bQ
    have bQ := bQ'
    clear bQ'
    have bT' := bT.ext hal
    clear bT
    have bT := bT'
    clear bT'
    have bU' := bU.ext hal
    clear bU
    have bU := bU'
    clear bU'
    have bD' := bD.ext hal
    clear bD
    have bD := bD'
    clear bD'
    clear hal
    refine (P2.out _).mono ?_
    rintro en v2 ⟨rfl, hy⟩
    have hx' := hx.trans hy
    clear hx
    have hx := hx'
    clear hx'
    have bQ' := bQ.ext hy
    clear bQ
    have bQ := bQ'
    clear bQ'
    have bT' := bT.ext hy
    clear bT
    have bT := bT'
    clear bT'
    have bU' := bU.ext hy
    clear bU
    have bU := bU'
    clear bU'
    have bD' := bD.ext hy
    clear bD
    have bD := bD'
    clear bD'
    have bX' := bX.ext hy
    clear bX
    have bX := bX'
    clear bX'
    clear hy
    have hpY : p + 1 < v2.heap.size := bD.lt
    obtain ⟨bU0, bU1, bU2, bU3, bU4, bU5, bU6, bU7, bU8⟩ := bU.ext (Ext.refl _)
    obtain ⟨bD0, bD1, bD2, bD3, bD4, bD5, bD6, bD7, bD8⟩ := bD.ext (Ext.refl _)
    obtain ⟨bX0, bX1, bX2, bX3, bX4, bX5, bX6, bX7, bX8⟩ := bX.ext (Ext.refl _)
    go_wp2_with fail
    clear bU0 bU1 bU2 bU3 bU4 bU5 bU6 bU7 bU8
    clear bD0 bD1 bD2 bD3 bD4 bD5 bD6 bD7 bD8
    clear bX0 bX1 bX2 bX3 bX4 bX5 bX6 bX7 bX8
    have bY := Box4.new v2 (.int .u64 0) (.int .u64 (N2' : Int)) (.int .u64 0) (.int .u64 (D2 : Int)) 41
    have hal := (Ext.refl v2).alloc (.cells #[.int .u64 0, .int .u64 (N2' : Int), .int .u64 0, .int .u64 (D2 : Int)] 41)
    have hx' := hx.trans hal
    clear hx
    have hx := hx'
    clear hx'
    have bQ' := bQ.ext hal
    clear bQ
    have bQ := bQ'
    clear bQ'
    have bT' := bT.ext hal
    clear bT
    have bT := bT'
    clear bT'
    have bU' := bU.ext hal
    clear bU
    have bU := bU'
    clear bU'
    have bD' := bD.ext hal
    clear bD
    have bD := bD'
    clear bD'
    have bX' := bX.ext hal
    clear bX
    have bX := bX'
    clear bX'
    clear hal
    refine (A1.out _).mono ?_
    rintro en v3 ⟨rfl, hy⟩
    have hx' := hx.trans hy
    clear hx
    have hx := hx'
    clear hx'
    have bQ' := bQ.ext hy
    clear bQ
    have bQ := bQ'
    clear bQ'
    have bT' := bT.ext hy
    clear bT
    have bT := bT'
    clear bT'
    have bU' := bU.ext hy
    clear bU
    have bU := bU'
    clear bU'
    have bD' := bD.ext hy
    clear bD
    have bD := bD'
    clear bD'
    have bX' := bX.ext hy
    clear bX
    have bX := bX'
    clear bX'
    have bY' := bY.ext hy
    clear bY
    have bY := bY'
    clear bY'
    clear hy
    generalize v1.heap.size = pX at *
    generalize v2.heap.size = pY at *
    obtain ⟨bU0, bU1, bU2, bU3, bU4, bU5, bU6, bU7, bU8⟩ := bU.ext (Ext.refl _)
    obtain ⟨bD0, bD1, bD2, bD3, bD4, bD5, bD6, bD7, bD8⟩ := bD.ext (Ext.refl _)
    obtain ⟨bX0, bX1, bX2, bX3, bX4, bX5, bX6, bX7, bX8⟩ := bX.ext (Ext.refl _)
    obtain ⟨bY0, bY1, bY2, bY3, bY4, bY5, bY6, bY7, bY8⟩ := bY.ext (Ext.refl _)
    go_wp2_with fail
    have BX := Lib.hid (fun w' (x : Box4 w' pX (.int .u64 0) (.int .u64 (N1 : Int)) (.int .u64 0) (.int .u64 (D1 : Int))) (y : Box4 w' pY (.int .u64 0) (.int .u64 (N2' : Int)) (.int .u64 0) (.int .u64 (D2 : Int))) => (⟨x.c0, x.c1, x.c2, x.c3, y.c0, y.c1, y.c2, y.c3, x, y⟩ : w'.cell? ⟨pX, 0, none⟩ = some (.int .u64 0) ∧ w'.cell? ⟨pX, 1, none⟩ = some (.int .u64 (N1 : Int)) ∧ w'.cell? ⟨pX, 2, none⟩ = some (.int .u64 0) ∧ w'.cell? ⟨pX, 3, none⟩ = some (.int .u64 (D1 : Int)) ∧ w'.cell? ⟨pY, 0, none⟩ = some (.int .u64 0) ∧ w'.cell? ⟨pY, 1, none⟩ = some (.int .u64 (N2' : Int)) ∧ w'.cell? ⟨pY, 2, none⟩ = some (.int .u64 0) ∧ w'.cell? ⟨pY, 3, none⟩ = some (.int .u64 (D2 : Int)) ∧ Box4 w' pX (.int .u64 0) (.int .u64 (N1 : Int)) (.int .u64 0) (.int .u64 (D1 : Int)) ∧ Box4 w' pY (.int .u64 0) (.int .u64 (N2' : Int)) (.int .u64 0) (.int .u64 (D2 : Int))))
    go_region_held3 (fun w' => w'.cell? ⟨pX, 0, none⟩ = some (.int .u64 0) ∧ w'.cell? ⟨pX, 1, none⟩ = some (.int .u64 (N1 : Int)) ∧ w'.cell? ⟨pX, 2, none⟩ = some (.int .u64 0) ∧ w'.cell? ⟨pX, 3, none⟩ = some (.int .u64 (D1 : Int)) ∧ w'.cell? ⟨pY, 0, none⟩ = some (.int .u64 0) ∧ w'.cell? ⟨pY, 1, none⟩ = some (.int .u64 (N2' : Int)) ∧ w'.cell? ⟨pY, 2, none⟩ = some (.int .u64 0) ∧ w'.cell? ⟨pY, 3, none⟩ = some (.int .u64 (D2 : Int)) ∧ Box4 w' pX (.int .u64 0) (.int .u64 (N1 : Int)) (.int .u64 0) (.int .u64 (D1 : Int)) ∧ Box4 w' pY (.int .u64 0) (.int .u64 (N2' : Int)) (.int .u64 0) (.int .u64 (D2 : Int)))
      (first | (refine BX.out _ ?_ ?_ <;> (repeat (first | with_reducible assumption | with_reducible refine Box4.far ?_ (by omega) _ | with_reducible refine Box4.ext ?_ (Ext.refl _).drew))))
      (fail)
    go_wp2_with fail
    have hp1 : w.heap.size ≤ p := by omega
    have hp2 : w.heap.size ≤ p + 1 := by omega
    go_roundw
    case rel => exact ⟨k + 1, N1, D1, N2', D2, by go_num, by omega, NF, NG, ((((((((hx.setCell (p := ⟨p, 0, none⟩) hp1 _).setCell (p := ⟨p, 1, none⟩) hp1 _).setCell (p := ⟨p, 2, none⟩) hp1 _).setCell (p := ⟨p, 3, none⟩) hp1 _).setCell (p := ⟨p + 1, 0, none⟩) hp2 _).setCell (p := ⟨p + 1, 1, none⟩) hp2 _).setCell (p := ⟨p + 1, 2, none⟩) hp2 _).setCell (p := ⟨p + 1, 3, none⟩) hp2 _).drew, ((((((((bQ.far (by omega) _).far (by omega) _).far (by omega) _).far (by omega) _).far (by omega) _).far (by omega) _).far (by omega) _).far (by omega) _).ext (Ext.refl _).drew, ((((((((bT.far (by omega) _).far (by omega) _).far (by omega) _).far (by omega) _).far (by omega) _).far (by omega) _).far (by omega) _).far (by omega) _).ext (Ext.refl _).drew, ((((((((bU.put0 _).put1 _).put2 _).put3 _).far (by omega) _).far (by omega) _).far (by omega) _).far (by omega) _).ext (Ext.refl _).drew, ((((((((bD.far (by omega) _).far (by omega) _).far (by omega) _).far (by omega) _).put0 _).put1 _).put2 _).put3 _).ext (Ext.refl _).drew⟩
    case measure => simp [intOf]; omega
  · obtain rfl : k = 4 := by omega
    obtain ⟨f1, f2, f3⟩ := FU.out 4 hk
    have hG' := hG.out
    have hF' := hF.out
    rw [frac_back, hF'] at hG'
    rw [hF'] at f1 f2 f3
    simp only [Prod.mk.injEq] at hG'
    obtain ⟨e1, e2⟩ := hG'
    subst e1 e2
    clear hF' hF hG FU FD HN HD HQ HT bQ bT hle hk hk4 CO
    simp only at f1 f2 f3
    obtain ⟨z, hz⟩ : ∃ z, N / D = z := ⟨_, rfl⟩
    obtain ⟨r, hr⟩ : ∃ r, N % D = r := ⟨_, rfl⟩
    have hdm := Nat.div_add_mod N D
    have hrD : r < D := by rw [← hr]; exact Nat.mod_lt _ f1
    have hzz : z ≤ 4092 := by
      rw [← hz]
      exact Nat.div_le_of_le_mul f3
    rw [hz, hr] at hdm
    have hDz : D * z ≤ D * 4092 := Nat.mul_le_mul_left _ hzz
    obtain ⟨M, hM⟩ : ∃ M, N + D = M := ⟨_, rfl⟩
    have P3 : Hid (∀ w, Calls Try.prog 23 #[(.agg #[.int .u64 0, .int .u64 (N : Int), .int .u64 0, .int .u64 (D : Int)]), .int .i64 1, .int .i64 1] w fun e w' => e = .returned (.tuple #[(.agg #[.int .u64 0, .int .u64 (M : Int), .int .u64 0, .int .u64 (D : Int)]), .bool true]) ∧ Ext w w') := Lib.hid (fun w => plus_small N D 1 1 M D w (by omega) (by omega) f1 (by omega) (by omega) (by omega) (by omega) (by omega) (by omega))
    have DV := Lib.hid (fun w => div_small N D w (by omega) f1 (by omega))
    simp only [hz, hr] at DV
    have A3 : Hid (∀ w, Calls Try.prog 25 #[(.agg #[.int .u64 0, .int .u64 (M : Int), .int .u64 0, .int .u64 (D : Int)]), .int .i64 (z : Int), .int .i64 1] w fun e w' => e = .returned (.tuple #[.int .i64 1, .bool true]) ∧ Ext w w') := Lib.hid (fun w => against_small M D z 1 1 w (by omega) (by omega) f1 (by omega) (by omega) (by unfold cmpI; rw [if_neg (by omega), if_pos (by omega)]) (by omega) (by omega))
    have DV' : Hid (∀ w, Calls Try.prog 28 #[.agg #[.int .u64 0, .int .u64 (N : Int)], .int .u64 (D : Int)] w fun e w' => e = .returned (.tuple #[.agg #[.int .u64 0, .int .u64 (z : Int)], .int .u64 (r : Int), .bool true]) ∧ Ext w w') := DV
    clear DV
    have i1 : (0 : Int) ≤ (z : Int) := by omega
    have i2 : (z : Int) ≤ 9223372036854775807 := by omega
    have i3 : (r : Int) < (D : Int) := by omega
    have i4 : IntKind.i64.wrap (z : Int) = (z : Int) := by rw [IntKind.wrap_i64]; omega
    by_cases hr0 : r = 0
    · skip
      have A2 : Hid (∀ w, Calls Try.prog 25 #[(.agg #[.int .u64 0, .int .u64 (N : Int), .int .u64 0, .int .u64 (D : Int)]), .int .i64 (z : Int), .int .i64 1] w fun e w' => e = .returned (.tuple #[.int .i64 0, .bool true]) ∧ Ext w w') := Lib.hid (fun w => against_small N D z 1 0 w (by omega) (by omega) f1 (by omega) (by omega) (by unfold cmpI; rw [if_neg (by omega), if_neg (by omega)]) (by omega) (by omega))
      clear f1 f2 f3 hz hr hdm hrD hzz hDz hM
      subst hr0
      obtain ⟨bU0, bU1, bU2, bU3, bU4, bU5, bU6, bU7, bU8⟩ := bU.ext (Ext.refl _)
      obtain ⟨bD0, bD1, bD2, bD3, bD4, bD5, bD6, bD7, bD8⟩ := bD.ext (Ext.refl _)
      go_wp2_with fail
      clear bU0 bU1 bU2 bU3 bU4 bU5 bU6 bU7 bU8
      clear bD0 bD1 bD2 bD3 bD4 bD5 bD6 bD7 bD8
      refine (P3.out _).mono ?_
      rintro en v1 ⟨rfl, hy⟩
      have hx' := hx.trans hy
      clear hx
      have hx := hx'
      clear hx'
      have bU' := bU.ext hy
      clear bU
      have bU := bU'
      clear bU'
      have bD' := bD.ext hy
      clear bD
      have bD := bD'
      clear bD'
      clear hy
      obtain ⟨bU0, bU1, bU2, bU3, bU4, bU5, bU6, bU7, bU8⟩ := bU.ext (Ext.refl _)
      obtain ⟨bD0, bD1, bD2, bD3, bD4, bD5, bD6, bD7, bD8⟩ := bD.ext (Ext.refl _)
      go_wp2_with fail
      clear bU0 bU1 bU2 bU3 bU4 bU5 bU6 bU7 bU8
      clear bD0 bD1 bD2 bD3 bD4 bD5 bD6 bD7 bD8
      have bM := Box4.new v1 (.int .u64 0) (.int .u64 (M : Int)) (.int .u64 0) (.int .u64 (D : Int)) 41
      have hal := (Ext.refl v1).alloc (.cells #[.int .u64 0, .int .u64 (M : Int), .int .u64 0, .int .u64 (D : Int)] 41)
      have hx' := hx.trans hal
      clear hx
      have hx := hx'
      clear hx'
      have bU' := bU.ext hal
      clear bU
      have bU := bU'
      clear bU'
      have bD' := bD.ext hal
      clear bD
      have bD := bD'
      clear bD'
      clear hal
      refine (DV'.out _).mono ?_
      rintro en v2 ⟨rfl, hy⟩
      have hx' := hx.trans hy
      clear hx
      have hx := hx'
      clear hx'
      have bU' := bU.ext hy
      clear bU
      have bU := bU'
      clear bU'
      have bD' := bD.ext hy
      clear bD
      have bD := bD'
      clear bD'
      have bM' := bM.ext hy
      clear bM
      have bM := bM'
      clear bM'
      clear hy
      obtain ⟨bU0, bU1, bU2, bU3, bU4, bU5, bU6, bU7, bU8⟩ := bU.ext (Ext.refl _)
      obtain ⟨bD0, bD1, bD2, bD3, bD4, bD5, bD6, bD7, bD8⟩ := bD.ext (Ext.refl _)
      obtain ⟨bM0, bM1, bM2, bM3, bM4, bM5, bM6, bM7, bM8⟩ := bM.ext (Ext.refl _)
      go_wp2_with fail
      clear bU0 bU1 bU2 bU3 bU4 bU5 bU6 bU7 bU8
      clear bD0 bD1 bD2 bD3 bD4 bD5 bD6 bD7 bD8
      clear bM0 bM1 bM2 bM3 bM4 bM5 bM6 bM7 bM8
      have bH := BoxW.new v2 (.int .u64 0) (.int .u64 (z : Int)) 24
      have hal := (Ext.refl v2).alloc (.cells #[.int .u64 0, .int .u64 (z : Int)] 24)
      have hx' := hx.trans hal
      clear hx
      have hx := hx'
      clear hx'
      have bU' := bU.ext hal
      clear bU
      have bU := bU'
      clear bU'
      have bD' := bD.ext hal
      clear bD
      have bD := bD'
      clear bD'
      have bM' := bM.ext hal
      clear bM
      have bM := bM'
      clear bM'
      clear hal
      refine (A2.out _).mono ?_
      rintro en v3 ⟨rfl, hy⟩
      have hx' := hx.trans hy
      clear hx
      have hx := hx'
      clear hx'
      have bU' := bU.ext hy
      clear bU
      have bU := bU'
      clear bU'
      have bD' := bD.ext hy
      clear bD
      have bD := bD'
      clear bD'
      have bM' := bM.ext hy
      clear bM
      have bM := bM'
      clear bM'
      have bH' := bH.ext hy
      clear bH
      have bH := bH'
      clear bH'
      clear hy
      obtain ⟨bU0, bU1, bU2, bU3, bU4, bU5, bU6, bU7, bU8⟩ := bU.ext (Ext.refl _)
      obtain ⟨bD0, bD1, bD2, bD3, bD4, bD5, bD6, bD7, bD8⟩ := bD.ext (Ext.refl _)
      obtain ⟨bM0, bM1, bM2, bM3, bM4, bM5, bM6, bM7, bM8⟩ := bM.ext (Ext.refl _)
      obtain ⟨bH0, bH1, bH2, bH3, bH4⟩ := bH.ext (Ext.refl _)
      go_wp2_with fail
      clear bU0 bU1 bU2 bU3 bU4 bU5 bU6 bU7 bU8
      clear bD0 bD1 bD2 bD3 bD4 bD5 bD6 bD7 bD8
      clear bM0 bM1 bM2 bM3 bM4 bM5 bM6 bM7 bM8
      clear bH0 bH1 bH2 bH3 bH4
      refine (A3.out _).mono ?_
      rintro en v4 ⟨rfl, hy⟩
      have hx' := hx.trans hy
      clear hx
      have hx := hx'
      clear hx'
      have bU' := bU.ext hy
      clear bU
      have bU := bU'
      clear bU'
      have bD' := bD.ext hy
      clear bD
      have bD := bD'
      clear bD'
      have bM' := bM.ext hy
      clear bM
      have bM := bM'
      clear bM'
      have bH' := bH.ext hy
      clear bH
      have bH := bH'
      clear bH'
      clear hy
      obtain ⟨bU0, bU1, bU2, bU3, bU4, bU5, bU6, bU7, bU8⟩ := bU.ext (Ext.refl _)
      obtain ⟨bD0, bD1, bD2, bD3, bD4, bD5, bD6, bD7, bD8⟩ := bD.ext (Ext.refl _)
      obtain ⟨bM0, bM1, bM2, bM3, bM4, bM5, bM6, bM7, bM8⟩ := bM.ext (Ext.refl _)
      obtain ⟨bH0, bH1, bH2, bH3, bH4⟩ := bH.ext (Ext.refl _)
      go_wp2_with fail
      go_ret
      first | exact ⟨rfl, hx⟩ | exact ⟨by simp [i6], hx⟩
    · skip
      have A2 : Hid (∀ w, Calls Try.prog 25 #[(.agg #[.int .u64 0, .int .u64 (N : Int), .int .u64 0, .int .u64 (D : Int)]), .int .i64 (z : Int), .int .i64 1] w fun e w' => e = .returned (.tuple #[.int .i64 1, .bool true]) ∧ Ext w w') := Lib.hid (fun w => against_small N D z 1 1 w (by omega) (by omega) f1 (by omega) (by omega) (by unfold cmpI; rw [if_neg (by omega), if_pos (by omega)]) (by omega) (by omega))
      clear f1 f2 f3 hz hr hdm hrD hzz hDz hM
      have i5 : (r : Int) ≠ 0 := by omega
      have i6 : ((r : Int) == 0) = false := beq_false_of_ne i5
      obtain ⟨bU0, bU1, bU2, bU3, bU4, bU5, bU6, bU7, bU8⟩ := bU.ext (Ext.refl _)
      obtain ⟨bD0, bD1, bD2, bD3, bD4, bD5, bD6, bD7, bD8⟩ := bD.ext (Ext.refl _)
      go_wp2_with fail
      clear bU0 bU1 bU2 bU3 bU4 bU5 bU6 bU7 bU8
      clear bD0 bD1 bD2 bD3 bD4 bD5 bD6 bD7 bD8
      refine (P3.out _).mono ?_
      rintro en v1 ⟨rfl, hy⟩
      have hx' := hx.trans hy
      clear hx
      have hx := hx'
      clear hx'
      have bU' := bU.ext hy
      clear bU
      have bU := bU'
      clear bU'
      have bD' := bD.ext hy
      clear bD
      have bD := bD'
      clear bD'
      clear hy
      obtain ⟨bU0, bU1, bU2, bU3, bU4, bU5, bU6, bU7, bU8⟩ := bU.ext (Ext.refl _)
      obtain ⟨bD0, bD1, bD2, bD3, bD4, bD5, bD6, bD7, bD8⟩ := bD.ext (Ext.refl _)
      go_wp2_with fail
      clear bU0 bU1 bU2 bU3 bU4 bU5 bU6 bU7 bU8
      clear bD0 bD1 bD2 bD3 bD4 bD5 bD6 bD7 bD8
      have bM := Box4.new v1 (.int .u64 0) (.int .u64 (M : Int)) (.int .u64 0) (.int .u64 (D : Int)) 41
      have hal := (Ext.refl v1).alloc (.cells #[.int .u64 0, .int .u64 (M : Int), .int .u64 0, .int .u64 (D : Int)] 41)
      have hx' := hx.trans hal
      clear hx
      have hx := hx'
      clear hx'
      have bU' := bU.ext hal
      clear bU
      have bU := bU'
      clear bU'
      have bD' := bD.ext hal
      clear bD
      have bD := bD'
      clear bD'
      clear hal
      refine (DV'.out _).mono ?_
      rintro en v2 ⟨rfl, hy⟩
      have hx' := hx.trans hy
      clear hx
      have hx := hx'
      clear hx'
      have bU' := bU.ext hy
      clear bU
      have bU := bU'
      clear bU'
      have bD' := bD.ext hy
      clear bD
      have bD := bD'
      clear bD'
      have bM' := bM.ext hy
      clear bM
      have bM := bM'
      clear bM'
      clear hy
      obtain ⟨bU0, bU1, bU2, bU3, bU4, bU5, bU6, bU7, bU8⟩ := bU.ext (Ext.refl _)
      obtain ⟨bD0, bD1, bD2, bD3, bD4, bD5, bD6, bD7, bD8⟩ := bD.ext (Ext.refl _)
      obtain ⟨bM0, bM1, bM2, bM3, bM4, bM5, bM6, bM7, bM8⟩ := bM.ext (Ext.refl _)
      go_wp2_with fail
      clear bU0 bU1 bU2 bU3 bU4 bU5 bU6 bU7 bU8
      clear bD0 bD1 bD2 bD3 bD4 bD5 bD6 bD7 bD8
      clear bM0 bM1 bM2 bM3 bM4 bM5 bM6 bM7 bM8
      have bH := BoxW.new v2 (.int .u64 0) (.int .u64 (z : Int)) 24
      have hal := (Ext.refl v2).alloc (.cells #[.int .u64 0, .int .u64 (z : Int)] 24)
      have hx' := hx.trans hal
      clear hx
      have hx := hx'
      clear hx'
      have bU' := bU.ext hal
      clear bU
      have bU := bU'
      clear bU'
      have bD' := bD.ext hal
      clear bD
      have bD := bD'
      clear bD'
      have bM' := bM.ext hal
      clear bM
      have bM := bM'
      clear bM'
      clear hal
      refine (A2.out _).mono ?_
      rintro en v3 ⟨rfl, hy⟩
      have hx' := hx.trans hy
      clear hx
      have hx := hx'
      clear hx'
      have bU' := bU.ext hy
      clear bU
      have bU := bU'
      clear bU'
      have bD' := bD.ext hy
      clear bD
      have bD := bD'
      clear bD'
      have bM' := bM.ext hy
      clear bM
      have bM := bM'
      clear bM'
      have bH' := bH.ext hy
      clear bH
      have bH := bH'
      clear bH'
      clear hy
      obtain ⟨bU0, bU1, bU2, bU3, bU4, bU5, bU6, bU7, bU8⟩ := bU.ext (Ext.refl _)
      obtain ⟨bD0, bD1, bD2, bD3, bD4, bD5, bD6, bD7, bD8⟩ := bD.ext (Ext.refl _)
      obtain ⟨bM0, bM1, bM2, bM3, bM4, bM5, bM6, bM7, bM8⟩ := bM.ext (Ext.refl _)
      obtain ⟨bH0, bH1, bH2, bH3, bH4⟩ := bH.ext (Ext.refl _)
      go_wp2_with fail
      clear bU0 bU1 bU2 bU3 bU4 bU5 bU6 bU7 bU8
      clear bD0 bD1 bD2 bD3 bD4 bD5 bD6 bD7 bD8
      clear bM0 bM1 bM2 bM3 bM4 bM5 bM6 bM7 bM8
      clear bH0 bH1 bH2 bH3 bH4
      refine (A3.out _).mono ?_
      rintro en v4 ⟨rfl, hy⟩
      have hx' := hx.trans hy
      clear hx
      have hx := hx'
      clear hx'
      have bU' := bU.ext hy
      clear bU
      have bU := bU'
      clear bU'
      have bD' := bD.ext hy
      clear bD
      have bD := bD'
      clear bD'
      have bM' := bM.ext hy
      clear bM
      have bM := bM'
      clear bM'
      have bH' := bH.ext hy
      clear bH
      have bH := bH'
      clear bH'
      clear hy
      obtain ⟨bU0, bU1, bU2, bU3, bU4, bU5, bU6, bU7, bU8⟩ := bU.ext (Ext.refl _)
      obtain ⟨bD0, bD1, bD2, bD3, bD4, bD5, bD6, bD7, bD8⟩ := bD.ext (Ext.refl _)
      obtain ⟨bM0, bM1, bM2, bM3, bM4, bM5, bM6, bM7, bM8⟩ := bM.ext (Ext.refl _)
      obtain ⟨bH0, bH1, bH2, bH3, bH4⟩ := bH.ext (Ext.refl _)
      go_wp2_with fail
      go_ret
      first | exact ⟨rfl, hx⟩ | exact ⟨by simp [i6], hx⟩
theorem orders_any (a0 a1 a2 a3 t0 t1 t2 t3 : Int) (w : World) :
    Calls Try.prog 9 #[.agg #[.int .i64 a0, .int .i64 a1, .int .i64 a2, .int .i64 a3], .agg #[.int .i64 t0, .int .i64 t1, .int .i64 t2, .int .i64 t3]] w fun e w' => e = .returned (.bool true) ∧ Ext w w' :=
  orders_f (fun | 0 => a0 | 1 => a1 | 2 => a2 | _ => a3) (fun | 0 => t0 | 1 => t1 | 2 => t2 | _ => t3) (fun i => ((match i with | 0 => a0 | 1 => a1 | 2 => a2 | _ => a3 : Int) % 1024).toNat) (fun i => ((match i with | 0 => t0 | 1 => t1 | 2 => t2 | _ => t3 : Int) % 1024 + 1).toNat) w
    (fun i => by omega) (fun i => by omega)
end Go.Proofs.Ytbclkhkpmdbedaa
