/-
  The statement WideParts, walked: way 1.
-/
import Derived.Test.YtbclkhkpmdbedaaWParts0
import Derived.BigRegion
namespace Go.Proofs.Ytbclkhkpmdbedaa
open Go.RowKit
set_option linter.unusedVariables false
set_option maxRecDepth 100000 in
set_option maxHeartbeats 12800000 in
theorem parts_w0 (a b c d r1 r2 r3 r4 : Nat) (q t v z : Int) (ok ok2 ok3 : Bool) (x y : Nat) (w : World)
    (g1 : (x : Int) ≤ 9223372036854775807) (g2 : 1 ≤ (y : Int)) (g3 : (y : Int) ≤ 9223372036854775807)
    (AL : Hid (∀ w : World, Calls Try.prog 10 #[] w fun en w' => en = .returned (.bool true) ∧ Ext w w'))
    (P1 : Hid (∀ w : World, Calls Try.prog 23 #[.agg #[.int .u64 (a : Int), .int .u64 (b : Int), .int .u64 (c : Int), .int .u64 (d : Int)], .int .i64 q, .int .i64 t] w fun e w' => e = .returned (.tuple #[.agg #[.int .u64 (r1 : Int), .int .u64 (r2 : Int), .int .u64 (r3 : Int), .int .u64 (r4 : Int)], .bool ok]) ∧ Ext w w'))
    (P2 : Hid (∀ w : World, Calls Try.prog 24 #[.agg #[.int .u64 (a : Int), .int .u64 (b : Int), .int .u64 (c : Int), .int .u64 (d : Int)], .int .i64 q, .int .i64 t] w fun e w' => e = .returned (.tuple #[.agg #[.int .u64 (r1 : Int), .int .u64 (r2 : Int), .int .u64 (r3 : Int), .int .u64 (r4 : Int)], .bool ok]) ∧ Ext w w'))
    (P3 : Hid (∀ w : World, Calls Try.prog 25 #[.agg #[.int .u64 (a : Int), .int .u64 (b : Int), .int .u64 (c : Int), .int .u64 (d : Int)], .int .i64 q, .int .i64 t] w fun e w' => e = .returned (.tuple #[.int .i64 v, .bool ok2]) ∧ Ext w w'))
    (P4 : Hid (∀ w : World, Calls Try.prog 26 #[.agg #[.int .u64 (a : Int), .int .u64 (b : Int), .int .u64 (c : Int), .int .u64 (d : Int)], .int .i64 q, .int .i64 t] w fun e w' => e = .returned (.tuple #[.int .i64 v, .bool ok2]) ∧ Ext w w'))
    (P5 : Hid (∀ w : World, Calls Try.prog 22 #[.int .i64 (x : Int), .int .i64 (y : Int), .int .i64 q, .int .i64 t] w fun e w' => e = .returned (.tuple #[.int .i64 z, .bool ok3]) ∧ Ext w w'))
    (P6 : Hid (∀ w : World, Calls Try.prog 26 #[.agg #[.int .u64 0, .int .u64 (x : Int), .int .u64 0, .int .u64 (y : Int)], .int .i64 q, .int .i64 t] w fun e w' => e = .returned (.tuple #[.int .i64 z, .bool ok3]) ∧ Ext w w')) :
    Calls Try.prog 6 #[.agg #[.int .u64 (a : Int), .int .u64 (b : Int), .int .u64 (c : Int), .int .u64 (d : Int), .int .i64 q, .int .i64 t, .int .i64 (x : Int), .int .i64 (y : Int)]] w fun e w' => e = .returned (.bool true) ∧ Ext w w' := by
  go_enter Try.func6, Try.ntmps6
  go_wp2_with fail
  go_region
  have hw : Ext w ((w.alloc (.cells #[.int .u64 (a : Int), .int .u64 (b : Int), .int .u64 (c : Int), .int .u64 (d : Int), .int .i64 q, .int .i64 t, .int .i64 (x : Int), .int .i64 (y : Int)] 43)).alloc (.cells #[.int .u64 (a : Int), .int .u64 (b : Int), .int .u64 (c : Int), .int .u64 (d : Int)] 41)).drew := (((Ext.refl w).alloc _).alloc _).drew
  have bP : Box4 ((w.alloc (.cells #[.int .u64 (a : Int), .int .u64 (b : Int), .int .u64 (c : Int), .int .u64 (d : Int), .int .i64 q, .int .i64 t, .int .i64 (x : Int), .int .i64 (y : Int)] 43)).alloc (.cells #[.int .u64 (a : Int), .int .u64 (b : Int), .int .u64 (c : Int), .int .u64 (d : Int)] 41)).drew (w.heap.size + 1) (.int .u64 (a : Int)) (.int .u64 (b : Int)) (.int .u64 (c : Int)) (.int .u64 (d : Int)) := by
    have h := (Box4.new (w.alloc (.cells #[.int .u64 (a : Int), .int .u64 (b : Int), .int .u64 (c : Int), .int .u64 (d : Int), .int .i64 q, .int .i64 t, .int .i64 (x : Int), .int .i64 (y : Int)] 43)) (.int .u64 (a : Int)) (.int .u64 (b : Int)) (.int .u64 (c : Int)) (.int .u64 (d : Int)) 41).ext (Ext.refl _).drew
    simpa using h
  generalize ((w.alloc (.cells #[.int .u64 (a : Int), .int .u64 (b : Int), .int .u64 (c : Int), .int .u64 (d : Int), .int .i64 q, .int .i64 t, .int .i64 (x : Int), .int .i64 (y : Int)] 43)).alloc (.cells #[.int .u64 (a : Int), .int .u64 (b : Int), .int .u64 (c : Int), .int .u64 (d : Int)] 41)).drew = W at *
  obtain ⟨bP0, bP1, bP2, bP3, bP4, bP5, bP6, bP7, bP8⟩ := bP.ext (Ext.refl _)
  go_wp2_with fail
  refine (AL.out _).mono ?_
  rintro en u0 ⟨rfl, hy⟩
  have hq := hy
  have hw' := hw.trans hq
  clear hw
  have hw := hw'
  clear hw'
  clear bP0 bP1 bP2 bP3 bP4 bP5 bP6 bP7 bP8
  have bP' := bP.ext hq
  clear bP
  have bP := bP'
  clear bP'
  clear hy hq
  obtain ⟨bP0, bP1, bP2, bP3, bP4, bP5, bP6, bP7, bP8⟩ := bP.ext (Ext.refl _)
  go_wp2_with fail
  refine (P1.out _).mono ?_
  rintro en u1 ⟨rfl, hy⟩
  have hq := hy
  have hw' := hw.trans hq
  clear hw
  have hw := hw'
  clear hw'
  clear bP0 bP1 bP2 bP3 bP4 bP5 bP6 bP7 bP8
  have bP' := bP.ext hq
  clear bP
  have bP := bP'
  clear bP'
  clear hy hq
  obtain ⟨bP0, bP1, bP2, bP3, bP4, bP5, bP6, bP7, bP8⟩ := bP.ext (Ext.refl _)
  go_wp2_with fail
  refine (P2.out _).mono ?_
  rintro en u2 ⟨rfl, hy⟩
  have bX := (Box4.new u1 (.int .u64 (r1 : Int)) (.int .u64 (r2 : Int)) (.int .u64 (r3 : Int)) (.int .u64 (r4 : Int)) 41).ext hy
  have hq := ((Ext.refl u1).alloc (.cells #[.int .u64 (r1 : Int), .int .u64 (r2 : Int), .int .u64 (r3 : Int), .int .u64 (r4 : Int)] 41)).trans hy
  have hw' := hw.trans hq
  clear hw
  have hw := hw'
  clear hw'
  clear bP0 bP1 bP2 bP3 bP4 bP5 bP6 bP7 bP8
  have bP' := bP.ext hq
  clear bP
  have bP := bP'
  clear bP'
  clear hy hq
  obtain ⟨bP0, bP1, bP2, bP3, bP4, bP5, bP6, bP7, bP8⟩ := bP.ext (Ext.refl _)
  obtain ⟨bX0, bX1, bX2, bX3, bX4, bX5, bX6, bX7, bX8⟩ := bX.ext (Ext.refl _)
  go_wp2_with fail
  refine (P3.out _).mono ?_
  rintro en u3 ⟨rfl, hy⟩
  have bW := (Box4.new u2 (.int .u64 (r1 : Int)) (.int .u64 (r2 : Int)) (.int .u64 (r3 : Int)) (.int .u64 (r4 : Int)) 41).ext hy
  have hq := ((Ext.refl u2).alloc (.cells #[.int .u64 (r1 : Int), .int .u64 (r2 : Int), .int .u64 (r3 : Int), .int .u64 (r4 : Int)] 41)).trans hy
  have hw' := hw.trans hq
  clear hw
  have hw := hw'
  clear hw'
  clear bP0 bP1 bP2 bP3 bP4 bP5 bP6 bP7 bP8
  clear bX0 bX1 bX2 bX3 bX4 bX5 bX6 bX7 bX8
  have bP' := bP.ext hq
  clear bP
  have bP := bP'
  clear bP'
  have bX' := bX.ext hq
  clear bX
  have bX := bX'
  clear bX'
  clear hy hq
  obtain ⟨bP0, bP1, bP2, bP3, bP4, bP5, bP6, bP7, bP8⟩ := bP.ext (Ext.refl _)
  obtain ⟨bX0, bX1, bX2, bX3, bX4, bX5, bX6, bX7, bX8⟩ := bX.ext (Ext.refl _)
  obtain ⟨bW0, bW1, bW2, bW3, bW4, bW5, bW6, bW7, bW8⟩ := bW.ext (Ext.refl _)
  go_wp2_with fail
  refine (P4.out _).mono ?_
  rintro en u4 ⟨rfl, hy⟩
  have hq := hy
  have hw' := hw.trans hq
  clear hw
  have hw := hw'
  clear hw'
  clear bP0 bP1 bP2 bP3 bP4 bP5 bP6 bP7 bP8
  clear bX0 bX1 bX2 bX3 bX4 bX5 bX6 bX7 bX8
  clear bW0 bW1 bW2 bW3 bW4 bW5 bW6 bW7 bW8
  have bP' := bP.ext hq
  clear bP
  have bP := bP'
  clear bP'
  have bX' := bX.ext hq
  clear bX
  have bX := bX'
  clear bX'
  have bW' := bW.ext hq
  clear bW
  have bW := bW'
  clear bW'
  clear hy hq
  obtain ⟨bP0, bP1, bP2, bP3, bP4, bP5, bP6, bP7, bP8⟩ := bP.ext (Ext.refl _)
  obtain ⟨bX0, bX1, bX2, bX3, bX4, bX5, bX6, bX7, bX8⟩ := bX.ext (Ext.refl _)
  obtain ⟨bW0, bW1, bW2, bW3, bW4, bW5, bW6, bW7, bW8⟩ := bW.ext (Ext.refl _)
  go_wp2_with fail
  refine (P5.out _).mono ?_
  rintro en u5 ⟨rfl, hy⟩
  have hq := hy
  have hw' := hw.trans hq
  clear hw
  have hw := hw'
  clear hw'
  clear bP0 bP1 bP2 bP3 bP4 bP5 bP6 bP7 bP8
  clear bX0 bX1 bX2 bX3 bX4 bX5 bX6 bX7 bX8
  clear bW0 bW1 bW2 bW3 bW4 bW5 bW6 bW7 bW8
  have bP' := bP.ext hq
  clear bP
  have bP := bP'
  clear bP'
  have bX' := bX.ext hq
  clear bX
  have bX := bX'
  clear bX'
  have bW' := bW.ext hq
  clear bW
  have bW := bW'
  clear bW'
  clear hy hq
  obtain ⟨bP0, bP1, bP2, bP3, bP4, bP5, bP6, bP7, bP8⟩ := bP.ext (Ext.refl _)
  obtain ⟨bX0, bX1, bX2, bX3, bX4, bX5, bX6, bX7, bX8⟩ := bX.ext (Ext.refl _)
  obtain ⟨bW0, bW1, bW2, bW3, bW4, bW5, bW6, bW7, bW8⟩ := bW.ext (Ext.refl _)
  go_wp2_with fail
  refine (P6.out _).mono ?_
  rintro en u6 ⟨rfl, hy⟩
  have hq := hy
  have hw' := hw.trans hq
  clear hw
  have hw := hw'
  clear hw'
  clear bP0 bP1 bP2 bP3 bP4 bP5 bP6 bP7 bP8
  clear bX0 bX1 bX2 bX3 bX4 bX5 bX6 bX7 bX8
  clear bW0 bW1 bW2 bW3 bW4 bW5 bW6 bW7 bW8
  have bP' := bP.ext hq
  clear bP
  have bP := bP'
  clear bP'
  have bX' := bX.ext hq
  clear bX
  have bX := bX'
  clear bX'
  have bW' := bW.ext hq
  clear bW
  have bW := bW'
  clear bW'
  clear hy hq
  obtain ⟨bP0, bP1, bP2, bP3, bP4, bP5, bP6, bP7, bP8⟩ := bP.ext (Ext.refl _)
  obtain ⟨bX0, bX1, bX2, bX3, bX4, bX5, bX6, bX7, bX8⟩ := bX.ext (Ext.refl _)
  obtain ⟨bW0, bW1, bW2, bW3, bW4, bW5, bW6, bW7, bW8⟩ := bW.ext (Ext.refl _)
  go_wp2_with fail
  go_ret
  exact ⟨rfl, hw⟩
end Go.Proofs.Ytbclkhkpmdbedaa
