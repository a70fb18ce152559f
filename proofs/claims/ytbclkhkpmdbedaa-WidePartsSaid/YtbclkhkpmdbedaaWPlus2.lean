/-
  The document's Plus, walked; both where nothing is legal; the statement WideParts, walked.
-/
import Derived.Test.YtbclkhkpmdbedaaWPlus
namespace Go.Proofs.Ytbclkhkpmdbedaa
open Go.RowKit
set_option linter.unusedVariables false
set_option maxHeartbeats 1600000 in
theorem wplus_no (a b c d : Nat) (q t : Int) (w : World) (h : (c = 0 ∧ d = 0) ∨ q < 0 ∨ t < 1) :
    Calls Try.prog 23 #[pv a b c d, .int .i64 q, .int .i64 t] w fun e w' => e = .returned (.tuple #[pv 0 0 0 0, .bool false]) ∧ Ext w w' := by
  have L := Lib.hid (fun w => legal_no a b c d q t w h)
  clear h
  unfold pv at *
  go_enter Try.func23, Try.ntmps23
  go_wp2_with fail
  refine (L.out _).mono ?_
  rintro en u0 ⟨rfl, hy⟩
  have hw : Ext w u0 := (((Ext.refl w).alloc (.cells #[.int .u64 (a : Int), .int .u64 (b : Int), .int .u64 (c : Int), .int .u64 (d : Int)] 41)).alloc (.cells #[.int .u64 0, .int .u64 0, .int .u64 0, .int .u64 0] 41)).trans hy
  have bP : Box4 u0 w.heap.size (.int .u64 (a : Int)) (.int .u64 (b : Int)) (.int .u64 (c : Int)) (.int .u64 (d : Int)) := ((Box4.new w _ _ _ _ _).alloc _).ext hy
  have bR : Box4 u0 (w.heap.size + 1) (.int .u64 0) (.int .u64 0) (.int .u64 0) (.int .u64 0) := by
    have h := (Box4.new (w.alloc (.cells #[.int .u64 (a : Int), .int .u64 (b : Int), .int .u64 (c : Int), .int .u64 (d : Int)] 41)) (.int .u64 0) (.int .u64 0) (.int .u64 0) (.int .u64 0) 41).ext hy
    simpa using h
  clear hy
  have hr : w.heap.size ≤ w.heap.size + 1 := by omega
  obtain ⟨bP0, bP1, bP2, bP3, bP4, bP5, bP6, bP7, bP8⟩ := bP.ext (Ext.refl _)
  obtain ⟨bR0, bR1, bR2, bR3, bR4, bR5, bR6, bR7, bR8⟩ := bR.ext (Ext.refl _)
  go_wp2_with fail
  refine bodyPost_ret (v := .tuple #[.agg #[.int .u64 0, .int .u64 0, .int .u64 0, .int .u64 0], .bool false]) (by simp [results, Try.results23, go_sem, bR0, bR1, bR2, bR3]) rfl ?_
  exact ⟨rfl, (((hw.setCell hr _).setCell hr _).setCell hr _).setCell hr _⟩
set_option maxHeartbeats 1600000 in
theorem rplus_no (a b c d : Nat) (q t : Int) (w : World) (h : (c = 0 ∧ d = 0) ∨ q < 0 ∨ t < 1) :
    Calls Try.prog 24 #[pv a b c d, .int .i64 q, .int .i64 t] w fun e w' => e = .returned (.tuple #[pv 0 0 0 0, .bool false]) ∧ Ext w w' := by
  have L := Lib.hid (fun w => rlegal_no a b c d q t w h)
  clear h
  unfold pv at *
  go_enter Try.func24, Try.ntmps24
  go_wp2_with fail
  refine (L.out _).mono ?_
  rintro en u0 ⟨rfl, hy⟩
  have hw : Ext w u0 := (((Ext.refl w).alloc (.cells #[.int .u64 (a : Int), .int .u64 (b : Int), .int .u64 (c : Int), .int .u64 (d : Int)] 41)).alloc (.cells #[.int .u64 0, .int .u64 0, .int .u64 0, .int .u64 0] 41)).trans hy
  have bP : Box4 u0 w.heap.size (.int .u64 (a : Int)) (.int .u64 (b : Int)) (.int .u64 (c : Int)) (.int .u64 (d : Int)) := ((Box4.new w _ _ _ _ _).alloc _).ext hy
  have bR : Box4 u0 (w.heap.size + 1) (.int .u64 0) (.int .u64 0) (.int .u64 0) (.int .u64 0) := by
    have h := (Box4.new (w.alloc (.cells #[.int .u64 (a : Int), .int .u64 (b : Int), .int .u64 (c : Int), .int .u64 (d : Int)] 41)) (.int .u64 0) (.int .u64 0) (.int .u64 0) (.int .u64 0) 41).ext hy
    simpa using h
  clear hy
  have hr : w.heap.size ≤ w.heap.size + 1 := by omega
  obtain ⟨bP0, bP1, bP2, bP3, bP4, bP5, bP6, bP7, bP8⟩ := bP.ext (Ext.refl _)
  obtain ⟨bR0, bR1, bR2, bR3, bR4, bR5, bR6, bR7, bR8⟩ := bR.ext (Ext.refl _)
  go_wp2_with fail
  refine bodyPost_ret (v := .tuple #[.agg #[.int .u64 0, .int .u64 0, .int .u64 0, .int .u64 0], .bool false]) (by simp [results, Try.results24, go_sem, bR0, bR1, bR2, bR3]) rfl ?_
  exact ⟨rfl, (((hw.setCell hr _).setCell hr _).setCell hr _).setCell hr _⟩
set_option maxRecDepth 100000 in
set_option maxHeartbeats 12800000 in
theorem rplus_any (a b c d q t : Nat) (w : World) (ha : a < 18446744073709551616) (hb : b < 18446744073709551616) (hc : c < 18446744073709551616) (hd : d < 18446744073709551616)
    (hD : c ≠ 0 ∨ d ≠ 0) (hq : q ≤ 9223372036854775807) (ht0 : 1 ≤ t) (ht : t ≤ 9223372036854775807) :
    Calls Try.prog 24 #[pv a b c d, .int .i64 (q : Int), .int .i64 (t : Int)] w fun e w' => e = PlusE (N2 a b * t + N2 c d * q) (N2 c d * t) ∧ Ext w w' := by
  have L := Lib.hid (fun w => rlegal_yes a b c d q t w hD (by omega) (by omega))
  have OA := Lib.hid (fun w => ofw_any a b w ha hb)
  have OC := Lib.hid (fun w => ofw_any c d w hc hd)
  have OT := Lib.hid (fun w => of_any t w (by omega))
  have OQ := Lib.hid (fun w => of_any q w (by omega))
  have D1 := of2_dig ha hb
  have D2 := of2_dig hc hd
  have V1 := Lib.hid (of2_val a b)
  have V2 := Lib.hid (of2_val c d)
  have TM := Lib.hid times_any
  have PL := Lib.hid plus_any
  have BK := Lib.hid back_any
  have M4 := Lib.hid (fun w => rmulw_any c d t w hc hd (by omega))
  clear hD ha hb hc hd
  obtain ⟨h3, l3, o3, p5, p6, e3, g3⟩ := wok_fit (N2 a b * t + N2 c d * q)
  obtain ⟨h4, l4, o4, p7, p8, e4, g4⟩ := wok_fit (N2 c d * t)
  simp only [e4] at M4
  have E3 := Lib.hid e3
  have HE : Hid (PlusE (N2 a b * t + N2 c d * q) (N2 c d * t) = .returned (.tuple #[if (o3 && o4) then pv h3 l3 h4 l4 else pv 0 0 0 0, .bool (o3 && o4)])) := by
    show PlusE _ _ = _
    rcases g3 with ⟨rfl, g3⟩ | ⟨rfl, g3⟩
    · rw [g3]
      rcases g4 with ⟨rfl, g4⟩ | ⟨rfl, g4⟩
      · rw [g4]
        exact plusE_yes p5 p6 p7 p8
      · exact plusE_no (.inr g4)
    · exact plusE_no (.inl g3)
  clear e3 e4 g3 g4 p5 p6 p7 p8
  unfold pv wv at *
  go_enter Try.func24, Try.ntmps24
  go_wp2_with fail
  refine (L.out _).mono ?_
  rintro en u0 ⟨rfl, hy⟩
  have hw : Ext w u0 := (((Ext.refl w).alloc (.cells #[.int .u64 (a : Int), .int .u64 (b : Int), .int .u64 (c : Int), .int .u64 (d : Int)] 41)).alloc (.cells #[.int .u64 0, .int .u64 0, .int .u64 0, .int .u64 0] 41)).trans hy
  have bP : Box4 u0 w.heap.size (.int .u64 (a : Int)) (.int .u64 (b : Int)) (.int .u64 (c : Int)) (.int .u64 (d : Int)) := ((Box4.new w _ _ _ _ _).alloc _).ext hy
  have bR : Box4 u0 (w.heap.size + 1) (.int .u64 0) (.int .u64 0) (.int .u64 0) (.int .u64 0) := by
    have h := (Box4.new (w.alloc (.cells #[.int .u64 (a : Int), .int .u64 (b : Int), .int .u64 (c : Int), .int .u64 (d : Int)] 41)) (.int .u64 0) (.int .u64 0) (.int .u64 0) (.int .u64 0) 41).ext hy
    simpa using h
  clear hy
  obtain ⟨bP0, bP1, bP2, bP3, bP4, bP5, bP6, bP7, bP8⟩ := bP.ext (Ext.refl _)
  obtain ⟨bR0, bR1, bR2, bR3, bR4, bR5, bR6, bR7, bR8⟩ := bR.ext (Ext.refl _)
  go_upto_region 3 with (fail)
  clear bP0 bP1 bP2 bP3 bP4 bP5 bP6 bP7 bP8
  clear bR0 bR1 bR2 bR3 bR4 bR5 bR6 bR7 bR8
  generalize u0 = W at *
  have BX := Lib.hid (fun w' (hx : Ext W w') => (⟨(bP.ext hx).c0, (bP.ext hx).c1, (bP.ext hx).c2, (bP.ext hx).c3⟩ : w'.cell? ⟨w.heap.size, 0, none⟩ = some (.int .u64 (a : Int)) ∧ w'.cell? ⟨w.heap.size, 1, none⟩ = some (.int .u64 (b : Int)) ∧ w'.cell? ⟨w.heap.size, 2, none⟩ = some (.int .u64 (c : Int)) ∧ w'.cell? ⟨w.heap.size, 3, none⟩ = some (.int .u64 (d : Int))))
  obtain ⟨i0, i1, i2, i3⟩ := BX.out _ (Ext.refl W)
  have x0 := Ext.refl W
  have ct : IntKind.u64.wrap (t : Int) = (t : Int) := by rw [IntKind.wrap_u64]; omega
  have cq : IntKind.u64.wrap (q : Int) = (q : Int) := by rw [IntKind.wrap_u64]; omega
  go_region_held3 (fun w' => w'.cell? ⟨w.heap.size, 0, none⟩ = some (.int .u64 (a : Int)) ∧ w'.cell? ⟨w.heap.size, 1, none⟩ = some (.int .u64 (b : Int)) ∧ w'.cell? ⟨w.heap.size, 2, none⟩ = some (.int .u64 (c : Int)) ∧ w'.cell? ⟨w.heap.size, 3, none⟩ = some (.int .u64 (d : Int)) ∧ Ext W w')
    (first | (refine ⟨?_, ?_, ?_, ?_, ?_⟩ <;> first | assumption | (apply Ext.drew; assumption)))
    (first
      | (go_at_call 33; (with_reducible refine (OA.out _).mono ?_); rintro en w1 ⟨A1, k1, rfl, r1, hy1⟩; have y1 : Ext W w1 := Ext.trans (by first | assumption | exact Ext.drew (by assumption)) hy1; obtain ⟨j0, j1, j2, j3⟩ := BX.out _ y1)
      | (go_at_call 34; (with_reducible refine (OT.out _).mono ?_); rintro en w2 ⟨A2, k2, l2, rfl, r2, d2, v2, m2, m2', n2, hy2⟩; have V3 := Lib.hid v2; clear v2; have y2 : Ext W w2 := Ext.trans (by first | assumption | exact Ext.drew (by assumption)) hy2; obtain ⟨j0, j1, j2, j3⟩ := BX.out _ y2)
      | (go_at_call 32; (with_reducible refine (TM.out A1 A2 8 k1 l2.length k2 (of2 a b) l2 w2 (by omega) (by omega) (r1.ext hy2) r2 D1 d2 (by omega)).mono ?_); rintro en w3 ⟨A3, k3, l5, rfl, r3, d3, v3, m3, m3', n3, hy3⟩; have V4 := Lib.hid v3; clear v3; have y3 : Ext W w3 := Ext.trans (by first | assumption | exact Ext.drew (by assumption)) hy3; obtain ⟨j0, j1, j2, j3⟩ := BX.out _ y3)
      | (go_at_call 33; (with_reducible refine (OC.out _).mono ?_); rintro en w4 ⟨A4, k4, rfl, r4, hy4⟩; have y4 : Ext W w4 := Ext.trans (by first | assumption | exact Ext.drew (by assumption)) hy4; obtain ⟨j0, j1, j2, j3⟩ := BX.out _ y4)
      | (go_at_call 34; (with_reducible refine (OQ.out _).mono ?_); rintro en w5 ⟨A5, k5, l6, rfl, r5, d5, v5, m5, m5', n5, hy5⟩; have V5 := Lib.hid v5; clear v5; have y5 : Ext W w5 := Ext.trans (by first | assumption | exact Ext.drew (by assumption)) hy5; obtain ⟨j0, j1, j2, j3⟩ := BX.out _ y5)
      | (go_at_call 32; (with_reducible refine (TM.out A4 A5 8 k4 l6.length k5 (of2 c d) l6 w5 (by omega) (by omega) (r4.ext hy5) r5 D2 d5 (by omega)).mono ?_); rintro en w6 ⟨A6, k6, l7, rfl, r6, d6, v6, m6, m6', n6, hy6⟩; have V6 := Lib.hid v6; clear v6; have y6 : Ext W w6 := Ext.trans (by first | assumption | exact Ext.drew (by assumption)) hy6; obtain ⟨j0, j1, j2, j3⟩ := BX.out _ y6)
      | (go_at_call 35; (with_reducible refine (PL.out A3 A6 l5.length k3 l7.length k6 l5 l7 w6 (by omega) (by omega) (((r3.ext hy4).ext hy5).ext hy6) r6 d3 d6).mono ?_); rintro en w7 ⟨A7, k7, l8, rfl, r7, d7, v7, m7, n7, m7', hy7⟩; have V7 := Lib.hid v7; clear v7; have y7 : Ext W w7 := Ext.trans (by first | assumption | exact Ext.drew (by assumption)) hy7; obtain ⟨j0, j1, j2, j3⟩ := BX.out _ y7))
  all_goals
    clear ct cq
    have hB : Calls Try.prog 31 #[.slice A7 l8.length k7] w7 fun e w' => e = .returned (.tuple #[.agg #[.int .u64 (h3 : Int), .int .u64 (l3 : Int)], .bool o3]) ∧ Ext w7 w' := by
      refine (BK.out A7 l8.length k7 l8 w7 (by omega) (by omega) n7 r7 d7).mono ?_
      rintro e w' ⟨he, hx⟩
      refine ⟨?_, hx⟩
      rw [he, V7.out, V4.out, V6.out, V1.out, V2.out, V3.out, V5.out]
      exact E3.out
    have HB := Lib.hid hB
    have hw := hw.trans y7
    have bP := bP.ext y7
    have bR := bR.ext y7
    clear hB r1 r2 r3 r4 r5 r6 r7 d2 d3 d5 d6 d7 m2 m2' m3 m3' m5 m5' m6 m6' m7 m7' n2 n3 n5 n6 n7 hy1 hy2 hy3 hy4 hy5 hy6 hy7 j0 j1 j2 j3 D1 D2
    obtain ⟨bP0, bP1, bP2, bP3, bP4, bP5, bP6, bP7, bP8⟩ := bP.ext (Ext.refl _)
    obtain ⟨bR0, bR1, bR2, bR3, bR4, bR5, bR6, bR7, bR8⟩ := bR.ext (Ext.refl _)
    go_wp2_with fail
    refine HB.out.mono ?_
    rintro en v1 ⟨rfl, hy⟩
    have hq := hy
    have hw := hw.trans hq
    clear bP0 bP1 bP2 bP3 bP4 bP5 bP6 bP7 bP8
    clear bR0 bR1 bR2 bR3 bR4 bR5 bR6 bR7 bR8
    have bP := bP.ext hq
    have bR := bR.ext hq
    clear hy hq
    obtain ⟨bP0, bP1, bP2, bP3, bP4, bP5, bP6, bP7, bP8⟩ := bP.ext (Ext.refl _)
    obtain ⟨bR0, bR1, bR2, bR3, bR4, bR5, bR6, bR7, bR8⟩ := bR.ext (Ext.refl _)
    go_wp2_with fail
    refine (M4.out _).mono ?_
    rintro en v2 ⟨rfl, hy⟩
    have bX := (Box.new v1 (.int .u64 (h3 : Int)) (.int .u64 (l3 : Int)) 24).ext hy
    have hq := ((Ext.refl v1).alloc (.cells #[.int .u64 (h3 : Int), .int .u64 (l3 : Int)] 24)).trans hy
    have hw := hw.trans hq
    clear bP0 bP1 bP2 bP3 bP4 bP5 bP6 bP7 bP8
    clear bR0 bR1 bR2 bR3 bR4 bR5 bR6 bR7 bR8
    have bP := bP.ext hq
    have bR := bR.ext hq
    clear hy hq
    have bD := Box.new v2 (.int .u64 (h4 : Int)) (.int .u64 (l4 : Int)) 24
    have hw := hw.alloc (.cells #[.int .u64 (h4 : Int), .int .u64 (l4 : Int)] 24)
    have bP := bP.alloc (.cells #[.int .u64 (h4 : Int), .int .u64 (l4 : Int)] 24)
    have bR := bR.alloc (.cells #[.int .u64 (h4 : Int), .int .u64 (l4 : Int)] 24)
    have bX := bX.alloc (.cells #[.int .u64 (h4 : Int), .int .u64 (l4 : Int)] 24)
    obtain ⟨bP0, bP1, bP2, bP3, bP4, bP5, bP6, bP7, bP8⟩ := bP.ext (Ext.refl _)
    obtain ⟨bR0, bR1, bR2, bR3, bR4, bR5, bR6, bR7, bR8⟩ := bR.ext (Ext.refl _)
    obtain ⟨bX0, bX1, bX2⟩ := bX.ext (Ext.refl _)
    obtain ⟨bD0, bD1, bD2⟩ := bD.ext (Ext.refl _)
    have hr : w.heap.size ≤ w.heap.size + 1 := by omega
    go_upto_region 6 with (fail)
    cases o3
    · go_wp2_with fail
      refine bodyPost_ret (v := .tuple #[.agg #[.int .u64 0, .int .u64 0, .int .u64 0, .int .u64 0], .bool false]) (by simp [results, Try.results24, go_sem, bR0, bR1, bR2, bR3]) rfl ?_
      exact ⟨HE.out.symm ▸ rfl, (((hw.setCell hr _).setCell hr _).setCell hr _).setCell hr _⟩
    · skip
      cases o4
      · go_wp2_with fail
        refine bodyPost_ret (v := .tuple #[.agg #[.int .u64 0, .int .u64 0, .int .u64 0, .int .u64 0], .bool false]) (by simp [results, Try.results24, go_sem, bR0, bR1, bR2, bR3]) rfl ?_
        exact ⟨HE.out.symm ▸ rfl, (((hw.setCell hr _).setCell hr _).setCell hr _).setCell hr _⟩
      · go_wp2_with fail
        refine bodyPost_ret (v := .tuple #[.agg #[.int .u64 (h3 : Int), .int .u64 (l3 : Int), .int .u64 (h4 : Int), .int .u64 (l4 : Int)], .bool true]) (by simp [results, Try.results24, go_sem, bR0, bR1, bR2, bR3]) rfl ?_
        exact ⟨HE.out.symm ▸ rfl, (((hw.setCell hr _).setCell hr _).setCell hr _).setCell hr _⟩
end Go.Proofs.Ytbclkhkpmdbedaa
