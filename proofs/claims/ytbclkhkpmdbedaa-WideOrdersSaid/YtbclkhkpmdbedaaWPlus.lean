/-
  Package wide: Plus; the document's Plus, walked.
-/
import Derived.Test.YtbclkhkpmdbedaaWSums
namespace Go.Proofs.Ytbclkhkpmdbedaa
open Go.RowKit
set_option linter.unusedVariables false
/-- A block of four cells that stands, to be written into. -/
structure Box4 (u : World) (p : Nat) (a b c d : Value) : Prop where
  c0 : u.cell? ⟨p, 0, none⟩ = some a
  c1 : u.cell? ⟨p, 1, none⟩ = some b
  c2 : u.cell? ⟨p, 2, none⟩ = some c
  c3 : u.cell? ⟨p, 3, none⟩ = some d
  f0 : u.frozen? ⟨p, 0, none⟩ = false
  f1 : u.frozen? ⟨p, 1, none⟩ = false
  f2 : u.frozen? ⟨p, 2, none⟩ = false
  f3 : u.frozen? ⟨p, 3, none⟩ = false
  lt : p < u.heap.size
theorem Box4.ext {u v : World} {p : Nat} {a b c d : Value} (h : Box4 u p a b c d) (hx : Ext u v) : Box4 v p a b c d :=
  ⟨(hx.cell (p := ⟨p, 0, none⟩) h.lt).trans h.c0, (hx.cell (p := ⟨p, 1, none⟩) h.lt).trans h.c1, (hx.cell (p := ⟨p, 2, none⟩) h.lt).trans h.c2, (hx.cell (p := ⟨p, 3, none⟩) h.lt).trans h.c3,
   (hx.frozen (p := ⟨p, 0, none⟩) h.lt).trans h.f0, (hx.frozen (p := ⟨p, 1, none⟩) h.lt).trans h.f1, (hx.frozen (p := ⟨p, 2, none⟩) h.lt).trans h.f2, (hx.frozen (p := ⟨p, 3, none⟩) h.lt).trans h.f3, Nat.lt_of_lt_of_le h.lt hx.size⟩
theorem Box4.new (u : World) (a b c d : Value) (t : TypeId) : Box4 (u.alloc (.cells #[a, b, c, d] t)) u.heap.size a b c d :=
  ⟨boxAt (Ext.refl _) rfl, boxAt (Ext.refl _) rfl, boxAt (Ext.refl _) rfl, boxAt (Ext.refl _) rfl, boxFree (Ext.refl _) 0, boxFree (Ext.refl _) 1, boxFree (Ext.refl _) 2, boxFree (Ext.refl _) 3, by simp⟩
theorem Box4.alloc {u : World} {p : Nat} {a b c d : Value} (h : Box4 u p a b c d) (o : Obj) : Box4 (u.alloc o) p a b c d := h.ext ((Ext.refl _).alloc _)
/-- What n comes to: words, and whether it fits. -/
theorem wok_fit (n : Nat) : ∃ h l ok, h < 18446744073709551616 ∧ l < 18446744073709551616 ∧ WOk n = .returned (.tuple #[wv h l, .bool ok]) ∧ ((ok = true ∧ n = N2 h l) ∨ (ok = false ∧ ¬ n < 340282366920938463463374607431768211456)) := by
  rcases wok_or n with ⟨h, l, h1, h2, h3, h4⟩ | ⟨h3, h4⟩
  · exact ⟨h, l, true, h1, h2, h4, .inl ⟨rfl, h3⟩⟩
  · exact ⟨0, 0, false, by omega, by omega, h4, .inr ⟨rfl, h3⟩⟩
/-- A fraction of numerator S and denominator T, or that it doesn't fit. -/
def PlusE (S T : Nat) : Ending :=
  if S < 340282366920938463463374607431768211456 ∧ T < 340282366920938463463374607431768211456 then .returned (.tuple #[pv (S / 18446744073709551616) (S % 18446744073709551616) (T / 18446744073709551616) (T % 18446744073709551616), .bool true])
  else .returned (.tuple #[pv 0 0 0 0, .bool false])
theorem plusE_yes {a b c d : Nat} (ha : a < 18446744073709551616) (hb : b < 18446744073709551616) (hc : c < 18446744073709551616) (hd : d < 18446744073709551616) : PlusE (N2 a b) (N2 c d) = .returned (.tuple #[pv a b c d, .bool true]) := by
  unfold PlusE
  rw [if_pos ⟨n2_lt ha hb, n2_lt hc hd⟩]
  unfold N2
  rw [show (a * 18446744073709551616 + b) / 18446744073709551616 = a by omega, show (a * 18446744073709551616 + b) % 18446744073709551616 = b by omega,
    show (c * 18446744073709551616 + d) / 18446744073709551616 = c by omega, show (c * 18446744073709551616 + d) % 18446744073709551616 = d by omega]
theorem plusE_no {S T : Nat} (h : ¬ S < 340282366920938463463374607431768211456 ∨ ¬ T < 340282366920938463463374607431768211456) : PlusE S T = .returned (.tuple #[pv 0 0 0 0, .bool false]) := by
  unfold PlusE
  rw [if_neg (fun hh => by rcases h with h | h; exact h hh.1; exact h hh.2)]
set_option maxRecDepth 100000 in
set_option maxHeartbeats 6400000 in
theorem wplus_any (a b c d q t : Nat) (w : World) (ha : a < 18446744073709551616) (hb : b < 18446744073709551616) (hc : c < 18446744073709551616) (hd : d < 18446744073709551616)
    (hD : c ≠ 0 ∨ d ≠ 0) (hq : q ≤ 9223372036854775807) (ht0 : 1 ≤ t) (ht : t ≤ 9223372036854775807) :
    Calls Try.prog 23 #[pv a b c d, .int .i64 (q : Int), .int .i64 (t : Int)] w fun e w' => e = PlusE (N2 a b * t + N2 c d * q) (N2 c d * t) ∧ Ext w w' := by
  have L := Lib.hid (fun w => legal_yes a b c d q t w hD (by omega) (by omega))
  have M1 := Lib.hid (fun w => wmul_any a b t w ha hb (by omega))
  have M2 := Lib.hid (fun w => wmul_any c d q w hc hd (by omega))
  have M4 := Lib.hid (fun w => wmul_any c d t w hc hd (by omega))
  clear hD ha hb hc hd
  generalize N2 a b * t = X at *
  generalize N2 c d * q = Y at *
  generalize N2 c d * t = Z at *
  obtain ⟨h1, l1, o1, p1, p2, e1, g1⟩ := wok_fit X
  obtain ⟨h2, l2, o2, p3, p4, e2, g2⟩ := wok_fit Y
  obtain ⟨h4, l4, o4, p7, p8, e4, g4⟩ := wok_fit Z
  have M3 := Lib.hid (fun w => wadd_any h1 l1 h2 l2 w p1 p2 p3 p4)
  obtain ⟨h3, l3, o3, p5, p6, e3, g3⟩ := wok_fit (N2 h1 l1 + N2 h2 l2)
  simp only [e1] at M1
  simp only [e2] at M2
  simp only [e3] at M3
  simp only [e4] at M4
  have HE : Hid (PlusE (X + Y) Z = .returned (.tuple #[if (o1 && o2 && o3 && o4) then pv h3 l3 h4 l4 else pv 0 0 0 0, .bool (o1 && o2 && o3 && o4)])) := by
    show PlusE (X + Y) Z = _
    rcases g1 with ⟨rfl, rfl⟩ | ⟨rfl, g1⟩
    · rcases g2 with ⟨rfl, rfl⟩ | ⟨rfl, g2⟩
      · rcases g3 with ⟨rfl, g3⟩ | ⟨rfl, g3⟩
        · rw [g3]
          rcases g4 with ⟨rfl, rfl⟩ | ⟨rfl, g4⟩
          · exact plusE_yes p5 p6 p7 p8
          · exact plusE_no (.inr g4)
        · exact plusE_no (.inl g3)
      · exact plusE_no (.inl (by omega))
    · exact plusE_no (.inl (by omega))
  clear e1 e2 e3 e4 g1 g2 g3 g4 p1 p2 p3 p4 p5 p6 p7 p8
  unfold pv wv at *
  go_enter Try.func23, Try.ntmps23
  go_wp2_with fail
  refine (L.out _).mono ?_
  rintro en u0 ⟨rfl, hy⟩
  have hw : Ext w u0 := (((Ext.refl w).alloc (.cells #[.int .u64 (a : Int), .int .u64 (b : Int), .int .u64 (c : Int), .int .u64 (d : Int)] 41)).alloc (.cells #[.int .u64 0, .int .u64 0, .int .u64 0, .int .u64 0] 41)).trans hy
  have bP : Box4 u0 w.heap.size (.int .u64 (a : Int)) (.int .u64 (b : Int)) (.int .u64 (c : Int)) (.int .u64 (d : Int)) := ((Box4.new w _ _ _ _ _).alloc _).ext hy
  have bR : Box4 u0 (w.heap.size + 1) (.int .u64 0) (.int .u64 0) (.int .u64 0) (.int .u64 0) := by
    have h := (Box4.new (w.alloc (.cells #[.int .u64 (a : Int), .int .u64 (b : Int), .int .u64 (c : Int), .int .u64 (d : Int)] 41)) (.int .u64 0) (.int .u64 0) (.int .u64 0) (.int .u64 0) 41).ext hy
    simpa using h
  clear hy
  obtain ⟨bP0, bP1, bP2, bP3, bP4, bP5, bP6, bP7, bP8⟩ := bP.ext (Ext.refl _)
  obtain ⟨bR0, bR1, bR2, bR3, bR4, bR5, bR6, bR7, bR8⟩ := bR.ext (Ext.refl _)
  go_wp2_with fail
  refine (M1.out _).mono ?_
  rintro en u1 ⟨rfl, hy⟩
  have hq := hy
  have hw := hw.trans hq
  clear bP0 bP1 bP2 bP3 bP4 bP5 bP6 bP7 bP8
  clear bR0 bR1 bR2 bR3 bR4 bR5 bR6 bR7 bR8
  have bP := bP.ext hq
  have bR := bR.ext hq
  clear hy hq
  obtain ⟨bP0, bP1, bP2, bP3, bP4, bP5, bP6, bP7, bP8⟩ := bP.ext (Ext.refl _)
  obtain ⟨bR0, bR1, bR2, bR3, bR4, bR5, bR6, bR7, bR8⟩ := bR.ext (Ext.refl _)
  go_wp2_with fail
  refine (M2.out _).mono ?_
  rintro en u2 ⟨rfl, hy⟩
  have bX := (Box.new u1 (.int .u64 (h1 : Int)) (.int .u64 (l1 : Int)) 24).ext hy
  have hq := ((Ext.refl u1).alloc (.cells #[.int .u64 (h1 : Int), .int .u64 (l1 : Int)] 24)).trans hy
  have hw := hw.trans hq
  clear bP0 bP1 bP2 bP3 bP4 bP5 bP6 bP7 bP8
  clear bR0 bR1 bR2 bR3 bR4 bR5 bR6 bR7 bR8
  have bP := bP.ext hq
  have bR := bR.ext hq
  clear hy hq
  obtain ⟨bP0, bP1, bP2, bP3, bP4, bP5, bP6, bP7, bP8⟩ := bP.ext (Ext.refl _)
  obtain ⟨bR0, bR1, bR2, bR3, bR4, bR5, bR6, bR7, bR8⟩ := bR.ext (Ext.refl _)
  obtain ⟨bX0, bX1, bX2⟩ := bX.ext (Ext.refl _)
  go_wp2_with fail
  refine (M3.out _).mono ?_
  rintro en u3 ⟨rfl, hy⟩
  have bY := (Box.new u2 (.int .u64 (h2 : Int)) (.int .u64 (l2 : Int)) 24).ext hy
  have hq := ((Ext.refl u2).alloc (.cells #[.int .u64 (h2 : Int), .int .u64 (l2 : Int)] 24)).trans hy
  have hw := hw.trans hq
  clear bP0 bP1 bP2 bP3 bP4 bP5 bP6 bP7 bP8
  clear bR0 bR1 bR2 bR3 bR4 bR5 bR6 bR7 bR8
  clear bX0 bX1 bX2
  have bP := bP.ext hq
  have bR := bR.ext hq
  have bX := bX.ext hq
  clear hy hq
  obtain ⟨bP0, bP1, bP2, bP3, bP4, bP5, bP6, bP7, bP8⟩ := bP.ext (Ext.refl _)
  obtain ⟨bR0, bR1, bR2, bR3, bR4, bR5, bR6, bR7, bR8⟩ := bR.ext (Ext.refl _)
  obtain ⟨bX0, bX1, bX2⟩ := bX.ext (Ext.refl _)
  obtain ⟨bY0, bY1, bY2⟩ := bY.ext (Ext.refl _)
  go_wp2_with fail
  refine (M4.out _).mono ?_
  rintro en u4 ⟨rfl, hy⟩
  have bS := (Box.new u3 (.int .u64 (h3 : Int)) (.int .u64 (l3 : Int)) 24).ext hy
  have hq := ((Ext.refl u3).alloc (.cells #[.int .u64 (h3 : Int), .int .u64 (l3 : Int)] 24)).trans hy
  have hw := hw.trans hq
  clear bP0 bP1 bP2 bP3 bP4 bP5 bP6 bP7 bP8
  clear bR0 bR1 bR2 bR3 bR4 bR5 bR6 bR7 bR8
  clear bX0 bX1 bX2
  clear bY0 bY1 bY2
  have bP := bP.ext hq
  have bR := bR.ext hq
  have bX := bX.ext hq
  have bY := bY.ext hq
  clear hy hq
  have bD := Box.new u4 (.int .u64 (h4 : Int)) (.int .u64 (l4 : Int)) 24
  have hw := hw.alloc (.cells #[.int .u64 (h4 : Int), .int .u64 (l4 : Int)] 24)
  have bP := bP.alloc (.cells #[.int .u64 (h4 : Int), .int .u64 (l4 : Int)] 24)
  have bR := bR.alloc (.cells #[.int .u64 (h4 : Int), .int .u64 (l4 : Int)] 24)
  have bX := bX.alloc (.cells #[.int .u64 (h4 : Int), .int .u64 (l4 : Int)] 24)
  have bY := bY.alloc (.cells #[.int .u64 (h4 : Int), .int .u64 (l4 : Int)] 24)
  have bS := bS.alloc (.cells #[.int .u64 (h4 : Int), .int .u64 (l4 : Int)] 24)
  obtain ⟨bP0, bP1, bP2, bP3, bP4, bP5, bP6, bP7, bP8⟩ := bP.ext (Ext.refl _)
  obtain ⟨bR0, bR1, bR2, bR3, bR4, bR5, bR6, bR7, bR8⟩ := bR.ext (Ext.refl _)
  obtain ⟨bX0, bX1, bX2⟩ := bX.ext (Ext.refl _)
  obtain ⟨bY0, bY1, bY2⟩ := bY.ext (Ext.refl _)
  obtain ⟨bS0, bS1, bS2⟩ := bS.ext (Ext.refl _)
  obtain ⟨bD0, bD1, bD2⟩ := bD.ext (Ext.refl _)
  have hr : w.heap.size ≤ w.heap.size + 1 := by omega
  go_upto_region 7 with (fail)
  cases o1
  · go_wp2_with fail
    refine bodyPost_ret (v := .tuple #[.agg #[.int .u64 0, .int .u64 0, .int .u64 0, .int .u64 0], .bool false]) (by simp [results, Try.results23, go_sem, bR0, bR1, bR2, bR3]) rfl ?_
    exact ⟨HE.out.symm ▸ rfl, (((hw.setCell hr _).setCell hr _).setCell hr _).setCell hr _⟩
  · skip
    cases o2
    · go_wp2_with fail
      refine bodyPost_ret (v := .tuple #[.agg #[.int .u64 0, .int .u64 0, .int .u64 0, .int .u64 0], .bool false]) (by simp [results, Try.results23, go_sem, bR0, bR1, bR2, bR3]) rfl ?_
      exact ⟨HE.out.symm ▸ rfl, (((hw.setCell hr _).setCell hr _).setCell hr _).setCell hr _⟩
    · skip
      cases o3
      · go_wp2_with fail
        refine bodyPost_ret (v := .tuple #[.agg #[.int .u64 0, .int .u64 0, .int .u64 0, .int .u64 0], .bool false]) (by simp [results, Try.results23, go_sem, bR0, bR1, bR2, bR3]) rfl ?_
        exact ⟨HE.out.symm ▸ rfl, (((hw.setCell hr _).setCell hr _).setCell hr _).setCell hr _⟩
      · skip
        cases o4
        · go_wp2_with fail
          refine bodyPost_ret (v := .tuple #[.agg #[.int .u64 0, .int .u64 0, .int .u64 0, .int .u64 0], .bool false]) (by simp [results, Try.results23, go_sem, bR0, bR1, bR2, bR3]) rfl ?_
          exact ⟨HE.out.symm ▸ rfl, (((hw.setCell hr _).setCell hr _).setCell hr _).setCell hr _⟩
        · go_wp2_with fail
          refine bodyPost_ret (v := .tuple #[.agg #[.int .u64 (h3 : Int), .int .u64 (l3 : Int), .int .u64 (h4 : Int), .int .u64 (l4 : Int)], .bool true]) (by simp [results, Try.results23, go_sem, bR0, bR1, bR2, bR3]) rfl ?_
          exact ⟨HE.out.symm ▸ rfl, (((hw.setCell hr _).setCell hr _).setCell hr _).setCell hr _⟩
end Go.Proofs.Ytbclkhkpmdbedaa
