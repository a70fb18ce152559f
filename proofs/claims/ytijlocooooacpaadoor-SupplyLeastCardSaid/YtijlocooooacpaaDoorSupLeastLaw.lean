/-
  The statement SupplyLeast, walked.
-/
import Derived.Test.YtijlocooooacpaaDoorSupAddsWalk
import Derived.Test.YtijlocooooacpaaDoorSupBoundsWalk
namespace Go.Proofs.YtijlocooooacpaaDoor
open Go.RowKit
set_option linter.unusedVariables false
set_option maxHeartbeats 3200000 in
theorem sleast_no (K Q T x : Int) (p : Addr) (w : World) (hS : Sen w 0 p) (hK : I64 K) (hQ : I64 Q) (hT : I64 T) (h : NoRow K Q T) :
    Calls Tryd.prog 7 #[srv K Q T, .int .i64 x] w fun e w' => e = .returned (.bool true) ∧ Ext w w' := by
  have LN := Lib.hid (fun w' (hx : Ext w w') => least_no (x := x) p w' (hS.ext hx) hK hQ hT h)
  have B4 := Lib.hid (fun w' => rlegal_no w' h)
  have SE := Lib.hid (fun w' (hx : Ext w w') => hS.ext hx)
  have ES := err_same
  clear h hS hK hQ hT
  unfold srv NumE at *
  go_enter Tryd.func7, Tryd.ntmps7
  go_wp2_with fail
  refine (alive_any _).mono ?_
  rintro e u0 ⟨rfl, hx⟩
  obtain ⟨c0, c1, c2⟩ := box3 hx
  have hx' := ((Ext.refl w).alloc _).trans hx
  go_wp2_with fail
  refine (LN.out _ hx').mono ?_
  rintro e u1 ⟨rfl, hy⟩
  have hx := hx.trans hy
  have hx' := hx'.trans hy
  clear hy
  obtain ⟨c0, c1, c2⟩ := box3 hx
  go_wp2_with fail
  refine (B4.out _).mono ?_
  rintro e u2 ⟨rfl, hy⟩
  have hx := hx.trans hy
  have hx' := hx'.trans hy
  clear hy
  obtain ⟨c0, c1, c2⟩ := box3 hx
  have c3 := (SE.out _ hx').2.1
  go_wp2_with fail
  go_returns
  exact ⟨rfl, hx'⟩
set_option maxHeartbeats 3200000 in
theorem sleast_out {K Q T g q t : Int} (x : Int) (p : Addr) (w : World) (hS : Sen w 1 p) (h : Row K Q T g q t) (hl : x < 0 ∨ 1099511627776 < x) :
    Calls Tryd.prog 7 #[srv K Q T, .int .i64 x] w fun e w' => e = .returned (.bool true) ∧ Ext w w' := by
  have LN := Lib.hid (fun w' (hx : Ext w w') => least_range (x := x) p w' (hS.ext hx) h hl)
  have B4 := Lib.hid (fun w' => rlegal_row w' h)
  have SE := Lib.hid (fun w' (hx : Ext w w') => hS.ext hx)
  have ES := err_same
  clear h hS
  unfold srv NumE at *
  rcases hl with hl | hl
  all_goals
    go_enter Tryd.func7, Tryd.ntmps7
    go_wp2_with fail
    refine (alive_any _).mono ?_
    rintro e u0 ⟨rfl, hx⟩
    obtain ⟨c0, c1, c2⟩ := box3 hx
    have hx' := ((Ext.refl w).alloc _).trans hx
    go_wp2_with fail
    refine (LN.out _ hx').mono ?_
    rintro e u1 ⟨rfl, hy⟩
    have hx := hx.trans hy
    have hx' := hx'.trans hy
    clear hy
    obtain ⟨c0, c1, c2⟩ := box3 hx
    go_wp2_with fail
    refine (B4.out _).mono ?_
    rintro e u2 ⟨rfl, hy⟩
    have hx := hx.trans hy
    have hx' := hx'.trans hy
    clear hy
    obtain ⟨c0, c1, c2⟩ := box3 hx
    have c3 := (SE.out _ hx').2.1
    go_wp2_with fail
    go_returns
    exact ⟨rfl, hx'⟩
set_option maxHeartbeats 3200000 in
theorem sleast_over {K Q T g q t : Int} (x : Int) (p : Addr) (w : World) (hS : Sen w 2 p) (h : Row K Q T g q t) (hx0 : 0 ≤ x) (hx1 : x ≤ 1099511627776) (hL : ¬ leastOf g q t x ≤ 1099511627776) :
    Calls Tryd.prog 7 #[srv K Q T, .int .i64 x] w fun e w' => e = .returned (.bool true) ∧ Ext w w' := by
  have LN := Lib.hid (fun w' (hx : Ext w w') => least_over (x := x) p w' (hS.ext hx) h hx0 hx1 hL)
  have B4 := Lib.hid (fun w' => rlegal_row w' h)
  have B5 := Lib.hid (fun w' => rbound_row (l := 1099511627776) w' h (by omega) (by omega))
  have SE := Lib.hid (fun w' (hx : Ext w w') => hS.ext hx)
  have ES := err_same
  obtain ⟨r1, r2, r3, r4, r5, r6⟩ := h.bounds
  have hlt : given g q t 1099511627776 < x := by
    refine Int.not_le.1 fun h1 => hL ?_
    exact (least_spec r1 r3 r4 hx0).2.2 _ (by omega) h1
  generalize given g q t 1099511627776 = G at *
  clear h hS hL
  unfold srv NumE at *
  go_enter Tryd.func7, Tryd.ntmps7
  go_wp2_with fail
  refine (alive_any _).mono ?_
  rintro e u0 ⟨rfl, hx⟩
  obtain ⟨c0, c1, c2⟩ := box3 hx
  have hx' := ((Ext.refl w).alloc _).trans hx
  go_wp2_with fail
  refine (LN.out _ hx').mono ?_
  rintro e u1 ⟨rfl, hy⟩
  have hx := hx.trans hy
  have hx' := hx'.trans hy
  clear hy
  obtain ⟨c0, c1, c2⟩ := box3 hx
  go_wp2_with fail
  refine (B4.out _).mono ?_
  rintro e u2 ⟨rfl, hy⟩
  have hx := hx.trans hy
  have hx' := hx'.trans hy
  clear hy
  obtain ⟨c0, c1, c2⟩ := box3 hx
  have c3 := (SE.out _ hx').2.1
  go_wp2_with fail
  refine (B5.out _).mono ?_
  rintro e u3 ⟨rfl, hy⟩
  have hx := hx.trans hy
  have hx' := hx'.trans hy
  clear hy
  obtain ⟨c0, c1, c2⟩ := box3 hx
  go_wp2_with fail
  go_returns
  exact ⟨rfl, hx'⟩
set_option maxRecDepth 8000 in
set_option maxHeartbeats 3200000 in
theorem sleast_row {K Q T g q t : Int} (x : Int) (w : World) (h : Row K Q T g q t) (hx0 : 0 ≤ x) (hx1 : x ≤ 1099511627776) (hL : leastOf g q t x ≤ 1099511627776) :
    Calls Tryd.prog 7 #[srv K Q T, .int .i64 x] w fun e w' => e = .returned (.bool true) ∧ Ext w w' := by
  have LN := Lib.hid (fun w' => least_row (x := x) w' h hx0 hx1 hL)
  have B4 := Lib.hid (fun w' => rlegal_row w' h)
  obtain ⟨r1, r2, r3, r4, r5, r6⟩ := h.bounds
  obtain ⟨s1, s2, _⟩ := least_spec r1 r3 r4 hx0
  have B5 := Lib.hid (fun w' => rbound_row (l := leastOf g q t x) w' h s2 hL)
  rw [s1] at B5
  by_cases h0 : x = 0
  · have e : leastOf g q t x = 0 := by unfold leastOf; rw [if_pos h0]
    rw [e] at LN B5
    subst h0
    clear h hL s1 s2 e
    unfold srv NumE at *
    go_enter Tryd.func7, Tryd.ntmps7
    go_wp2_with fail
    refine (alive_any _).mono ?_
    rintro e u0 ⟨rfl, hx⟩
    obtain ⟨c0, c1, c2⟩ := box3 hx
    have hx' := ((Ext.refl w).alloc _).trans hx
    go_wp2_with fail
    refine (LN.out _).mono ?_
    rintro e u1 ⟨rfl, hy⟩
    have hx := hx.trans hy
    have hx' := hx'.trans hy
    clear hy
    obtain ⟨c0, c1, c2⟩ := box3 hx
    go_wp2_with fail
    refine (B4.out _).mono ?_
    rintro e u2 ⟨rfl, hy⟩
    have hx := hx.trans hy
    have hx' := hx'.trans hy
    clear hy
    obtain ⟨c0, c1, c2⟩ := box3 hx
    go_wp2_with fail
    refine (B5.out _).mono ?_
    rintro e u3 ⟨rfl, hy⟩
    have hx := hx.trans hy
    have hx' := hx'.trans hy
    clear hy
    obtain ⟨c0, c1, c2⟩ := box3 hx
    go_wp2_with fail
    go_returns
    exact ⟨rfl, hx'⟩
  · obtain ⟨_, s3, s4⟩ := least_gives r1 r3 r4 (show 1 ≤ x by omega)
    have B6 := Lib.hid (fun w' => rbound_row (l := leastOf g q t x - 1) w' h (by omega) (by omega))
    rw [s3] at B6
    generalize leastOf g q t x = L at *
    have hL0 : (L == 0) = false := by simp; omega
    clear h s1 s3
    unfold srv NumE at *
    go_enter Tryd.func7, Tryd.ntmps7
    go_wp2_with fail
    refine (alive_any _).mono ?_
    rintro e u0 ⟨rfl, hx⟩
    obtain ⟨c0, c1, c2⟩ := box3 hx
    have hx' := ((Ext.refl w).alloc _).trans hx
    go_wp2_with fail
    refine (LN.out _).mono ?_
    rintro e u1 ⟨rfl, hy⟩
    have hx := hx.trans hy
    have hx' := hx'.trans hy
    clear hy
    obtain ⟨c0, c1, c2⟩ := box3 hx
    go_wp2_with fail
    refine (B4.out _).mono ?_
    rintro e u2 ⟨rfl, hy⟩
    have hx := hx.trans hy
    have hx' := hx'.trans hy
    clear hy
    obtain ⟨c0, c1, c2⟩ := box3 hx
    go_wp2_with fail
    refine (B5.out _).mono ?_
    rintro e u3 ⟨rfl, hy⟩
    have hx := hx.trans hy
    have hx' := hx'.trans hy
    clear hy
    obtain ⟨c0, c1, c2⟩ := box3 hx
    go_wp2_with fail
    refine (B6.out _).mono ?_
    rintro e u4 ⟨rfl, hy⟩
    have hx := hx.trans hy
    have hx' := hx'.trans hy
    clear hy
    obtain ⟨c0, c1, c2⟩ := box3 hx
    go_wp2_with fail
    go_returns
    exact ⟨rfl, hx'⟩
theorem sleast_any (K Q T x : Int) (a b c : Addr) (w : World) (hS : Sen w 0 a) (hN : Sen w 1 b) (hO : Sen w 2 c) (hK : I64 K) (hQ : I64 Q) (hT : I64 T) :
    Calls Tryd.prog 7 #[srv K Q T, .int .i64 x] w fun e w' => e = .returned (.bool true) ∧ Ext w w' := by
  rcases row_or K Q T with h | ⟨g, q, t, h⟩
  · exact sleast_no K Q T x a w hS hK hQ hT h
  · by_cases h1 : 0 ≤ x ∧ x ≤ 1099511627776
    · by_cases h2 : leastOf g q t x ≤ 1099511627776
      · exact sleast_row x w h h1.1 h1.2 h2
      · exact sleast_over x c w hO h h1.1 h1.2 h2
    · exact sleast_out x b w hN h (by omega)
end Go.Proofs.YtijlocooooacpaaDoor
