/-
  The statement SupplyBounds, walked.
-/
import Derived.Test.YtijlocooooacpaaDoorSupRefBound
namespace Go.Proofs.YtijlocooooacpaaDoor
open Go.RowKit
set_option linter.unusedVariables false
theorem rbound_row {K Q T g q t l : Int} (w : World) (h : Row K Q T g q t) (hl0 : 0 ≤ l) (hl : l ≤ 1099511627776) :
    Calls Tryd.prog 17 #[srv K Q T, .int .i64 l] w fun e w' => e = .returned (.int .i64 (given g q t l)) ∧ Ext w w' := by
  rcases h with ⟨rfl, rfl, rfl, rfl, rfl, rfl⟩ | ⟨h, rfl, rfl, rfl⟩
  · exact rbound_whole l w hl0
  · exact rbound_legal _ _ _ l w h hl0 hl
theorem Row.kind {K Q T g q t : Int} (h : Row K Q T g q t) : (T = 0 ∧ q = 1 ∧ t = 1) ∨ (0 < T ∧ q = Q ∧ t = T) := by
  rcases h with ⟨rfl, rfl, rfl, rfl, rfl, rfl⟩ | ⟨⟨_, _, _, _, _⟩, rfl, rfl, rfl⟩
  · exact .inl ⟨rfl, rfl, rfl⟩
  · exact .inr ⟨by omega, rfl, rfl⟩
theorem at_low {g q t i : Int} (h0 : 0 ≤ i) (hq : 1 ≤ q) (hqt : q ≤ t) (h : i < g + t - q) : atB g q t i = false := by
  unfold atB
  rw [decide_eq_false_iff_not]
  intro ⟨h1, h2⟩
  rw [Int.emod_eq_of_lt (by omega) (by omega)] at h2
  omega
theorem at_first {g q t : Int} (hq : 1 ≤ q) (hqt : q ≤ t) : atB g q t (g + t - q) = true := by
  unfold atB
  rw [decide_eq_true_iff, show g + t - q - g = t - q by omega, Int.emod_eq_of_lt (by omega) (by omega)]
  omega
set_option maxHeartbeats 800000 in
theorem bound_range {K Q T g q t l : Int} (a : Addr) (w : World) (hS : Sen w 1 a) (h : Row K Q T g q t) (hl : l < 0 ∨ 1099511627776 < l) :
    Calls Tryd.prog 11 #[srv K Q T, .int .i64 l] w fun e w' => e = NumE 0 (.iface 58 (.pointer (some a))) ∧ Ext w w' := by
  have HO := Lib.hid (fun w => of_row w h)
  have SE := Lib.hid (fun w' (hx : Ext w w') => hS.ext hx)
  clear h hS
  unfold srv NumE at *
  unfold RowE rowV at HO
  rcases hl with hl | hl
  all_goals
    go_enter Tryd.func11, Tryd.ntmps11
    go_wp2_with fail
    refine (HO.out _).mono ?_
    rintro e w1 ⟨rfl, hx⟩
    have hx' := ((Ext.refl w).alloc _).trans (hx.alloc (.cells #[.int .i64 g, .int .i64 q, .int .i64 t] 41))
    have c0 := (SE.out _ hx').2.1
    go_wp2_with fail
    go_quiet (fail)
    go_wp2_with fail
    go_returns
    exact ⟨rfl, hx'.drewN _⟩

set_option maxHeartbeats 3200000 in
theorem bounds_no (K Q T l : Int) (a : Addr) (w : World) (hS : Sen w 0 a) (hK : I64 K) (hQ : I64 Q) (hT : I64 T) (h : NoRow K Q T) :
    Calls Tryd.prog 5 #[srv K Q T, .int .i64 l] w fun e w' => e = .returned (.bool true) ∧ Ext w w' := by
  have B1 := Lib.hid (fun w' (hx : Ext w w') => bound_no (l := l) a w' (hS.ext hx) hK hQ hT h)
  have B2 := Lib.hid (fun w' (hx : Ext w w') => silence_no a w' (hS.ext hx) hK hQ hT h)
  have B3 := Lib.hid (fun w' (hx : Ext w w') => slope_no a w' (hS.ext hx) hK hQ hT h)
  have B4 := Lib.hid (fun w' => rlegal_no w' h)
  have SE := Lib.hid (fun w' (hx : Ext w w') => hS.ext hx)
  have ES := err_same
  clear h hS hK hQ hT
  unfold srv NumE SlopeE at *
  go_enter Tryd.func5, Tryd.ntmps5
  go_wp2_with fail
  refine (alive_any _).mono ?_
  rintro e u0 ⟨rfl, hx⟩
  obtain ⟨c0, c1, c2⟩ := box3 hx
  have hx' := ((Ext.refl w).alloc _).trans hx
  go_wp2_with fail
  refine (B1.out _ hx').mono ?_
  rintro e u1 ⟨rfl, hy⟩
  have hx := hx.trans hy
  have hx' := hx'.trans hy
  clear hy
  obtain ⟨c0, c1, c2⟩ := box3 hx
  go_wp2_with fail
  refine (B2.out _ hx').mono ?_
  rintro e u2 ⟨rfl, hy⟩
  have hx := hx.trans hy
  have hx' := hx'.trans hy
  clear hy
  obtain ⟨c0, c1, c2⟩ := box3 hx
  go_wp2_with fail
  refine (B3.out _ hx').mono ?_
  rintro e u3 ⟨rfl, hy⟩
  have hx := hx.trans hy
  have hx' := hx'.trans hy
  clear hy
  obtain ⟨c0, c1, c2⟩ := box3 hx
  go_wp2_with fail
  refine (B4.out _).mono ?_
  rintro e u4 ⟨rfl, hy⟩
  have hx' := hx'.trans hy
  clear hy
  have c3 := (SE.out _ hx').2.1
  go_wp2_with fail
  go_returns
  exact ⟨rfl, hx'⟩
set_option maxHeartbeats 3200000 in
theorem bounds_out {K Q T g q t : Int} (l : Int) (a : Addr) (w : World) (hS : Sen w 1 a) (h : Row K Q T g q t) (hl : l < 0 ∨ 1099511627776 < l) :
    Calls Tryd.prog 5 #[srv K Q T, .int .i64 l] w fun e w' => e = .returned (.bool true) ∧ Ext w w' := by
  have B1 := Lib.hid (fun w' (hx : Ext w w') => bound_range (l := l) a w' (hS.ext hx) h hl)
  have B2 := Lib.hid (fun w' => silence_row w' h)
  have B3 := Lib.hid (fun w' => slope_row w' h)
  have B4 := Lib.hid (fun w' => rlegal_row w' h)
  have SE := Lib.hid (fun w' (hx : Ext w w') => hS.ext hx)
  have ES := err_same
  clear h hS
  unfold srv NumE SlopeE at *
  rcases hl with hl | hl
  all_goals
    go_enter Tryd.func5, Tryd.ntmps5
    go_wp2_with fail
    refine (alive_any _).mono ?_
    rintro e u0 ⟨rfl, hx⟩
    obtain ⟨c0, c1, c2⟩ := box3 hx
    have hx' := ((Ext.refl w).alloc _).trans hx
    go_wp2_with fail
    refine (B1.out _ hx').mono ?_
    rintro e u1 ⟨rfl, hy⟩
    have hx := hx.trans hy
    have hx' := hx'.trans hy
    clear hy
    obtain ⟨c0, c1, c2⟩ := box3 hx
    go_wp2_with fail
    refine (B2.out _).mono ?_
    rintro e u2 ⟨rfl, hy⟩
    have hx := hx.trans hy
    have hx' := hx'.trans hy
    clear hy
    obtain ⟨c0, c1, c2⟩ := box3 hx
    go_wp2_with fail
    refine (B3.out _).mono ?_
    rintro e u3 ⟨rfl, hy⟩
    have hx := hx.trans hy
    have hx' := hx'.trans hy
    clear hy
    obtain ⟨c0, c1, c2⟩ := box3 hx
    go_wp2_with fail
    refine (B4.out _).mono ?_
    rintro e u4 ⟨rfl, hy⟩
    have hx' := hx'.trans hy
    clear hy
    have c3 := (SE.out _ hx').2.1
    go_wp2_with fail
    go_returns
    exact ⟨rfl, hx'⟩
set_option maxRecDepth 8000 in
set_option maxHeartbeats 3200000 in
theorem bounds_in {K Q T g q t : Int} (l : Int) (w : World) (h : Row K Q T g q t) (hl0 : 0 ≤ l) (hl : l ≤ 1099511627776) :
    Calls Tryd.prog 5 #[srv K Q T, .int .i64 l] w fun e w' => e = .returned (.bool true) ∧ Ext w w' := by
  have B1 := Lib.hid (fun w' => bound_row (l := l) w' h hl0 hl)
  have B2 := Lib.hid (fun w' => silence_row w' h)
  have B3 := Lib.hid (fun w' => slope_row w' h)
  have B4 := Lib.hid (fun w' => rlegal_row w' h)
  have B5 := Lib.hid (fun w' => rbound_row (l := l) w' h hl0 hl)
  have AT := Lib.hid (fun i w' => at_row i w' h)
  obtain ⟨r1, r2, r3, r4, r5, r6⟩ := h.bounds
  have hk := h.kind
  obtain ⟨D, hD⟩ : ∃ D, g + t - q = D := ⟨_, rfl⟩
  have hD0 : 0 ≤ D ∧ D ≤ 511 := by omega
  have LOW := Lib.hid (fun (i : Int) (h0 : 0 ≤ i) (h1 : i < D) => at_low (g := g) (q := q) (t := t) h0 r3 r4 (by omega))
  have FST := at_first (g := g) (q := q) (t := t) r3 r4
  rw [hD] at B2 B3 FST
  generalize given g q t l = x at *
  have HFS := Lib.hid FST
  rcases hk with ⟨rfl, rfl, rfl⟩ | ⟨hk1, rfl, rfl⟩
  · have hk2 : True := trivial
    clear h FST hD
    unfold srv NumE SlopeE at *
    go_enter Tryd.func5, Tryd.ntmps5
    go_wp2_with fail
    refine (alive_any _).mono ?_
    rintro e u0 ⟨rfl, hx⟩
    obtain ⟨c0, c1, c2⟩ := box3 hx
    have hx' := ((Ext.refl w).alloc _).trans hx
    go_wp2_with fail
    refine (B1.out _).mono ?_
    rintro e u1 ⟨rfl, hy⟩
    have hx := hx.trans hy
    have hx' := hx'.trans hy
    clear hy
    obtain ⟨c0, c1, c2⟩ := box3 hx
    go_wp2_with fail
    refine (B2.out _).mono ?_
    rintro e u2 ⟨rfl, hy⟩
    have hx := hx.trans hy
    have hx' := hx'.trans hy
    clear hy
    obtain ⟨c0, c1, c2⟩ := box3 hx
    go_wp2_with fail
    refine (B3.out _).mono ?_
    rintro e u3 ⟨rfl, hy⟩
    have hx := hx.trans hy
    have hx' := hx'.trans hy
    clear hy
    obtain ⟨c0, c1, c2⟩ := box3 hx
    go_wp2_with fail
    refine (B4.out _).mono ?_
    rintro e u4 ⟨rfl, hy⟩
    have hx := hx.trans hy
    have hx' := hx'.trans hy
    clear hy
    obtain ⟨c0, c1, c2⟩ := box3 hx
    go_wp2_with fail
    clear hx' c0 c1 c2
    go_loopw [13] (fun vi wr => ∃ i : Int, 0 ≤ i ∧ i ≤ D ∧ vi = .int .i64 i ∧ Ext (w.alloc (.cells #[.int .i64 K, .int .i64 Q, .int .i64 0] 23)) wr) (fun vi _ => (D - intOf vi).toNat)
    case atStart => exact ⟨0, by omega, by omega, rfl, hx⟩
    case round =>
      obtain ⟨i, hi0, hi1, rfl, hz⟩ := hrel
      obtain ⟨c0, c1, c2⟩ := box3 hz
      have AI := Lib.hid (fun w => AT.out i w hi0 (by omega))
      by_cases hlt : i < D
      · rw [LOW.out i hi0 hlt] at AI
        go_wp2_with fail
        refine (AI.out _).mono ?_
        rintro e w1 ⟨rfl, hy⟩
        go_wp2_with fail
        go_roundw
        case rel => exact ⟨i + 1, by omega, by omega, rfl, hz.trans hy⟩
        case measure => simp [intOf]; omega
      · obtain rfl : i = D := by omega
        rw [HFS.out] at AI
        go_wp2_with fail
        refine (AI.out _).mono ?_
        rintro e w1 ⟨rfl, hy⟩
        have hz2 := hz.trans hy
        obtain ⟨c0, c1, c2⟩ := box3 hz2
        go_wp2_with fail
        refine (B5.out _).mono ?_
        rintro e w2 ⟨rfl, hy2⟩
        have hz3 := hz2.trans hy2
        obtain ⟨c0, c1, c2⟩ := box3 hz3
        go_wp2_with fail
        go_returns
        exact ⟨rfl, ((Ext.refl w).alloc _).trans hz3⟩
  · have hk2 : (t == 0) = false := by simp; omega
    clear h FST hD
    unfold srv NumE SlopeE at *
    go_enter Tryd.func5, Tryd.ntmps5
    go_wp2_with fail
    refine (alive_any _).mono ?_
    rintro e u0 ⟨rfl, hx⟩
    obtain ⟨c0, c1, c2⟩ := box3 hx
    have hx' := ((Ext.refl w).alloc _).trans hx
    go_wp2_with fail
    refine (B1.out _).mono ?_
    rintro e u1 ⟨rfl, hy⟩
    have hx := hx.trans hy
    have hx' := hx'.trans hy
    clear hy
    obtain ⟨c0, c1, c2⟩ := box3 hx
    go_wp2_with fail
    refine (B2.out _).mono ?_
    rintro e u2 ⟨rfl, hy⟩
    have hx := hx.trans hy
    have hx' := hx'.trans hy
    clear hy
    obtain ⟨c0, c1, c2⟩ := box3 hx
    go_wp2_with fail
    refine (B3.out _).mono ?_
    rintro e u3 ⟨rfl, hy⟩
    have hx := hx.trans hy
    have hx' := hx'.trans hy
    clear hy
    obtain ⟨c0, c1, c2⟩ := box3 hx
    go_wp2_with fail
    refine (B4.out _).mono ?_
    rintro e u4 ⟨rfl, hy⟩
    have hx := hx.trans hy
    have hx' := hx'.trans hy
    clear hy
    obtain ⟨c0, c1, c2⟩ := box3 hx
    go_wp2_with fail
    clear hx' c0 c1 c2
    go_loopw [13] (fun vi wr => ∃ i : Int, 0 ≤ i ∧ i ≤ D ∧ vi = .int .i64 i ∧ Ext (w.alloc (.cells #[.int .i64 K, .int .i64 q, .int .i64 t] 23)) wr) (fun vi _ => (D - intOf vi).toNat)
    case atStart => exact ⟨0, by omega, by omega, rfl, hx⟩
    case round =>
      obtain ⟨i, hi0, hi1, rfl, hz⟩ := hrel
      obtain ⟨c0, c1, c2⟩ := box3 hz
      have AI := Lib.hid (fun w => AT.out i w hi0 (by omega))
      by_cases hlt : i < D
      · rw [LOW.out i hi0 hlt] at AI
        go_wp2_with fail
        refine (AI.out _).mono ?_
        rintro e w1 ⟨rfl, hy⟩
        go_wp2_with fail
        go_roundw
        case rel => exact ⟨i + 1, by omega, by omega, rfl, hz.trans hy⟩
        case measure => simp [intOf]; omega
      · obtain rfl : i = D := by omega
        rw [HFS.out] at AI
        go_wp2_with fail
        refine (AI.out _).mono ?_
        rintro e w1 ⟨rfl, hy⟩
        have hz2 := hz.trans hy
        obtain ⟨c0, c1, c2⟩ := box3 hz2
        go_wp2_with fail
        refine (B5.out _).mono ?_
        rintro e w2 ⟨rfl, hy2⟩
        have hz3 := hz2.trans hy2
        obtain ⟨c0, c1, c2⟩ := box3 hz3
        go_wp2_with fail
        go_returns
        exact ⟨rfl, ((Ext.refl w).alloc _).trans hz3⟩

theorem bounds_any (K Q T l : Int) (a b : Addr) (w : World) (hS : Sen w 0 a) (hN : Sen w 1 b) (hK : I64 K) (hQ : I64 Q) (hT : I64 T) :
    Calls Tryd.prog 5 #[srv K Q T, .int .i64 l] w fun e w' => e = .returned (.bool true) ∧ Ext w w' := by
  rcases row_or K Q T with h | ⟨g, q, t, h⟩
  · exact bounds_no K Q T l a w hS hK hQ hT h
  · by_cases h1 : 0 ≤ l ∧ l ≤ 1099511627776
    · exact bounds_in l w h h1.1 h1.2
    · exact bounds_out l b w hN h (by omega)
end Go.Proofs.YtijlocooooacpaaDoor
