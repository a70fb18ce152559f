/-
  The statement SupplyPeriods, walked.
-/
import Derived.Test.YtijlocooooacpaaDoorSupAddsWalk
namespace Go.Proofs.YtijlocooooacpaaDoor
open Go.RowKit
set_option linter.unusedVariables false
set_option maxHeartbeats 3200000 in
theorem periods_no (K Q T l : Int) (p : Addr) (w : World) (hS : Sen w 0 p) (hK : I64 K) (hQ : I64 Q) (hT : I64 T) (h : NoRow K Q T) :
    Calls Tryd.prog 9 #[srv K Q T, .int .i64 l] w fun e w' => e = .returned (.bool true) ∧ Ext w w' := by
  obtain ⟨L, hM, hL0, hL1⟩ := and38 l
  have SL := Lib.hid (fun w' (hx : Ext w w') => slope_no p w' (hS.ext hx) hK hQ hT h)
  have B4 := Lib.hid (fun w' => rlegal_no w' h)
  clear h hS hK hQ hT
  unfold srv SlopeE at *
  go_enter Tryd.func9, Tryd.ntmps9
  go_wp2_with fail
  refine (alive_any _).mono ?_
  rintro e u0 ⟨rfl, hx⟩
  obtain ⟨c0, c1, c2⟩ := box3 hx
  have hx' := ((Ext.refl w).alloc _).trans hx
  go_wp2_with fail
  refine (SL.out _ hx').mono ?_
  rintro e u1 ⟨rfl, hy⟩
  have hx := hx.trans hy
  have hx' := hx'.trans hy
  clear hy
  obtain ⟨c0, c1, c2⟩ := box3 hx
  go_wp2_with fail
  refine (B4.out _).mono ?_
  rintro e u4 ⟨rfl, hy⟩
  go_wp2_with fail
  go_returns
  exact ⟨rfl, hx'.trans hy⟩
set_option maxHeartbeats 6400000 in
theorem periods_row {K Q T g q t : Int} (l : Int) (w : World) (h : Row K Q T g q t) :
    Calls Tryd.prog 9 #[srv K Q T, .int .i64 l] w fun e w' => e = .returned (.bool true) ∧ Ext w w' := by
  obtain ⟨L, hM, hL0, hL1⟩ := and38 l
  obtain ⟨r1, r2, r3, r4, r5, r6⟩ := h.bounds
  have s1 := least_small r1 (by omega) r3 r4 r5 (show (0 : Int) ≤ 1 by omega) (by omega)
  have eL : leastOf g q t 1 = g + t - q + 1 := by
    unfold leastOf
    rw [if_neg (by omega), show (1 : Int) - 1 = 0 by omega, Int.zero_ediv]
    omega
  rw [eL] at s1
  have SL := Lib.hid (fun w' => slope_row w' h)
  have B1 := Lib.hid (fun w' => bound_row (l := L) w' h hL0 (by omega))
  have B2 := Lib.hid (fun w' => bound_row (l := L + t) w' h (by omega) (by omega))
  have B3 := Lib.hid (fun w' => bound_row (l := L + 7 * t) w' h (by omega) (by omega))
  have B5 := Lib.hid (fun w' => least_row (x := 1) w' h (by omega) (by omega) (by rw [eL]; exact s1))
  rw [eL] at B5
  have z0 := given_le (g := g) (q := q) (t := t) (l := L) r1 r3 r4 hL0
  have z1 := given_le (g := g) (q := q) (t := t) (l := L + t) r1 r3 r4 (by omega)
  have z2 := given_le (g := g) (q := q) (t := t) (l := L + 7 * t) r1 r3 r4 (by omega)
  have low : L + t < g + t - q + 1 → given g q t L = 0 ∧ given g q t (L + t) = 0 := fun hl => by
    have h1 : given g q t (g + t - q) = 0 := by
      rw [given_ge r3 r4 (by omega), show g + t - q - g = t - q + 0 by omega, per_low r3 r4 (by omega) (by omega)]
    have h2 := given_mono (g := g) (q := q) (t := t) (x := L + t) (y := g + t - q) r3 r4 (by omega)
    have h3 := given_mono (g := g) (q := q) (t := t) (x := L) (y := L + t) r3 r4 (by omega)
    omega
  have high : g ≤ L → given g q t (L + t) = given g q t L + q ∧ given g q t (L + 7 * t) = given g q t L + 7 * q := fun hl => by
    rw [given_ge r3 r4 hl, given_ge r3 r4 (show g ≤ L + t by omega), given_ge r3 r4 (show g ≤ L + 7 * t by omega),
      show L + t - g = 1 * t + (L - g) by omega, show L + 7 * t - g = 7 * t + (L - g) by omega, per_period r3 r4, per_period r3 r4]
    omega
  generalize given g q t L = x at *
  generalize given g q t (L + t) = y at *
  generalize given g q t (L + 7 * t) = z at *
  obtain ⟨D, hD⟩ : ∃ D, g + t - q = D := ⟨_, rfl⟩
  rw [hD] at SL B5
  have hD0 : 0 ≤ D ∧ D ≤ 511 := by omega
  by_cases hlow : L + t < D + 1
  · obtain ⟨rfl, rfl⟩ := low (by omega)
    clear h eL low high hD s1
    unfold srv NumE SlopeE at *
    go_enter Tryd.func9, Tryd.ntmps9
    go_wp2_with fail
    refine (alive_any _).mono ?_
    rintro e u0 ⟨rfl, hx⟩
    obtain ⟨c0, c1, c2⟩ := box3 hx
    have hx' := ((Ext.refl w).alloc _).trans hx
    go_wp2_with fail
    refine (SL.out _).mono ?_
    rintro e u1 ⟨rfl, hy⟩
    have hx := hx.trans hy
    have hx' := hx'.trans hy
    clear hy
    obtain ⟨c0, c1, c2⟩ := box3 hx
    go_wp2_with fail
    refine (B1.out _).mono ?_
    rintro e u2 ⟨rfl, hy⟩
    have hx := hx.trans hy
    have hx' := hx'.trans hy
    clear hy
    obtain ⟨c0, c1, c2⟩ := box3 hx
    go_wp2_with fail
    refine (B2.out _).mono ?_
    rintro e u3 ⟨rfl, hy⟩
    have hx := hx.trans hy
    have hx' := hx'.trans hy
    clear hy
    obtain ⟨c0, c1, c2⟩ := box3 hx
    go_wp2_with fail
    refine (B3.out _).mono ?_
    rintro e u4 ⟨rfl, hy⟩
    have hx := hx.trans hy
    have hx' := hx'.trans hy
    clear hy
    obtain ⟨c0, c1, c2⟩ := box3 hx
    go_wp2_with fail
    refine (B5.out _).mono ?_
    rintro e u5 ⟨rfl, hy⟩
    go_wp2_with fail
    go_returns
    exact ⟨rfl, hx'.trans hy⟩
  · by_cases hl : L < D - (t - q)
    · clear h eL low high s1
      have hD2 := Lib.hid hD
      clear hD
      unfold srv NumE SlopeE at *
      go_enter Tryd.func9, Tryd.ntmps9
      go_wp2_with fail
      refine (alive_any _).mono ?_
      rintro e u0 ⟨rfl, hx⟩
      obtain ⟨c0, c1, c2⟩ := box3 hx
      have hx' := ((Ext.refl w).alloc _).trans hx
      go_wp2_with fail
      refine (SL.out _).mono ?_
      rintro e u1 ⟨rfl, hy⟩
      have hx := hx.trans hy
      have hx' := hx'.trans hy
      clear hy
      obtain ⟨c0, c1, c2⟩ := box3 hx
      go_wp2_with fail
      refine (B1.out _).mono ?_
      rintro e u2 ⟨rfl, hy⟩
      have hx := hx.trans hy
      have hx' := hx'.trans hy
      clear hy
      obtain ⟨c0, c1, c2⟩ := box3 hx
      go_wp2_with fail
      refine (B2.out _).mono ?_
      rintro e u3 ⟨rfl, hy⟩
      have hx := hx.trans hy
      have hx' := hx'.trans hy
      clear hy
      obtain ⟨c0, c1, c2⟩ := box3 hx
      go_wp2_with fail
      refine (B3.out _).mono ?_
      rintro e u4 ⟨rfl, hy⟩
      have hx := hx.trans hy
      have hx' := hx'.trans hy
      clear hy
      obtain ⟨c0, c1, c2⟩ := box3 hx
      go_wp2_with fail
      refine (B5.out _).mono ?_
      rintro e u5 ⟨rfl, hy⟩
      go_wp2_with fail
      go_returns
      exact ⟨rfl, hx'.trans hy⟩
    · obtain ⟨rfl, rfl⟩ := high (by omega)
      clear h eL low high s1
      have hD2 := Lib.hid hD
      clear hD
      unfold srv NumE SlopeE at *
      go_enter Tryd.func9, Tryd.ntmps9
      go_wp2_with fail
      refine (alive_any _).mono ?_
      rintro e u0 ⟨rfl, hx⟩
      obtain ⟨c0, c1, c2⟩ := box3 hx
      have hx' := ((Ext.refl w).alloc _).trans hx
      go_wp2_with fail
      refine (SL.out _).mono ?_
      rintro e u1 ⟨rfl, hy⟩
      have hx := hx.trans hy
      have hx' := hx'.trans hy
      clear hy
      obtain ⟨c0, c1, c2⟩ := box3 hx
      go_wp2_with fail
      refine (B1.out _).mono ?_
      rintro e u2 ⟨rfl, hy⟩
      have hx := hx.trans hy
      have hx' := hx'.trans hy
      clear hy
      obtain ⟨c0, c1, c2⟩ := box3 hx
      go_wp2_with fail
      refine (B2.out _).mono ?_
      rintro e u3 ⟨rfl, hy⟩
      have hx := hx.trans hy
      have hx' := hx'.trans hy
      clear hy
      obtain ⟨c0, c1, c2⟩ := box3 hx
      go_wp2_with fail
      refine (B3.out _).mono ?_
      rintro e u4 ⟨rfl, hy⟩
      have hx := hx.trans hy
      have hx' := hx'.trans hy
      clear hy
      obtain ⟨c0, c1, c2⟩ := box3 hx
      go_wp2_with fail
      refine (B5.out _).mono ?_
      rintro e u5 ⟨rfl, hy⟩
      go_wp2_with fail
      go_returns
      exact ⟨rfl, hx'.trans hy⟩
theorem periods_any (K Q T l : Int) (p : Addr) (w : World) (hS : Sen w 0 p) (hK : I64 K) (hQ : I64 Q) (hT : I64 T) :
    Calls Tryd.prog 9 #[srv K Q T, .int .i64 l] w fun e w' => e = .returned (.bool true) ∧ Ext w w' := by
  rcases row_or K Q T with h | ⟨g, q, t, h⟩
  · exact periods_no K Q T l p w hS hK hQ hT h
  · exact periods_row l w h
end Go.Proofs.YtijlocooooacpaaDoor
