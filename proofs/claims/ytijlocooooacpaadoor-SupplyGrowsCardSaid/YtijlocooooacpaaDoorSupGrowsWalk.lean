/-
  The statement SupplyGrows, walked.
-/
import Derived.Test.YtijlocooooacpaaDoorSupSlope
import Derived.Test.YtijlocooooacpaaDoorSupOrdersWalk
import Derived.Test.YtijlocooooacpaaDoorNum
namespace Go.Proofs.YtijlocooooacpaaDoor
open Go.RowKit
set_option linter.unusedVariables false
set_option maxHeartbeats 3200000 in
theorem grows_no (K Q T a b : Int) (E : Nat → Addr) (w : World) (hE : Errs w E) (hK : I64 K) (hQ : I64 Q) (hT : I64 T) (h : NoRow K Q T) :
    Calls Tryd.prog 4 #[srv K Q T, .int .i64 a, .int .i64 b] w fun e w' => e = .returned (.bool true) ∧ Ext w w' := by
  obtain ⟨A, hMA, hA0, hA1⟩ := and38 a
  obtain ⟨B, hMB, hB0, hB1⟩ := and38 b
  have hS := hE.sen 0 (by decide)
  have BN := Lib.hid (fun l w' (hx : Ext w w') => bound_no (l := l) (E 0) w' (hS.ext hx) hK hQ hT h)
  have SL := Lib.hid (fun w' (hx : Ext w w') => slope_no (E 0) w' (hS.ext hx) hK hQ hT h)
  have NU := Lib.hid (fun w' (hx : Ext w w') => num_at E 9 0 w' (hE.ext hx) (by decide))
  generalize E 0 = p at *
  clear h hS hK hQ hT hE
  unfold srv NumE SlopeE at *
  go_enter Tryd.func4, Tryd.ntmps4
  go_wp2_with fail
  refine (alive_any _).mono ?_
  rintro e w1 ⟨rfl, hx⟩
  obtain ⟨c0, c1, c2⟩ := box3 hx
  have hx' := ((Ext.refl w).alloc _).trans hx
  go_wp2_with fail
  refine (BN.out _ _ hx').mono ?_
  rintro e w2 ⟨rfl, hx2⟩
  have hx := hx.trans hx2
  have hx' := ((Ext.refl w).alloc _).trans hx
  obtain ⟨c0, c1, c2⟩ := box3 hx
  go_wp2_with fail
  refine (BN.out _ _ hx').mono ?_
  rintro e w3 ⟨rfl, hx2⟩
  have hx := hx.trans hx2
  have hx' := ((Ext.refl w).alloc _).trans hx
  obtain ⟨c0, c1, c2⟩ := box3 hx
  go_wp2_with fail
  refine (BN.out _ _ hx').mono ?_
  rintro e w4 ⟨rfl, hx2⟩
  have hx := hx.trans hx2
  have hx' := ((Ext.refl w).alloc _).trans hx
  obtain ⟨c0, c1, c2⟩ := box3 hx
  go_wp2_with fail
  refine (BN.out _ _ hx').mono ?_
  rintro e w5 ⟨rfl, hx2⟩
  have hx := hx.trans hx2
  have hx' := ((Ext.refl w).alloc _).trans hx
  obtain ⟨c0, c1, c2⟩ := box3 hx
  go_wp2_with fail
  refine (SL.out _ hx').mono ?_
  rintro e w6 ⟨rfl, hx2⟩
  have hx' := hx'.trans hx2
  clear hx hx2 c0 c1 c2
  go_wp2_with fail
  refine (NU.out _ hx').mono ?_
  rintro e u0 ⟨rfl, hy⟩
  have hx' := hx'.trans hy
  clear hy
  go_wp2_with fail
  refine (NU.out _ hx').mono ?_
  rintro e u1 ⟨rfl, hy⟩
  have hx' := hx'.trans hy
  clear hy
  go_wp2_with fail
  refine (NU.out _ hx').mono ?_
  rintro e u2 ⟨rfl, hy⟩
  have hx' := hx'.trans hy
  clear hy
  go_wp2_with fail
  refine (NU.out _ hx').mono ?_
  rintro e u3 ⟨rfl, hy⟩
  have hx' := hx'.trans hy
  clear hy
  go_wp2_with fail
  refine (NU.out _ hx').mono ?_
  rintro e u4 ⟨rfl, hy⟩
  have hx' := hx'.trans hy
  clear hy
  go_wp2_with fail
  refine (NU.out _ hx').mono ?_
  rintro e u5 ⟨rfl, hy⟩
  have hx' := hx'.trans hy
  clear hy
  go_wp2_with fail
  refine (NU.out _ hx').mono ?_
  rintro e u6 ⟨rfl, hy⟩
  have hx' := hx'.trans hy
  clear hy
  go_wp2_with fail
  refine (NU.out _ hx').mono ?_
  rintro e u7 ⟨rfl, hy⟩
  have hx' := hx'.trans hy
  clear hy
  go_wp2_with fail
  go_returns
  exact ⟨rfl, hx'⟩

set_option maxHeartbeats 3200000 in
theorem grows_row {K Q T g q t : Int} (a b : Int) (w : World) (h : Row K Q T g q t) :
    Calls Tryd.prog 4 #[srv K Q T, .int .i64 a, .int .i64 b] w fun e w' => e = .returned (.bool true) ∧ Ext w w' := by
  obtain ⟨A, hMA, hA0, hA1⟩ := and38 a
  obtain ⟨B, hMB, hB0, hB1⟩ := and38 b
  obtain ⟨r1, r2, r3, r4, r5, r6⟩ := h.bounds
  have B1 := Lib.hid (fun w => bound_row (l := A) w h hA0 (by omega))
  have B2 := Lib.hid (fun w => bound_row (l := B) w h hB0 (by omega))
  have B3 := Lib.hid (fun w => bound_row (l := A + B) w h (by omega) (by omega))
  have B4 := Lib.hid (fun w => bound_row (l := A + 1) w h (by omega) (by omega))
  have SL := Lib.hid (fun w => slope_row w h)
  have f1 := given_step (g := g) (q := q) (t := t) (l := A) r3 r4
  have f2 := given_both (g := g) (q := q) (t := t) (a := A) (b := B) r6 r3 r4 hA0 hB0
  have f3 := given_line (g := g) (q := q) (t := t) (a := A) r1 r3 r4
  have f4 := given_le (g := g) (q := q) (t := t) (l := A) r1 r3 r4 hA0
  have f5 := given_le (g := g) (q := q) (t := t) (l := B) r1 r3 r4 hB0
  have f6 := given_le (g := g) (q := q) (t := t) (l := A + B) r1 r3 r4 (by omega)
  have f7 := given_le (g := g) (q := q) (t := t) (l := A + 1) r1 r3 r4 (by omega)
  generalize given g q t A = x at *
  generalize given g q t B = y at *
  generalize given g q t (A + B) = z at *
  generalize given g q t (A + 1) = n at *
  obtain ⟨D, hD⟩ : ∃ D, g + t - q = D := ⟨_, rfl⟩
  have hD0 : 0 ≤ D ∧ D ≤ 511 := by omega
  rw [hD] at f3 SL
  have p1 : 0 ≤ x * t := Int.mul_nonneg f4.1 (by omega)
  have p2 : x * t ≤ 70368744177664 := by
    have := Int.mul_le_mul (show x ≤ 274877906944 by omega) (show t ≤ 256 by omega) (by omega) (by omega)
    omega
  have p3 : -131072 ≤ q * (A - D) := by
    have h1 := Int.mul_le_mul_of_nonneg_left (show -511 ≤ A - D by omega) (show 0 ≤ q by omega)
    omega
  obtain ⟨X, hX⟩ : ∃ X, x * t = X := ⟨_, rfl⟩
  obtain ⟨Y, hY⟩ : ∃ Y, q * (A - D) = Y := ⟨_, rfl⟩
  rw [hX] at f3 p1 p2
  rw [hY] at f3 p3
  have w1 : wrap64 (x * t) = X := by rw [hX]; unfold wrap64; omega
  have w2 : wrap64 (q * (A - D)) = Y := by rw [hY]; unfold wrap64; omega
  clear h hX hY
  unfold srv NumE SlopeE at *
  go_enter Tryd.func4, Tryd.ntmps4
  go_wp2_with fail
  refine (alive_any _).mono ?_
  rintro e w1 ⟨rfl, hx⟩
  obtain ⟨c0, c1, c2⟩ := box3 hx
  go_wp2_with fail
  refine (B1.out _).mono ?_
  rintro e w2 ⟨rfl, hx2⟩
  have hx := hx.trans hx2
  obtain ⟨c0, c1, c2⟩ := box3 hx
  go_wp2_with fail
  refine (B2.out _).mono ?_
  rintro e w3 ⟨rfl, hx2⟩
  have hx := hx.trans hx2
  obtain ⟨c0, c1, c2⟩ := box3 hx
  go_wp2_with fail
  refine (B3.out _).mono ?_
  rintro e w4 ⟨rfl, hx2⟩
  have hx := hx.trans hx2
  obtain ⟨c0, c1, c2⟩ := box3 hx
  go_wp2_with fail
  refine (B4.out _).mono ?_
  rintro e w5 ⟨rfl, hx2⟩
  have hx := hx.trans hx2
  obtain ⟨c0, c1, c2⟩ := box3 hx
  go_wp2_with fail
  refine (SL.out _).mono ?_
  rintro e w6 ⟨rfl, hx2⟩
  have hx' := ((Ext.refl w).alloc _).trans (hx.trans hx2)
  clear hx hx2 c0 c1 c2
  go_wp2_with fail
  go_returns
  exact ⟨rfl, hx'⟩

theorem grows_any (K Q T a b : Int) (E : Nat → Addr) (w : World) (hE : Errs w E) (hK : I64 K) (hQ : I64 Q) (hT : I64 T) :
    Calls Tryd.prog 4 #[srv K Q T, .int .i64 a, .int .i64 b] w fun e w' => e = .returned (.bool true) ∧ Ext w w' := by
  rcases row_or K Q T with h | ⟨g, q, t, h⟩
  · exact grows_no K Q T a b E w hE hK hQ hT h
  · exact grows_row a b w h
end Go.Proofs.YtijlocooooacpaaDoor
