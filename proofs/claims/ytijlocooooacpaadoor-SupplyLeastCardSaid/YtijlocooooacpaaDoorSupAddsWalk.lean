/-
  The statement SupplyAdds, walked.
-/
import Derived.Test.YtijlocooooacpaaDoorSupLeastWalk
import Derived.Test.YtijlocooooacpaaDoorSupRef
namespace Go.Proofs.YtijlocooooacpaaDoor
open Go.RowKit
set_option linter.unusedVariables false
theorem and20 (l : Int) : ∃ L : Int, Go.bits .and .i64 l 1048575 = L ∧ 0 ≤ L ∧ L < 1048576 :=
  ⟨_, mask20 l, Int.emod_nonneg _ (by omega), Int.emod_lt_of_pos _ (by omega)⟩
theorem least_spec {g q t x : Int} (hg : 0 ≤ g) (hq : 1 ≤ q) (hqt : q ≤ t) (hx : 0 ≤ x) :
    given g q t (leastOf g q t x) = x ∧ 0 ≤ leastOf g q t x ∧ ∀ l, 0 ≤ l → x ≤ given g q t l → leastOf g q t x ≤ l := by
  by_cases h : x = 0
  · subst h
    have e : leastOf g q t 0 = 0 := by unfold leastOf; rw [if_pos rfl]
    rw [e]
    have := given_le (g := g) (q := q) (t := t) (l := 0) hg hq hqt (by omega)
    exact ⟨by omega, by omega, fun l h _ => h⟩
  · obtain ⟨h1, h2, h3⟩ := least_gives hg hq hqt (show 1 ≤ x by omega)
    refine ⟨h1, by omega, fun l h4 h5 => Int.not_lt.1 fun h6 => ?_⟩
    have := given_mono (g := g) (q := q) (t := t) (x := l) (y := leastOf g q t x - 1) hq hqt (by omega)
    omega
theorem least_small {g q t x : Int} (hg : 0 ≤ g) (hg1 : g ≤ 256) (hq : 1 ≤ q) (hqt : q ≤ t) (ht : t ≤ 256) (hx : 0 ≤ x) (hx1 : x ≤ 2097152) : leastOf g q t x ≤ 1099511627776 := by
  unfold leastOf
  split
  · omega
  · obtain ⟨p0, r1, r2⟩ := least_rest hq (show 1 ≤ x by omega)
    have h1 := Int.mul_le_mul_of_nonneg_left hq p0
    have h2 := Int.mul_le_mul_of_nonneg_left ht p0
    generalize (x - 1) / q = P at *
    omega
set_option maxHeartbeats 3200000 in
theorem adds_no (K Q T a b : Int) (p : Addr) (w : World) (hS : Sen w 0 p) (hK : I64 K) (hQ : I64 Q) (hT : I64 T) (h : NoRow K Q T) :
    Calls Tryd.prog 8 #[srv K Q T, .int .i64 a, .int .i64 b] w fun e w' => e = .returned (.bool true) ∧ Ext w w' := by
  obtain ⟨A, hMA, hA0, hA1⟩ := and20 a
  obtain ⟨B, hMB, hB0, hB1⟩ := and20 b
  have LN := Lib.hid (fun x w' (hx : Ext w w') => least_no (x := x) p w' (hS.ext hx) hK hQ hT h)
  have B4 := Lib.hid (fun w' => rlegal_no w' h)
  clear h hS hK hQ hT
  unfold srv NumE at *
  go_enter Tryd.func8, Tryd.ntmps8
  go_wp2_with fail
  refine (alive_any _).mono ?_
  rintro e u0 ⟨rfl, hx⟩
  obtain ⟨c0, c1, c2⟩ := box3 hx
  have hx' := ((Ext.refl w).alloc _).trans hx
  go_wp2_with fail
  refine (LN.out _ _ hx').mono ?_
  rintro e u1 ⟨rfl, hy⟩
  have hx := hx.trans hy
  have hx' := hx'.trans hy
  clear hy
  obtain ⟨c0, c1, c2⟩ := box3 hx
  go_wp2_with fail
  refine (LN.out _ _ hx').mono ?_
  rintro e u2 ⟨rfl, hy⟩
  have hx := hx.trans hy
  have hx' := hx'.trans hy
  clear hy
  obtain ⟨c0, c1, c2⟩ := box3 hx
  go_wp2_with fail
  refine (LN.out _ _ hx').mono ?_
  rintro e u3 ⟨rfl, hy⟩
  have hx := hx.trans hy
  have hx' := hx'.trans hy
  clear hy
  obtain ⟨c0, c1, c2⟩ := box3 hx
  go_wp2_with fail
  refine (B4.out _).mono ?_
  rintro e u4 ⟨rfl, hy⟩
  go_wp2_with fail
  go_returns
  exact ⟨rfl, hx'.trans hy⟩
set_option maxHeartbeats 3200000 in
theorem adds_row {K Q T g q t : Int} (a b : Int) (w : World) (h : Row K Q T g q t) :
    Calls Tryd.prog 8 #[srv K Q T, .int .i64 a, .int .i64 b] w fun e w' => e = .returned (.bool true) ∧ Ext w w' := by
  obtain ⟨A, hMA, hA0, hA1⟩ := and20 a
  obtain ⟨B, hMB, hB0, hB1⟩ := and20 b
  obtain ⟨r1, r2, r3, r4, r5, r6⟩ := h.bounds
  have s1 := least_small r1 (by omega) r3 r4 r5 hA0 (by omega)
  have s2 := least_small r1 (by omega) r3 r4 r5 hB0 (by omega)
  have s3 := least_small r1 (by omega) r3 r4 r5 (show 0 ≤ A + B by omega) (by omega)
  have B1 := Lib.hid (fun w' => least_row (x := A) w' h hA0 (by omega) s1)
  have B2 := Lib.hid (fun w' => least_row (x := B) w' h hB0 (by omega) s2)
  have B3 := Lib.hid (fun w' => least_row (x := A + B) w' h (by omega) (by omega) s3)
  obtain ⟨a1, a2, a3⟩ := least_spec r1 r3 r4 hA0
  obtain ⟨b1, b2, b3⟩ := least_spec r1 r3 r4 hB0
  obtain ⟨d1, d2, d3⟩ := least_spec r1 r3 r4 (show 0 ≤ A + B by omega)
  have e1 : leastOf g q t (A + B) ≤ leastOf g q t A + leastOf g q t B := d3 _ (by omega) (by
    have := given_both r6 r3 r4 a2 b2
    omega)
  have e2 : leastOf g q t A ≤ leastOf g q t (A + B) := a3 _ d2 (by omega)
  have e3 : leastOf g q t B ≤ leastOf g q t (A + B) := b3 _ d2 (by omega)
  have e4 : A + B ≤ leastOf g q t (A + B) := by
    have := (given_le r1 r3 r4 d2).2
    omega
  generalize leastOf g q t A = x at *
  generalize leastOf g q t B = y at *
  generalize leastOf g q t (A + B) = z at *
  clear h a1 a3 b1 b3 d1 d3
  unfold srv NumE at *
  go_enter Tryd.func8, Tryd.ntmps8
  go_wp2_with fail
  refine (alive_any _).mono ?_
  rintro e u0 ⟨rfl, hx⟩
  obtain ⟨c0, c1, c2⟩ := box3 hx
  have hx' := ((Ext.refl w).alloc _).trans hx
  go_wp2_with fail
  refine (B1.out _).mono ?_
  rintro e u1 ⟨rfl, hy⟩
  have hx := hx.trans hy
  have hx' := hx'.trans hy
  clear hy
  obtain ⟨c0, c1, c2⟩ := box3 hx
  go_wp2_with fail
  refine (B2.out _).mono ?_
  rintro e u2 ⟨rfl, hy⟩
  have hx := hx.trans hy
  have hx' := hx'.trans hy
  clear hy
  obtain ⟨c0, c1, c2⟩ := box3 hx
  go_wp2_with fail
  refine (B3.out _).mono ?_
  rintro e u4 ⟨rfl, hy⟩
  go_wp2_with fail
  go_returns
  exact ⟨rfl, hx'.trans hy⟩
theorem adds_any (K Q T a b : Int) (p : Addr) (w : World) (hS : Sen w 0 p) (hK : I64 K) (hQ : I64 Q) (hT : I64 T) :
    Calls Tryd.prog 8 #[srv K Q T, .int .i64 a, .int .i64 b] w fun e w' => e = .returned (.bool true) ∧ Ext w w' := by
  rcases row_or K Q T with h | ⟨g, q, t, h⟩
  · exact adds_no K Q T a b p w hS hK hQ hT h
  · exact adds_row a b w h
end Go.Proofs.YtijlocooooacpaaDoor
