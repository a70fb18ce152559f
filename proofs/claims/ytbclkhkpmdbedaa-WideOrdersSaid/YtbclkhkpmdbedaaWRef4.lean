/-
  The document's layer 2: Compare, Legal, Against, Plus, walked; package wide: Sub, Plus.
-/
import Derived.Test.YtbclkhkpmdbedaaWRef3
namespace Go.Proofs.Ytbclkhkpmdbedaa
open Go.RowKit
set_option linter.unusedVariables false
set_option maxRecDepth 100000 in
set_option maxHeartbeats 6400000 in
theorem rcmpw_any (a b c d : Nat) (w : World) (ha : a < 18446744073709551616) (hb : b < 18446744073709551616) (hc : c < 18446744073709551616) (hd : d < 18446744073709551616) :
    Calls Try.prog 19 #[wv a b, wv c d] w fun e w' => e = .returned (.int .i64 (cmpI (N2 a b) (N2 c d))) ∧ Ext w w' := by
  have OA := Lib.hid (fun w => ofw_any a b w ha hb)
  have OC := Lib.hid (fun w => ofw_any c d w hc hd)
  have D1 := of2_dig ha hb
  have D2 := of2_dig hc hd
  have V1 := Lib.hid (of2_val a b)
  have V2 := Lib.hid (of2_val c d)
  have BK := Lib.hid back_any
  have LS := Lib.hid less_any
  unfold cmpI
  by_cases hlt : N2 a b < N2 c d
  · rw [if_pos hlt]
    have LT := Lib.hid (decide_eq_true hlt)
    clear hlt ha hb hc hd
    unfold wv at *
    go_enter Try.func19, Try.ntmps19
    go_wp2_with fail
    have BX := Lib.hid (fun W (hx : Ext ((w.alloc (.cells #[.int .u64 (a : Int), .int .u64 (b : Int)] 24)).alloc (.cells #[.int .u64 (c : Int), .int .u64 (d : Int)] 24)) W) => boxes2 hx)
    have hw : Ext w ((w.alloc (.cells #[.int .u64 (a : Int), .int .u64 (b : Int)] 24)).alloc (.cells #[.int .u64 (c : Int), .int .u64 (d : Int)] 24)) := ((Ext.refl w).alloc _).alloc _
    generalize hB : ((w.alloc (.cells #[.int .u64 (a : Int), .int .u64 (b : Int)] 24)).alloc (.cells #[.int .u64 (c : Int), .int .u64 (d : Int)] 24)) = B at *
    have x0 := Ext.refl B
    have hbz : w.heap.size + 1 + 1 = B.heap.size := by rw [← hB]; simp
    clear hB
    obtain ⟨c0, c1, c2, c3⟩ := BX.out _ x0
    clear hbz
    go_region_held3 (fun w' => w'.cell? ⟨w.heap.size, 0, none⟩ = some (.int .u64 (a : Int)) ∧ w'.cell? ⟨w.heap.size, 1, none⟩ = some (.int .u64 (b : Int)) ∧ w'.cell? ⟨w.heap.size + 1, 0, none⟩ = some (.int .u64 (c : Int)) ∧ w'.cell? ⟨w.heap.size + 1, 1, none⟩ = some (.int .u64 (d : Int)) ∧ Ext w w')
      (first
        | (refine ⟨?_, ?_, ?_, ?_, ?_⟩ <;> first | assumption | (apply Ext.drew; assumption) | exact hw.trans (by assumption) | exact (hw.trans (by assumption)).drew)
        | (refine ⟨?_, ?_, ?_, ?_, ?_⟩ <;> first | assumption | (rw [World.cell?_setCell_far _ _ _ _ (by simp; omega), World.cell?_setCell_far _ _ _ _ (by simp; omega)]; assumption) | (rw [World.cell?_setCell_far _ _ _ _ (by simp), World.cell?_setCell_far _ _ _ _ (by simp)]; assumption) | (rw [World.cell?_setCell_far _ _ _ _ (by simp)]; assumption) | exact ((hw.trans (by assumption)).setCell hr _).setCell hr _))
      (first
        | (go_at_call 33; (with_reducible refine (OA.out _).mono ?_); rintro e w1 ⟨A1, k1, rfl, r1, hx1⟩; have x1 : Ext B w1 := Ext.trans (by first | assumption | exact Ext.drew (by assumption)) hx1; obtain ⟨d0, d1, d2, d3⟩ := BX.out _ x1)
        | (go_at_call 33; (with_reducible refine (OC.out _).mono ?_); rintro e w2 ⟨A2, k2, rfl, r2, hx2⟩; have x2 : Ext B w2 := Ext.trans (by first | assumption | exact Ext.drew (by assumption)) hx2; obtain ⟨d0, d1, d2, d3⟩ := BX.out _ x2)
        | (go_at_call 37; (with_reducible refine (LS.out A1 A2 8 k1 8 k2 (of2 a b) (of2 c d) w2 (by omega) (by omega) (r1.ext hx2) r2 D1 D2).mono ?_); rintro e w3 ⟨he, rfl⟩; rw [V1.out, V2.out, LT.out] at he; subst he))
    all_goals
      go_wp2_with fail
      go_ret
      exact ⟨rfl, hw.trans x2⟩
  · rw [if_neg hlt]
    have LT := Lib.hid (decide_eq_false hlt)
    by_cases hgt : N2 c d < N2 a b
    · rw [if_pos hgt]
      have GT := Lib.hid (decide_eq_true hgt)
      clear hlt hgt ha hb hc hd
      unfold wv at *
      go_enter Try.func19, Try.ntmps19
      go_wp2_with fail
      have BX := Lib.hid (fun W (hx : Ext ((w.alloc (.cells #[.int .u64 (a : Int), .int .u64 (b : Int)] 24)).alloc (.cells #[.int .u64 (c : Int), .int .u64 (d : Int)] 24)) W) => boxes2 hx)
      have hw : Ext w ((w.alloc (.cells #[.int .u64 (a : Int), .int .u64 (b : Int)] 24)).alloc (.cells #[.int .u64 (c : Int), .int .u64 (d : Int)] 24)) := ((Ext.refl w).alloc _).alloc _
      generalize hB : ((w.alloc (.cells #[.int .u64 (a : Int), .int .u64 (b : Int)] 24)).alloc (.cells #[.int .u64 (c : Int), .int .u64 (d : Int)] 24)) = B at *
      have x0 := Ext.refl B
      have hbz : w.heap.size + 1 + 1 = B.heap.size := by rw [← hB]; simp
      clear hB
      obtain ⟨c0, c1, c2, c3⟩ := BX.out _ x0
      clear hbz
      go_region_held3 (fun w' => w'.cell? ⟨w.heap.size, 0, none⟩ = some (.int .u64 (a : Int)) ∧ w'.cell? ⟨w.heap.size, 1, none⟩ = some (.int .u64 (b : Int)) ∧ w'.cell? ⟨w.heap.size + 1, 0, none⟩ = some (.int .u64 (c : Int)) ∧ w'.cell? ⟨w.heap.size + 1, 1, none⟩ = some (.int .u64 (d : Int)) ∧ Ext w w')
        (first
          | (refine ⟨?_, ?_, ?_, ?_, ?_⟩ <;> first | assumption | (apply Ext.drew; assumption) | exact hw.trans (by assumption) | exact (hw.trans (by assumption)).drew)
          | (refine ⟨?_, ?_, ?_, ?_, ?_⟩ <;> first | assumption | (rw [World.cell?_setCell_far _ _ _ _ (by simp; omega), World.cell?_setCell_far _ _ _ _ (by simp; omega)]; assumption) | (rw [World.cell?_setCell_far _ _ _ _ (by simp), World.cell?_setCell_far _ _ _ _ (by simp)]; assumption) | (rw [World.cell?_setCell_far _ _ _ _ (by simp)]; assumption) | exact ((hw.trans (by assumption)).setCell hr _).setCell hr _))
        (first
          | (go_at_call 33; (with_reducible refine (OA.out _).mono ?_); rintro e w1 ⟨A1, k1, rfl, r1, hx1⟩; have x1 : Ext B w1 := Ext.trans (by first | assumption | exact Ext.drew (by assumption)) hx1; obtain ⟨d0, d1, d2, d3⟩ := BX.out _ x1)
          | (go_at_call 33; (with_reducible refine (OC.out _).mono ?_); rintro e w2 ⟨A2, k2, rfl, r2, hx2⟩; have x2 : Ext B w2 := Ext.trans (by first | assumption | exact Ext.drew (by assumption)) hx2; obtain ⟨d0, d1, d2, d3⟩ := BX.out _ x2)
          | (go_at_call 37; (with_reducible refine (LS.out A1 A2 8 k1 8 k2 (of2 a b) (of2 c d) w2 (by omega) (by omega) (r1.ext hx2) r2 D1 D2).mono ?_); rintro e w3 ⟨he, rfl⟩; rw [V1.out, V2.out, LT.out] at he; subst he))
      clear r1 r2 hx1 hx2 c0 c1 c2 c3 x1
      all_goals
        go_wp2_with fail
        have x5 := x2
        obtain ⟨c0, c1, c2, c3⟩ := BX.out _ x5
        clear x2
        go_region_held3 (fun w' => w'.cell? ⟨w.heap.size, 0, none⟩ = some (.int .u64 (a : Int)) ∧ w'.cell? ⟨w.heap.size, 1, none⟩ = some (.int .u64 (b : Int)) ∧ w'.cell? ⟨w.heap.size + 1, 0, none⟩ = some (.int .u64 (c : Int)) ∧ w'.cell? ⟨w.heap.size + 1, 1, none⟩ = some (.int .u64 (d : Int)) ∧ Ext w w')
          (first
            | (refine ⟨?_, ?_, ?_, ?_, ?_⟩ <;> first | assumption | (apply Ext.drew; assumption) | exact hw.trans (by assumption) | exact (hw.trans (by assumption)).drew)
            | (refine ⟨?_, ?_, ?_, ?_, ?_⟩ <;> first | assumption | (rw [World.cell?_setCell_far _ _ _ _ (by simp; omega), World.cell?_setCell_far _ _ _ _ (by simp; omega)]; assumption) | (rw [World.cell?_setCell_far _ _ _ _ (by simp), World.cell?_setCell_far _ _ _ _ (by simp)]; assumption) | (rw [World.cell?_setCell_far _ _ _ _ (by simp)]; assumption) | exact ((hw.trans (by assumption)).setCell hr _).setCell hr _))
          (first
            | (go_at_call 33; (with_reducible refine (OC.out _).mono ?_); rintro e w1 ⟨A1, k1, rfl, r1, hx1⟩; have x1 : Ext B w1 := Ext.trans (by first | assumption | exact Ext.drew (by assumption)) hx1; obtain ⟨d0, d1, d2, d3⟩ := BX.out _ x1)
            | (go_at_call 33; (with_reducible refine (OA.out _).mono ?_); rintro e w2 ⟨A2, k2, rfl, r2, hx2⟩; have x2 : Ext B w2 := Ext.trans (by first | assumption | exact Ext.drew (by assumption)) hx2; obtain ⟨d0, d1, d2, d3⟩ := BX.out _ x2)
            | (go_at_call 37; (with_reducible refine (LS.out A1 A2 8 k1 8 k2 (of2 c d) (of2 a b) w2 (by omega) (by omega) (r1.ext hx2) r2 D2 D1).mono ?_); rintro e w3 ⟨he, rfl⟩; rw [V2.out, V1.out, GT.out] at he; subst he))
        all_goals
          go_wp2_with fail
          go_ret
          exact ⟨rfl, hw.trans x2⟩
    · rw [if_neg hgt]
      have GT := Lib.hid (decide_eq_false hgt)
      clear hlt hgt ha hb hc hd
      unfold wv at *
      go_enter Try.func19, Try.ntmps19
      go_wp2_with fail
      have BX := Lib.hid (fun W (hx : Ext ((w.alloc (.cells #[.int .u64 (a : Int), .int .u64 (b : Int)] 24)).alloc (.cells #[.int .u64 (c : Int), .int .u64 (d : Int)] 24)) W) => boxes2 hx)
      have hw : Ext w ((w.alloc (.cells #[.int .u64 (a : Int), .int .u64 (b : Int)] 24)).alloc (.cells #[.int .u64 (c : Int), .int .u64 (d : Int)] 24)) := ((Ext.refl w).alloc _).alloc _
      generalize hB : ((w.alloc (.cells #[.int .u64 (a : Int), .int .u64 (b : Int)] 24)).alloc (.cells #[.int .u64 (c : Int), .int .u64 (d : Int)] 24)) = B at *
      have x0 := Ext.refl B
      have hbz : w.heap.size + 1 + 1 = B.heap.size := by rw [← hB]; simp
      clear hB
      obtain ⟨c0, c1, c2, c3⟩ := BX.out _ x0
      clear hbz
      go_region_held3 (fun w' => w'.cell? ⟨w.heap.size, 0, none⟩ = some (.int .u64 (a : Int)) ∧ w'.cell? ⟨w.heap.size, 1, none⟩ = some (.int .u64 (b : Int)) ∧ w'.cell? ⟨w.heap.size + 1, 0, none⟩ = some (.int .u64 (c : Int)) ∧ w'.cell? ⟨w.heap.size + 1, 1, none⟩ = some (.int .u64 (d : Int)) ∧ Ext w w')
        (first
          | (refine ⟨?_, ?_, ?_, ?_, ?_⟩ <;> first | assumption | (apply Ext.drew; assumption) | exact hw.trans (by assumption) | exact (hw.trans (by assumption)).drew)
          | (refine ⟨?_, ?_, ?_, ?_, ?_⟩ <;> first | assumption | (rw [World.cell?_setCell_far _ _ _ _ (by simp; omega), World.cell?_setCell_far _ _ _ _ (by simp; omega)]; assumption) | (rw [World.cell?_setCell_far _ _ _ _ (by simp), World.cell?_setCell_far _ _ _ _ (by simp)]; assumption) | (rw [World.cell?_setCell_far _ _ _ _ (by simp)]; assumption) | exact ((hw.trans (by assumption)).setCell hr _).setCell hr _))
        (first
          | (go_at_call 33; (with_reducible refine (OA.out _).mono ?_); rintro e w1 ⟨A1, k1, rfl, r1, hx1⟩; have x1 : Ext B w1 := Ext.trans (by first | assumption | exact Ext.drew (by assumption)) hx1; obtain ⟨d0, d1, d2, d3⟩ := BX.out _ x1)
          | (go_at_call 33; (with_reducible refine (OC.out _).mono ?_); rintro e w2 ⟨A2, k2, rfl, r2, hx2⟩; have x2 : Ext B w2 := Ext.trans (by first | assumption | exact Ext.drew (by assumption)) hx2; obtain ⟨d0, d1, d2, d3⟩ := BX.out _ x2)
          | (go_at_call 37; (with_reducible refine (LS.out A1 A2 8 k1 8 k2 (of2 a b) (of2 c d) w2 (by omega) (by omega) (r1.ext hx2) r2 D1 D2).mono ?_); rintro e w3 ⟨he, rfl⟩; rw [V1.out, V2.out, LT.out] at he; subst he))
      clear r1 r2 hx1 hx2 c0 c1 c2 c3 x1
      all_goals
        go_wp2_with fail
        have x5 := x2
        obtain ⟨c0, c1, c2, c3⟩ := BX.out _ x5
        clear x2
        go_region_held3 (fun w' => w'.cell? ⟨w.heap.size, 0, none⟩ = some (.int .u64 (a : Int)) ∧ w'.cell? ⟨w.heap.size, 1, none⟩ = some (.int .u64 (b : Int)) ∧ w'.cell? ⟨w.heap.size + 1, 0, none⟩ = some (.int .u64 (c : Int)) ∧ w'.cell? ⟨w.heap.size + 1, 1, none⟩ = some (.int .u64 (d : Int)) ∧ Ext w w')
          (first
            | (refine ⟨?_, ?_, ?_, ?_, ?_⟩ <;> first | assumption | (apply Ext.drew; assumption) | exact hw.trans (by assumption) | exact (hw.trans (by assumption)).drew)
            | (refine ⟨?_, ?_, ?_, ?_, ?_⟩ <;> first | assumption | (rw [World.cell?_setCell_far _ _ _ _ (by simp; omega), World.cell?_setCell_far _ _ _ _ (by simp; omega)]; assumption) | (rw [World.cell?_setCell_far _ _ _ _ (by simp), World.cell?_setCell_far _ _ _ _ (by simp)]; assumption) | (rw [World.cell?_setCell_far _ _ _ _ (by simp)]; assumption) | exact ((hw.trans (by assumption)).setCell hr _).setCell hr _))
          (first
            | (go_at_call 33; (with_reducible refine (OC.out _).mono ?_); rintro e w1 ⟨A1, k1, rfl, r1, hx1⟩; have x1 : Ext B w1 := Ext.trans (by first | assumption | exact Ext.drew (by assumption)) hx1; obtain ⟨d0, d1, d2, d3⟩ := BX.out _ x1)
            | (go_at_call 33; (with_reducible refine (OA.out _).mono ?_); rintro e w2 ⟨A2, k2, rfl, r2, hx2⟩; have x2 : Ext B w2 := Ext.trans (by first | assumption | exact Ext.drew (by assumption)) hx2; obtain ⟨d0, d1, d2, d3⟩ := BX.out _ x2)
            | (go_at_call 37; (with_reducible refine (LS.out A1 A2 8 k1 8 k2 (of2 c d) (of2 a b) w2 (by omega) (by omega) (r1.ext hx2) r2 D2 D1).mono ?_); rintro e w3 ⟨he, rfl⟩; rw [V2.out, V1.out, GT.out] at he; subst he))
        all_goals
          go_wp2_with fail
          go_ret
          exact ⟨rfl, hw.trans x2⟩
set_option maxHeartbeats 800000 in
theorem rlegal_yes (a b c d : Nat) (q t : Int) (w : World) (hD : c ≠ 0 ∨ d ≠ 0) (hq : 0 ≤ q) (ht : 1 ≤ t) :
    Calls Try.prog 46 #[pv a b c d, .int .i64 q, .int .i64 t] w fun e w' => e = .returned (.bool true) ∧ Ext w w' := by
  unfold pv
  by_cases hc : c = 0
  · subst hc
    have hd : ((d : Int) == 0) = false := by simp; omega
    clear hD
    go_enter Try.func46, Try.ntmps46
    go_wp2_with fail
    go_ret
    exact ⟨rfl, (Ext.refl w).alloc _⟩
  · have hd : ((c : Int) == 0) = false := by simp; omega
    clear hD hc
    go_enter Try.func46, Try.ntmps46
    go_wp2_with fail
    go_ret
    exact ⟨rfl, (Ext.refl w).alloc _⟩
set_option maxHeartbeats 800000 in
theorem rlegal_no (a b c d : Nat) (q t : Int) (w : World) (h : (c = 0 ∧ d = 0) ∨ q < 0 ∨ t < 1) :
    Calls Try.prog 46 #[pv a b c d, .int .i64 q, .int .i64 t] w fun e w' => e = .returned (.bool false) ∧ Ext w w' := by
  unfold pv
  by_cases hc : c = 0
  · subst hc
    by_cases hd : d = 0
    · subst hd
      clear h
      go_enter Try.func46, Try.ntmps46
      go_wp2_with fail
      go_ret
      exact ⟨rfl, (Ext.refl w).alloc _⟩
    · have hd' : ((d : Int) == 0) = false := by simp; omega
      by_cases hq : 0 ≤ q
      · have ht : ¬ 1 ≤ t := by omega
        clear h hd
        go_enter Try.func46, Try.ntmps46
        go_wp2_with fail
        go_ret
        exact ⟨rfl, (Ext.refl w).alloc _⟩
      · clear h hd
        go_enter Try.func46, Try.ntmps46
        go_wp2_with fail
        go_ret
        exact ⟨rfl, (Ext.refl w).alloc _⟩
  · have hd' : ((c : Int) == 0) = false := by simp; omega
    by_cases hq : 0 ≤ q
    · have ht : ¬ 1 ≤ t := by omega
      clear h hc
      go_enter Try.func46, Try.ntmps46
      go_wp2_with fail
      go_ret
      exact ⟨rfl, (Ext.refl w).alloc _⟩
    · clear h hc
      go_enter Try.func46, Try.ntmps46
      go_wp2_with fail
      go_ret
      exact ⟨rfl, (Ext.refl w).alloc _⟩

set_option maxHeartbeats 1600000 in
theorem ragainst_no (a b c d : Nat) (q t : Int) (w : World) (h : (c = 0 ∧ d = 0) ∨ q < 0 ∨ t < 1) :
    Calls Try.prog 26 #[pv a b c d, .int .i64 q, .int .i64 t] w fun e w' => e = .returned (.tuple #[.int .i64 0, .bool false]) ∧ Ext w w' := by
  have L := Lib.hid (fun w => rlegal_no a b c d q t w h)
  clear h
  unfold pv at *
  go_enter Try.func26, Try.ntmps26
  go_wp2_with fail
  refine (L.out _).mono ?_
  rintro e w1 ⟨rfl, hx⟩
  go_wp2_with fail
  go_ret2
  exact ⟨rfl, ((Ext.refl w).alloc _).trans hx⟩
set_option maxHeartbeats 1600000 in
theorem ragainst_any (a b c d q t : Nat) (w : World) (ha : a < 18446744073709551616) (hb : b < 18446744073709551616) (hc : c < 18446744073709551616) (hd : d < 18446744073709551616)
    (hD : c ≠ 0 ∨ d ≠ 0) (hq : q ≤ 9223372036854775807) (ht0 : 1 ≤ t) (ht : t ≤ 9223372036854775807) :
    Calls Try.prog 26 #[pv a b c d, .int .i64 (q : Int), .int .i64 (t : Int)] w fun e w' => e = Ag (N2 a b) (N2 c d) q t ∧ Ext w w' := by
  have L := Lib.hid (fun w => rlegal_yes a b c d q t w hD (by omega) (by omega))
  have M1 := Lib.hid (fun w => rmulw_any a b t w ha hb (by omega))
  have M2 := Lib.hid (fun w => rmulw_any c d q w hc hd (by omega))
  unfold Ag
  generalize N2 a b * t = X at *
  generalize N2 c d * q = Y at *
  clear hD
  rcases wok_or X with ⟨h1, l1, bh1, bl1, rfl, e1⟩ | ⟨g1, e1⟩ <;> rcases wok_or Y with ⟨h2, l2, bh2, bl2, rfl, e2⟩ | ⟨g2, e2⟩
  · rw [if_pos ⟨n2_lt bh1 bl1, n2_lt bh2 bl2⟩]
    simp only [e1] at M1
    simp only [e2] at M2
    have C := Lib.hid (fun w => rcmpw_any h1 l1 h2 l2 w bh1 bl1 bh2 bl2)
    generalize cmpI (N2 h1 l1) (N2 h2 l2) = z at *
    clear e1 e2
    unfold pv wv at *
    go_enter Try.func26, Try.ntmps26
    go_wp2_with fail
    refine (L.out _).mono ?_
    rintro e w1 ⟨rfl, hx⟩
    obtain ⟨c0, c1, c2, c3, hz⟩ := box4 hx
    go_wp2_with fail
    refine (M1.out _).mono ?_
    rintro e w2 ⟨rfl, hy⟩
    have hx := hx.trans hy
    clear hy c0 c1 c2 c3 hz
    obtain ⟨c0, c1, c2, c3, hz⟩ := box4 hx
    go_wp2_with fail
    refine (M2.out _).mono ?_
    rintro e w3 ⟨rfl, hy⟩
    obtain ⟨d0, d1, hz2⟩ := box2 hy
    have hx' := (((Ext.refl w).alloc _).trans hx).trans (((Ext.refl _).alloc _).trans hy)
    clear c0 c1 c2 c3 hz hx
    go_wp2_with fail
    refine (C.out _).mono ?_
    rintro e w4 ⟨rfl, hu⟩
    go_wp2_with fail
    go_ret2
    exact ⟨rfl, (hx'.alloc _).trans hu⟩
  · rw [if_neg (fun h => g2 h.2)]
    simp only [e1] at M1
    simp only [e2] at M2
    clear e1 e2 g2
    unfold WNo pv wv at *
    go_enter Try.func26, Try.ntmps26
    go_wp2_with fail
    refine (L.out _).mono ?_
    rintro e w1 ⟨rfl, hx⟩
    obtain ⟨c0, c1, c2, c3, hz⟩ := box4 hx
    go_wp2_with fail
    refine (M1.out _).mono ?_
    rintro e w2 ⟨rfl, hy⟩
    have hx := hx.trans hy
    clear hy c0 c1 c2 c3 hz
    obtain ⟨c0, c1, c2, c3, hz⟩ := box4 hx
    go_wp2_with fail
    refine (M2.out _).mono ?_
    rintro e w3 ⟨rfl, hy⟩
    obtain ⟨d0, d1, hz2⟩ := box2 hy
    have hx' := (((Ext.refl w).alloc _).trans hx).trans (((Ext.refl _).alloc _).trans hy)
    clear c0 c1 c2 c3 hz hx
    go_wp2_with fail
    go_ret2
    exact ⟨rfl, hx'.alloc _⟩
  · rw [if_neg (fun h => g1 h.1)]
    simp only [e1] at M1
    simp only [e2] at M2
    clear e1 e2 g1
    unfold WNo pv wv at *
    go_enter Try.func26, Try.ntmps26
    go_wp2_with fail
    refine (L.out _).mono ?_
    rintro e w1 ⟨rfl, hx⟩
    obtain ⟨c0, c1, c2, c3, hz⟩ := box4 hx
    go_wp2_with fail
    refine (M1.out _).mono ?_
    rintro e w2 ⟨rfl, hy⟩
    have hx := hx.trans hy
    clear hy c0 c1 c2 c3 hz
    obtain ⟨c0, c1, c2, c3, hz⟩ := box4 hx
    go_wp2_with fail
    refine (M2.out _).mono ?_
    rintro e w3 ⟨rfl, hy⟩
    obtain ⟨d0, d1, hz2⟩ := box2 hy
    have hx' := (((Ext.refl w).alloc _).trans hx).trans (((Ext.refl _).alloc _).trans hy)
    clear c0 c1 c2 c3 hz hx
    go_wp2_with fail
    go_ret2
    exact ⟨rfl, hx'.alloc _⟩
  · rw [if_neg (fun h => g1 h.1)]
    simp only [e1] at M1
    simp only [e2] at M2
    clear e1 e2 g1 g2
    unfold WNo pv wv at *
    go_enter Try.func26, Try.ntmps26
    go_wp2_with fail
    refine (L.out _).mono ?_
    rintro e w1 ⟨rfl, hx⟩
    obtain ⟨c0, c1, c2, c3, hz⟩ := box4 hx
    go_wp2_with fail
    refine (M1.out _).mono ?_
    rintro e w2 ⟨rfl, hy⟩
    have hx := hx.trans hy
    clear hy c0 c1 c2 c3 hz
    obtain ⟨c0, c1, c2, c3, hz⟩ := box4 hx
    go_wp2_with fail
    refine (M2.out _).mono ?_
    rintro e w3 ⟨rfl, hy⟩
    obtain ⟨d0, d1, hz2⟩ := box2 hy
    have hx' := (((Ext.refl w).alloc _).trans hx).trans (((Ext.refl _).alloc _).trans hy)
    clear c0 c1 c2 c3 hz hx
    go_wp2_with fail
    go_ret2
    exact ⟨rfl, hx'.alloc _⟩
theorem sub64_at (x y b : Nat) (hb : b ≤ 1) (w : World) :
    (callFunc 41 #[.int .u64 (x : Int), .int .u64 (y : Int), .int .u64 (b : Int)]).run Try.prog w =
      .ok (.value (.tuple #[.int .u64 (((x + 18446744073709551616 - y - b) % 18446744073709551616 : Nat) : Int), .int .u64 ((if x < y + b then 1 else 0 : Nat) : Int)])) w := by
  rw [run_callFunc_extern Try.func41 (by kernel_rfl) (by kernel_rfl) (by kernel_rfl) (e := sub64Entry) (by kernel_rfl), run_sub64 x y b hb]
  rfl
theorem sub64_zero (x y : Nat) (w : World) :
    (callFunc 41 #[.int .u64 (x : Int), .int .u64 (y : Int), .int .u64 0]).run Try.prog w =
      .ok (.value (.tuple #[.int .u64 (((x + 18446744073709551616 - y) % 18446744073709551616 : Nat) : Int), .int .u64 ((if x < y then 1 else 0 : Nat) : Int)])) w := by
  have h := sub64_at x y 0 (by omega) w
  rw [Nat.add_zero, Nat.sub_zero] at h
  exact h
theorem sub_plain {a b c d : Nat} (ha : a < 18446744073709551616) (hb : b < 18446744073709551616) (hc : c < 18446744073709551616) (hd : d < 18446744073709551616) :
    ∃ lo cy hi un : Nat, (b + 18446744073709551616 - d) % 18446744073709551616 = lo ∧ (if b < d then 1 else 0) = cy ∧ (a + 18446744073709551616 - c - cy) % 18446744073709551616 = hi ∧ (if a < c + cy then 1 else 0) = un ∧
      lo < 18446744073709551616 ∧ cy ≤ 1 ∧ hi < 18446744073709551616 ∧ ((un = 1 ∧ N2 a b < N2 c d) ∨ (un = 0 ∧ ¬ N2 a b < N2 c d ∧ N2 a b - N2 c d = N2 hi lo)) := by
  refine ⟨_, _, _, _, rfl, rfl, rfl, rfl, by omega, by split <;> omega, by omega, ?_⟩
  unfold N2
  by_cases h1 : b < d
  · rw [if_pos h1]
    by_cases h2 : a < c + 1
    · rw [if_pos h2]; left; exact ⟨rfl, by omega⟩
    · rw [if_neg h2]; right; exact ⟨rfl, by omega, by omega⟩
  · rw [if_neg h1]
    by_cases h2 : a < c + 0
    · rw [if_pos h2]; left; exact ⟨rfl, by omega⟩
    · rw [if_neg h2]; right; exact ⟨rfl, by omega, by omega⟩
set_option maxHeartbeats 400000 in
theorem wsub_any (a b c d : Nat) (w : World) (ha : a < 18446744073709551616) (hb : b < 18446744073709551616) (hc : c < 18446744073709551616) (hd : d < 18446744073709551616) :
    Calls Try.prog 16 #[wv a b, wv c d] w fun e w' => e = WSub (N2 a b) (N2 c d) ∧ Ext w w' := by
  obtain ⟨lo, cy, hi, un, h1, h2, h3, h4, l1, l2, l3, h5⟩ := sub_plain ha hb hc hd
  have A1 := Lib.hid (fun w => sub64_zero b d w)
  have A2 := Lib.hid (fun w => sub64_at a c cy l2 w)
  simp only [h1, h2] at A1
  simp only [h3, h4] at A2
  clear h1 h2 h3 h4
  unfold WSub
  rcases h5 with ⟨rfl, h5⟩ | ⟨rfl, h5, h6⟩
  · rw [if_pos h5]
    clear h5
    unfold wv WNo wv
    go_enter Try.func16, Try.ntmps16
    go_wp2_with (simp only [A1.out, A2.out])
    go_returns
    exact ⟨rfl, (((Ext.refl w).alloc _).alloc _).alloc _⟩
  · rw [if_neg h5, h6, wok_yes l3 l1]
    clear h5 h6
    unfold wv
    go_enter Try.func16, Try.ntmps16
    go_wp2_with (simp only [A1.out, A2.out])
    go_returns
    exact ⟨rfl, (((Ext.refl w).alloc _).alloc _).alloc _⟩
end Go.Proofs.Ytbclkhkpmdbedaa
