/-
  The document's layer 2: Add, Sub, Compare, walked.
-/
import Derived.Test.YtbclkhkpmdbedaaWRef2
namespace Go.Proofs.Ytbclkhkpmdbedaa
open Go.RowKit
set_option linter.unusedVariables false
/-- The cells of two boxed numbers, and of a result's block. -/
theorem boxes3 {w u : World} {a b c d x y : Value} {t : TypeId} (hx : Ext (((w.alloc (.cells #[a, b] t)).alloc (.cells #[c, d] t)).alloc (.cells #[x, y] t)) u) :
    (u.cell? ⟨w.heap.size, 0, none⟩ = some a ∧ u.cell? ⟨w.heap.size, 1, none⟩ = some b ∧ u.cell? ⟨w.heap.size + 1, 0, none⟩ = some c ∧ u.cell? ⟨w.heap.size + 1, 1, none⟩ = some d) ∧
    u.cell? ⟨w.heap.size + 1 + 1, 0, none⟩ = some x ∧ u.cell? ⟨w.heap.size + 1 + 1, 1, none⟩ = some y ∧ u.frozen? ⟨w.heap.size + 1 + 1, 0, none⟩ = false ∧ u.frozen? ⟨w.heap.size + 1 + 1, 1, none⟩ = false := by
  have s1 : (w.alloc (.cells #[a, b] t)).heap.size = w.heap.size + 1 := by simp
  have s2 : ((w.alloc (.cells #[a, b] t)).alloc (.cells #[c, d] t)).heap.size = w.heap.size + 1 + 1 := by simp
  have h1 := boxAt (((Ext.refl _).alloc _).trans hx) (k := 0) (v := c) rfl
  have h2 := boxAt (((Ext.refl _).alloc _).trans hx) (k := 1) (v := d) rfl
  have h3 := boxW hx
  rw [s1] at h1 h2
  rw [s2] at h3
  exact ⟨⟨boxAt ((((Ext.refl _).alloc _).alloc _).trans hx) rfl, boxAt ((((Ext.refl _).alloc _).alloc _).trans hx) rfl, h1, h2⟩, h3⟩
theorem boxes2 {w u : World} {a b c d : Value} {t : TypeId} (hx : Ext ((w.alloc (.cells #[a, b] t)).alloc (.cells #[c, d] t)) u) :
    u.cell? ⟨w.heap.size, 0, none⟩ = some a ∧ u.cell? ⟨w.heap.size, 1, none⟩ = some b ∧ u.cell? ⟨w.heap.size + 1, 0, none⟩ = some c ∧ u.cell? ⟨w.heap.size + 1, 1, none⟩ = some d := by
  have s1 : (w.alloc (.cells #[a, b] t)).heap.size = w.heap.size + 1 := by simp
  have h1 := boxAt hx (k := 0) (v := c) rfl
  have h2 := boxAt hx (k := 1) (v := d) rfl
  rw [s1] at h1 h2
  exact ⟨boxAt (((Ext.refl _).alloc _).trans hx) rfl, boxAt (((Ext.refl _).alloc _).trans hx) rfl, h1, h2⟩
def WSub (x y : Nat) : Ending := if x < y then WNo else WOk (x - y)
/-- Two numbers' digits, and what the calls on them give. -/
structure Two (a b c d : Nat) : Prop where
  ha : a < 18446744073709551616
  hb : b < 18446744073709551616
  hc : c < 18446744073709551616
  hd : d < 18446744073709551616
set_option maxRecDepth 100000 in
set_option maxHeartbeats 6400000 in
theorem raddw_any (a b c d : Nat) (w : World) (ha : a < 18446744073709551616) (hb : b < 18446744073709551616) (hc : c < 18446744073709551616) (hd : d < 18446744073709551616) :
    Calls Try.prog 15 #[wv a b, wv c d] w fun e w' => e = WOk (N2 a b + N2 c d) ∧ Ext w w' := by
  have OA := Lib.hid (fun w => ofw_any a b w ha hb)
  have OC := Lib.hid (fun w => ofw_any c d w hc hd)
  have D1 := of2_dig ha hb
  have D2 := of2_dig hc hd
  have V1 := Lib.hid (of2_val a b)
  have V2 := Lib.hid (of2_val c d)
  have BK := Lib.hid back_any
  have WO := wok_or (N2 a b + N2 c d)
  have PL := Lib.hid plus_any
  rcases WO with ⟨hi, lo, bh, bl, e0, e1⟩ | ⟨g1, e1⟩
  · rw [e1]
    have E1 := Lib.hid e1
    clear e0 e1 ha hb hc hd
    unfold wv at *
    go_enter Try.func15, Try.ntmps15
    go_wp2_with fail
    have BX := Lib.hid (fun W (hx : Ext (((w.alloc (.cells #[.int .u64 (a : Int), .int .u64 (b : Int)] 24)).alloc (.cells #[.int .u64 (c : Int), .int .u64 (d : Int)] 24)).alloc (.cells #[.int .u64 0, .int .u64 0] 24)) W) => boxes3 hx)
    have hw : Ext w (((w.alloc (.cells #[.int .u64 (a : Int), .int .u64 (b : Int)] 24)).alloc (.cells #[.int .u64 (c : Int), .int .u64 (d : Int)] 24)).alloc (.cells #[.int .u64 0, .int .u64 0] 24)) := (((Ext.refl w).alloc _).alloc _).alloc _
    have hr : w.heap.size ≤ w.heap.size + 1 + 1 := by omega
    generalize hB : (((w.alloc (.cells #[.int .u64 (a : Int), .int .u64 (b : Int)] 24)).alloc (.cells #[.int .u64 (c : Int), .int .u64 (d : Int)] 24)).alloc (.cells #[.int .u64 0, .int .u64 0] 24)) = B at *
    have x0 := Ext.refl B
    have hbz : w.heap.size + 1 + 1 + 1 = B.heap.size := by rw [← hB]; simp
    clear hB
    obtain ⟨⟨c0, c1, c2, c3⟩, f0, f1, f2, f3⟩ := BX.out _ x0
    clear hbz
    go_region_held3 (fun w' => w'.cell? ⟨w.heap.size, 0, none⟩ = some (.int .u64 (a : Int)) ∧ w'.cell? ⟨w.heap.size, 1, none⟩ = some (.int .u64 (b : Int)) ∧ w'.cell? ⟨w.heap.size + 1, 0, none⟩ = some (.int .u64 (c : Int)) ∧ w'.cell? ⟨w.heap.size + 1, 1, none⟩ = some (.int .u64 (d : Int)) ∧ Ext w w')
      (first
        | (refine ⟨?_, ?_, ?_, ?_, ?_⟩ <;> first | assumption | (apply Ext.drew; assumption) | exact hw.trans (by assumption) | exact (hw.trans (by assumption)).drew)
        | (refine ⟨?_, ?_, ?_, ?_, ?_⟩ <;> first | assumption | (rw [World.cell?_setCell_far _ _ _ _ (by simp; omega), World.cell?_setCell_far _ _ _ _ (by simp; omega)]; assumption) | (rw [World.cell?_setCell_far _ _ _ _ (by simp), World.cell?_setCell_far _ _ _ _ (by simp)]; assumption) | (rw [World.cell?_setCell_far _ _ _ _ (by simp)]; assumption) | exact ((hw.trans (by assumption)).setCell hr _).setCell hr _))
      (first
        | (go_at_call 33; (with_reducible refine (OA.out _).mono ?_); rintro e w1 ⟨A1, k1, rfl, r1, hx1⟩; have x1 : Ext B w1 := Ext.trans (by first | assumption | exact Ext.drew (by assumption)) hx1; obtain ⟨⟨d0, d1, d2, d3⟩, f0, f1, f2, f3⟩ := BX.out _ x1)
        | (go_at_call 33; (with_reducible refine (OC.out _).mono ?_); rintro e w2 ⟨A2, k2, rfl, r2, hx2⟩; have x2 : Ext B w2 := Ext.trans (by first | assumption | exact Ext.drew (by assumption)) hx2; obtain ⟨⟨d0, d1, d2, d3⟩, f0, f1, f2, f3⟩ := BX.out _ x2)
        | (go_at_call 35; (with_reducible refine (PL.out A1 A2 8 k1 8 k2 (of2 a b) (of2 c d) w2 (by omega) (by omega) (r1.ext hx2) r2 D1 D2).mono ?_); rintro e w3 ⟨A3, k3, l3, rfl, r3, g3, v3, m3, hc3, m3', hx3⟩; have V3 := Lib.hid v3; clear v3; have x3 : Ext B w3 := Ext.trans (by first | assumption | exact Ext.drew (by assumption)) hx3; obtain ⟨⟨d0, d1, d2, d3⟩, f0, f1, f2, f3⟩ := BX.out _ x3)
        | (go_at_call 31; (with_reducible refine (BK.out A3 l3.length k3 l3 w3 (by omega) (by omega) hc3 r3 g3).mono ?_); rintro e w4 ⟨he, hx4⟩; rw [V3.out, V1.out, V2.out, E1.out] at he; subst he; have x4 : Ext B w4 := Ext.trans (by first | assumption | exact Ext.drew (by assumption)) hx4; obtain ⟨⟨d0, d1, d2, d3⟩, f0, f1, f2, f3⟩ := BX.out _ x4))
    all_goals
      go_wp2_with fail
      refine bodyPost_ret (v := .tuple #[.agg #[.int .u64 (hi : Int), .int .u64 (lo : Int)], .bool true]) (by simp [results, Try.results15, go_sem, f0, f1]) rfl ?_
      exact ⟨rfl, ((hw.trans x4).setCell hr _).setCell hr _⟩
  · rw [e1]
    have E1 := Lib.hid e1
    clear g1 e1 ha hb hc hd
    unfold WNo wv at *
    go_enter Try.func15, Try.ntmps15
    go_wp2_with fail
    have BX := Lib.hid (fun W (hx : Ext (((w.alloc (.cells #[.int .u64 (a : Int), .int .u64 (b : Int)] 24)).alloc (.cells #[.int .u64 (c : Int), .int .u64 (d : Int)] 24)).alloc (.cells #[.int .u64 0, .int .u64 0] 24)) W) => boxes3 hx)
    have hw : Ext w (((w.alloc (.cells #[.int .u64 (a : Int), .int .u64 (b : Int)] 24)).alloc (.cells #[.int .u64 (c : Int), .int .u64 (d : Int)] 24)).alloc (.cells #[.int .u64 0, .int .u64 0] 24)) := (((Ext.refl w).alloc _).alloc _).alloc _
    have hr : w.heap.size ≤ w.heap.size + 1 + 1 := by omega
    generalize hB : (((w.alloc (.cells #[.int .u64 (a : Int), .int .u64 (b : Int)] 24)).alloc (.cells #[.int .u64 (c : Int), .int .u64 (d : Int)] 24)).alloc (.cells #[.int .u64 0, .int .u64 0] 24)) = B at *
    have x0 := Ext.refl B
    have hbz : w.heap.size + 1 + 1 + 1 = B.heap.size := by rw [← hB]; simp
    clear hB
    obtain ⟨⟨c0, c1, c2, c3⟩, f0, f1, f2, f3⟩ := BX.out _ x0
    clear hbz
    go_region_held3 (fun w' => w'.cell? ⟨w.heap.size, 0, none⟩ = some (.int .u64 (a : Int)) ∧ w'.cell? ⟨w.heap.size, 1, none⟩ = some (.int .u64 (b : Int)) ∧ w'.cell? ⟨w.heap.size + 1, 0, none⟩ = some (.int .u64 (c : Int)) ∧ w'.cell? ⟨w.heap.size + 1, 1, none⟩ = some (.int .u64 (d : Int)) ∧ Ext w w')
      (first
        | (refine ⟨?_, ?_, ?_, ?_, ?_⟩ <;> first | assumption | (apply Ext.drew; assumption) | exact hw.trans (by assumption) | exact (hw.trans (by assumption)).drew)
        | (refine ⟨?_, ?_, ?_, ?_, ?_⟩ <;> first | assumption | (rw [World.cell?_setCell_far _ _ _ _ (by simp; omega), World.cell?_setCell_far _ _ _ _ (by simp; omega)]; assumption) | (rw [World.cell?_setCell_far _ _ _ _ (by simp), World.cell?_setCell_far _ _ _ _ (by simp)]; assumption) | (rw [World.cell?_setCell_far _ _ _ _ (by simp)]; assumption) | exact ((hw.trans (by assumption)).setCell hr _).setCell hr _))
      (first
        | (go_at_call 33; (with_reducible refine (OA.out _).mono ?_); rintro e w1 ⟨A1, k1, rfl, r1, hx1⟩; have x1 : Ext B w1 := Ext.trans (by first | assumption | exact Ext.drew (by assumption)) hx1; obtain ⟨⟨d0, d1, d2, d3⟩, f0, f1, f2, f3⟩ := BX.out _ x1)
        | (go_at_call 33; (with_reducible refine (OC.out _).mono ?_); rintro e w2 ⟨A2, k2, rfl, r2, hx2⟩; have x2 : Ext B w2 := Ext.trans (by first | assumption | exact Ext.drew (by assumption)) hx2; obtain ⟨⟨d0, d1, d2, d3⟩, f0, f1, f2, f3⟩ := BX.out _ x2)
        | (go_at_call 35; (with_reducible refine (PL.out A1 A2 8 k1 8 k2 (of2 a b) (of2 c d) w2 (by omega) (by omega) (r1.ext hx2) r2 D1 D2).mono ?_); rintro e w3 ⟨A3, k3, l3, rfl, r3, g3, v3, m3, hc3, m3', hx3⟩; have V3 := Lib.hid v3; clear v3; have x3 : Ext B w3 := Ext.trans (by first | assumption | exact Ext.drew (by assumption)) hx3; obtain ⟨⟨d0, d1, d2, d3⟩, f0, f1, f2, f3⟩ := BX.out _ x3)
        | (go_at_call 31; (with_reducible refine (BK.out A3 l3.length k3 l3 w3 (by omega) (by omega) hc3 r3 g3).mono ?_); rintro e w4 ⟨he, hx4⟩; rw [V3.out, V1.out, V2.out, E1.out] at he; subst he; have x4 : Ext B w4 := Ext.trans (by first | assumption | exact Ext.drew (by assumption)) hx4; obtain ⟨⟨d0, d1, d2, d3⟩, f0, f1, f2, f3⟩ := BX.out _ x4))
    all_goals
      go_wp2_with fail
      refine bodyPost_ret (v := .tuple #[.agg #[.int .u64 0, .int .u64 0], .bool false]) (by simp [results, Try.results15, go_sem, f0, f1]) rfl ?_
      exact ⟨rfl, ((hw.trans x4).setCell hr _).setCell hr _⟩
set_option maxRecDepth 100000 in
set_option maxHeartbeats 6400000 in
theorem rsubw_any (a b c d : Nat) (w : World) (ha : a < 18446744073709551616) (hb : b < 18446744073709551616) (hc : c < 18446744073709551616) (hd : d < 18446744073709551616) :
    Calls Try.prog 17 #[wv a b, wv c d] w fun e w' => e = WSub (N2 a b) (N2 c d) ∧ Ext w w' := by
  have OA := Lib.hid (fun w => ofw_any a b w ha hb)
  have OC := Lib.hid (fun w => ofw_any c d w hc hd)
  have D1 := of2_dig ha hb
  have D2 := of2_dig hc hd
  have V1 := Lib.hid (of2_val a b)
  have V2 := Lib.hid (of2_val c d)
  have BK := Lib.hid back_any
  have LS := Lib.hid less_any
  have MI := Lib.hid minus_any
  unfold WSub
  by_cases hlt : N2 a b < N2 c d
  · rw [if_pos hlt]
    have LT := Lib.hid (decide_eq_true hlt)
    clear hlt ha hb hc hd
    unfold WNo wv at *
    go_enter Try.func17, Try.ntmps17
    go_wp2_with fail
    have BX := Lib.hid (fun W (hx : Ext (((w.alloc (.cells #[.int .u64 (a : Int), .int .u64 (b : Int)] 24)).alloc (.cells #[.int .u64 (c : Int), .int .u64 (d : Int)] 24)).alloc (.cells #[.int .u64 0, .int .u64 0] 24)) W) => boxes3 hx)
    have hw : Ext w (((w.alloc (.cells #[.int .u64 (a : Int), .int .u64 (b : Int)] 24)).alloc (.cells #[.int .u64 (c : Int), .int .u64 (d : Int)] 24)).alloc (.cells #[.int .u64 0, .int .u64 0] 24)) := (((Ext.refl w).alloc _).alloc _).alloc _
    have hr : w.heap.size ≤ w.heap.size + 1 + 1 := by omega
    generalize hB : (((w.alloc (.cells #[.int .u64 (a : Int), .int .u64 (b : Int)] 24)).alloc (.cells #[.int .u64 (c : Int), .int .u64 (d : Int)] 24)).alloc (.cells #[.int .u64 0, .int .u64 0] 24)) = B at *
    have x0 := Ext.refl B
    have hbz : w.heap.size + 1 + 1 + 1 = B.heap.size := by rw [← hB]; simp
    clear hB
    obtain ⟨⟨c0, c1, c2, c3⟩, f0, f1, f2, f3⟩ := BX.out _ x0
    clear hbz
    go_region_held3 (fun w' => w'.cell? ⟨w.heap.size, 0, none⟩ = some (.int .u64 (a : Int)) ∧ w'.cell? ⟨w.heap.size, 1, none⟩ = some (.int .u64 (b : Int)) ∧ w'.cell? ⟨w.heap.size + 1, 0, none⟩ = some (.int .u64 (c : Int)) ∧ w'.cell? ⟨w.heap.size + 1, 1, none⟩ = some (.int .u64 (d : Int)) ∧ Ext w w')
      (first
        | (refine ⟨?_, ?_, ?_, ?_, ?_⟩ <;> first | assumption | (apply Ext.drew; assumption) | exact hw.trans (by assumption) | exact (hw.trans (by assumption)).drew)
        | (refine ⟨?_, ?_, ?_, ?_, ?_⟩ <;> first | assumption | (rw [World.cell?_setCell_far _ _ _ _ (by simp; omega), World.cell?_setCell_far _ _ _ _ (by simp; omega)]; assumption) | (rw [World.cell?_setCell_far _ _ _ _ (by simp), World.cell?_setCell_far _ _ _ _ (by simp)]; assumption) | (rw [World.cell?_setCell_far _ _ _ _ (by simp)]; assumption) | exact ((hw.trans (by assumption)).setCell hr _).setCell hr _))
      (first
        | (go_at_call 33; (with_reducible refine (OA.out _).mono ?_); rintro e w1 ⟨A1, k1, rfl, r1, hx1⟩; have x1 : Ext B w1 := Ext.trans (by first | assumption | exact Ext.drew (by assumption)) hx1; obtain ⟨⟨d0, d1, d2, d3⟩, f0, f1, f2, f3⟩ := BX.out _ x1)
        | (go_at_call 33; (with_reducible refine (OC.out _).mono ?_); rintro e w2 ⟨A2, k2, rfl, r2, hx2⟩; have x2 : Ext B w2 := Ext.trans (by first | assumption | exact Ext.drew (by assumption)) hx2; obtain ⟨⟨d0, d1, d2, d3⟩, f0, f1, f2, f3⟩ := BX.out _ x2)
        | (go_at_call 37; (with_reducible refine (LS.out A1 A2 8 k1 8 k2 (of2 a b) (of2 c d) w2 (by omega) (by omega) (r1.ext hx2) r2 D1 D2).mono ?_); rintro e w3 ⟨he, rfl⟩; rw [V1.out, V2.out, LT.out] at he; subst he))
    all_goals
      go_wp2_with fail
      refine bodyPost_ret (v := .tuple #[.agg #[.int .u64 0, .int .u64 0], .bool false]) (by simp [results, Try.results17, go_sem, f0, f1]) rfl ?_
      exact ⟨rfl, ((hw.trans x2).setCell hr _).setCell hr _⟩
  · rw [if_neg hlt]
    have LT := Lib.hid (decide_eq_false hlt)
    have hle : N2 c d ≤ N2 a b := by omega
    have LE : Hid (Big.val (of2 c d) ≤ Big.val (of2 a b)) := by rw [V1.out, V2.out]; exact hle
    have n1 := n2_lt ha hb
    have e1 := wok_or (N2 a b - N2 c d)
    rcases e1 with ⟨hi, lo, bh, bl, e0, e1⟩ | ⟨g1, e1⟩
    · rw [e1]
      have E1 := Lib.hid e1
      clear e0 e1 hlt hle n1 ha hb hc hd
      unfold wv at *
      go_enter Try.func17, Try.ntmps17
      go_wp2_with fail
      have BX := Lib.hid (fun W (hx : Ext (((w.alloc (.cells #[.int .u64 (a : Int), .int .u64 (b : Int)] 24)).alloc (.cells #[.int .u64 (c : Int), .int .u64 (d : Int)] 24)).alloc (.cells #[.int .u64 0, .int .u64 0] 24)) W) => boxes3 hx)
      have hw : Ext w (((w.alloc (.cells #[.int .u64 (a : Int), .int .u64 (b : Int)] 24)).alloc (.cells #[.int .u64 (c : Int), .int .u64 (d : Int)] 24)).alloc (.cells #[.int .u64 0, .int .u64 0] 24)) := (((Ext.refl w).alloc _).alloc _).alloc _
      have hr : w.heap.size ≤ w.heap.size + 1 + 1 := by omega
      generalize hB : (((w.alloc (.cells #[.int .u64 (a : Int), .int .u64 (b : Int)] 24)).alloc (.cells #[.int .u64 (c : Int), .int .u64 (d : Int)] 24)).alloc (.cells #[.int .u64 0, .int .u64 0] 24)) = B at *
      have x0 := Ext.refl B
      have hbz : w.heap.size + 1 + 1 + 1 = B.heap.size := by rw [← hB]; simp
      clear hB
      obtain ⟨⟨c0, c1, c2, c3⟩, f0, f1, f2, f3⟩ := BX.out _ x0
      clear hbz
      go_region_held3 (fun w' => w'.cell? ⟨w.heap.size, 0, none⟩ = some (.int .u64 (a : Int)) ∧ w'.cell? ⟨w.heap.size, 1, none⟩ = some (.int .u64 (b : Int)) ∧ w'.cell? ⟨w.heap.size + 1, 0, none⟩ = some (.int .u64 (c : Int)) ∧ w'.cell? ⟨w.heap.size + 1, 1, none⟩ = some (.int .u64 (d : Int)) ∧ Ext w w')
        (first
          | (refine ⟨?_, ?_, ?_, ?_, ?_⟩ <;> first | assumption | (apply Ext.drew; assumption) | exact hw.trans (by assumption) | exact (hw.trans (by assumption)).drew)
          | (refine ⟨?_, ?_, ?_, ?_, ?_⟩ <;> first | assumption | (rw [World.cell?_setCell_far _ _ _ _ (by simp; omega), World.cell?_setCell_far _ _ _ _ (by simp; omega)]; assumption) | (rw [World.cell?_setCell_far _ _ _ _ (by simp), World.cell?_setCell_far _ _ _ _ (by simp)]; assumption) | (rw [World.cell?_setCell_far _ _ _ _ (by simp)]; assumption) | exact ((hw.trans (by assumption)).setCell hr _).setCell hr _))
        (first
          | (go_at_call 33; (with_reducible refine (OA.out _).mono ?_); rintro e w1 ⟨A1, k1, rfl, r1, hx1⟩; have x1 : Ext B w1 := Ext.trans (by first | assumption | exact Ext.drew (by assumption)) hx1; obtain ⟨⟨d0, d1, d2, d3⟩, f0, f1, f2, f3⟩ := BX.out _ x1)
          | (go_at_call 33; (with_reducible refine (OC.out _).mono ?_); rintro e w2 ⟨A2, k2, rfl, r2, hx2⟩; have x2 : Ext B w2 := Ext.trans (by first | assumption | exact Ext.drew (by assumption)) hx2; obtain ⟨⟨d0, d1, d2, d3⟩, f0, f1, f2, f3⟩ := BX.out _ x2)
          | (go_at_call 37; (with_reducible refine (LS.out A1 A2 8 k1 8 k2 (of2 a b) (of2 c d) w2 (by omega) (by omega) (r1.ext hx2) r2 D1 D2).mono ?_); rintro e w3 ⟨he, rfl⟩; rw [V1.out, V2.out, LT.out] at he; subst he))
      clear r1 r2 hx1 hx2 c0 c1 c2 c3 f0 f1 f2 f3 x1
      all_goals
        go_wp2_with fail
        have x5 := x2
        obtain ⟨⟨c0, c1, c2, c3⟩, f0, f1, f2, f3⟩ := BX.out _ x5
        clear x2
        go_region_held3 (fun w' => w'.cell? ⟨w.heap.size, 0, none⟩ = some (.int .u64 (a : Int)) ∧ w'.cell? ⟨w.heap.size, 1, none⟩ = some (.int .u64 (b : Int)) ∧ w'.cell? ⟨w.heap.size + 1, 0, none⟩ = some (.int .u64 (c : Int)) ∧ w'.cell? ⟨w.heap.size + 1, 1, none⟩ = some (.int .u64 (d : Int)) ∧ Ext w w')
          (first
            | (refine ⟨?_, ?_, ?_, ?_, ?_⟩ <;> first | assumption | (apply Ext.drew; assumption) | exact hw.trans (by assumption) | exact (hw.trans (by assumption)).drew)
            | (refine ⟨?_, ?_, ?_, ?_, ?_⟩ <;> first | assumption | (rw [World.cell?_setCell_far _ _ _ _ (by simp; omega), World.cell?_setCell_far _ _ _ _ (by simp; omega)]; assumption) | (rw [World.cell?_setCell_far _ _ _ _ (by simp), World.cell?_setCell_far _ _ _ _ (by simp)]; assumption) | (rw [World.cell?_setCell_far _ _ _ _ (by simp)]; assumption) | exact ((hw.trans (by assumption)).setCell hr _).setCell hr _))
          (first
            | (go_at_call 33; (with_reducible refine (OA.out _).mono ?_); rintro e w1 ⟨A1, k1, rfl, r1, hx1⟩; have x1 : Ext B w1 := Ext.trans (by first | assumption | exact Ext.drew (by assumption)) hx1; obtain ⟨⟨d0, d1, d2, d3⟩, f0, f1, f2, f3⟩ := BX.out _ x1)
            | (go_at_call 33; (with_reducible refine (OC.out _).mono ?_); rintro e w2 ⟨A2, k2, rfl, r2, hx2⟩; have x2 : Ext B w2 := Ext.trans (by first | assumption | exact Ext.drew (by assumption)) hx2; obtain ⟨⟨d0, d1, d2, d3⟩, f0, f1, f2, f3⟩ := BX.out _ x2)
            | (go_at_call 38; (with_reducible refine (MI.out A1 A2 8 k1 8 k2 (of2 a b) (of2 c d) w2 (by omega) (by omega) (r1.ext hx2) r2 D1 D2 LE.out).mono ?_); rintro e w3 ⟨A3, k3, l3, rfl, r3, g3, v3, m3, m3', hc3, hx3⟩; have V3 := Lib.hid v3; clear v3; have x3 : Ext B w3 := Ext.trans (by first | assumption | exact Ext.drew (by assumption)) hx3; obtain ⟨⟨d0, d1, d2, d3⟩, f0, f1, f2, f3⟩ := BX.out _ x3)
            | (go_at_call 31; (with_reducible refine (BK.out A3 l3.length k3 l3 w3 (by omega) (by omega) hc3 r3 g3).mono ?_); rintro e w4 ⟨he, hx4⟩; rw [V3.out, V1.out, V2.out, E1.out] at he; subst he; have x4 : Ext B w4 := Ext.trans (by first | assumption | exact Ext.drew (by assumption)) hx4; obtain ⟨⟨d0, d1, d2, d3⟩, f0, f1, f2, f3⟩ := BX.out _ x4))
        all_goals
          go_wp2_with fail
          refine bodyPost_ret (v := .tuple #[.agg #[.int .u64 (hi : Int), .int .u64 (lo : Int)], .bool true]) (by simp [results, Try.results17, go_sem, f0, f1]) rfl ?_
          exact ⟨rfl, ((hw.trans x4).setCell hr _).setCell hr _⟩
    · exact absurd (show N2 a b - N2 c d < 340282366920938463463374607431768211456 by omega) g1
end Go.Proofs.Ytbclkhkpmdbedaa
