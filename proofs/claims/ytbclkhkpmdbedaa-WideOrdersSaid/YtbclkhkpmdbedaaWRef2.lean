/-
  The document's layer 2: Mul, Add, Sub, Compare, walked.
-/
import Derived.Test.YtbclkhkpmdbedaaWRef
namespace Go.Proofs.Ytbclkhkpmdbedaa
open Go.RowKit
set_option linter.unusedVariables false
theorem boxFree {w w1 : World} {cs : Array Value} {t : TypeId} (hx : Ext (w.alloc (.cells cs t)) w1) (k : Nat) : w1.frozen? ⟨w.heap.size, k, none⟩ = false := by
  have h0 : w.heap.size < (w.alloc (.cells cs t)).heap.size := by show w.heap.size < (w.heap.push _).size; simp
  refine (hx.frozen (p := ⟨w.heap.size, k, none⟩) h0).trans ?_
  have h : (w.alloc (.cells cs t)).heap[w.heap.size]? = some (.cells cs t) := heap_alloc_new w _
  simp only [World.frozen?, h]
  simp
/-- A block of two cells that a call made, to be written into. -/
theorem boxW {w w1 : World} {a b : Value} {t : TypeId} (hx : Ext (w.alloc (.cells #[a, b] t)) w1) :
    w1.cell? ⟨w.heap.size, 0, none⟩ = some a ∧ w1.cell? ⟨w.heap.size, 1, none⟩ = some b ∧ w1.frozen? ⟨w.heap.size, 0, none⟩ = false ∧ w1.frozen? ⟨w.heap.size, 1, none⟩ = false :=
  ⟨boxAt hx rfl, boxAt hx rfl, boxFree hx 0, boxFree hx 1⟩
set_option maxRecDepth 8000 in
set_option maxHeartbeats 3200000 in
theorem rmulw_any (a b n : Nat) (w : World) (ha : a < 18446744073709551616) (hb : b < 18446744073709551616) (hn : n < 18446744073709551616) :
    Calls Try.prog 12 #[wv a b, .int .u64 (n : Int)] w fun e w' => e = WOk (N2 a b * n) ∧ Ext w w' := by
  have O1 := Lib.hid (fun w => ofw_any a b w ha hb)
  have O2 := Lib.hid (fun w => of_any n w hn)
  have D1 := of2_dig ha hb
  have V1 := Lib.hid (of2_val a b)
  have WO := wok_or (N2 a b * n)
  have BK := Lib.hid back_any
  have TM := Lib.hid times_any
  unfold wv
  rcases WO with ⟨hi, lo, bh, bl, e0, e1⟩ | ⟨g1, e1⟩
  · rw [e1]
    have E1 := Lib.hid e1
    clear e0 e1
    unfold wv at *
    go_enter Try.func12, Try.ntmps12
    go_wp2_with fail
    have hx0 := Ext.refl ((w.alloc (.cells #[.int .u64 (a : Int), .int .u64 (b : Int)] 24)).alloc (.cells #[.int .u64 0, .int .u64 0] 24))
    have hz : (w.alloc (.cells #[.int .u64 (a : Int), .int .u64 (b : Int)] 24)).heap.size = w.heap.size + 1 := by simp
    refine (O1.out _).mono ?_
    rintro e w1 ⟨A1, c1, rfl, r1, x1⟩
    go_wp2_with fail
    refine (O2.out _).mono ?_
    rintro e w2 ⟨A2, c2, l2, rfl, r2, d2, v2, m2, m2', hc2, x2⟩
    have V2 := Lib.hid v2
    clear v2
    go_wp2_with fail
    refine (TM.out A1 A2 8 c1 l2.length c2 (of2 a b) l2 w2 (by omega) (by omega) (r1.ext x2) r2 D1 d2 (by omega)).mono ?_
    rintro e w3 ⟨A3, c3, l3, rfl, r3, d3, v3, m3, m3', hc3, x3⟩
    have V3 := Lib.hid v3
    clear v3
    go_wp2_with fail
    refine (BK.out A3 l3.length c3 l3 w3 (by omega) (by omega) hc3 r3 d3).mono ?_
    rintro e w4 ⟨he, x4⟩
    rw [V3.out, V1.out, V2.out, E1.out] at he
    subst he
    have hx := hx0.trans (x1.trans (x2.trans (x3.trans x4)))
    have hx' := (((Ext.refl w).alloc _).alloc _).trans hx
    obtain ⟨f0, f1, f2, f3⟩ := boxW hx
    rw [hz] at f0 f1 f2 f3
    clear hz r1 r2 r3 d2 d3 m2 m2' m3 m3' hc2 hc3 hx hx0 x1 x2 x3 x4
    go_wp2_with fail
    refine bodyPost_ret (v := .tuple #[.agg #[.int .u64 (hi : Int), .int .u64 (lo : Int)], .bool true]) (by simp [results, Try.results12, go_sem, f0, f1]) rfl ?_
    exact ⟨rfl, (hx'.setCell (by simp) _).setCell (by simp) _⟩
  · rw [e1]
    have E1 := Lib.hid e1
    clear g1 e1
    unfold WNo wv at *
    go_enter Try.func12, Try.ntmps12
    go_wp2_with fail
    have hx0 := Ext.refl ((w.alloc (.cells #[.int .u64 (a : Int), .int .u64 (b : Int)] 24)).alloc (.cells #[.int .u64 0, .int .u64 0] 24))
    have hz : (w.alloc (.cells #[.int .u64 (a : Int), .int .u64 (b : Int)] 24)).heap.size = w.heap.size + 1 := by simp
    refine (O1.out _).mono ?_
    rintro e w1 ⟨A1, c1, rfl, r1, x1⟩
    go_wp2_with fail
    refine (O2.out _).mono ?_
    rintro e w2 ⟨A2, c2, l2, rfl, r2, d2, v2, m2, m2', hc2, x2⟩
    have V2 := Lib.hid v2
    clear v2
    go_wp2_with fail
    refine (TM.out A1 A2 8 c1 l2.length c2 (of2 a b) l2 w2 (by omega) (by omega) (r1.ext x2) r2 D1 d2 (by omega)).mono ?_
    rintro e w3 ⟨A3, c3, l3, rfl, r3, d3, v3, m3, m3', hc3, x3⟩
    have V3 := Lib.hid v3
    clear v3
    go_wp2_with fail
    refine (BK.out A3 l3.length c3 l3 w3 (by omega) (by omega) hc3 r3 d3).mono ?_
    rintro e w4 ⟨he, x4⟩
    rw [V3.out, V1.out, V2.out, E1.out] at he
    subst he
    have hx := hx0.trans (x1.trans (x2.trans (x3.trans x4)))
    have hx' := (((Ext.refl w).alloc _).alloc _).trans hx
    obtain ⟨f0, f1, f2, f3⟩ := boxW hx
    rw [hz] at f0 f1 f2 f3
    clear hz r1 r2 r3 d2 d3 m2 m2' m3 m3' hc2 hc3 hx hx0 x1 x2 x3 x4
    go_wp2_with fail
    refine bodyPost_ret (v := .tuple #[.agg #[.int .u64 0, .int .u64 0], .bool false]) (by simp [results, Try.results12, go_sem, f0, f1]) rfl ?_
    exact ⟨rfl, (hx'.setCell (by simp) _).setCell (by simp) _⟩
end Go.Proofs.Ytbclkhkpmdbedaa
