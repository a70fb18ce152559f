/-
  The statement SupplyRows, walked.
-/
import Derived.Test.YtimjmacjkefljaaDoorSrRow
import Derived.Test.YtimjmacjkefljaaDoorFr
namespace Go.Proofs.YtimjmacjkefljaaDoor
open Go.RowKit Go.Shelf
set_option maxRecDepth 100000
set_option linter.unusedVariables false
attribute [local go_sem] Oper.semAt_some
theorem stop_is (s : Int) : ∃ (r1 r2 : Int) (N : Nat), Int.tmod s 1200 = r1 ∧ -1200 < r1 ∧ r1 < 1200 ∧ Int.tmod (r1 + 1200) 1200 = r2 ∧ 0 ≤ r2 ∧ r2 < 1200 ∧ r2 + 1 = (N : Int) := by
  have h1 : -1200 < Int.tmod s 1200 := Int.lt_tmod_of_pos s (by omega)
  have h2 : Int.tmod s 1200 < 1200 := Int.tmod_lt_of_pos s (by omega)
  have h3 : 0 ≤ Int.tmod (Int.tmod s 1200 + 1200) 1200 := Int.tmod_nonneg _ (by omega)
  have h4 : Int.tmod (Int.tmod s 1200 + 1200) 1200 < 1200 := Int.tmod_lt_of_pos _ (by omega)
  exact ⟨_, _, (Int.tmod (Int.tmod s 1200 + 1200) 1200 + 1).toNat, rfl, h1, h2, rfl, h3, h4, by omega⟩
set_option maxHeartbeats 3200000 in
theorem rows_row {K Q T g q t : Int} (h : Row K Q T g q t) (s : Int) (w : World) :
    Calls Tryd.prog 3 #[srv K Q T, .int .i64 s] w fun e w' => e = .returned (.bool true) ∧ Ext w w' := by
  have HL := Lib.hid (fun w => rlegal_row w h)
  have HA := Lib.hid (fun i w h0 h1 => at_row i w h h0 h1)
  have HR := Lib.hid (row_row h)
  have AL := Lib.hid alive_any
  have HB := Lib.hid h.bounds
  obtain ⟨r1, r2, N, e1, b1, b2, e2, b3, b4, e3⟩ := stop_is s
  have w1 : IntKind.i64.wrap (r1 + 1200) = r1 + 1200 := by rw [IntKind.wrap_i64]; omega
  have w2 : IntKind.i64.wrap (r2 + 1) = (N : Int) := by rw [IntKind.wrap_i64]; omega
  clear h
  unfold srv at *
  refine (callsIn_wide (n := 6)).1 ?_
  refine callsIn_of_wp_marks Tryd.func3 rfl trivial ?_ rfl
  simp only [Tryd.ntmps3, List.size_toArray, List.length_cons, List.length_nil, Nat.reduceAdd, Nat.reduceSub, Array.replicate_succ, Array.replicate_zero, List.push_toArray, List.append_toArray, List.nil_append, List.cons_append]
  gi_wp2
  refine ⟨trivial, (callsIn_wide.2 (AL.out _)).mono ?_⟩
  rintro e W1 ⟨rfl, x1⟩
  have s1 : (w.alloc (.cells #[.int .i64 K, .int .i64 Q, .int .i64 T] 23)).heap.size = w.heap.size + 1 := World.size_alloc _ _
  have s2 : ((w.alloc (.cells #[.int .i64 K, .int .i64 Q, .int .i64 T] 23)).alloc (.cells #[.int .i64 s] 3)).heap.size = w.heap.size + 1 + 1 := by rw [World.size_alloc, s1]
  have k2 := heap_alloc_new w (.cells #[.int .i64 K, .int .i64 Q, .int .i64 T] 23)
  have k3 := heap_alloc_new (w.alloc (.cells #[.int .i64 K, .int .i64 Q, .int .i64 T] 23)) (.cells #[.int .i64 s] 3)
  have k4 := heap_alloc_new ((w.alloc (.cells #[.int .i64 K, .int .i64 Q, .int .i64 T] 23)).alloc (.cells #[.int .i64 s] 3)) (.cells #[.bool false] 4)
  rw [s1] at k3
  rw [s2] at k4
  have y1 := (Ext.refl w).alloc (.cells #[.int .i64 K, .int .i64 Q, .int .i64 T] 23)
  have y2 := (Ext.refl (w.alloc (.cells #[.int .i64 K, .int .i64 Q, .int .i64 T] 23))).alloc (.cells #[.int .i64 s] 3)
  have y3 := (Ext.refl ((w.alloc (.cells #[.int .i64 K, .int .i64 Q, .int .i64 T] 23)).alloc (.cells #[.int .i64 s] 3))).alloc (.cells #[.bool false] 4)
  have H1 := Lib.hid (show W1.heap[w.heap.size]? = some ((.cells #[.int .i64 K, .int .i64 Q, .int .i64 T] 23 (0, 0))) ∧ W1.heap[w.heap.size + 1]? = some ((.cells #[.int .i64 s] 3 (0, 0))) ∧ W1.heap[w.heap.size + 1 + 1]? = some ((.cells #[.bool false] 4 (0, 0))) ∧ Ext w W1 from
    ⟨((y2.trans (y3.trans x1)).block _ (block_lt k2)).trans k2, ((y3.trans x1).block _ (block_lt k3)).trans k3, (x1.block _ (block_lt k4)).trans k4, y1.trans (y2.trans (y3.trans x1))⟩)
  clear s1 s2 k2 k3 k4 y1 y2 y3 x1 AL
  have c3 : W1.cell? ⟨w.heap.size + 1, 0, none⟩ = some (.int .i64 s) := block_cell H1.out.2.1 0
  have f3 := block_fz H1.out.2.1 0
  have c20 : W1.cell? ⟨w.heap.size, 0, none⟩ = some (.int .i64 K) := block_cell H1.out.1 0
  have c21 : W1.cell? ⟨w.heap.size, 1, none⟩ = some (.int .i64 Q) := block_cell H1.out.1 1
  have c22 : W1.cell? ⟨w.heap.size, 2, none⟩ = some (.int .i64 T) := block_cell H1.out.1 2
  have f2 := heap_setCell_same W1 (w.heap.size + 1) 0 _ _ (.int .i64 (N : Int)) H1.out.2.1
  have ff : Fr W1 (W1.setCell ⟨w.heap.size + 1, 0, none⟩ (.int .i64 (N : Int))) (fun x => x = w.heap.size + 1) := Fr.store W1 ⟨w.heap.size + 1, 0, none⟩ (.int .i64 (N : Int))
  have H2 := Lib.hid (show (W1.setCell ⟨w.heap.size + 1, 0, none⟩ (.int .i64 (N : Int))).heap[w.heap.size]? = some (.cells #[.int .i64 K, .int .i64 Q, .int .i64 T] 23 (0, 0)) ∧ (W1.setCell ⟨w.heap.size + 1, 0, none⟩ (.int .i64 (N : Int))).heap[w.heap.size + 1]? = some (.cells #[.int .i64 (N : Int)] 3 (0, 0)) ∧ (W1.setCell ⟨w.heap.size + 1, 0, none⟩ (.int .i64 (N : Int))).heap[w.heap.size + 1 + 1]? = some (.cells #[.bool false] 4 (0, 0)) ∧ Ext w (W1.setCell ⟨w.heap.size + 1, 0, none⟩ (.int .i64 (N : Int))) from
    ⟨(ff.block _ (block_lt H1.out.1) (by omega)).trans H1.out.1, f2, (ff.block _ (block_lt H1.out.2.2.1) (by omega)).trans H1.out.2.2.1, Fr.ext H1.out.2.2.2 ff (fun i e => by omega)⟩)
  clear f2 ff
  gi_wp2
  generalize W1.setCell ⟨w.heap.size + 1, 0, none⟩ (.int .i64 (N : Int)) = W2 at *
  refine ⟨trivial, (callsIn_wide.2 (HR.out W2)).mono ?_⟩
  rintro e W3 ⟨rb, eb, rfl, hrb, heb, x3⟩
  have H3 := Lib.hid (show W3.heap[w.heap.size]? = some (.cells #[.int .i64 K, .int .i64 Q, .int .i64 T] 23 (0, 0)) ∧ W3.heap[w.heap.size + 1]? = some (.cells #[.int .i64 (N : Int)] 3 (0, 0)) ∧ W3.heap[w.heap.size + 1 + 1]? = some (.cells #[.bool false] 4 (0, 0)) ∧ W3.heap[rb]? = some (rowBox g q t) ∧ W3.heap[eb]? = some (errBox .nilIface) ∧ Ext w W3 from
    ⟨(x3.block _ (block_lt H2.out.1)).trans H2.out.1, (x3.block _ (block_lt H2.out.2.1)).trans H2.out.2.1, (x3.block _ (block_lt H2.out.2.2.1)).trans H2.out.2.2.1, hrb, heb, H2.out.2.2.2.trans x3⟩)
  clear c3 f3 c20 c21 c22 H1 H2 HR hrb heb x3
  gi_wp2
  generalize hb2 : w.heap.size = b2 at *
  have HB2 := Lib.hid hb2
  clear hb2
  refine wpIn_loop_rounds 3 ?_
  rw [roundsIn_succ]
  gi_wp2
  have z1 : (W3.alloc (.cells #[.int .i64 0] 3)).heap.size = W3.heap.size + 1 := World.size_alloc _ _
  have kn := heap_alloc_new W3 (.cells #[.int .i64 0] 3)
  have xn := (Ext.refl W3).alloc (.cells #[.int .i64 0] 3)
  have HV1 := Lib.hid (And.intro ((xn.block _ (block_lt H3.out.1)).trans H3.out.1) (And.intro ((xn.block _ (block_lt H3.out.2.1)).trans H3.out.2.1) (And.intro ((xn.block _ (block_lt H3.out.2.2.1)).trans H3.out.2.2.1) (And.intro ((xn.block _ (block_lt H3.out.2.2.2.1)).trans H3.out.2.2.2.1) (And.intro ((xn.block _ (block_lt H3.out.2.2.2.2.1)).trans H3.out.2.2.2.2.1) (H3.out.2.2.2.2.2.trans xn))))))
  have HN1 := Lib.hid (And.intro kn (And.intro z1 (And.intro (block_lt H3.out.1) (And.intro (block_lt H3.out.2.1) (And.intro (block_lt H3.out.2.2.1) (And.intro (block_lt H3.out.2.2.2.1) (block_lt H3.out.2.2.2.2.1)))))))
  clear z1 kn xn
  generalize W3.alloc (.cells #[.int .i64 0] 3) = V1 at *
  generalize W3.heap.size = n1 at *
  have hn0 : n1 ≤ V1.heap.size := by have := HN1.out.2.1; omega
  refine range_idx2 7 (n₀ := n1) (gf := 10) (lb := #[.pointer (some ⟨eb, 0, none⟩), .pointer (some ⟨rb, 0, none⟩)]) rfl (by omega) rfl trivial (enters_of Tryd.func10 (by kernel_rfl) rfl) hn0
    (fun k W => (k < N ∧ W.cell? ⟨n1, 0, none⟩ = some (.int .i64 (k : Int)) ∧ W.frozen? ⟨n1, 0, none⟩ = false) ∧ Below n1 V1 W) (fun c k W => (c = .exit 2 ∧ W.cell? ⟨n1, 0, none⟩ = some (.int .i64 (N : Int)) ∧ W.frozen? ⟨n1, 0, none⟩ = false) ∧ Below n1 V1 W)
    (gives_ok Fence.wide _ trivial rfl (by omega) (show 0 ≤ g ∧ g ≤ 255 ∧ 1 ≤ q ∧ q ≤ t ∧ t ≤ 256 from ⟨HB.out.1, HB.out.2.1, HB.out.2.2.1, HB.out.2.2.2.1, HB.out.2.2.2.2.1⟩) rb eb n1 N _ V1 hn0 HN1.out.2.2.2.2.2.1 HN1.out.2.2.2.2.2.2 HV1.out.2.2.2.1 HV1.out.2.2.2.2.1 (fun k W h => h.1.1) (fun k k' W h h' => by
      have e := h.1.2.1.symm.trans h'.1.2.1
      injection e with e
      injection e with _ e
      omega))
    (OwnFrom.and (Own.from (fun s A B row hs hg hr => ⟨hs.1, cell_kept hs.2.1 hg hr, (frozen_kept hs.2.1 hg hr).trans hs.2.2⟩) _) (ownFrom_below hn0 hn0))
    (fun c => OwnFrom.and (Own.from (fun s A B row hs hg hr => ⟨hs.1, cell_kept hs.2.1 hg hr, (frozen_kept hs.2.1 hg hr).trans hs.2.2⟩) _) (ownFrom_below hn0 hn0))
    ⟨⟨by omega, block_cell HN1.out.1 0, block_fz HN1.out.1 0⟩, Below.refl _ _⟩ ?assign ?body ?done ?stop
  case assign =>
    intro l k W K hK
    simp only [List.setIfInBounds_toArray, List.set_cons_succ, List.set_cons_zero] at hK ⊢
    gi_wp2
    exact hK
  case done =>
    intro h
    exact h.elim
  case body =>
    rintro l k W ⟨⟨hkN, hc, hf⟩, hB⟩
    have c20 : W.cell? ⟨b2, 0, none⟩ = some (.int .i64 K) := (hB.cell (p := ⟨b2, 0, none⟩) HN1.out.2.2.1).trans (block_cell HV1.out.1 0)
    have c21 : W.cell? ⟨b2, 1, none⟩ = some (.int .i64 Q) := (hB.cell (p := ⟨b2, 1, none⟩) HN1.out.2.2.1).trans (block_cell HV1.out.1 1)
    have c22 : W.cell? ⟨b2, 2, none⟩ = some (.int .i64 T) := (hB.cell (p := ⟨b2, 2, none⟩) HN1.out.2.2.1).trans (block_cell HV1.out.1 2)
    have c30 : W.cell? ⟨b2 + 1, 0, none⟩ = some (.int .i64 (N : Int)) := (hB.cell (p := ⟨b2 + 1, 0, none⟩) HN1.out.2.2.2.1).trans (block_cell HV1.out.2.1 0)
    simp only [List.setIfInBounds_toArray, List.set_cons_succ, List.set_cons_zero]
    gi_wp2
    have hWs : n1 < W.heap.size := by have h1 := hB.size; have h2 := HN1.out.2.1; omega
    refine ⟨trivial, (CallsIn.inRound l (callsIn_wide.2 (HL.out W))).mono ?_⟩
    rintro e Wa ⟨rfl, xa⟩
    have HBW := Lib.hid hB
    have HCW := Lib.hid (And.intro hc (And.intro hf (And.intro c20 (And.intro c21 (And.intro c22 c30)))))
    have lt2 := HN1.out.2.2.1
    have lt3 := HN1.out.2.2.2.1
    clear hB hc hf c20 c21 c22 c30
    have hc : Wa.cell? ⟨n1, 0, none⟩ = some (.int .i64 (k : Int)) := (xa.cell (p := ⟨n1, 0, none⟩) hWs).trans HCW.out.1
    have c20 : Wa.cell? ⟨b2, 0, none⟩ = some (.int .i64 K) := (xa.cell (p := ⟨b2, 0, none⟩) (by show b2 < _; omega)).trans HCW.out.2.2.1
    have c21 : Wa.cell? ⟨b2, 1, none⟩ = some (.int .i64 Q) := (xa.cell (p := ⟨b2, 1, none⟩) (by show b2 < _; omega)).trans HCW.out.2.2.2.1
    have c22 : Wa.cell? ⟨b2, 2, none⟩ = some (.int .i64 T) := (xa.cell (p := ⟨b2, 2, none⟩) (by show b2 < _; omega)).trans HCW.out.2.2.2.2.1
    have HXA := Lib.hid xa
    clear xa
    gi_wp2
    refine ⟨trivial, (CallsIn.inRound l (callsIn_wide.2 (HA.out (k : Int) Wa (by omega) (by omega)))).mono ?_⟩
    rintro e Wb ⟨rfl, xb⟩
    have xw := HXA.out.trans xb
    clear hc c20 c21 c22
    have hc : Wb.cell? ⟨n1, 0, none⟩ = some (.int .i64 (k : Int)) := (xw.cell (p := ⟨n1, 0, none⟩) hWs).trans HCW.out.1
    have hf : Wb.frozen? ⟨n1, 0, none⟩ = false := (xw.frozen (p := ⟨n1, 0, none⟩) hWs).trans HCW.out.2.1
    have c30 : Wb.cell? ⟨b2 + 1, 0, none⟩ = some (.int .i64 (N : Int)) := (xw.cell (p := ⟨b2 + 1, 0, none⟩) (by show b2 + 1 < _; omega)).trans HCW.out.2.2.2.2.2
    have wk : IntKind.i64.wrap ((k : Int) + 1) = (k : Int) + 1 := by rw [IntKind.wrap_i64]; omega
    have HX := Lib.hid (show KeepsOthers W (Wb.setCell ⟨n1, 0, none⟩ (.int .i64 ((k : Int) + 1))) ∧ Below n1 W (Wb.setCell ⟨n1, 0, none⟩ (.int .i64 ((k : Int) + 1))) ∧ (Wb.setCell ⟨n1, 0, none⟩ (.int .i64 ((k : Int) + 1))).cell? ⟨n1, 0, none⟩ = some (.int .i64 ((k : Int) + 1)) ∧ (Wb.setCell ⟨n1, 0, none⟩ (.int .i64 ((k : Int) + 1))).frozen? ⟨n1, 0, none⟩ = false from
      ⟨(KeepsOthers.mk xw.size (fun b o h _ => (xw.block b (block_lt h)).trans h)).trans (KeepsOthers.setCell _ _ _), (Below.mono xw (Nat.le_of_lt hWs)).setCell (p := ⟨n1, 0, none⟩) (Nat.le_refl _) _, World.cell?_setCell_same' _ _ _ (by rw [hc]; rfl), by rw [World.frozen?_setCell]; exact hf⟩)
    clear xb xw
    by_cases hE : (k : Int) + 1 = (N : Int)
    · have hEq : ((k : Int) + 1 == (N : Int)) = true := by rw [beq_iff_eq]; exact hE
      have HE := Lib.hid hE
      clear hE
      gi_wp2
      exact ⟨HX.out.1, ⟨rfl, by rw [← HE.out]; exact HX.out.2.2.1, HX.out.2.2.2⟩, HBW.out.trans HX.out.2.1⟩
    · have hEq : ((k : Int) + 1 == (N : Int)) = false := by rw [beq_eq_false_iff_ne]; exact hE
      gi_wp2
      exact ⟨HX.out.1, HX.out.2.1, ⟨by omega, HX.out.2.2.1, HX.out.2.2.2⟩, HBW.out.trans HX.out.2.1⟩
  case stop =>
    rintro D1 c k W hD ⟨⟨rfl, hc, hf⟩, hB⟩ hK
    have hWs : n1 < W.heap.size := by have h1 := hB.size; have h2 := HN1.out.2.1; omega
    have c20 : W.cell? ⟨b2, 0, none⟩ = some (.int .i64 K) := (hB.cell (p := ⟨b2, 0, none⟩) HN1.out.2.2.1).trans (block_cell HV1.out.1 0)
    have c21 : W.cell? ⟨b2, 1, none⟩ = some (.int .i64 Q) := (hB.cell (p := ⟨b2, 1, none⟩) HN1.out.2.2.1).trans (block_cell HV1.out.1 1)
    have c22 : W.cell? ⟨b2, 2, none⟩ = some (.int .i64 T) := (hB.cell (p := ⟨b2, 2, none⟩) HN1.out.2.2.1).trans (block_cell HV1.out.1 2)
    have c30 : W.cell? ⟨b2 + 1, 0, none⟩ = some (.int .i64 (N : Int)) := (hB.cell (p := ⟨b2 + 1, 0, none⟩) HN1.out.2.2.2.1).trans (block_cell HV1.out.2.1 0)
    gi_wp2
    refine ⟨trivial, (callsIn_wide.2 (HL.out W)).mono ?_⟩
    rintro e Wa ⟨rfl, xa⟩
    have HCW := Lib.hid (And.intro hc (And.intro hf (And.intro c20 (And.intro c21 (And.intro c22 c30)))))
    have lt2 := HN1.out.2.2.1
    have lt3 := HN1.out.2.2.2.1
    have HBW := Lib.hid (And.intro hB hK)
    have ltD : D1 < W.heap.size := block_lt hK
    clear hB hK hc hf c20 c21 c22 c30
    have hc : Wa.cell? ⟨n1, 0, none⟩ = some (.int .i64 (N : Int)) := (xa.cell (p := ⟨n1, 0, none⟩) hWs).trans HCW.out.1
    have c20 : Wa.cell? ⟨b2, 0, none⟩ = some (.int .i64 K) := (xa.cell (p := ⟨b2, 0, none⟩) (by show b2 < _; omega)).trans HCW.out.2.2.1
    have c21 : Wa.cell? ⟨b2, 1, none⟩ = some (.int .i64 Q) := (xa.cell (p := ⟨b2, 1, none⟩) (by show b2 < _; omega)).trans HCW.out.2.2.2.1
    have c22 : Wa.cell? ⟨b2, 2, none⟩ = some (.int .i64 T) := (xa.cell (p := ⟨b2, 2, none⟩) (by show b2 < _; omega)).trans HCW.out.2.2.2.2.1
    have c30 : Wa.cell? ⟨b2 + 1, 0, none⟩ = some (.int .i64 (N : Int)) := (xa.cell (p := ⟨b2 + 1, 0, none⟩) (by show b2 + 1 < _; omega)).trans HCW.out.2.2.2.2.2
    have HXA := Lib.hid xa
    clear xa
    gi_wp2
    refine ⟨trivial, (callsIn_wide.2 (HL.out Wa)).mono ?_⟩
    rintro e U1 ⟨rfl, xb⟩
    have xw := HXA.out.trans xb
    have go : ∀ b o, b < n1 → V1.heap[b]? = some o → U1.heap[b]? = some o := fun b o hb h => ((xw.block b (by omega)).trans (HBW.out.1.block b hb)).trans h
    have HU1 := Lib.hid (show U1.heap[b2]? = some (.cells #[.int .i64 K, .int .i64 Q, .int .i64 T] 23 (0, 0)) ∧ U1.heap[b2 + 1]? = some (.cells #[.int .i64 (N : Int)] 3 (0, 0)) ∧ U1.heap[b2 + 1 + 1]? = some (.cells #[.bool false] 4 (0, 0)) ∧ U1.heap[rb]? = some (rowBox g q t) ∧ U1.heap[eb]? = some (errBox .nilIface) ∧ Ext w U1 from by
      have lt4 := HN1.out.2.2.2.2.1
      have lt5 := HN1.out.2.2.2.2.2.1
      have lt6 := HN1.out.2.2.2.2.2.2
      exact ⟨go _ _ lt2 HV1.out.1, go _ _ lt3 HV1.out.2.1, go _ _ lt4 HV1.out.2.2.1, go _ _ lt5 HV1.out.2.2.2.1, go _ _ lt6 HV1.out.2.2.2.2.1, Below.trans HV1.out.2.2.2.2.2 (Below.trans (Below.mono HBW.out.1 (by have := HB2.out; omega)) (Below.mono xw (by have := HB2.out; omega)))⟩)
    have HD1 := Lib.hid (show U1.heap[D1]? = some (.deferred (some [])) ∧ w.heap.size ≤ D1 from ⟨((HXA.out.trans xb).block _ ltD).trans HBW.out.2, by have h1 := HB2.out; have h2 := HN1.out.2.1; omega⟩)
    clear xw go xb hc c20 c21 c22 c30 HXA HBW HCW ltD lt2 lt3 hWs
    gi_wp2
    rw [roundsIn_succ]
    gi_wp2
    have HD1b := Lib.hid (block_lt HD1.out.1)

    have z1 : (U1.alloc (.cells #[.int .i64 0] 3)).heap.size = U1.heap.size + 1 := World.size_alloc _ _
    have kn := heap_alloc_new U1 (.cells #[.int .i64 0] 3)
    have xn := (Ext.refl U1).alloc (.cells #[.int .i64 0] 3)
    have HV2 := Lib.hid (And.intro ((xn.block _ (block_lt HU1.out.1)).trans HU1.out.1) (And.intro ((xn.block _ (block_lt HU1.out.2.1)).trans HU1.out.2.1) (And.intro ((xn.block _ (block_lt HU1.out.2.2.1)).trans HU1.out.2.2.1) (And.intro ((xn.block _ (block_lt HU1.out.2.2.2.1)).trans HU1.out.2.2.2.1) (And.intro ((xn.block _ (block_lt HU1.out.2.2.2.2.1)).trans HU1.out.2.2.2.2.1) (HU1.out.2.2.2.2.2.trans xn))))))
    have HN2 := Lib.hid (And.intro kn (And.intro z1 (And.intro (block_lt HU1.out.1) (And.intro (block_lt HU1.out.2.1) (And.intro (block_lt HU1.out.2.2.1) (And.intro (block_lt HU1.out.2.2.2.1) (block_lt HU1.out.2.2.2.2.1)))))))
    have HE2 := Lib.hid ((xn.block _ (block_lt HD1.out.1)).trans HD1.out.1)
    clear z1 kn xn
    generalize U1.alloc (.cells #[.int .i64 0] 3) = V2 at *
    generalize U1.heap.size = n2 at *
    have hn0 : n2 ≤ V2.heap.size := by have := HN2.out.2.1; omega
    refine range_idx2 7 (n₀ := n2) (gf := 10) (lb := #[.pointer (some ⟨eb, 0, none⟩), .pointer (some ⟨rb, 0, none⟩)]) rfl (by omega) rfl trivial (enters_of Tryd.func10 (by kernel_rfl) rfl) hn0
      (fun k W => (k < N ∧ W.cell? ⟨n2, 0, none⟩ = some (.int .i64 (k : Int)) ∧ W.frozen? ⟨n2, 0, none⟩ = false) ∧ Below n2 V2 W) (fun c k W => (c = .exit 2 ∧ W.cell? ⟨n2, 0, none⟩ = some (.int .i64 (N : Int)) ∧ W.frozen? ⟨n2, 0, none⟩ = false) ∧ Below n2 V2 W)
      (gives_ok Fence.wide _ trivial rfl (by omega) (show 0 ≤ g ∧ g ≤ 255 ∧ 1 ≤ q ∧ q ≤ t ∧ t ≤ 256 from ⟨HB.out.1, HB.out.2.1, HB.out.2.2.1, HB.out.2.2.2.1, HB.out.2.2.2.2.1⟩) rb eb n2 N _ V2 hn0 HN2.out.2.2.2.2.2.1 HN2.out.2.2.2.2.2.2 HV2.out.2.2.2.1 HV2.out.2.2.2.2.1 (fun k W h => h.1.1) (fun k k' W h h' => by
        have e := h.1.2.1.symm.trans h'.1.2.1
        injection e with e
        injection e with _ e
        omega))
      (OwnFrom.and (Own.from (fun s A B row hs hg hr => ⟨hs.1, cell_kept hs.2.1 hg hr, (frozen_kept hs.2.1 hg hr).trans hs.2.2⟩) _) (ownFrom_below hn0 hn0))
      (fun c => OwnFrom.and (Own.from (fun s A B row hs hg hr => ⟨hs.1, cell_kept hs.2.1 hg hr, (frozen_kept hs.2.1 hg hr).trans hs.2.2⟩) _) (ownFrom_below hn0 hn0))
      ⟨⟨by omega, block_cell HN2.out.1 0, block_fz HN2.out.1 0⟩, Below.refl _ _⟩ ?assign ?body ?done ?stop
    case assign =>
      intro l k W K hK
      simp only [List.setIfInBounds_toArray, List.set_cons_succ, List.set_cons_zero] at hK ⊢
      gi_wp2
      exact hK
    case done =>
      intro h
      exact h.elim
    case body =>
      rintro l k W ⟨⟨hkN, hc, hf⟩, hB⟩
      have c20 : W.cell? ⟨b2, 0, none⟩ = some (.int .i64 K) := (hB.cell (p := ⟨b2, 0, none⟩) HN2.out.2.2.1).trans (block_cell HV2.out.1 0)
      have c21 : W.cell? ⟨b2, 1, none⟩ = some (.int .i64 Q) := (hB.cell (p := ⟨b2, 1, none⟩) HN2.out.2.2.1).trans (block_cell HV2.out.1 1)
      have c22 : W.cell? ⟨b2, 2, none⟩ = some (.int .i64 T) := (hB.cell (p := ⟨b2, 2, none⟩) HN2.out.2.2.1).trans (block_cell HV2.out.1 2)
      have c30 : W.cell? ⟨b2 + 1, 0, none⟩ = some (.int .i64 (N : Int)) := (hB.cell (p := ⟨b2 + 1, 0, none⟩) HN2.out.2.2.2.1).trans (block_cell HV2.out.2.1 0)
      simp only [List.setIfInBounds_toArray, List.set_cons_succ, List.set_cons_zero]
      gi_wp2
      have hWs : n2 < W.heap.size := by have h1 := hB.size; have h2 := HN2.out.2.1; omega
      refine ⟨trivial, (CallsIn.inRound l (callsIn_wide.2 (HL.out W))).mono ?_⟩
      rintro e Wa ⟨rfl, xa⟩
      have HBW := Lib.hid hB
      have HCW := Lib.hid (And.intro hc (And.intro hf (And.intro c20 (And.intro c21 (And.intro c22 c30)))))
      have lt2 := HN2.out.2.2.1
      have lt3 := HN2.out.2.2.2.1
      clear hB hc hf c20 c21 c22 c30
      have hc : Wa.cell? ⟨n2, 0, none⟩ = some (.int .i64 (k : Int)) := (xa.cell (p := ⟨n2, 0, none⟩) hWs).trans HCW.out.1
      have c20 : Wa.cell? ⟨b2, 0, none⟩ = some (.int .i64 K) := (xa.cell (p := ⟨b2, 0, none⟩) (by show b2 < _; omega)).trans HCW.out.2.2.1
      have c21 : Wa.cell? ⟨b2, 1, none⟩ = some (.int .i64 Q) := (xa.cell (p := ⟨b2, 1, none⟩) (by show b2 < _; omega)).trans HCW.out.2.2.2.1
      have c22 : Wa.cell? ⟨b2, 2, none⟩ = some (.int .i64 T) := (xa.cell (p := ⟨b2, 2, none⟩) (by show b2 < _; omega)).trans HCW.out.2.2.2.2.1
      have HXA := Lib.hid xa
      clear xa
      gi_wp2
      refine ⟨trivial, (CallsIn.inRound l (callsIn_wide.2 (HA.out (k : Int) Wa (by omega) (by omega)))).mono ?_⟩
      rintro e Wb ⟨rfl, xb⟩
      have xw := HXA.out.trans xb
      clear hc c20 c21 c22
      have hc : Wb.cell? ⟨n2, 0, none⟩ = some (.int .i64 (k : Int)) := (xw.cell (p := ⟨n2, 0, none⟩) hWs).trans HCW.out.1
      have hf : Wb.frozen? ⟨n2, 0, none⟩ = false := (xw.frozen (p := ⟨n2, 0, none⟩) hWs).trans HCW.out.2.1
      have c30 : Wb.cell? ⟨b2 + 1, 0, none⟩ = some (.int .i64 (N : Int)) := (xw.cell (p := ⟨b2 + 1, 0, none⟩) (by show b2 + 1 < _; omega)).trans HCW.out.2.2.2.2.2
      have wk : IntKind.i64.wrap ((k : Int) + 1) = (k : Int) + 1 := by rw [IntKind.wrap_i64]; omega
      have HX := Lib.hid (show KeepsOthers W (Wb.setCell ⟨n2, 0, none⟩ (.int .i64 ((k : Int) + 1))) ∧ Below n2 W (Wb.setCell ⟨n2, 0, none⟩ (.int .i64 ((k : Int) + 1))) ∧ (Wb.setCell ⟨n2, 0, none⟩ (.int .i64 ((k : Int) + 1))).cell? ⟨n2, 0, none⟩ = some (.int .i64 ((k : Int) + 1)) ∧ (Wb.setCell ⟨n2, 0, none⟩ (.int .i64 ((k : Int) + 1))).frozen? ⟨n2, 0, none⟩ = false from
        ⟨(KeepsOthers.mk xw.size (fun b o h _ => (xw.block b (block_lt h)).trans h)).trans (KeepsOthers.setCell _ _ _), (Below.mono xw (Nat.le_of_lt hWs)).setCell (p := ⟨n2, 0, none⟩) (Nat.le_refl _) _, World.cell?_setCell_same' _ _ _ (by rw [hc]; rfl), by rw [World.frozen?_setCell]; exact hf⟩)
      clear xb xw
      by_cases hE : (k : Int) + 1 = (N : Int)
      · have hEq : ((k : Int) + 1 == (N : Int)) = true := by rw [beq_iff_eq]; exact hE
        have HE := Lib.hid hE
        clear hE
        gi_wp2
        exact ⟨HX.out.1, ⟨rfl, by rw [← HE.out]; exact HX.out.2.2.1, HX.out.2.2.2⟩, HBW.out.trans HX.out.2.1⟩
      · have hEq : ((k : Int) + 1 == (N : Int)) = false := by rw [beq_eq_false_iff_ne]; exact hE
        gi_wp2
        exact ⟨HX.out.1, HX.out.2.1, ⟨by omega, HX.out.2.2.1, HX.out.2.2.2⟩, HBW.out.trans HX.out.2.1⟩
    case stop =>
      rintro D2 c k W hD ⟨⟨rfl, hc, hf⟩, hB⟩ hK
      have hWs : n2 < W.heap.size := by have h1 := hB.size; have h2 := HN2.out.2.1; omega
      have c20 : W.cell? ⟨b2, 0, none⟩ = some (.int .i64 K) := (hB.cell (p := ⟨b2, 0, none⟩) HN2.out.2.2.1).trans (block_cell HV2.out.1 0)
      have c21 : W.cell? ⟨b2, 1, none⟩ = some (.int .i64 Q) := (hB.cell (p := ⟨b2, 1, none⟩) HN2.out.2.2.1).trans (block_cell HV2.out.1 1)
      have c22 : W.cell? ⟨b2, 2, none⟩ = some (.int .i64 T) := (hB.cell (p := ⟨b2, 2, none⟩) HN2.out.2.2.1).trans (block_cell HV2.out.1 2)
      have c30 : W.cell? ⟨b2 + 1, 0, none⟩ = some (.int .i64 (N : Int)) := (hB.cell (p := ⟨b2 + 1, 0, none⟩) HN2.out.2.2.2.1).trans (block_cell HV2.out.2.1 0)
      gi_wp2
      refine ⟨trivial, (callsIn_wide.2 (HL.out W)).mono ?_⟩
      rintro e Wa ⟨rfl, xa⟩
      have HCW := Lib.hid (And.intro hc (And.intro hf (And.intro c20 (And.intro c21 (And.intro c22 c30)))))
      have lt2 := HN2.out.2.2.1
      have lt3 := HN2.out.2.2.2.1
      have HBW := Lib.hid (And.intro hB hK)
      have ltD : D2 < W.heap.size := block_lt hK
      clear hB hK hc hf c20 c21 c22 c30
      have hc : Wa.cell? ⟨n2, 0, none⟩ = some (.int .i64 (N : Int)) := (xa.cell (p := ⟨n2, 0, none⟩) hWs).trans HCW.out.1
      have c20 : Wa.cell? ⟨b2, 0, none⟩ = some (.int .i64 K) := (xa.cell (p := ⟨b2, 0, none⟩) (by show b2 < _; omega)).trans HCW.out.2.2.1
      have c21 : Wa.cell? ⟨b2, 1, none⟩ = some (.int .i64 Q) := (xa.cell (p := ⟨b2, 1, none⟩) (by show b2 < _; omega)).trans HCW.out.2.2.2.1
      have c22 : Wa.cell? ⟨b2, 2, none⟩ = some (.int .i64 T) := (xa.cell (p := ⟨b2, 2, none⟩) (by show b2 < _; omega)).trans HCW.out.2.2.2.2.1
      have c30 : Wa.cell? ⟨b2 + 1, 0, none⟩ = some (.int .i64 (N : Int)) := (xa.cell (p := ⟨b2 + 1, 0, none⟩) (by show b2 + 1 < _; omega)).trans HCW.out.2.2.2.2.2
      have HXA := Lib.hid xa
      clear xa
      gi_wp2
      refine ⟨trivial, (callsIn_wide.2 (HL.out Wa)).mono ?_⟩
      rintro e U2 ⟨rfl, xb⟩
      have xw := HXA.out.trans xb
      have go : ∀ b o, b < n2 → V2.heap[b]? = some o → U2.heap[b]? = some o := fun b o hb h => ((xw.block b (by omega)).trans (HBW.out.1.block b hb)).trans h
      have HG2 := Lib.hid (go _ _ HD1b.out HE2.out)
      have HU2 := Lib.hid (show U2.heap[b2]? = some (.cells #[.int .i64 K, .int .i64 Q, .int .i64 T] 23 (0, 0)) ∧ U2.heap[b2 + 1]? = some (.cells #[.int .i64 (N : Int)] 3 (0, 0)) ∧ U2.heap[b2 + 1 + 1]? = some (.cells #[.bool false] 4 (0, 0)) ∧ U2.heap[rb]? = some (rowBox g q t) ∧ U2.heap[eb]? = some (errBox .nilIface) ∧ Ext w U2 from by
        have lt4 := HN2.out.2.2.2.2.1
        have lt5 := HN2.out.2.2.2.2.2.1
        have lt6 := HN2.out.2.2.2.2.2.2
        exact ⟨go _ _ lt2 HV2.out.1, go _ _ lt3 HV2.out.2.1, go _ _ lt4 HV2.out.2.2.1, go _ _ lt5 HV2.out.2.2.2.1, go _ _ lt6 HV2.out.2.2.2.2.1, Below.trans HV2.out.2.2.2.2.2 (Below.trans (Below.mono HBW.out.1 (by have := HB2.out; omega)) (Below.mono xw (by have := HB2.out; omega)))⟩)
      have HD2 := Lib.hid (show U2.heap[D2]? = some (.deferred (some [])) ∧ w.heap.size ≤ D2 from ⟨((HXA.out.trans xb).block _ ltD).trans HBW.out.2, by have h1 := HB2.out; have h2 := HN2.out.2.1; omega⟩)
      clear xw go xb hc c20 c21 c22 c30 HXA HBW HCW ltD lt2 lt3 hWs
      gi_wp2
      have c40 : U2.cell? ⟨b2 + 1 + 1, 0, none⟩ = some (.bool false) := block_cell HU2.out.2.2.1 0
      have f40 := block_fz HU2.out.2.2.1 0
      rw [roundsIn_succ]
      gi_wp2
      have hK2 := (KeepsOthers.setCell U2 ⟨b2 + 1 + 1, 0, none⟩ (.bool true)).same D2 _ HD2.out.1 rfl
      have hK1 := (KeepsOthers.setCell U2 ⟨b2 + 1 + 1, 0, none⟩ (.bool true)).same D1 _ HG2.out rfl
      have ne : D1 ≠ D2 := by have h1 := HD1b.out; have h2 := HN2.out.2.1; omega
      have hb2 := HB2.out
      have bb : Below w.heap.size w (U2.setCell ⟨b2 + 1 + 1, 0, none⟩ (.bool true)) := HU2.out.2.2.2.2.2.setCell (p := ⟨b2 + 1 + 1, 0, none⟩) (by show w.heap.size ≤ b2 + 1 + 1; omega) _
      have cc : (U2.setCell ⟨b2 + 1 + 1, 0, none⟩ (.bool true)).cell? ⟨b2 + 1 + 1, 0, none⟩ = some (.bool true) := World.cell?_setCell_same' _ _ _ (by rw [c40]; rfl)
      generalize U2.setCell ⟨b2 + 1 + 1, 0, none⟩ (.bool true) = U3 at *
      have hK1b : (U3.putObj D2 (.deferred none)).heap[D1]? = some (.deferred (some [])) := (World.putObj_heap_other ne).trans hK1
      have bc := bb.trans (belowK_b (w := w) (Nat.le_refl _) U3 D2 _ (.deferred none) HD2.out.2 hK2 rfl rfl)
      have cd := cell_kept cc (grownBy_putObj' U3 D2 (.deferred none)) (fun r e => by cases e; exact ⟨_, hK2, rfl⟩)
      refine ⟨by simp, .inl ⟨_, _, rfl, run_takeDeferred hK2, ?_⟩⟩
      have bd := bc.trans (belowK_b (w := w) (Nat.le_refl _) (U3.putObj D2 (.deferred none)) D1 _ (.deferred none) HD1.out.2 hK1b rfl rfl)
      have ce := cell_kept cd (grownBy_putObj' (U3.putObj D2 (.deferred none)) D1 (.deferred none)) (fun r e => by cases e; exact ⟨_, hK1b, rfl⟩)
      refine ⟨by simp, .inl ⟨_, _, rfl, run_takeDeferred hK1b, ?_⟩⟩
      refine ⟨.bool true, ?_, rfl, bd⟩
      simp [results, Tryd.f3, go_sem, ce]


  done
set_option maxHeartbeats 3200000 in
theorem rows_no {K Q T : Int} (h : NoRow K Q T) (a : Addr) (hK : I64 K) (hQ : I64 Q) (hT : I64 T) (s : Int) (w : World) (hS : Sen w 1 a) :
    Calls Tryd.prog 3 #[srv K Q T, .int .i64 s] w fun e w' => e = .returned (.bool true) ∧ Ext w w' := by
  have HL := Lib.hid (fun w => rlegal_no w h)
  have HR := Lib.hid (fun W (hx : Ext w W) => row_no a W (hS.ext hx) hK hQ hT h)
  have AL := Lib.hid alive_any
  obtain ⟨r1, r2, N, e1, b1, b2, e2, b3, b4, e3⟩ := stop_is s
  have w1 : IntKind.i64.wrap (r1 + 1200) = r1 + 1200 := by rw [IntKind.wrap_i64]; omega
  have w2 : IntKind.i64.wrap (r2 + 1) = (N : Int) := by rw [IntKind.wrap_i64]; omega
  clear h hS hK hQ hT
  unfold srv at *
  refine (callsIn_wide (n := 6)).1 ?_
  refine callsIn_of_wp_marks Tryd.func3 rfl trivial ?_ rfl
  simp only [Tryd.ntmps3, List.size_toArray, List.length_cons, List.length_nil, Nat.reduceAdd, Nat.reduceSub, Array.replicate_succ, Array.replicate_zero, List.push_toArray, List.append_toArray, List.nil_append, List.cons_append]
  gi_wp2
  refine ⟨trivial, (callsIn_wide.2 (AL.out _)).mono ?_⟩
  rintro e W1 ⟨rfl, x1⟩
  have s1 : (w.alloc (.cells #[.int .i64 K, .int .i64 Q, .int .i64 T] 23)).heap.size = w.heap.size + 1 := World.size_alloc _ _
  have s2 : ((w.alloc (.cells #[.int .i64 K, .int .i64 Q, .int .i64 T] 23)).alloc (.cells #[.int .i64 s] 3)).heap.size = w.heap.size + 1 + 1 := by rw [World.size_alloc, s1]
  have k2 := heap_alloc_new w (.cells #[.int .i64 K, .int .i64 Q, .int .i64 T] 23)
  have k3 := heap_alloc_new (w.alloc (.cells #[.int .i64 K, .int .i64 Q, .int .i64 T] 23)) (.cells #[.int .i64 s] 3)
  have k4 := heap_alloc_new ((w.alloc (.cells #[.int .i64 K, .int .i64 Q, .int .i64 T] 23)).alloc (.cells #[.int .i64 s] 3)) (.cells #[.bool false] 4)
  rw [s1] at k3
  rw [s2] at k4
  have y1 := (Ext.refl w).alloc (.cells #[.int .i64 K, .int .i64 Q, .int .i64 T] 23)
  have y2 := (Ext.refl (w.alloc (.cells #[.int .i64 K, .int .i64 Q, .int .i64 T] 23))).alloc (.cells #[.int .i64 s] 3)
  have y3 := (Ext.refl ((w.alloc (.cells #[.int .i64 K, .int .i64 Q, .int .i64 T] 23)).alloc (.cells #[.int .i64 s] 3))).alloc (.cells #[.bool false] 4)
  have H1 := Lib.hid (show W1.heap[w.heap.size]? = some ((.cells #[.int .i64 K, .int .i64 Q, .int .i64 T] 23 (0, 0))) ∧ W1.heap[w.heap.size + 1]? = some ((.cells #[.int .i64 s] 3 (0, 0))) ∧ W1.heap[w.heap.size + 1 + 1]? = some ((.cells #[.bool false] 4 (0, 0))) ∧ Ext w W1 from
    ⟨((y2.trans (y3.trans x1)).block _ (block_lt k2)).trans k2, ((y3.trans x1).block _ (block_lt k3)).trans k3, (x1.block _ (block_lt k4)).trans k4, y1.trans (y2.trans (y3.trans x1))⟩)
  clear s1 s2 k2 k3 k4 y1 y2 y3 x1 AL
  have c3 : W1.cell? ⟨w.heap.size + 1, 0, none⟩ = some (.int .i64 s) := block_cell H1.out.2.1 0
  have f3 := block_fz H1.out.2.1 0
  have c20 : W1.cell? ⟨w.heap.size, 0, none⟩ = some (.int .i64 K) := block_cell H1.out.1 0
  have c21 : W1.cell? ⟨w.heap.size, 1, none⟩ = some (.int .i64 Q) := block_cell H1.out.1 1
  have c22 : W1.cell? ⟨w.heap.size, 2, none⟩ = some (.int .i64 T) := block_cell H1.out.1 2
  have f2 := heap_setCell_same W1 (w.heap.size + 1) 0 _ _ (.int .i64 (N : Int)) H1.out.2.1
  have ff : Fr W1 (W1.setCell ⟨w.heap.size + 1, 0, none⟩ (.int .i64 (N : Int))) (fun x => x = w.heap.size + 1) := Fr.store W1 ⟨w.heap.size + 1, 0, none⟩ (.int .i64 (N : Int))
  have H2 := Lib.hid (show (W1.setCell ⟨w.heap.size + 1, 0, none⟩ (.int .i64 (N : Int))).heap[w.heap.size]? = some (.cells #[.int .i64 K, .int .i64 Q, .int .i64 T] 23 (0, 0)) ∧ (W1.setCell ⟨w.heap.size + 1, 0, none⟩ (.int .i64 (N : Int))).heap[w.heap.size + 1]? = some (.cells #[.int .i64 (N : Int)] 3 (0, 0)) ∧ (W1.setCell ⟨w.heap.size + 1, 0, none⟩ (.int .i64 (N : Int))).heap[w.heap.size + 1 + 1]? = some (.cells #[.bool false] 4 (0, 0)) ∧ Ext w (W1.setCell ⟨w.heap.size + 1, 0, none⟩ (.int .i64 (N : Int))) from
    ⟨(ff.block _ (block_lt H1.out.1) (by omega)).trans H1.out.1, f2, (ff.block _ (block_lt H1.out.2.2.1) (by omega)).trans H1.out.2.2.1, Fr.ext H1.out.2.2.2 ff (fun i e => by omega)⟩)
  clear f2 ff
  gi_wp2
  generalize W1.setCell ⟨w.heap.size + 1, 0, none⟩ (.int .i64 (N : Int)) = W2 at *
  refine ⟨trivial, (callsIn_wide.2 (HR.out W2 H2.out.2.2.2)).mono ?_⟩
  rintro e W3 ⟨rb, eb, rfl, hrb, heb, x3⟩
  have H3 := Lib.hid (show W3.heap[w.heap.size]? = some (.cells #[.int .i64 K, .int .i64 Q, .int .i64 T] 23 (0, 0)) ∧ W3.heap[w.heap.size + 1]? = some (.cells #[.int .i64 (N : Int)] 3 (0, 0)) ∧ W3.heap[w.heap.size + 1 + 1]? = some (.cells #[.bool false] 4 (0, 0)) ∧ W3.heap[rb]? = some (rowBox 0 0 0) ∧ W3.heap[eb]? = some (errBox (.iface 42 (.pointer (some a)))) ∧ Ext w W3 from
    ⟨(x3.block _ (block_lt H2.out.1)).trans H2.out.1, (x3.block _ (block_lt H2.out.2.1)).trans H2.out.2.1, (x3.block _ (block_lt H2.out.2.2.1)).trans H2.out.2.2.1, hrb, heb, H2.out.2.2.2.trans x3⟩)
  clear c3 f3 c20 c21 c22 H1 H2 HR hrb heb x3
  gi_wp2
  generalize hb2 : w.heap.size = b2 at *
  have HB2 := Lib.hid hb2
  clear hb2
  refine wpIn_loop_rounds 3 ?_
  rw [roundsIn_succ]
  gi_wp2
  have z1 : (W3.alloc (.cells #[.int .i64 0] 3)).heap.size = W3.heap.size + 1 := World.size_alloc _ _
  have kn := heap_alloc_new W3 (.cells #[.int .i64 0] 3)
  have xn := (Ext.refl W3).alloc (.cells #[.int .i64 0] 3)
  have HV1 := Lib.hid (And.intro ((xn.block _ (block_lt H3.out.1)).trans H3.out.1) (And.intro ((xn.block _ (block_lt H3.out.2.1)).trans H3.out.2.1) (And.intro ((xn.block _ (block_lt H3.out.2.2.1)).trans H3.out.2.2.1) (And.intro ((xn.block _ (block_lt H3.out.2.2.2.1)).trans H3.out.2.2.2.1) (And.intro ((xn.block _ (block_lt H3.out.2.2.2.2.1)).trans H3.out.2.2.2.2.1) (H3.out.2.2.2.2.2.trans xn))))))
  have HN1 := Lib.hid (And.intro kn (And.intro z1 trivial))
  clear z1 kn xn
  generalize W3.alloc (.cells #[.int .i64 0] 3) = V1 at *
  generalize W3.heap.size = n1 at *
  refine range_none (gf := 10) (lb := #[.pointer (some ⟨eb, 0, none⟩), .pointer (some ⟨rb, 0, none⟩)]) rfl (by omega) rfl trivial (enters_of Tryd.func10 (by kernel_rfl) rfl)
    (gives_none Fence.wide _ trivial rfl rb eb a V1 HV1.out.2.2.2.2.1) ?_
  intro D1 W hD hB hK
  have c20 : W.cell? ⟨b2, 0, none⟩ = some (.int .i64 K) := (hB.cell (p := ⟨b2, 0, none⟩) (block_lt HV1.out.1)).trans (block_cell HV1.out.1 0)
  have c21 : W.cell? ⟨b2, 1, none⟩ = some (.int .i64 Q) := (hB.cell (p := ⟨b2, 1, none⟩) (block_lt HV1.out.1)).trans (block_cell HV1.out.1 1)
  have c22 : W.cell? ⟨b2, 2, none⟩ = some (.int .i64 T) := (hB.cell (p := ⟨b2, 2, none⟩) (block_lt HV1.out.1)).trans (block_cell HV1.out.1 2)
  gi_wp2
  refine ⟨trivial, (callsIn_wide.2 (HL.out W)).mono ?_⟩
  rintro e Wa ⟨rfl, xa⟩
  have ltD : D1 < W.heap.size := block_lt hK
  have HBW := Lib.hid (And.intro hB hK)
  have HCW := Lib.hid (And.intro c20 (And.intro c21 c22))
  have lt2 := (block_lt HV1.out.1)
  have ltW := hB.size
  clear hB hK c20 c21 c22
  have c20 : Wa.cell? ⟨b2, 0, none⟩ = some (.int .i64 K) := (xa.cell (p := ⟨b2, 0, none⟩) (by show b2 < _; omega)).trans HCW.out.1
  have c21 : Wa.cell? ⟨b2, 1, none⟩ = some (.int .i64 Q) := (xa.cell (p := ⟨b2, 1, none⟩) (by show b2 < _; omega)).trans HCW.out.2.1
  have c22 : Wa.cell? ⟨b2, 2, none⟩ = some (.int .i64 T) := (xa.cell (p := ⟨b2, 2, none⟩) (by show b2 < _; omega)).trans HCW.out.2.2
  have HXA := Lib.hid xa
  clear xa
  gi_wp2
  refine ⟨trivial, (callsIn_wide.2 (HL.out Wa)).mono ?_⟩
  rintro e U1 ⟨rfl, xb⟩
  have xw := HXA.out.trans xb
  have go : ∀ b o, V1.heap[b]? = some o → U1.heap[b]? = some o := fun b o h => ((xw.block b (by have := block_lt h; omega)).trans (HBW.out.1.block b (block_lt h))).trans h
  have HU1 := Lib.hid (show U1.heap[b2]? = some (.cells #[.int .i64 K, .int .i64 Q, .int .i64 T] 23 (0, 0)) ∧ U1.heap[b2 + 1]? = some (.cells #[.int .i64 (N : Int)] 3 (0, 0)) ∧ U1.heap[b2 + 1 + 1]? = some (.cells #[.bool false] 4 (0, 0)) ∧ U1.heap[rb]? = some (rowBox 0 0 0) ∧ U1.heap[eb]? = some (errBox (.iface 42 (.pointer (some a)))) ∧ Ext w U1 from
    ⟨go _ _ HV1.out.1, go _ _ HV1.out.2.1, go _ _ HV1.out.2.2.1, go _ _ HV1.out.2.2.2.1, go _ _ HV1.out.2.2.2.2.1, Below.trans HV1.out.2.2.2.2.2 (Below.trans (Below.mono HBW.out.1 HV1.out.2.2.2.2.2.size) (Below.mono xw (Nat.le_trans HV1.out.2.2.2.2.2.size ltW)))⟩)
  have HD1 := Lib.hid (show U1.heap[D1]? = some (.deferred (some [])) ∧ w.heap.size ≤ D1 from ⟨((HXA.out.trans xb).block _ ltD).trans HBW.out.2, Nat.le_trans HV1.out.2.2.2.2.2.size hD⟩)
  have cn : U1.cell? ⟨n1, 0, none⟩ = some (.int .i64 0) := block_cell (go _ _ HN1.out.1) 0
  clear xw go xb c20 c21 c22 HXA HBW HCW ltD lt2 ltW
  gi_wp2
  clear cn
  rw [roundsIn_succ]
  gi_wp2
  have HD1b := Lib.hid (block_lt HD1.out.1)

  have z1 : (U1.alloc (.cells #[.int .i64 0] 3)).heap.size = U1.heap.size + 1 := World.size_alloc _ _
  have kn := heap_alloc_new U1 (.cells #[.int .i64 0] 3)
  have xn := (Ext.refl U1).alloc (.cells #[.int .i64 0] 3)
  have HV2 := Lib.hid (And.intro ((xn.block _ (block_lt HU1.out.1)).trans HU1.out.1) (And.intro ((xn.block _ (block_lt HU1.out.2.1)).trans HU1.out.2.1) (And.intro ((xn.block _ (block_lt HU1.out.2.2.1)).trans HU1.out.2.2.1) (And.intro ((xn.block _ (block_lt HU1.out.2.2.2.1)).trans HU1.out.2.2.2.1) (And.intro ((xn.block _ (block_lt HU1.out.2.2.2.2.1)).trans HU1.out.2.2.2.2.1) (HU1.out.2.2.2.2.2.trans xn))))))
  have HN2 := Lib.hid (And.intro kn (And.intro z1 trivial))
  have HE2 := Lib.hid ((xn.block _ (block_lt HD1.out.1)).trans HD1.out.1)
  clear z1 kn xn
  generalize U1.alloc (.cells #[.int .i64 0] 3) = V2 at *
  generalize U1.heap.size = n2 at *
  refine range_none (gf := 10) (lb := #[.pointer (some ⟨eb, 0, none⟩), .pointer (some ⟨rb, 0, none⟩)]) rfl (by omega) rfl trivial (enters_of Tryd.func10 (by kernel_rfl) rfl)
    (gives_none Fence.wide _ trivial rfl rb eb a V2 HV2.out.2.2.2.2.1) ?_
  intro D2 W hD hB hK
  have c20 : W.cell? ⟨b2, 0, none⟩ = some (.int .i64 K) := (hB.cell (p := ⟨b2, 0, none⟩) (block_lt HV2.out.1)).trans (block_cell HV2.out.1 0)
  have c21 : W.cell? ⟨b2, 1, none⟩ = some (.int .i64 Q) := (hB.cell (p := ⟨b2, 1, none⟩) (block_lt HV2.out.1)).trans (block_cell HV2.out.1 1)
  have c22 : W.cell? ⟨b2, 2, none⟩ = some (.int .i64 T) := (hB.cell (p := ⟨b2, 2, none⟩) (block_lt HV2.out.1)).trans (block_cell HV2.out.1 2)
  gi_wp2
  refine ⟨trivial, (callsIn_wide.2 (HL.out W)).mono ?_⟩
  rintro e Wa ⟨rfl, xa⟩
  have ltD : D2 < W.heap.size := block_lt hK
  have HBW := Lib.hid (And.intro hB hK)
  have HCW := Lib.hid (And.intro c20 (And.intro c21 c22))
  have lt2 := (block_lt HV2.out.1)
  have ltW := hB.size
  clear hB hK c20 c21 c22
  have c20 : Wa.cell? ⟨b2, 0, none⟩ = some (.int .i64 K) := (xa.cell (p := ⟨b2, 0, none⟩) (by show b2 < _; omega)).trans HCW.out.1
  have c21 : Wa.cell? ⟨b2, 1, none⟩ = some (.int .i64 Q) := (xa.cell (p := ⟨b2, 1, none⟩) (by show b2 < _; omega)).trans HCW.out.2.1
  have c22 : Wa.cell? ⟨b2, 2, none⟩ = some (.int .i64 T) := (xa.cell (p := ⟨b2, 2, none⟩) (by show b2 < _; omega)).trans HCW.out.2.2
  have HXA := Lib.hid xa
  clear xa
  gi_wp2
  refine ⟨trivial, (callsIn_wide.2 (HL.out Wa)).mono ?_⟩
  rintro e U2 ⟨rfl, xb⟩
  have xw := HXA.out.trans xb
  have go : ∀ b o, V2.heap[b]? = some o → U2.heap[b]? = some o := fun b o h => ((xw.block b (by have := block_lt h; omega)).trans (HBW.out.1.block b (block_lt h))).trans h
  have HG2 := Lib.hid (go _ _ HE2.out)
  have HU2 := Lib.hid (show U2.heap[b2]? = some (.cells #[.int .i64 K, .int .i64 Q, .int .i64 T] 23 (0, 0)) ∧ U2.heap[b2 + 1]? = some (.cells #[.int .i64 (N : Int)] 3 (0, 0)) ∧ U2.heap[b2 + 1 + 1]? = some (.cells #[.bool false] 4 (0, 0)) ∧ U2.heap[rb]? = some (rowBox 0 0 0) ∧ U2.heap[eb]? = some (errBox (.iface 42 (.pointer (some a)))) ∧ Ext w U2 from
    ⟨go _ _ HV2.out.1, go _ _ HV2.out.2.1, go _ _ HV2.out.2.2.1, go _ _ HV2.out.2.2.2.1, go _ _ HV2.out.2.2.2.2.1, Below.trans HV2.out.2.2.2.2.2 (Below.trans (Below.mono HBW.out.1 HV2.out.2.2.2.2.2.size) (Below.mono xw (Nat.le_trans HV2.out.2.2.2.2.2.size ltW)))⟩)
  have HD2 := Lib.hid (show U2.heap[D2]? = some (.deferred (some [])) ∧ w.heap.size ≤ D2 from ⟨((HXA.out.trans xb).block _ ltD).trans HBW.out.2, Nat.le_trans HV2.out.2.2.2.2.2.size hD⟩)
  have cn : U2.cell? ⟨n2, 0, none⟩ = some (.int .i64 0) := block_cell (go _ _ HN2.out.1) 0
  clear xw go xb c20 c21 c22 HXA HBW HCW ltD lt2 ltW
  gi_wp2
  clear cn
  have c40 : U2.cell? ⟨b2 + 1 + 1, 0, none⟩ = some (.bool false) := block_cell HU2.out.2.2.1 0
  have f40 := block_fz HU2.out.2.2.1 0
  rw [roundsIn_succ]
  gi_wp2
  have hK2 := (KeepsOthers.setCell U2 ⟨b2 + 1 + 1, 0, none⟩ (.bool true)).same D2 _ HD2.out.1 rfl
  have hK1 := (KeepsOthers.setCell U2 ⟨b2 + 1 + 1, 0, none⟩ (.bool true)).same D1 _ HG2.out rfl
  have ne : D1 ≠ D2 := by have h1 := HD1b.out; have h2 := HN2.out.2.1; omega
  have hb2 := HB2.out
  have bb : Below w.heap.size w (U2.setCell ⟨b2 + 1 + 1, 0, none⟩ (.bool true)) := HU2.out.2.2.2.2.2.setCell (p := ⟨b2 + 1 + 1, 0, none⟩) (by show w.heap.size ≤ b2 + 1 + 1; omega) _
  have cc : (U2.setCell ⟨b2 + 1 + 1, 0, none⟩ (.bool true)).cell? ⟨b2 + 1 + 1, 0, none⟩ = some (.bool true) := World.cell?_setCell_same' _ _ _ (by rw [c40]; rfl)
  generalize U2.setCell ⟨b2 + 1 + 1, 0, none⟩ (.bool true) = U3 at *
  have hK1b : (U3.putObj D2 (.deferred none)).heap[D1]? = some (.deferred (some [])) := (World.putObj_heap_other ne).trans hK1
  have bc := bb.trans (belowK_b (w := w) (Nat.le_refl _) U3 D2 _ (.deferred none) HD2.out.2 hK2 rfl rfl)
  have cd := cell_kept cc (grownBy_putObj' U3 D2 (.deferred none)) (fun r e => by cases e; exact ⟨_, hK2, rfl⟩)
  refine ⟨by simp, .inl ⟨_, _, rfl, run_takeDeferred hK2, ?_⟩⟩
  have bd := bc.trans (belowK_b (w := w) (Nat.le_refl _) (U3.putObj D2 (.deferred none)) D1 _ (.deferred none) HD1.out.2 hK1b rfl rfl)
  have ce := cell_kept cd (grownBy_putObj' (U3.putObj D2 (.deferred none)) D1 (.deferred none)) (fun r e => by cases e; exact ⟨_, hK1b, rfl⟩)
  refine ⟨by simp, .inl ⟨_, _, rfl, run_takeDeferred hK1b, ?_⟩⟩
  refine ⟨.bool true, ?_, rfl, bd⟩
  simp [results, Tryd.f3, go_sem, ce]
theorem rows_any (K Q T s : Int) (a : Addr) (w : World) (hS : Sen w 1 a) (hK : I64 K) (hQ : I64 Q) (hT : I64 T) :
    Calls Tryd.prog 3 #[srv K Q T, .int .i64 s] w fun e w' => e = .returned (.bool true) ∧ Ext w w' := by
  rcases row_or K Q T with h | ⟨g, q, t, h⟩
  · exact rows_no h a hK hQ hT s w hS
  · exact rows_row h s w
end Go.Proofs.YtimjmacjkefljaaDoor
