/-
  The document's queue: Pop, walked.
-/
import Derived.Test.YtocjbllkgbjihaaDoorQuRefO
namespace Go.Proofs.YtocjbllkgbjihaaDoor
set_option maxRecDepth 100000
open Go.RowKit Go.Maps
set_option linter.unusedVariables false
section
variable {w w' : World} {q : Nat} {F : Nat → Prop} {L : List Th}
set_option maxHeartbeats 1600000 in
theorem rpop_gone (h : RQ w q F []) :
    Calls Tryd.prog 33 #[.pointer (some ⟨q, 0, none⟩)] w fun e w' => e = .returned (.tuple #[.agg #[.int .i64 0, .int .i64 0], .int .i64 5]) ∧ Ext w w' := by
  have X0 := (Ext.refl w).alloc (.cells #[.int .i64 0, .int .i64 0] 34)
  have hb0 := heap_alloc_new w (.cells #[.int .i64 0, .int .i64 0] 34)
  have C1 := Lib.hid (rfirst_any (h.ext X0) (by simp))
  have HV := Lib.hid (And.intro X0 hb0)
  clear h X0 hb0
  go_enter Tryd.func33, Tryd.ntmps33
  go_wp2_with fail
  refine C1.out.mono ?_
  rintro e w1 ⟨x1, h1⟩
  obtain rfl : e = .returned (.int .i64 (-1)) := by
    rcases h1 with ⟨_, h1⟩ | ⟨i, h1, _⟩
    · exact h1
    · simp at h1
  have b1 := (x1.block _ (block_lt HV.out.2)).trans HV.out.2
  have X1 := HV.out.1.trans x1
  have hsz := HV.out.1.size
  generalize hb : w.heap.size = b0 at *
  have y0 : w1.cell? ⟨b0, 0, none⟩ = some (.int .i64 0) := block_cell b1 0
  have y1 : w1.cell? ⟨b0, 1, none⟩ = some (.int .i64 0) := block_cell b1 1
  have z0 := block_fz b1 0
  have z1 := block_fz b1 1
  have HE := Lib.hid (And.intro (set2_blk (u := .int .i64 0) (v := .int .i64 0) b1) (Fr.ext X1 (Fr.store2 w1 b0 0 1 (.int .i64 0) (.int .i64 0)) (fun i hi => by rw [hi]; omega)))
  clear C1 HV x1 h1 b1 X1 hsz hb
  go_wp2_with fail
  generalize (w1.setCell ⟨b0, 0, none⟩ (.int .i64 0)).setCell ⟨b0, 1, none⟩ (.int .i64 0) = w6 at *
  have s0 : w6.cell? ⟨b0, 0, none⟩ = some (.int .i64 0) := block_cell HE.out.1 0
  have s1 : w6.cell? ⟨b0, 1, none⟩ = some (.int .i64 0) := block_cell HE.out.1 1
  refine bodyPost_ret (v := .tuple #[.agg #[.int .i64 0, .int .i64 0], .int .i64 5]) (by simp [results, Tryd.results33, go_sem, s0, s1]) rfl ?_
  exact ⟨rfl, HE.out.2⟩
set_option maxHeartbeats 1600000 in
theorem rpop_ok (h : RQ w q F L) (hfew : L.length ≤ 1000000000) {x : Th} (hxm : x ∈ L) (hx : ∀ z ∈ L, ah z x = false) :
    Calls Tryd.prog 33 #[.pointer (some ⟨q, 0, none⟩)] w fun e w' => e = .returned (.tuple #[.agg #[.int .i64 x.id, .int .i64 x.rank], .int .i64 0]) ∧ ∃ F' L', RN w w' q F F' L' ∧ (x :: L').Perm L := by
  have X0 := (Ext.refl w).alloc (.cells #[.int .i64 0, .int .i64 0] 34)
  have hb0 := heap_alloc_new w (.cells #[.int .i64 0, .int .i64 0] 34)
  have C1 := Lib.hid (rfirst_any (h.ext X0) hfew)
  have HV := Lib.hid (And.intro X0 (And.intro hb0 (And.intro (h.ext X0) (And.intro h.lt (And.intro hxm hx)))))
  clear h X0 hb0 hxm hx
  go_enter Tryd.func33, Tryd.ntmps33
  go_wp2_with fail
  refine C1.out.mono ?_
  rintro e w1 ⟨x1, h1⟩
  obtain ⟨i, hi, rfl, hmin⟩ : ∃ i : Nat, i < L.length ∧ e = .returned (.int .i64 (i : Int)) ∧ ∀ z ∈ L, ah z (at_ L i) = false := by
    rcases h1 with ⟨h1, _⟩ | h1
    · have := HV.out.2.2.2.2.1; rw [h1] at this; cases this
    · exact h1
  have hxe : x = at_ L i := least_eq HV.out.2.2.2.2.1 (at_mem hi) HV.out.2.2.2.2.2 hmin
  have C2 := Lib.hid (rout_any (HV.out.2.2.1.ext x1) hi hfew (Lib.hid hxe))
  have HP := Lib.hid (show (x :: L.eraseIdx i).Perm L from by rw [hxe]; exact perm_erase (at_some hi))
  have H1 := Lib.hid (And.intro ((x1.block _ (block_lt HV.out.2.1)).trans HV.out.2.1) (HV.out.1.trans x1))
  clear C1 x1 h1 hmin hxe
  go_wp2_with fail
  refine C2.out.mono ?_
  rintro e w2 ⟨rfl, F2, n2⟩
  have nF : ¬ F w.heap.size := fun e => Nat.lt_irrefl _ (HV.out.2.2.2.1 _ e)
  have b2 := (n2.fr.block _ (block_lt H1.out.1) nF).trans H1.out.1
  have nF2 : ¬ F2 w.heap.size := n2.out (block_lt H1.out.1) nF
  have N2 := n2.ahead H1.out.2
  generalize hb : w.heap.size = b0 at *
  have y0 : w2.cell? ⟨b0, 0, none⟩ = some (.int .i64 0) := block_cell b2 0
  have y1 : w2.cell? ⟨b0, 1, none⟩ = some (.int .i64 0) := block_cell b2 1
  have z0 := block_fz b2 0
  have z1 := block_fz b2 1
  have HE : Hid (((w2.setCell ⟨b0, 0, none⟩ (.int .i64 x.id)).setCell ⟨b0, 1, none⟩ (.int .i64 x.rank)).heap[b0]? = some (.cells #[.int .i64 x.id, .int .i64 x.rank] 34 (0, 0)) ∧ RN w ((w2.setCell ⟨b0, 0, none⟩ (.int .i64 x.id)).setCell ⟨b0, 1, none⟩ (.int .i64 x.rank)) q F F2 (L.eraseIdx i)) := Lib.hid (by
    have f6 := Fr.store2 w2 b0 0 1 (.int .i64 x.id) (.int .i64 x.rank)
    exact ⟨set2_blk b2, N2.rq.fr f6 (fun b hb2 e => nF2 (by have e2 : b = b0 := e; rw [← e2]; exact hb2)), N2.fr.trans f6 (fun k hk e => absurd hk (by have e2 : k = b0 := e; omega)), N2.fo⟩)
  clear C2 n2 nF b2 nF2 N2 HV H1
  go_wp2_with fail
  generalize (w2.setCell ⟨b0, 0, none⟩ (.int .i64 x.id)).setCell ⟨b0, 1, none⟩ (.int .i64 x.rank) = w6 at *
  have s0 : w6.cell? ⟨b0, 0, none⟩ = some (.int .i64 x.id) := block_cell HE.out.1 0
  have s1 : w6.cell? ⟨b0, 1, none⟩ = some (.int .i64 x.rank) := block_cell HE.out.1 1
  refine bodyPost_ret (v := .tuple #[.agg #[.int .i64 x.id, .int .i64 x.rank], .int .i64 0]) (by simp [results, Tryd.results33, go_sem, s0, s1]) rfl ?_
  exact ⟨rfl, F2, _, HE.out.2, HP.out⟩
end
end Go.Proofs.YtocjbllkgbjihaaDoor
