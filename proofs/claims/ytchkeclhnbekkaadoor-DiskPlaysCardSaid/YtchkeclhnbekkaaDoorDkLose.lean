/-
  Package disk: Lose, and what is told of a disk, walked.
-/
import Derived.Test.YtchkeclhnbekkaaDoorDkLaw
import Derived.MapKept
namespace Go.Proofs.YtchkeclhnbekkaaDoor
set_option maxRecDepth 100000
open Go.RowKit Go.Maps
set_option linter.unusedVariables false
section
variable {w w' : World} {g b m c Z : Nat} {A : Option Addr} {S nw : Int} {f : Int → List Nat} {l : List WrV} {lost : Bool}
set_option maxHeartbeats 1600000 in
theorem writes_d (h : DS w g b A m c S f l nw lost Z) : Calls Tryd.prog 18 #[.pointer (some ⟨g, 0, none⟩)] w fun e w' => e = .returned (.int .i64 nw) ∧ Ext w w' := by
  obtain ⟨c0, c1, c2, c3, c4⟩ := h.cells
  clear h
  go_enter Tryd.func18, Tryd.ntmps18
  go_wp2_with fail
  go_returns
  exact ⟨rfl, Ext.refl w⟩
set_option maxHeartbeats 1600000 in
theorem lost_d (h : DS w g b A m c S f l nw lost Z) : Calls Tryd.prog 19 #[.pointer (some ⟨g, 0, none⟩)] w fun e w' => e = .returned (.bool lost) ∧ Ext w w' := by
  obtain ⟨c0, c1, c2, c3, c4⟩ := h.cells
  clear h
  go_enter Tryd.func19, Tryd.ntmps19
  go_wp2_with fail
  go_returns
  exact ⟨rfl, Ext.refl w⟩
set_option maxHeartbeats 1600000 in
theorem sectors_d (h : DS w g b A m c S f l nw lost Z) : Calls Tryd.prog 20 #[.pointer (some ⟨g, 0, none⟩)] w fun e w' => e = .returned (.int .i64 S) ∧ Ext w w' := by
  obtain ⟨c0, c1, c2, c3, c4⟩ := h.cells
  clear h
  go_enter Tryd.func20, Tryd.ntmps20
  go_wp2_with fail
  go_returns
  exact ⟨rfl, Ext.refl w⟩
/-- The world behind the clearing of a map. -/
def clrMap (w : World) (b cl : Nat) : World := { w with heap := w.heap.setIfInBounds b (.map #[] cl) }
theorem clrMap_fr (w : World) (b cl : Nat) : Fr w (clrMap w b cl) (· = b) := by
  refine ⟨rfl, rfl, rfl, by simp [clrMap], fun k hk hp => ?_⟩
  simp only [clrMap]
  rw [Array.getElem?_setIfInBounds, if_neg (fun e => hp e.symm)]
theorem clrMap_map {n : Nat} {h1 : Int → Option Value} (h : MapI Tryd.prog 3 w b n h1) : ∃ cl, (∀ ty, (Builtin.clear_ #[55] ty #[.map (some b)]).run Tryd.prog w = .ok (.tuple #[]) (clrMap w b cl)) ∧ MapI Tryd.prog 3 (clrMap w b cl) b 0 (fun _ => none) := by
  have hlt := h.lt
  obtain ⟨D, ⟨es, cl, hh, rest⟩, h2⟩ := h
  refine ⟨cl, fun ty => ?_, ⟨.map [], ⟨#[], cl, by simp [clrMap, hlt], ⟨by simp, MapKept.stamped_empty cl, by simp⟩, Nat.le_refl _, rfl⟩, isMap_empty, fun x => ⟨rfl, fun v h => by cases h⟩⟩⟩
  simp [Builtin.clear_, run_underlying Tryd.underlying55, MapKept.run_getObj_map hh, MapKept.run_setObj_map _ hh, Result.andThen, clrMap]
theorem lose_done (h : DS w g b A m c S f l nw lost Z) {v2 : World} {cl : Nat} (hv2 : v2 = (w.setCell ⟨g, 4, none⟩ (.bool true)).setCell ⟨g, 2, none⟩ (.slice none 0 0)) (hm : MapI Tryd.prog 3 (clrMap v2 b cl) b 0 (fun _ => none)) :
    DStep w (clrMap v2 b cl) g b A S (fun _ => z64) [] nw true Z := by
  have f1 := Fr.store w ⟨g, 4, none⟩ (.bool true)
  have f2 := Fr.store (w.setCell ⟨g, 4, none⟩ (.bool true)) ⟨g, 2, none⟩ (.slice none 0 0)
  have k1 := heap_setCell_same w g 4 _ _ (.bool true) h.blk
  have k2 := heap_setCell_same (w.setCell ⟨g, 4, none⟩ (.bool true)) g 2 _ _ (.slice none 0 0) k1
  subst hv2
  have f3 := clrMap_fr ((w.setCell ⟨g, 4, none⟩ (.bool true)).setCell ⟨g, 2, none⟩ (.slice none 0 0)) b cl
  refine ⟨⟨none, 0, 0, ⟨(f3.block g (block_lt k2) (fun e => h.bg e.symm)).trans k2, ⟨_, 0, hm, Nat.zero_le _, fun x => rfl⟩, Own.nil_, fun _ => isSec_z64, (fun x hx => by cases hx), (fun x hx => by cases hx), h.srng, h.bg, (fun a ha => by cases ha)⟩, fun a ha => by cases ha⟩, ((f1.mono (fun q _ e => .inl e)).trans f2 (fun q _ e => .inl e)).trans f3 (fun q _ e => .inr (.inl e))⟩
set_option maxHeartbeats 1600000 in
theorem lose_any (h : DS w g b A m c S f l nw lost Z) : Calls Tryd.prog 28 #[.pointer (some ⟨g, 0, none⟩)] w fun e w' => e = .returned (.tuple #[]) ∧ DStep w w' g b A S (fun _ => z64) [] nw true Z := by
  obtain ⟨h1, n, hm, hn, hx⟩ := h.map
  have f1 := Fr.store w ⟨g, 4, none⟩ (.bool true)
  have f2 := Fr.store (w.setCell ⟨g, 4, none⟩ (.bool true)) ⟨g, 2, none⟩ (.slice none 0 0)
  have k1 := heap_setCell_same w g 4 _ _ (.bool true) h.blk
  have k2 := heap_setCell_same (w.setCell ⟨g, 4, none⟩ (.bool true)) g 2 _ _ (.slice none 0 0) k1
  obtain ⟨c0, c1, c2, c3, c4⟩ := h.cells
  have z4 := block_fz h.blk 4
  have b2 : (w.setCell ⟨g, 4, none⟩ (.bool true)).frozen? ⟨g, 2, none⟩ = false := block_fz k1 2
  have e2 : (w.setCell ⟨g, 4, none⟩ (.bool true)).cell? ⟨g, 2, none⟩ = some (.slice A m c) := block_cell k1 2
  have e1 : ((w.setCell ⟨g, 4, none⟩ (.bool true)).setCell ⟨g, 2, none⟩ (.slice none 0 0)).cell? ⟨g, 1, none⟩ = some (.map (some b)) := block_cell k2 1
  obtain ⟨cl, RC, hm2⟩ := clrMap_map ((hm.fr f1 h.bg).fr f2 h.bg)
  have HR := Lib.hid (lose_done h rfl hm2)
  clear h hm hx f1 f2 k1 k2 hm2
  go_enter Tryd.func28, Tryd.ntmps28
  go_wp2_with fail
  go_returns
  exact ⟨rfl, HR.out⟩
end
end Go.Proofs.YtchkeclhnbekkaaDoor
