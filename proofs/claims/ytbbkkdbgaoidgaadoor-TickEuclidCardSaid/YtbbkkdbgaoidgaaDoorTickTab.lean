/-
  From a row's condition to the table of math/bits.
-/
import Derived.Test.YtbbkkdbgaoidgaaDoorTickGcd
import Derived.Test.YtbbkkdbgaoidgaaDoorRows
import Derived.Lib.LaidTab
import Derived.LaidMore
import Derived.Stop.Joined
namespace Go.Proofs.YtbbkkdbgaoidgaaDoor
open Go.RowKit
theorem gTab : Tryd.prog.globalNamed "math/bits.deBruijn64tab" = some 0 := by kernel_rfl
theorem gTabType : (Tryd.prog.globals[0]?).map (·.type) = some 43 := by kernel_rfl
theorem cellsTab : Tryd.prog.cellsOf 43 = 64 := by kernel_rfl
theorem cellsTab1 : Tryd.prog.cellsOf 5 = 1 := by kernel_rfl
theorem tab_of {W : World} (h : laidMetH Tryd.prog [("math/bits.deBruijn64tab", Rows.laid_math_bits_deBruijn64tab)] W) : Tab W := by
  rw [MakeChecks.laidMetH_plain _ _ _ (by kernel_rfl)] at h
  have h1 : Lib.TabIs Tryd.prog W "math/bits.deBruijn64tab" .u8 (Lib.deBruijn64tab.map Int.ofNat) :=
    Lib.tabIs_of_head (rest := []) gTab gTabType Tryd.underlying43 Tryd.underlying5 cellsTab1 cellsTab h
  have hc : ∀ j, j < 64 → W.cell? ⟨0, j, none⟩ = some (.int .u8 ((Lib.deBruijn64tab.getD j 0 : Nat) : Int)) := by
    intro j hj
    have h2 := h1.cell gTab j (by show j < (Lib.deBruijn64tab.map Int.ofNat).length; rw [List.length_map]; exact hj)
    rw [h2, List.getD, List.getD, List.getElem?_map, List.getElem?_eq_getElem (show j < Lib.deBruijn64tab.length from hj)]
    rfl
  refine ⟨?_, hc⟩
  have h0 := hc 0 (by decide)
  refine Classical.byContradiction fun hlt => ?_
  simp [World.cell?, Array.getElem?_eq_none (show W.heap.size ≤ 0 by omega)] at h0
end Go.Proofs.YtbbkkdbgaoidgaaDoor
