/-
  One of two operations of a drawn region may come up.
-/
import Derived.Test.YteflnnlihblpgaaDoorMgNetPutsProof20
namespace Go.Proofs.YteflnnlihblpgaaDoor
set_option maxRecDepth 100000
open Go.RowKit
set_option linter.unusedVariables false
section
variable {P : Program} {ops : Array Oper} {Q : Exit → Act → World → Prop} {md : Region.Mode} {S : World → Prop} {T : List Nat}
/-- One of two may come up. -/
theorem d_twoB {i j : Nat} {oi oj : Oper} {fuel : Nat} {listed : Array Bool} {a : Act} {w : World} (hr : Region.ready md ops listed = [i, j]) (hi : ops[i]? = some oi) (hj : ops[j]? = some oj) (hgi : oi.guard = none) (hgj : oj.guard = none)
    (h1 : ∀ K : Act → World → Prop, Hid (∀ a w, (T.contains i = false → S w) → AnyD P md ops Q S T fuel (listed.setIfInBounds i true) a w → K a w) → Oper.wp P oi a w K Q)
    (h2 : ∀ K : Act → World → Prop, Hid (∀ a w, (T.contains j = false → S w) → AnyD P md ops Q S T fuel (listed.setIfInBounds j true) a w → K a w) → Oper.wp P oj a w K Q) : AnyD P md ops Q S T (fuel + 1) listed a w :=
  ⟨fun e => by rw [hr] at e; simp at e, fun k hk => by
    rw [hr] at hk
    rcases List.mem_cons.1 hk with rfl | hk
    · exact wpOp_step hi (fun K hK => by
        rw [if_pos (by simp [Region.wanted, hgi])]
        exact h1 K (Lib.hid fun a w h1 h2 => hK a w ⟨h1, h2⟩))
    · obtain rfl := List.mem_singleton.1 hk
      exact wpOp_step hj (fun K hK => by
        rw [if_pos (by simp [Region.wanted, hgj])]
        exact h2 K (Lib.hid fun a w h1 h2 => hK a w ⟨h1, h2⟩))⟩
end
end Go.Proofs.YteflnnlihblpgaaDoor
