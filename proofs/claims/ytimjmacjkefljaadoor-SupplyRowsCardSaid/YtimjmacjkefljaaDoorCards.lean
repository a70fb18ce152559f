/-
  DERIVED. GIVEN WITH THE SEED: THE CARDS: each row of YtimjmacjkefljaaDoorRows.lean that lists a variable, with what it lists TIED to the program's text (the seventh form; the later family's looks); each row that meets fmt, with fmt's text TOLD by the authors' own Lean function (tested against real Go, not proved from fmt's source: count such statements apart). THE CARD IS WHAT COUNTS. Prove the row's statement (the work); the ties are given (YtimjmacjkefljaaDoorTie.lean); close each card by the builder's one call (the guide's Derived/Test/ToyasCard.lean, 'card_holds'). Laid BY PROGRAM, IN A SANDBOX (cutbox-door.mjs). By AI agents, Wed Nov 11 2026. No macro, syntax, notation, axiom, sorry.
-/
import Derived.Test.YtimjmacjkefljaaDoorRows
import GoSem.ClaimSeven
namespace Go.Proofs.YtimjmacjkefljaaDoor
namespace Rows

/-- THE TIED CARD OF 'almonerlaw10.SupplyRows'. -/
def supplyRowsCard : Claim7 := { stood := { row := supplyRowsRow, standIns := [], harness := (true, "b5102c5dba5a1c5d000af668ab6b4f1687ca9b06ad1b775354ab19ccb9e364d7"), looks := false }, kinds := [], alts := [], laidByText := true, laidKinds := [.sentinel, .sentinel], laidTests := true, laidLooks := .later }
def SupplyRowsCardSaid : Prop := Claim7.holds Tryd.pinned (.plain (OpenSpec.ofChange supplyRowsSpec)) supplyRowsCard

/-- THE SECOND FORM's CARD OF 'almonerlaw10.SupplyRows'. -/
def supplyRowsUptoCard : Claim7 := { stood := { row := supplyRowsUptoRow, standIns := [], harness := (true, "b5102c5dba5a1c5d000af668ab6b4f1687ca9b06ad1b775354ab19ccb9e364d7"), looks := false }, kinds := [], alts := [], laidByText := true, laidKinds := [.sentinel, .sentinel], laidTests := true, laidLooks := .later }
def SupplyRowsUptoCardSaid : Prop := Claim7.holds Tryd.pinned (.plain (OpenSpec.upto supplyRowsSpec)) supplyRowsUptoCard
end Rows
end Go.Proofs.YtimjmacjkefljaaDoor
