/-
  DERIVED. GIVEN WITH THE SEED: THE CARDS: each row of YteflnnlihblpgaaDoorRows.lean that lists a variable, with what it lists TIED to the program's text (the seventh form; the later family's looks); each row that meets fmt, with fmt's text TOLD by the authors' own Lean function (tested against real Go, not proved from fmt's source: count such statements apart). THE CARD IS WHAT COUNTS. Prove the row's statement (the work); the ties are given (YteflnnlihblpgaaDoorTie.lean); close each card by the builder's one call (the guide's Derived/Test/ToyasCard.lean, 'card_holds'). Laid BY PROGRAM, IN A SANDBOX (cutbox-door.mjs). By AI agents, Wed Nov 11 2026. No macro, syntax, notation, axiom, sorry.
-/
import Derived.Test.YteflnnlihblpgaaDoorRows
import GoSem.ClaimSeven
namespace Go.Proofs.YteflnnlihblpgaaDoor
namespace Rows

/-- THE TIED CARD OF 'almonerlaw09.OrderRows'. -/
def orderRowsCard : Claim7 := { stood := { row := orderRowsRow, standIns := [], harness := (true, "09cda596e94c990d5e540a7cc98c4b72f8f9c70d9851558ef1c80a2301f15e10"), looks := true }, kinds := [], alts := [], laidByText := true, laidKinds := [.sentinel, .sentinel, .sentinel, .sentinel, .sentinel, .sentinel, .sentinel, .sentinel, .sentinel, .sentinel, .sentinel, .sentinel, .sentinel, .sentinel, .sentinel, .sentinel], laidTests := true, laidLooks := .later }
def OrderRowsCardSaid : Prop := Claim7.holds Tryd.pinned (.plain (OpenSpec.ofChange orderRowsSpec)) orderRowsCard

/-- THE TIED CARD OF 'almonerlaw09.OrderAdds'. -/
def orderAddsCard : Claim7 := { stood := { row := orderAddsRow, standIns := [], harness := (true, "09cda596e94c990d5e540a7cc98c4b72f8f9c70d9851558ef1c80a2301f15e10"), looks := true }, kinds := [], alts := [], laidByText := true, laidKinds := [.sentinel, .sentinel, .sentinel, .sentinel], laidTests := true, laidLooks := .later }
def OrderAddsCardSaid : Prop := Claim7.holds Tryd.pinned (.plain (OpenSpec.ofChange orderAddsSpec)) orderAddsCard

/-- THE TIED CARD OF 'almonerlaw09.OrderForms'. -/
def orderFormsCard : Claim7 := { stood := { row := orderFormsRow, standIns := [], harness := (true, "09cda596e94c990d5e540a7cc98c4b72f8f9c70d9851558ef1c80a2301f15e10"), looks := true }, kinds := [], alts := [], laidByText := true, laidKinds := [.sentinel, .sentinel, .sentinel], laidTests := true, laidLooks := .later }
def OrderFormsCardSaid : Prop := Claim7.holds Tryd.pinned (.plain (OpenSpec.ofChange orderFormsSpec)) orderFormsCard

/-- THE TIED CARD OF 'almonerlaw09.OrderGets'. -/
def orderGetsCard : Claim7 := { stood := { row := orderGetsRow, standIns := [], harness := (true, "09cda596e94c990d5e540a7cc98c4b72f8f9c70d9851558ef1c80a2301f15e10"), looks := true }, kinds := [], alts := [], laidByText := true, laidKinds := [.sentinel, .sentinel, .sentinel, .sentinel], laidTests := true, laidLooks := .later }
def OrderGetsCardSaid : Prop := Claim7.holds Tryd.pinned (.plain (OpenSpec.ofChange orderGetsSpec)) orderGetsCard

/-- THE TIED CARD OF 'almonerlaw09.OrderLedgers'. -/
def orderLedgersCard : Claim7 := { stood := { row := orderLedgersRow, standIns := [], harness := (true, "09cda596e94c990d5e540a7cc98c4b72f8f9c70d9851558ef1c80a2301f15e10"), looks := true }, kinds := [], alts := [], laidByText := true, laidKinds := [.sentinel, .sentinel, .sentinel, .sentinel, .sentinel, .sentinel, .sentinel, .sentinel, .sentinel, .sentinel, .sentinel, .sentinel, .sentinel, .sentinel, .sentinel, .sentinel], laidTests := true, laidLooks := .later }
def OrderLedgersCardSaid : Prop := Claim7.holds Tryd.pinned (.plain (OpenSpec.ofChange orderLedgersSpec)) orderLedgersCard

/-- THE TIED CARD OF 'almonerlaw09.OrderUnlike'. -/
def orderUnlikeCard : Claim7 := { stood := { row := orderUnlikeRow, standIns := [], harness := (true, "09cda596e94c990d5e540a7cc98c4b72f8f9c70d9851558ef1c80a2301f15e10"), looks := true }, kinds := [], alts := [], laidByText := true, laidKinds := [.sentinel, .sentinel, .sentinel, .sentinel], laidTests := true, laidLooks := .later }
def OrderUnlikeCardSaid : Prop := Claim7.holds Tryd.pinned (.plain (OpenSpec.ofChange orderUnlikeSpec)) orderUnlikeCard

/-- THE TIED CARD OF 'almonerlaw17.NetPuts'. -/
def netPutsCard : Claim7 := { stood := { row := netPutsRow, standIns := [], harness := (true, "09cda596e94c990d5e540a7cc98c4b72f8f9c70d9851558ef1c80a2301f15e10"), looks := true }, kinds := [], alts := [], laidByText := true, laidKinds := [.sentinel, .sentinel, .sentinel, .sentinel, .sentinel], laidTests := true, laidLooks := .later }
def NetPutsCardSaid : Prop := Claim7.holds Tryd.pinned (.plain (OpenSpec.ofChange netPutsSpec)) netPutsCard

/-- THE TIED CARD OF 'almonerlaw17.NetGets'. -/
def netGetsCard : Claim7 := { stood := { row := netGetsRow, standIns := [], harness := (true, "09cda596e94c990d5e540a7cc98c4b72f8f9c70d9851558ef1c80a2301f15e10"), looks := true }, kinds := [], alts := [], laidByText := true, laidKinds := [.sentinel, .sentinel, .sentinel, .sentinel, .sentinel, .sentinel, .sentinel, .sentinel, .sentinel, .sentinel, .sentinel, .sentinel, .sentinel, .sentinel, .sentinel, .sentinel], laidTests := true, laidLooks := .later }
def NetGetsCardSaid : Prop := Claim7.holds Tryd.pinned (.plain (OpenSpec.ofChange netGetsSpec)) netGetsCard

/-- THE TIED CARD OF 'almonerlaw17.NetUnlike'. -/
def netUnlikeCard : Claim7 := { stood := { row := netUnlikeRow, standIns := [], harness := (true, "09cda596e94c990d5e540a7cc98c4b72f8f9c70d9851558ef1c80a2301f15e10"), looks := true }, kinds := [], alts := [], laidByText := true, laidKinds := [.sentinel, .sentinel, .sentinel, .sentinel, .sentinel], laidTests := true, laidLooks := .later }
def NetUnlikeCardSaid : Prop := Claim7.holds Tryd.pinned (.plain (OpenSpec.ofChange netUnlikeSpec)) netUnlikeCard

/-- THE SECOND FORM's CARD OF 'almonerlaw09.OrderRows'. -/
def orderRowsUptoCard : Claim7 := { stood := { row := orderRowsUptoRow, standIns := [], harness := (true, "09cda596e94c990d5e540a7cc98c4b72f8f9c70d9851558ef1c80a2301f15e10"), looks := true }, kinds := [], alts := [], laidByText := true, laidKinds := [.sentinel, .sentinel, .sentinel, .sentinel, .sentinel, .sentinel, .sentinel, .sentinel, .sentinel, .sentinel, .sentinel, .sentinel, .sentinel, .sentinel, .sentinel, .sentinel], laidTests := true, laidLooks := .later }
def OrderRowsUptoCardSaid : Prop := Claim7.holds Tryd.pinned (.plain (OpenSpec.upto orderRowsSpec)) orderRowsUptoCard

/-- THE SECOND FORM's CARD OF 'almonerlaw09.OrderAdds'. -/
def orderAddsUptoCard : Claim7 := { stood := { row := orderAddsUptoRow, standIns := [], harness := (true, "09cda596e94c990d5e540a7cc98c4b72f8f9c70d9851558ef1c80a2301f15e10"), looks := true }, kinds := [], alts := [], laidByText := true, laidKinds := [.sentinel, .sentinel, .sentinel, .sentinel], laidTests := true, laidLooks := .later }
def OrderAddsUptoCardSaid : Prop := Claim7.holds Tryd.pinned (.plain (OpenSpec.upto orderAddsSpec)) orderAddsUptoCard

/-- THE SECOND FORM's CARD OF 'almonerlaw09.OrderForms'. -/
def orderFormsUptoCard : Claim7 := { stood := { row := orderFormsUptoRow, standIns := [], harness := (true, "09cda596e94c990d5e540a7cc98c4b72f8f9c70d9851558ef1c80a2301f15e10"), looks := true }, kinds := [], alts := [], laidByText := true, laidKinds := [.sentinel, .sentinel, .sentinel], laidTests := true, laidLooks := .later }
def OrderFormsUptoCardSaid : Prop := Claim7.holds Tryd.pinned (.plain (OpenSpec.upto orderFormsSpec)) orderFormsUptoCard

/-- THE SECOND FORM's CARD OF 'almonerlaw09.OrderGets'. -/
def orderGetsUptoCard : Claim7 := { stood := { row := orderGetsUptoRow, standIns := [], harness := (true, "09cda596e94c990d5e540a7cc98c4b72f8f9c70d9851558ef1c80a2301f15e10"), looks := true }, kinds := [], alts := [], laidByText := true, laidKinds := [.sentinel, .sentinel, .sentinel, .sentinel], laidTests := true, laidLooks := .later }
def OrderGetsUptoCardSaid : Prop := Claim7.holds Tryd.pinned (.plain (OpenSpec.upto orderGetsSpec)) orderGetsUptoCard

/-- THE SECOND FORM's CARD OF 'almonerlaw09.OrderLedgers'. -/
def orderLedgersUptoCard : Claim7 := { stood := { row := orderLedgersUptoRow, standIns := [], harness := (true, "09cda596e94c990d5e540a7cc98c4b72f8f9c70d9851558ef1c80a2301f15e10"), looks := true }, kinds := [], alts := [], laidByText := true, laidKinds := [.sentinel, .sentinel, .sentinel, .sentinel, .sentinel, .sentinel, .sentinel, .sentinel, .sentinel, .sentinel, .sentinel, .sentinel, .sentinel, .sentinel, .sentinel, .sentinel], laidTests := true, laidLooks := .later }
def OrderLedgersUptoCardSaid : Prop := Claim7.holds Tryd.pinned (.plain (OpenSpec.upto orderLedgersSpec)) orderLedgersUptoCard

/-- THE SECOND FORM's CARD OF 'almonerlaw09.OrderUnlike'. -/
def orderUnlikeUptoCard : Claim7 := { stood := { row := orderUnlikeUptoRow, standIns := [], harness := (true, "09cda596e94c990d5e540a7cc98c4b72f8f9c70d9851558ef1c80a2301f15e10"), looks := true }, kinds := [], alts := [], laidByText := true, laidKinds := [.sentinel, .sentinel, .sentinel, .sentinel], laidTests := true, laidLooks := .later }
def OrderUnlikeUptoCardSaid : Prop := Claim7.holds Tryd.pinned (.plain (OpenSpec.upto orderUnlikeSpec)) orderUnlikeUptoCard

/-- THE SECOND FORM's CARD OF 'almonerlaw17.NetPuts'. -/
def netPutsUptoCard : Claim7 := { stood := { row := netPutsUptoRow, standIns := [], harness := (true, "09cda596e94c990d5e540a7cc98c4b72f8f9c70d9851558ef1c80a2301f15e10"), looks := true }, kinds := [], alts := [], laidByText := true, laidKinds := [.sentinel, .sentinel, .sentinel, .sentinel, .sentinel], laidTests := true, laidLooks := .later }
def NetPutsUptoCardSaid : Prop := Claim7.holds Tryd.pinned (.plain (OpenSpec.upto netPutsSpec)) netPutsUptoCard

/-- THE SECOND FORM's CARD OF 'almonerlaw17.NetGets'. -/
def netGetsUptoCard : Claim7 := { stood := { row := netGetsUptoRow, standIns := [], harness := (true, "09cda596e94c990d5e540a7cc98c4b72f8f9c70d9851558ef1c80a2301f15e10"), looks := true }, kinds := [], alts := [], laidByText := true, laidKinds := [.sentinel, .sentinel, .sentinel, .sentinel, .sentinel, .sentinel, .sentinel, .sentinel, .sentinel, .sentinel, .sentinel, .sentinel, .sentinel, .sentinel, .sentinel, .sentinel], laidTests := true, laidLooks := .later }
def NetGetsUptoCardSaid : Prop := Claim7.holds Tryd.pinned (.plain (OpenSpec.upto netGetsSpec)) netGetsUptoCard

/-- THE SECOND FORM's CARD OF 'almonerlaw17.NetUnlike'. -/
def netUnlikeUptoCard : Claim7 := { stood := { row := netUnlikeUptoRow, standIns := [], harness := (true, "09cda596e94c990d5e540a7cc98c4b72f8f9c70d9851558ef1c80a2301f15e10"), looks := true }, kinds := [], alts := [], laidByText := true, laidKinds := [.sentinel, .sentinel, .sentinel, .sentinel, .sentinel], laidTests := true, laidLooks := .later }
def NetUnlikeUptoCardSaid : Prop := Claim7.holds Tryd.pinned (.plain (OpenSpec.upto netUnlikeSpec)) netUnlikeUptoCard
end Rows
end Go.Proofs.YteflnnlihblpgaaDoor
