/-
  DERIVED. GIVEN WITH THE SEED: THE CARDS: each row of YtocjbllkgbjihaaDoorRows.lean that lists a variable, with what it lists TIED to the program's text (the seventh form; the later family's looks); each row that meets fmt, with fmt's text TOLD by the authors' own Lean function (tested against real Go, not proved from fmt's source: count such statements apart). THE CARD IS WHAT COUNTS. Prove the row's statement (the work); the ties are given (YtocjbllkgbjihaaDoorTie.lean); close each card by the builder's one call (the guide's Derived/Test/ToyasCard.lean, 'card_holds'). Laid BY PROGRAM, IN A SANDBOX (cutbox-door.mjs). By AI agents, Wed Nov 11 2026. No macro, syntax, notation, axiom, sorry.
-/
import Derived.Test.YtocjbllkgbjihaaDoorRows
import GoSem.ClaimSeven
namespace Go.Proofs.YtocjbllkgbjihaaDoor
namespace Rows

/-- THE TIED CARD OF 'almonerlaw07.QueueSorts'. -/
def queueSortsCard : Claim7 := { stood := { row := queueSortsRow, standIns := [], harness := (true, "3c87b882cac5368b567491a5957bbd806f22394ba349dd432b1c4afaec3840b9"), looks := true }, kinds := [], alts := [], laidByText := true, laidKinds := [.sentinel, .sentinel, .sentinel], laidTests := true, laidLooks := .later }
def QueueSortsCardSaid : Prop := Claim7.holds Tryd.pinned (.plain (OpenSpec.ofChange queueSortsSpec)) queueSortsCard

/-- THE TIED CARD OF 'almonerlaw07.QueueLists'. -/
def queueListsCard : Claim7 := { stood := { row := queueListsRow, standIns := [], harness := (true, "3c87b882cac5368b567491a5957bbd806f22394ba349dd432b1c4afaec3840b9"), looks := true }, kinds := [], alts := [], laidByText := true, laidKinds := [.sentinel, .sentinel, .sentinel], laidTests := true, laidLooks := .later }
def QueueListsCardSaid : Prop := Claim7.holds Tryd.pinned (.plain (OpenSpec.ofChange queueListsSpec)) queueListsCard

/-- THE TIED CARD OF 'almonerlaw07.QueueMerges'. -/
def queueMergesCard : Claim7 := { stood := { row := queueMergesRow, standIns := [], harness := (true, "3c87b882cac5368b567491a5957bbd806f22394ba349dd432b1c4afaec3840b9"), looks := true }, kinds := [], alts := [], laidByText := true, laidKinds := [.sentinel, .sentinel, .sentinel], laidTests := true, laidLooks := .later }
def QueueMergesCardSaid : Prop := Claim7.holds Tryd.pinned (.plain (OpenSpec.ofChange queueMergesSpec)) queueMergesCard

/-- THE TIED CARD OF 'almonerlaw07.QueueLeast'. -/
def queueLeastCard : Claim7 := { stood := { row := queueLeastRow, standIns := [], harness := (true, "3c87b882cac5368b567491a5957bbd806f22394ba349dd432b1c4afaec3840b9"), looks := true }, kinds := [], alts := [], laidByText := true, laidKinds := [.sentinel, .sentinel, .sentinel], laidTests := true, laidLooks := .later }
def QueueLeastCardSaid : Prop := Claim7.holds Tryd.pinned (.plain (OpenSpec.ofChange queueLeastSpec)) queueLeastCard

/-- THE TIED CARD OF 'almonerlaw07.QueuePlays'. -/
def queuePlaysCard : Claim7 := { stood := { row := queuePlaysRow, standIns := [], harness := (true, "3c87b882cac5368b567491a5957bbd806f22394ba349dd432b1c4afaec3840b9"), looks := true }, kinds := [], alts := [], laidByText := true, laidKinds := [.sentinel, .sentinel, .sentinel, .sentinel, .sentinel, .sentinel, .sentinel, .sentinel, .sentinel, .sentinel, .sentinel, .sentinel, .sentinel, .sentinel, .sentinel, .sentinel], laidTests := true, laidLooks := .later }
def QueuePlaysCardSaid : Prop := Claim7.holds Tryd.pinned (.plain (OpenSpec.ofChange queuePlaysSpec)) queuePlaysCard

/-- THE SECOND FORM's CARD OF 'almonerlaw07.QueueSorts'. -/
def queueSortsUptoCard : Claim7 := { stood := { row := queueSortsUptoRow, standIns := [], harness := (true, "3c87b882cac5368b567491a5957bbd806f22394ba349dd432b1c4afaec3840b9"), looks := true }, kinds := [], alts := [], laidByText := true, laidKinds := [.sentinel, .sentinel, .sentinel], laidTests := true, laidLooks := .later }
def QueueSortsUptoCardSaid : Prop := Claim7.holds Tryd.pinned (.plain (OpenSpec.upto queueSortsSpec)) queueSortsUptoCard

/-- THE SECOND FORM's CARD OF 'almonerlaw07.QueueLists'. -/
def queueListsUptoCard : Claim7 := { stood := { row := queueListsUptoRow, standIns := [], harness := (true, "3c87b882cac5368b567491a5957bbd806f22394ba349dd432b1c4afaec3840b9"), looks := true }, kinds := [], alts := [], laidByText := true, laidKinds := [.sentinel, .sentinel, .sentinel], laidTests := true, laidLooks := .later }
def QueueListsUptoCardSaid : Prop := Claim7.holds Tryd.pinned (.plain (OpenSpec.upto queueListsSpec)) queueListsUptoCard

/-- THE SECOND FORM's CARD OF 'almonerlaw07.QueueMerges'. -/
def queueMergesUptoCard : Claim7 := { stood := { row := queueMergesUptoRow, standIns := [], harness := (true, "3c87b882cac5368b567491a5957bbd806f22394ba349dd432b1c4afaec3840b9"), looks := true }, kinds := [], alts := [], laidByText := true, laidKinds := [.sentinel, .sentinel, .sentinel], laidTests := true, laidLooks := .later }
def QueueMergesUptoCardSaid : Prop := Claim7.holds Tryd.pinned (.plain (OpenSpec.upto queueMergesSpec)) queueMergesUptoCard

/-- THE SECOND FORM's CARD OF 'almonerlaw07.QueueLeast'. -/
def queueLeastUptoCard : Claim7 := { stood := { row := queueLeastUptoRow, standIns := [], harness := (true, "3c87b882cac5368b567491a5957bbd806f22394ba349dd432b1c4afaec3840b9"), looks := true }, kinds := [], alts := [], laidByText := true, laidKinds := [.sentinel, .sentinel, .sentinel], laidTests := true, laidLooks := .later }
def QueueLeastUptoCardSaid : Prop := Claim7.holds Tryd.pinned (.plain (OpenSpec.upto queueLeastSpec)) queueLeastUptoCard

/-- THE SECOND FORM's CARD OF 'almonerlaw07.QueuePlays'. -/
def queuePlaysUptoCard : Claim7 := { stood := { row := queuePlaysUptoRow, standIns := [], harness := (true, "3c87b882cac5368b567491a5957bbd806f22394ba349dd432b1c4afaec3840b9"), looks := true }, kinds := [], alts := [], laidByText := true, laidKinds := [.sentinel, .sentinel, .sentinel, .sentinel, .sentinel, .sentinel, .sentinel, .sentinel, .sentinel, .sentinel, .sentinel, .sentinel, .sentinel, .sentinel, .sentinel, .sentinel], laidTests := true, laidLooks := .later }
def QueuePlaysUptoCardSaid : Prop := Claim7.holds Tryd.pinned (.plain (OpenSpec.upto queuePlaysSpec)) queuePlaysUptoCard
end Rows
end Go.Proofs.YtocjbllkgbjihaaDoor
