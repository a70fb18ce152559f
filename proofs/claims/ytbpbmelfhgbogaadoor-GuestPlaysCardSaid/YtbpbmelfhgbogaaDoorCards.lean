/-
  DERIVED. GIVEN WITH THE SEED: THE CARDS: each row of YtbpbmelfhgbogaaDoorRows.lean that lists a variable, with what it lists TIED to the program's text (the seventh form; the later family's looks); each row that meets fmt, with fmt's text TOLD by the authors' own Lean function (tested against real Go, not proved from fmt's source: count such statements apart). THE CARD IS WHAT COUNTS. Prove the row's statement (the work); the ties are given (YtbpbmelfhgbogaaDoorTie.lean); close each card by the builder's one call (the guide's Derived/Test/ToyasCard.lean, 'card_holds'). Laid BY PROGRAM, IN A SANDBOX (cutbox-door.mjs). By AI agents, Wed Nov 11 2026. No macro, syntax, notation, axiom, sorry.
-/
import Derived.Test.YtbpbmelfhgbogaaDoorRows
import GoSem.ClaimSeven
namespace Go.Proofs.YtbpbmelfhgbogaaDoor
namespace Rows

/-- THE TIED CARD OF 'almonerlaw15.GuestSpaces'. -/
def guestSpacesCard : Claim7 := { stood := { row := guestSpacesRow, standIns := [], harness := (true, "2c1f0cc21b6e4b1908888d12195ae6f3ce56534380f5df4405fd6695a72f6ba3"), looks := true }, kinds := [], alts := [], laidByText := true, laidKinds := [.sentinel, .sentinel, .sentinel, .sentinel], laidTests := true, laidLooks := .later }
def GuestSpacesCardSaid : Prop := Claim7.holds Tryd.pinned (.plain (OpenSpec.ofChange guestSpacesSpec)) guestSpacesCard

/-- THE TIED CARD OF 'almonerlaw15.GuestRuns'. -/
def guestRunsCard : Claim7 := { stood := { row := guestRunsRow, standIns := [], harness := (true, "2c1f0cc21b6e4b1908888d12195ae6f3ce56534380f5df4405fd6695a72f6ba3"), looks := true }, kinds := [], alts := [], laidByText := true, laidKinds := [.sentinel, .sentinel, .sentinel, .sentinel, .sentinel], laidTests := true, laidLooks := .later }
def GuestRunsCardSaid : Prop := Claim7.holds Tryd.pinned (.plain (OpenSpec.ofChange guestRunsSpec)) guestRunsCard

/-- THE TIED CARD OF 'almonerlaw15.GuestHolds'. -/
def guestHoldsCard : Claim7 := { stood := { row := guestHoldsRow, standIns := [], harness := (true, "2c1f0cc21b6e4b1908888d12195ae6f3ce56534380f5df4405fd6695a72f6ba3"), looks := true }, kinds := [], alts := [], laidByText := true, laidKinds := [.sentinel, .sentinel, .sentinel, .sentinel, .sentinel], laidTests := true, laidLooks := .later }
def GuestHoldsCardSaid : Prop := Claim7.holds Tryd.pinned (.plain (OpenSpec.ofChange guestHoldsSpec)) guestHoldsCard

/-- THE TIED CARD OF 'almonerlaw15.GuestChooses'. -/
def guestChoosesCard : Claim7 := { stood := { row := guestChoosesRow, standIns := [], harness := (true, "2c1f0cc21b6e4b1908888d12195ae6f3ce56534380f5df4405fd6695a72f6ba3"), looks := true }, kinds := [], alts := [], laidByText := true, laidKinds := [.sentinel, .sentinel, .sentinel, .sentinel, .sentinel], laidTests := true, laidLooks := .later }
def GuestChoosesCardSaid : Prop := Claim7.holds Tryd.pinned (.plain (OpenSpec.ofChange guestChoosesSpec)) guestChoosesCard

/-- THE TIED CARD OF 'almonerlaw15.GuestPlays'. -/
def guestPlaysCard : Claim7 := { stood := { row := guestPlaysRow, standIns := [], harness := (true, "2c1f0cc21b6e4b1908888d12195ae6f3ce56534380f5df4405fd6695a72f6ba3"), looks := true }, kinds := [], alts := [], laidByText := true, laidKinds := [.sentinel, .sentinel, .sentinel, .sentinel, .sentinel, .sentinel, .sentinel, .sentinel, .sentinel, .sentinel, .sentinel, .sentinel, .sentinel, .sentinel, .sentinel, .sentinel], laidTests := true, laidLooks := .later }
def GuestPlaysCardSaid : Prop := Claim7.holds Tryd.pinned (.plain (OpenSpec.ofChange guestPlaysSpec)) guestPlaysCard

/-- THE SECOND FORM's CARD OF 'almonerlaw15.GuestSpaces'. -/
def guestSpacesUptoCard : Claim7 := { stood := { row := guestSpacesUptoRow, standIns := [], harness := (true, "2c1f0cc21b6e4b1908888d12195ae6f3ce56534380f5df4405fd6695a72f6ba3"), looks := true }, kinds := [], alts := [], laidByText := true, laidKinds := [.sentinel, .sentinel, .sentinel, .sentinel], laidTests := true, laidLooks := .later }
def GuestSpacesUptoCardSaid : Prop := Claim7.holds Tryd.pinned (.plain (OpenSpec.upto guestSpacesSpec)) guestSpacesUptoCard

/-- THE SECOND FORM's CARD OF 'almonerlaw15.GuestRuns'. -/
def guestRunsUptoCard : Claim7 := { stood := { row := guestRunsUptoRow, standIns := [], harness := (true, "2c1f0cc21b6e4b1908888d12195ae6f3ce56534380f5df4405fd6695a72f6ba3"), looks := true }, kinds := [], alts := [], laidByText := true, laidKinds := [.sentinel, .sentinel, .sentinel, .sentinel, .sentinel], laidTests := true, laidLooks := .later }
def GuestRunsUptoCardSaid : Prop := Claim7.holds Tryd.pinned (.plain (OpenSpec.upto guestRunsSpec)) guestRunsUptoCard

/-- THE SECOND FORM's CARD OF 'almonerlaw15.GuestHolds'. -/
def guestHoldsUptoCard : Claim7 := { stood := { row := guestHoldsUptoRow, standIns := [], harness := (true, "2c1f0cc21b6e4b1908888d12195ae6f3ce56534380f5df4405fd6695a72f6ba3"), looks := true }, kinds := [], alts := [], laidByText := true, laidKinds := [.sentinel, .sentinel, .sentinel, .sentinel, .sentinel], laidTests := true, laidLooks := .later }
def GuestHoldsUptoCardSaid : Prop := Claim7.holds Tryd.pinned (.plain (OpenSpec.upto guestHoldsSpec)) guestHoldsUptoCard

/-- THE SECOND FORM's CARD OF 'almonerlaw15.GuestChooses'. -/
def guestChoosesUptoCard : Claim7 := { stood := { row := guestChoosesUptoRow, standIns := [], harness := (true, "2c1f0cc21b6e4b1908888d12195ae6f3ce56534380f5df4405fd6695a72f6ba3"), looks := true }, kinds := [], alts := [], laidByText := true, laidKinds := [.sentinel, .sentinel, .sentinel, .sentinel, .sentinel], laidTests := true, laidLooks := .later }
def GuestChoosesUptoCardSaid : Prop := Claim7.holds Tryd.pinned (.plain (OpenSpec.upto guestChoosesSpec)) guestChoosesUptoCard

/-- THE SECOND FORM's CARD OF 'almonerlaw15.GuestPlays'. -/
def guestPlaysUptoCard : Claim7 := { stood := { row := guestPlaysUptoRow, standIns := [], harness := (true, "2c1f0cc21b6e4b1908888d12195ae6f3ce56534380f5df4405fd6695a72f6ba3"), looks := true }, kinds := [], alts := [], laidByText := true, laidKinds := [.sentinel, .sentinel, .sentinel, .sentinel, .sentinel, .sentinel, .sentinel, .sentinel, .sentinel, .sentinel, .sentinel, .sentinel, .sentinel, .sentinel, .sentinel, .sentinel], laidTests := true, laidLooks := .later }
def GuestPlaysUptoCardSaid : Prop := Claim7.holds Tryd.pinned (.plain (OpenSpec.upto guestPlaysSpec)) guestPlaysUptoCard
end Rows
end Go.Proofs.YtbpbmelfhgbogaaDoor
