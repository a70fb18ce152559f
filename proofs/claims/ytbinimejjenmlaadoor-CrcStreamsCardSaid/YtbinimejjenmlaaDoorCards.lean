/-
  DERIVED. GIVEN WITH THE SEED: THE CARDS: each row of YtbinimejjenmlaaDoorRows.lean that lists a variable, with what it lists TIED to the program's text (the seventh form; the later family's looks); each row that meets fmt, with fmt's text TOLD by the authors' own Lean function (tested against real Go, not proved from fmt's source: count such statements apart). THE CARD IS WHAT COUNTS. Prove the row's statement (the work); the ties are given (YtbinimejjenmlaaDoorTie.lean); close each card by the builder's one call (the guide's Derived/Test/ToyasCard.lean, 'card_holds'). Laid BY PROGRAM, IN A SANDBOX (cutbox-door.mjs). By AI agents, Wed Nov 11 2026. No macro, syntax, notation, axiom, sorry.
-/
import Derived.Test.YtbinimejjenmlaaDoorRows
import GoSem.ClaimSeven
namespace Go.Proofs.YtbinimejjenmlaaDoor
namespace Rows

/-- THE TIED CARD OF 'almonerlaw04.CrcFrames'. -/
def crcFramesCard : Claim7 := { stood := { row := crcFramesRow, standIns := [], harness := (true, "542eca65f218c486d8479f4d4ebd86a11dc20301f1c55b6d0790592e6b0fb456"), looks := true }, kinds := [], alts := [], laidByText := true, laidKinds := [.sentinel, .sentinel, .sentinel, .sentinel, .sentinel, .sentinel, .sentinel, .sentinel, .sentinel, .sentinel, .sentinel, .sentinel, .sentinel, .sentinel, .sentinel, .sentinel], laidTests := true, laidLooks := .later }
def CrcFramesCardSaid : Prop := Claim7.holds Tryd.pinned (.plain (OpenSpec.ofChange crcFramesSpec)) crcFramesCard

/-- THE TIED CARD OF 'almonerlaw04.CrcSlips'. -/
def crcSlipsCard : Claim7 := { stood := { row := crcSlipsRow, standIns := [], harness := (true, "542eca65f218c486d8479f4d4ebd86a11dc20301f1c55b6d0790592e6b0fb456"), looks := true }, kinds := [], alts := [], laidByText := true, laidKinds := [.sentinel, .sentinel, .sentinel, .sentinel, .sentinel, .sentinel, .sentinel, .sentinel, .sentinel, .sentinel, .sentinel, .sentinel, .sentinel, .sentinel, .sentinel, .sentinel], laidTests := true, laidLooks := .later }
def CrcSlipsCardSaid : Prop := Claim7.holds Tryd.pinned (.plain (OpenSpec.ofChange crcSlipsSpec)) crcSlipsCard

/-- THE TIED CARD OF 'almonerlaw04.CrcReads'. -/
def crcReadsCard : Claim7 := { stood := { row := crcReadsRow, standIns := [], harness := (true, "542eca65f218c486d8479f4d4ebd86a11dc20301f1c55b6d0790592e6b0fb456"), looks := true }, kinds := [], alts := [], laidByText := true, laidKinds := [.sentinel, .sentinel, .sentinel, .sentinel, .sentinel, .sentinel, .sentinel, .sentinel, .sentinel, .sentinel, .sentinel, .sentinel, .sentinel, .sentinel, .sentinel, .sentinel], laidTests := true, laidLooks := .later }
def CrcReadsCardSaid : Prop := Claim7.holds Tryd.pinned (.plain (OpenSpec.ofChange crcReadsSpec)) crcReadsCard

/-- THE TIED CARD OF 'almonerlaw04.CrcStreams'. -/
def crcStreamsCard : Claim7 := { stood := { row := crcStreamsRow, standIns := [], harness := (true, "542eca65f218c486d8479f4d4ebd86a11dc20301f1c55b6d0790592e6b0fb456"), looks := true }, kinds := [], alts := [], laidByText := true, laidKinds := [.sentinel, .sentinel], laidTests := true, laidLooks := .later }
def CrcStreamsCardSaid : Prop := Claim7.holds Tryd.pinned (.plain (OpenSpec.ofChange crcStreamsSpec)) crcStreamsCard

/-- THE SECOND FORM's CARD OF 'almonerlaw04.CrcFrames'. -/
def crcFramesUptoCard : Claim7 := { stood := { row := crcFramesUptoRow, standIns := [], harness := (true, "542eca65f218c486d8479f4d4ebd86a11dc20301f1c55b6d0790592e6b0fb456"), looks := true }, kinds := [], alts := [], laidByText := true, laidKinds := [.sentinel, .sentinel, .sentinel, .sentinel, .sentinel, .sentinel, .sentinel, .sentinel, .sentinel, .sentinel, .sentinel, .sentinel, .sentinel, .sentinel, .sentinel, .sentinel], laidTests := true, laidLooks := .later }
def CrcFramesUptoCardSaid : Prop := Claim7.holds Tryd.pinned (.plain (OpenSpec.upto crcFramesSpec)) crcFramesUptoCard

/-- THE SECOND FORM's CARD OF 'almonerlaw04.CrcSlips'. -/
def crcSlipsUptoCard : Claim7 := { stood := { row := crcSlipsUptoRow, standIns := [], harness := (true, "542eca65f218c486d8479f4d4ebd86a11dc20301f1c55b6d0790592e6b0fb456"), looks := true }, kinds := [], alts := [], laidByText := true, laidKinds := [.sentinel, .sentinel, .sentinel, .sentinel, .sentinel, .sentinel, .sentinel, .sentinel, .sentinel, .sentinel, .sentinel, .sentinel, .sentinel, .sentinel, .sentinel, .sentinel], laidTests := true, laidLooks := .later }
def CrcSlipsUptoCardSaid : Prop := Claim7.holds Tryd.pinned (.plain (OpenSpec.upto crcSlipsSpec)) crcSlipsUptoCard

/-- THE SECOND FORM's CARD OF 'almonerlaw04.CrcReads'. -/
def crcReadsUptoCard : Claim7 := { stood := { row := crcReadsUptoRow, standIns := [], harness := (true, "542eca65f218c486d8479f4d4ebd86a11dc20301f1c55b6d0790592e6b0fb456"), looks := true }, kinds := [], alts := [], laidByText := true, laidKinds := [.sentinel, .sentinel, .sentinel, .sentinel, .sentinel, .sentinel, .sentinel, .sentinel, .sentinel, .sentinel, .sentinel, .sentinel, .sentinel, .sentinel, .sentinel, .sentinel], laidTests := true, laidLooks := .later }
def CrcReadsUptoCardSaid : Prop := Claim7.holds Tryd.pinned (.plain (OpenSpec.upto crcReadsSpec)) crcReadsUptoCard

/-- THE SECOND FORM's CARD OF 'almonerlaw04.CrcStreams'. -/
def crcStreamsUptoCard : Claim7 := { stood := { row := crcStreamsUptoRow, standIns := [], harness := (true, "542eca65f218c486d8479f4d4ebd86a11dc20301f1c55b6d0790592e6b0fb456"), looks := true }, kinds := [], alts := [], laidByText := true, laidKinds := [.sentinel, .sentinel], laidTests := true, laidLooks := .later }
def CrcStreamsUptoCardSaid : Prop := Claim7.holds Tryd.pinned (.plain (OpenSpec.upto crcStreamsSpec)) crcStreamsUptoCard
end Rows
end Go.Proofs.YtbinimejjenmlaaDoor
