/-
  DERIVED. GIVEN WITH THE SEED: THE CARDS: each row of YtakilnelbmbjdaaDoorRows.lean that lists a variable, with what it lists TIED to the program's text (the seventh form; the later family's looks); each row that meets fmt, with fmt's text TOLD by the authors' own Lean function (tested against real Go, not proved from fmt's source: count such statements apart). THE CARD IS WHAT COUNTS. Prove the row's statement (the work); the ties are given (YtakilnelbmbjdaaDoorTie.lean); close each card by the builder's one call (the guide's Derived/Test/ToyasCard.lean, 'card_holds'). Laid BY PROGRAM, IN A SANDBOX (cutbox-door.mjs). By AI agents, Wed Nov 11 2026. No macro, syntax, notation, axiom, sorry.
-/
import Derived.Test.YtakilnelbmbjdaaDoorRows
import GoSem.ClaimSeven
namespace Go.Proofs.YtakilnelbmbjdaaDoor
namespace Rows

/-- THE TIED CARD OF 'almonerlaw14.ServerDemands'. -/
def serverDemandsCard : Claim7 := { stood := { row := serverDemandsRow, standIns := [], harness := (true, "ae75ecfdc4a5acfbb3b8c6e3240cf58025131061a4a9216613c83bd724d21266"), looks := true }, kinds := [], alts := [], laidByText := true, laidKinds := [.sentinel, .sentinel, .sentinel], laidTests := true, laidLooks := .later }
def ServerDemandsCardSaid : Prop := Claim7.holds Tryd.pinned (.plain (OpenSpec.ofChange serverDemandsSpec)) serverDemandsCard

/-- THE TIED CARD OF 'almonerlaw14.ServerFull'. -/
def serverFullCard : Claim7 := { stood := { row := serverFullRow, standIns := [], harness := (true, "ae75ecfdc4a5acfbb3b8c6e3240cf58025131061a4a9216613c83bd724d21266"), looks := true }, kinds := [], alts := [], laidByText := true, laidKinds := [.sentinel, .sentinel, .sentinel], laidTests := true, laidLooks := .later }
def ServerFullCardSaid : Prop := Claim7.holds Tryd.pinned (.plain (OpenSpec.ofChange serverFullSpec)) serverFullCard

/-- THE TIED CARD OF 'almonerlaw14.ServerChunks'. -/
def serverChunksCard : Claim7 := { stood := { row := serverChunksRow, standIns := [], harness := (true, "ae75ecfdc4a5acfbb3b8c6e3240cf58025131061a4a9216613c83bd724d21266"), looks := true }, kinds := [], alts := [], laidByText := true, laidKinds := [.sentinel, .sentinel, .sentinel], laidTests := true, laidLooks := .later }
def ServerChunksCardSaid : Prop := Claim7.holds Tryd.pinned (.plain (OpenSpec.ofChange serverChunksSpec)) serverChunksCard

/-- THE TIED CARD OF 'almonerlaw14.ServerSupplies'. -/
def serverSuppliesCard : Claim7 := { stood := { row := serverSuppliesRow, standIns := [], harness := (true, "ae75ecfdc4a5acfbb3b8c6e3240cf58025131061a4a9216613c83bd724d21266"), looks := true }, kinds := [], alts := [], laidByText := true, laidKinds := [.sentinel, .sentinel, .sentinel], laidTests := true, laidLooks := .later }
def ServerSuppliesCardSaid : Prop := Claim7.holds Tryd.pinned (.plain (OpenSpec.ofChange serverSuppliesSpec)) serverSuppliesCard

/-- THE TIED CARD OF 'almonerlaw14.ServerIdle'. -/
def serverIdleCard : Claim7 := { stood := { row := serverIdleRow, standIns := [], harness := (true, "ae75ecfdc4a5acfbb3b8c6e3240cf58025131061a4a9216613c83bd724d21266"), looks := true }, kinds := [], alts := [], laidByText := true, laidKinds := [.sentinel, .sentinel, .sentinel], laidTests := true, laidLooks := .later }
def ServerIdleCardSaid : Prop := Claim7.holds Tryd.pinned (.plain (OpenSpec.ofChange serverIdleSpec)) serverIdleCard

/-- THE TIED CARD OF 'almonerlaw14.ServerPlays'. -/
def serverPlaysCard : Claim7 := { stood := { row := serverPlaysRow, standIns := [], harness := (true, "ae75ecfdc4a5acfbb3b8c6e3240cf58025131061a4a9216613c83bd724d21266"), looks := true }, kinds := [], alts := [], laidByText := true, laidKinds := [.sentinel, .sentinel, .sentinel, .sentinel, .sentinel, .sentinel, .sentinel, .sentinel, .sentinel, .sentinel, .sentinel, .sentinel, .sentinel, .sentinel, .sentinel, .sentinel], laidTests := true, laidLooks := .later }
def ServerPlaysCardSaid : Prop := Claim7.holds Tryd.pinned (.plain (OpenSpec.ofChange serverPlaysSpec)) serverPlaysCard

/-- THE SECOND FORM's CARD OF 'almonerlaw14.ServerDemands'. -/
def serverDemandsUptoCard : Claim7 := { stood := { row := serverDemandsUptoRow, standIns := [], harness := (true, "ae75ecfdc4a5acfbb3b8c6e3240cf58025131061a4a9216613c83bd724d21266"), looks := true }, kinds := [], alts := [], laidByText := true, laidKinds := [.sentinel, .sentinel, .sentinel], laidTests := true, laidLooks := .later }
def ServerDemandsUptoCardSaid : Prop := Claim7.holds Tryd.pinned (.plain (OpenSpec.upto serverDemandsSpec)) serverDemandsUptoCard

/-- THE SECOND FORM's CARD OF 'almonerlaw14.ServerFull'. -/
def serverFullUptoCard : Claim7 := { stood := { row := serverFullUptoRow, standIns := [], harness := (true, "ae75ecfdc4a5acfbb3b8c6e3240cf58025131061a4a9216613c83bd724d21266"), looks := true }, kinds := [], alts := [], laidByText := true, laidKinds := [.sentinel, .sentinel, .sentinel], laidTests := true, laidLooks := .later }
def ServerFullUptoCardSaid : Prop := Claim7.holds Tryd.pinned (.plain (OpenSpec.upto serverFullSpec)) serverFullUptoCard

/-- THE SECOND FORM's CARD OF 'almonerlaw14.ServerChunks'. -/
def serverChunksUptoCard : Claim7 := { stood := { row := serverChunksUptoRow, standIns := [], harness := (true, "ae75ecfdc4a5acfbb3b8c6e3240cf58025131061a4a9216613c83bd724d21266"), looks := true }, kinds := [], alts := [], laidByText := true, laidKinds := [.sentinel, .sentinel, .sentinel], laidTests := true, laidLooks := .later }
def ServerChunksUptoCardSaid : Prop := Claim7.holds Tryd.pinned (.plain (OpenSpec.upto serverChunksSpec)) serverChunksUptoCard

/-- THE SECOND FORM's CARD OF 'almonerlaw14.ServerSupplies'. -/
def serverSuppliesUptoCard : Claim7 := { stood := { row := serverSuppliesUptoRow, standIns := [], harness := (true, "ae75ecfdc4a5acfbb3b8c6e3240cf58025131061a4a9216613c83bd724d21266"), looks := true }, kinds := [], alts := [], laidByText := true, laidKinds := [.sentinel, .sentinel, .sentinel], laidTests := true, laidLooks := .later }
def ServerSuppliesUptoCardSaid : Prop := Claim7.holds Tryd.pinned (.plain (OpenSpec.upto serverSuppliesSpec)) serverSuppliesUptoCard

/-- THE SECOND FORM's CARD OF 'almonerlaw14.ServerIdle'. -/
def serverIdleUptoCard : Claim7 := { stood := { row := serverIdleUptoRow, standIns := [], harness := (true, "ae75ecfdc4a5acfbb3b8c6e3240cf58025131061a4a9216613c83bd724d21266"), looks := true }, kinds := [], alts := [], laidByText := true, laidKinds := [.sentinel, .sentinel, .sentinel], laidTests := true, laidLooks := .later }
def ServerIdleUptoCardSaid : Prop := Claim7.holds Tryd.pinned (.plain (OpenSpec.upto serverIdleSpec)) serverIdleUptoCard

/-- THE SECOND FORM's CARD OF 'almonerlaw14.ServerPlays'. -/
def serverPlaysUptoCard : Claim7 := { stood := { row := serverPlaysUptoRow, standIns := [], harness := (true, "ae75ecfdc4a5acfbb3b8c6e3240cf58025131061a4a9216613c83bd724d21266"), looks := true }, kinds := [], alts := [], laidByText := true, laidKinds := [.sentinel, .sentinel, .sentinel, .sentinel, .sentinel, .sentinel, .sentinel, .sentinel, .sentinel, .sentinel, .sentinel, .sentinel, .sentinel, .sentinel, .sentinel, .sentinel], laidTests := true, laidLooks := .later }
def ServerPlaysUptoCardSaid : Prop := Claim7.holds Tryd.pinned (.plain (OpenSpec.upto serverPlaysSpec)) serverPlaysUptoCard
end Rows
end Go.Proofs.YtakilnelbmbjdaaDoor
