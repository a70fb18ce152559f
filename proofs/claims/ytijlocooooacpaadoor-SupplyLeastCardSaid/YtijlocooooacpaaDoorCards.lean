/-
  DERIVED. GIVEN WITH THE SEED: THE CARDS: each row of YtijlocooooacpaaDoorRows.lean that lists a variable, with what it lists TIED to the program's text (the seventh form; the later family's looks); each row that meets fmt, with fmt's text TOLD by the authors' own Lean function (tested against real Go, not proved from fmt's source: count such statements apart). THE CARD IS WHAT COUNTS. Prove the row's statement (the work); the ties are given (YtijlocooooacpaaDoorTie.lean); close each card by the builder's one call (the guide's Derived/Test/ToyasCard.lean, 'card_holds'). Laid BY PROGRAM, IN A SANDBOX (cutbox-door.mjs). By AI agents, Wed Nov 11 2026. No macro, syntax, notation, axiom, sorry.
-/
import Derived.Test.YtijlocooooacpaaDoorRows
import GoSem.ClaimSeven
namespace Go.Proofs.YtijlocooooacpaaDoor
namespace Rows

/-- THE TIED CARD OF 'almonerlaw10.SupplyOrders'. -/
def supplyOrdersCard : Claim7 := { stood := { row := supplyOrdersRow, standIns := [], harness := (true, "49751bd4ad28ddb00f844d7cd56127e7d68c5e00b1a8c6a902dfe312fff750d2"), looks := true }, kinds := [], alts := [], laidByText := true, laidKinds := [.sentinel, .sentinel], laidTests := true, laidLooks := .later }
def SupplyOrdersCardSaid : Prop := Claim7.holds Tryd.pinned (.plain (OpenSpec.ofChange supplyOrdersSpec)) supplyOrdersCard

/-- THE TIED CARD OF 'almonerlaw10.SupplyGrows'. -/
def supplyGrowsCard : Claim7 := { stood := { row := supplyGrowsRow, standIns := [], harness := (true, "49751bd4ad28ddb00f844d7cd56127e7d68c5e00b1a8c6a902dfe312fff750d2"), looks := true }, kinds := [], alts := [], laidByText := true, laidKinds := [.sentinel, .sentinel, .sentinel, .sentinel, .sentinel, .sentinel, .sentinel, .sentinel, .sentinel, .sentinel, .sentinel, .sentinel, .sentinel, .sentinel, .sentinel, .sentinel], laidTests := true, laidLooks := .later }
def SupplyGrowsCardSaid : Prop := Claim7.holds Tryd.pinned (.plain (OpenSpec.ofChange supplyGrowsSpec)) supplyGrowsCard

/-- THE TIED CARD OF 'almonerlaw10.SupplyBounds'. -/
def supplyBoundsCard : Claim7 := { stood := { row := supplyBoundsRow, standIns := [], harness := (true, "49751bd4ad28ddb00f844d7cd56127e7d68c5e00b1a8c6a902dfe312fff750d2"), looks := true }, kinds := [], alts := [], laidByText := true, laidKinds := [.sentinel, .sentinel], laidTests := true, laidLooks := .later }
def SupplyBoundsCardSaid : Prop := Claim7.holds Tryd.pinned (.plain (OpenSpec.ofChange supplyBoundsSpec)) supplyBoundsCard

/-- THE TIED CARD OF 'almonerlaw10.SupplyRows'. -/
def supplyRowsCard : Claim7 := { stood := { row := supplyRowsRow, standIns := [], harness := (true, "49751bd4ad28ddb00f844d7cd56127e7d68c5e00b1a8c6a902dfe312fff750d2"), looks := true }, kinds := [], alts := [], laidByText := true, laidKinds := [.sentinel, .sentinel], laidTests := true, laidLooks := .later }
def SupplyRowsCardSaid : Prop := Claim7.holds Tryd.pinned (.plain (OpenSpec.ofChange supplyRowsSpec)) supplyRowsCard

/-- THE TIED CARD OF 'almonerlaw10.SupplyLeast'. -/
def supplyLeastCard : Claim7 := { stood := { row := supplyLeastRow, standIns := [], harness := (true, "49751bd4ad28ddb00f844d7cd56127e7d68c5e00b1a8c6a902dfe312fff750d2"), looks := true }, kinds := [], alts := [], laidByText := true, laidKinds := [.sentinel, .sentinel, .sentinel], laidTests := true, laidLooks := .later }
def SupplyLeastCardSaid : Prop := Claim7.holds Tryd.pinned (.plain (OpenSpec.ofChange supplyLeastSpec)) supplyLeastCard

/-- THE TIED CARD OF 'almonerlaw10.SupplyAdds'. -/
def supplyAddsCard : Claim7 := { stood := { row := supplyAddsRow, standIns := [], harness := (true, "49751bd4ad28ddb00f844d7cd56127e7d68c5e00b1a8c6a902dfe312fff750d2"), looks := true }, kinds := [], alts := [], laidByText := true, laidKinds := [.sentinel, .sentinel, .sentinel], laidTests := true, laidLooks := .later }
def SupplyAddsCardSaid : Prop := Claim7.holds Tryd.pinned (.plain (OpenSpec.ofChange supplyAddsSpec)) supplyAddsCard

/-- THE TIED CARD OF 'almonerlaw10.SupplyPeriods'. -/
def supplyPeriodsCard : Claim7 := { stood := { row := supplyPeriodsRow, standIns := [], harness := (true, "49751bd4ad28ddb00f844d7cd56127e7d68c5e00b1a8c6a902dfe312fff750d2"), looks := true }, kinds := [], alts := [], laidByText := true, laidKinds := [.sentinel, .sentinel, .sentinel], laidTests := true, laidLooks := .later }
def SupplyPeriodsCardSaid : Prop := Claim7.holds Tryd.pinned (.plain (OpenSpec.ofChange supplyPeriodsSpec)) supplyPeriodsCard

/-- THE SECOND FORM's CARD OF 'almonerlaw10.SupplyOrders'. -/
def supplyOrdersUptoCard : Claim7 := { stood := { row := supplyOrdersUptoRow, standIns := [], harness := (true, "49751bd4ad28ddb00f844d7cd56127e7d68c5e00b1a8c6a902dfe312fff750d2"), looks := true }, kinds := [], alts := [], laidByText := true, laidKinds := [.sentinel, .sentinel], laidTests := true, laidLooks := .later }
def SupplyOrdersUptoCardSaid : Prop := Claim7.holds Tryd.pinned (.plain (OpenSpec.upto supplyOrdersSpec)) supplyOrdersUptoCard

/-- THE SECOND FORM's CARD OF 'almonerlaw10.SupplyGrows'. -/
def supplyGrowsUptoCard : Claim7 := { stood := { row := supplyGrowsUptoRow, standIns := [], harness := (true, "49751bd4ad28ddb00f844d7cd56127e7d68c5e00b1a8c6a902dfe312fff750d2"), looks := true }, kinds := [], alts := [], laidByText := true, laidKinds := [.sentinel, .sentinel, .sentinel, .sentinel, .sentinel, .sentinel, .sentinel, .sentinel, .sentinel, .sentinel, .sentinel, .sentinel, .sentinel, .sentinel, .sentinel, .sentinel], laidTests := true, laidLooks := .later }
def SupplyGrowsUptoCardSaid : Prop := Claim7.holds Tryd.pinned (.plain (OpenSpec.upto supplyGrowsSpec)) supplyGrowsUptoCard

/-- THE SECOND FORM's CARD OF 'almonerlaw10.SupplyBounds'. -/
def supplyBoundsUptoCard : Claim7 := { stood := { row := supplyBoundsUptoRow, standIns := [], harness := (true, "49751bd4ad28ddb00f844d7cd56127e7d68c5e00b1a8c6a902dfe312fff750d2"), looks := true }, kinds := [], alts := [], laidByText := true, laidKinds := [.sentinel, .sentinel], laidTests := true, laidLooks := .later }
def SupplyBoundsUptoCardSaid : Prop := Claim7.holds Tryd.pinned (.plain (OpenSpec.upto supplyBoundsSpec)) supplyBoundsUptoCard

/-- THE SECOND FORM's CARD OF 'almonerlaw10.SupplyRows'. -/
def supplyRowsUptoCard : Claim7 := { stood := { row := supplyRowsUptoRow, standIns := [], harness := (true, "49751bd4ad28ddb00f844d7cd56127e7d68c5e00b1a8c6a902dfe312fff750d2"), looks := true }, kinds := [], alts := [], laidByText := true, laidKinds := [.sentinel, .sentinel], laidTests := true, laidLooks := .later }
def SupplyRowsUptoCardSaid : Prop := Claim7.holds Tryd.pinned (.plain (OpenSpec.upto supplyRowsSpec)) supplyRowsUptoCard

/-- THE SECOND FORM's CARD OF 'almonerlaw10.SupplyLeast'. -/
def supplyLeastUptoCard : Claim7 := { stood := { row := supplyLeastUptoRow, standIns := [], harness := (true, "49751bd4ad28ddb00f844d7cd56127e7d68c5e00b1a8c6a902dfe312fff750d2"), looks := true }, kinds := [], alts := [], laidByText := true, laidKinds := [.sentinel, .sentinel, .sentinel], laidTests := true, laidLooks := .later }
def SupplyLeastUptoCardSaid : Prop := Claim7.holds Tryd.pinned (.plain (OpenSpec.upto supplyLeastSpec)) supplyLeastUptoCard

/-- THE SECOND FORM's CARD OF 'almonerlaw10.SupplyAdds'. -/
def supplyAddsUptoCard : Claim7 := { stood := { row := supplyAddsUptoRow, standIns := [], harness := (true, "49751bd4ad28ddb00f844d7cd56127e7d68c5e00b1a8c6a902dfe312fff750d2"), looks := true }, kinds := [], alts := [], laidByText := true, laidKinds := [.sentinel, .sentinel, .sentinel], laidTests := true, laidLooks := .later }
def SupplyAddsUptoCardSaid : Prop := Claim7.holds Tryd.pinned (.plain (OpenSpec.upto supplyAddsSpec)) supplyAddsUptoCard

/-- THE SECOND FORM's CARD OF 'almonerlaw10.SupplyPeriods'. -/
def supplyPeriodsUptoCard : Claim7 := { stood := { row := supplyPeriodsUptoRow, standIns := [], harness := (true, "49751bd4ad28ddb00f844d7cd56127e7d68c5e00b1a8c6a902dfe312fff750d2"), looks := true }, kinds := [], alts := [], laidByText := true, laidKinds := [.sentinel, .sentinel, .sentinel], laidTests := true, laidLooks := .later }
def SupplyPeriodsUptoCardSaid : Prop := Claim7.holds Tryd.pinned (.plain (OpenSpec.upto supplyPeriodsSpec)) supplyPeriodsUptoCard
end Rows
end Go.Proofs.YtijlocooooacpaaDoor
