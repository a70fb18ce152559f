/-
  DERIVED. GIVEN WITH THE SEED: THE CARDS: each row of YtbbkkdbgaoidgaaDoorRows.lean that lists a variable, with what it lists TIED to the program's text (the seventh form; the later family's looks); each row that meets fmt, with fmt's text TOLD by the authors' own Lean function (tested against real Go, not proved from fmt's source: count such statements apart). THE CARD IS WHAT COUNTS. Prove the row's statement (the work); the ties are given (YtbbkkdbgaoidgaaDoorTie.lean); close each card by the builder's one call (the guide's Derived/Test/ToyasCard.lean, 'card_holds'). Laid BY PROGRAM, IN A SANDBOX (cutbox-door.mjs). By AI agents, Wed Nov 11 2026. No macro, syntax, notation, axiom, sorry.
-/
import Derived.Test.YtbbkkdbgaoidgaaDoorRows
import GoSem.ClaimSeven
namespace Go.Proofs.YtbbkkdbgaoidgaaDoor
namespace Rows

/-- THE TIED CARD OF 'almonerlaw01.TickEuclid'. -/
def tickEuclidCard : Claim7 := { stood := { row := tickEuclidRow, standIns := [], harness := (true, "d8c1a62dcc57c858bc6fdd6173fd610e6437488f4408e3eabe9e519c2cc4c170"), looks := false }, kinds := [], alts := [], laidByText := true, laidKinds := [.data], laidTests := true, laidLooks := .later }
def TickEuclidCardSaid : Prop := Claim7.holds Tryd.pinned (.plain (OpenSpec.ofChange tickEuclidSpec)) tickEuclidCard

/-- THE TIED CARD OF 'almonerlaw01.TickDivisors'. -/
def tickDivisorsCard : Claim7 := { stood := { row := tickDivisorsRow, standIns := [], harness := (true, "d8c1a62dcc57c858bc6fdd6173fd610e6437488f4408e3eabe9e519c2cc4c170"), looks := false }, kinds := [], alts := [], laidByText := true, laidKinds := [.data], laidTests := true, laidLooks := .later }
def TickDivisorsCardSaid : Prop := Claim7.holds Tryd.pinned (.plain (OpenSpec.ofChange tickDivisorsSpec)) tickDivisorsCard

/-- THE SECOND FORM's CARD OF 'almonerlaw01.TickEuclid'. -/
def tickEuclidUptoCard : Claim7 := { stood := { row := tickEuclidUptoRow, standIns := [], harness := (true, "d8c1a62dcc57c858bc6fdd6173fd610e6437488f4408e3eabe9e519c2cc4c170"), looks := false }, kinds := [], alts := [], laidByText := true, laidKinds := [.data], laidTests := true, laidLooks := .later }
def TickEuclidUptoCardSaid : Prop := Claim7.holds Tryd.pinned (.plain (OpenSpec.upto tickEuclidSpec)) tickEuclidUptoCard

/-- THE SECOND FORM's CARD OF 'almonerlaw01.TickDivisors'. -/
def tickDivisorsUptoCard : Claim7 := { stood := { row := tickDivisorsUptoRow, standIns := [], harness := (true, "d8c1a62dcc57c858bc6fdd6173fd610e6437488f4408e3eabe9e519c2cc4c170"), looks := false }, kinds := [], alts := [], laidByText := true, laidKinds := [.data], laidTests := true, laidLooks := .later }
def TickDivisorsUptoCardSaid : Prop := Claim7.holds Tryd.pinned (.plain (OpenSpec.upto tickDivisorsSpec)) tickDivisorsUptoCard
end Rows
end Go.Proofs.YtbbkkdbgaoidgaaDoor
