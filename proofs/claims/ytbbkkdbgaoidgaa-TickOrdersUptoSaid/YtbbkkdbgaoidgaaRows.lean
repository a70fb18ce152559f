/-
  No cell of these rows narrows 'for every input' (looked for: loops, veiled, ifaces, maps, wideKeys, modest, calm, conditions, laid).
  DERIVED. THE GIVEN ROWS OF THIS SEAT. 5 by the template 'for every input the law returns true; each argument reads behind the call as it read before'; 0 by the template 'total and deterministic' (their statements: YtbbkkdbgaoidgaaTotals.lean).
  GIVEN WITH THE SEED: the statements are not yours to turn. If you find one false, say at which input.
  Laid BY PROGRAM, IN A SANDBOX (cutbox-rows.mjs): the forced cells as the released guide's own fill.sh prints them over the translation 24a9b3ad2d8b9666… (all of the seat's roots in one cut). By AI agents, Wed Nov 11 2026. No macro, syntax, notation, axiom, sorry.
-/
import Derived.Test.YtbbkkdbgaoidgaaChecked
import GoSem.Claim
import GoSem.ClaimJoined
import GoSem.ClaimMapViews
import Derived.JoinedTies
import Derived.KernelRfl
namespace Go.Proofs.Ytbbkkdbgaoidgaa
/- THE CELL 'sum', in the pinned program and in every row, IS THE sha256 OF THE DUMP (.gsa) THAT YtbbkkdbgaoidgaaProg.lean LOADS. Nothing in Lean hashes anything: it is a label: what it is worth is what the hold of that sum in a sandbox is worth. -/
noncomputable def Try.pinned : Pinned := { name := "ytbbkkdbgaoidgaa", sum := "24a9b3ad2d8b96668d46e4c433862e43f17b26e9639f6b005cf71365d6c596e8", checked := Try.checked }
namespace Rows
def none {H : Type} : Left H := { results := [], args := [] }

/-- 'almonerlaw01.TickShifts': WHATEVER THE INPUT: true; the input reads as it did. -/
def tickShiftsSpec : ChangeSpec := { name := "tickShifts", fn := fun _ => fun
  | [d1, d2] => { results := [.lit (.bool true)], args := [d1, d2] }
  | _ => none }
def tickShiftsRow : OpenClaim := { program := "ytbbkkdbgaoidgaa", sum := "24a9b3ad2d8b96668d46e4c433862e43f17b26e9639f6b005cf71365d6c596e8", func := "almoner/almonerlaw01.TickShifts", spec := "tickShifts", apart := false }
def TickShiftsSaid : Prop := tickShiftsRow.holds Try.pinned (OpenSpec.ofChange tickShiftsSpec)

/-- ITS FALSE NEIGHBOUR: 'it returns false'. Refute it at one input. -/
def tickShiftsWrong : ChangeSpec := { name := "tickShifts", fn := fun _ => fun
  | [d1, d2] => { results := [.lit (.bool false)], args := [d1, d2] }
  | _ => none }
def TickShiftsWrongFalsely : Prop := tickShiftsRow.holds Try.pinned (OpenSpec.ofChange tickShiftsWrong)

/-- 'almonerlaw01.TickOrders': WHATEVER THE INPUT: true; the input reads as it did. -/
def tickOrdersSpec : ChangeSpec := { name := "tickOrders", fn := fun _ => fun
  | [d1, d2] => { results := [.lit (.bool true)], args := [d1, d2] }
  | _ => none }
def tickOrdersRow : OpenClaim := { program := "ytbbkkdbgaoidgaa", sum := "24a9b3ad2d8b96668d46e4c433862e43f17b26e9639f6b005cf71365d6c596e8", func := "almoner/almonerlaw01.TickOrders", spec := "tickOrders", inPlace := ["math/bits.Add64"], apart := false }
def TickOrdersSaid : Prop := tickOrdersRow.holds Try.pinned (OpenSpec.ofChange tickOrdersSpec)

/-- ITS FALSE NEIGHBOUR: 'it returns false'. Refute it at one input. -/
def tickOrdersWrong : ChangeSpec := { name := "tickOrders", fn := fun _ => fun
  | [d1, d2] => { results := [.lit (.bool false)], args := [d1, d2] }
  | _ => none }
def TickOrdersWrongFalsely : Prop := tickOrdersRow.holds Try.pinned (OpenSpec.ofChange tickOrdersWrong)

/-- 'almonerlaw01.TickSums': WHATEVER THE INPUT: true; the input reads as it did. -/
def tickSumsSpec : ChangeSpec := { name := "tickSums", fn := fun _ => fun
  | [d1, d2, d3] => { results := [.lit (.bool true)], args := [d1, d2, d3] }
  | _ => none }
def tickSumsRow : OpenClaim := { program := "ytbbkkdbgaoidgaa", sum := "24a9b3ad2d8b96668d46e4c433862e43f17b26e9639f6b005cf71365d6c596e8", func := "almoner/almonerlaw01.TickSums", spec := "tickSums", inPlace := ["math/bits.Add64"], apart := false }
def TickSumsSaid : Prop := tickSumsRow.holds Try.pinned (OpenSpec.ofChange tickSumsSpec)

/-- ITS FALSE NEIGHBOUR: 'it returns false'. Refute it at one input. -/
def tickSumsWrong : ChangeSpec := { name := "tickSums", fn := fun _ => fun
  | [d1, d2, d3] => { results := [.lit (.bool false)], args := [d1, d2, d3] }
  | _ => none }
def TickSumsWrongFalsely : Prop := tickSumsRow.holds Try.pinned (OpenSpec.ofChange tickSumsWrong)

/-- 'almonerlaw01.TickQuotients': WHATEVER THE INPUT: true; the input reads as it did. -/
def tickQuotientsSpec : ChangeSpec := { name := "tickQuotients", fn := fun _ => fun
  | [d1, d2] => { results := [.lit (.bool true)], args := [d1, d2] }
  | _ => none }
def tickQuotientsRow : OpenClaim := { program := "ytbbkkdbgaoidgaa", sum := "24a9b3ad2d8b96668d46e4c433862e43f17b26e9639f6b005cf71365d6c596e8", func := "almoner/almonerlaw01.TickQuotients", spec := "tickQuotients", apart := false }
def TickQuotientsSaid : Prop := tickQuotientsRow.holds Try.pinned (OpenSpec.ofChange tickQuotientsSpec)

/-- ITS FALSE NEIGHBOUR: 'it returns false'. Refute it at one input. -/
def tickQuotientsWrong : ChangeSpec := { name := "tickQuotients", fn := fun _ => fun
  | [d1, d2] => { results := [.lit (.bool false)], args := [d1, d2] }
  | _ => none }
def TickQuotientsWrongFalsely : Prop := tickQuotientsRow.holds Try.pinned (OpenSpec.ofChange tickQuotientsWrong)

/-- 'almonerlaw01.TickProducts': WHATEVER THE INPUT: true; the input reads as it did. -/
def tickProductsSpec : ChangeSpec := { name := "tickProducts", fn := fun _ => fun
  | [d1, d2] => { results := [.lit (.bool true)], args := [d1, d2] }
  | _ => none }
def tickProductsRow : OpenClaim := { program := "ytbbkkdbgaoidgaa", sum := "24a9b3ad2d8b96668d46e4c433862e43f17b26e9639f6b005cf71365d6c596e8", func := "almoner/almonerlaw01.TickProducts", spec := "tickProducts", apart := false }
def TickProductsSaid : Prop := tickProductsRow.holds Try.pinned (OpenSpec.ofChange tickProductsSpec)

/-- ITS FALSE NEIGHBOUR: 'it returns false'. Refute it at one input. -/
def tickProductsWrong : ChangeSpec := { name := "tickProducts", fn := fun _ => fun
  | [d1, d2] => { results := [.lit (.bool false)], args := [d1, d2] }
  | _ => none }
def TickProductsWrongFalsely : Prop := tickProductsRow.holds Try.pinned (OpenSpec.ofChange tickProductsWrong)

/- THE SECOND FORM. 'bulk': how many values and letters a reading holds, each counted each time it is reached (what is shared counts as often as it is met; a slice's spare places count too). A statement '..UptoSaid' is the law's where the arguments, and the package variables that the reading takes, are together of bulk at most 1048576: NARROWER than '..Said'. Prove '..Said' where nothing that the law and all that it calls make is longer than what came in: it says more and counts as full. Else prove '..UptoSaid'. A law counts once. -/
mutual
def uptoBulk {H : Type} : DataW H → Nat
  | .lit (.string bytes) => bytes.length + 1
  | .lit _ => 1
  | .nil => 1
  | .ptr d => uptoBulk d + 1
  | .slice elems spare => uptoBulkAll elems + uptoBulkAll spare + 1
  | .agg parts => uptoBulkAll parts + 1
  | .iface _ d => uptoBulk d + 1
  | .map entries => uptoBulkEntries entries + 1
  | .held _ => 1
def uptoBulkAll {H : Type} : List (DataW H) → Nat
  | [] => 0
  | d :: r => uptoBulk d + uptoBulkAll r
def uptoBulkEntries {H : Type} : List (Lit × DataW H) → Nat
  | [] => 0
  | x :: r => uptoBulkEntry x + uptoBulkEntries r
def uptoBulkEntry {H : Type} : Lit × DataW H → Nat
  | (.string bytes, d) => bytes.length + uptoBulk d + 1
  | (_, d) => uptoBulk d + 1
 end
def uptoSmall : (H : Type) → List (DataW H) → Bool := fun _ ds => decide (uptoBulkAll ds ≤ 1048576)
def OpenSpec.upto (s : _root_.Go.ChangeSpec) : _root_.Go.OpenSpec := { _root_.Go.OpenSpec.ofChange s with cond := some uptoSmall }

/-- 'almonerlaw01.TickShifts', WHERE WHAT IT READS IS OF BULK AT MOST 1048576: true; the input reads as it did. -/
def tickShiftsUptoRow : OpenClaim := { program := "ytbbkkdbgaoidgaa", sum := "24a9b3ad2d8b96668d46e4c433862e43f17b26e9639f6b005cf71365d6c596e8", func := "almoner/almonerlaw01.TickShifts", spec := "tickShifts", apart := false, narrowed := true }
def TickShiftsUptoSaid : Prop := tickShiftsUptoRow.holds Try.pinned (OpenSpec.upto tickShiftsSpec)

/-- 'almonerlaw01.TickOrders', WHERE WHAT IT READS IS OF BULK AT MOST 1048576: true; the input reads as it did. -/
def tickOrdersUptoRow : OpenClaim := { program := "ytbbkkdbgaoidgaa", sum := "24a9b3ad2d8b96668d46e4c433862e43f17b26e9639f6b005cf71365d6c596e8", func := "almoner/almonerlaw01.TickOrders", spec := "tickOrders", inPlace := ["math/bits.Add64"], apart := false, narrowed := true }
def TickOrdersUptoSaid : Prop := tickOrdersUptoRow.holds Try.pinned (OpenSpec.upto tickOrdersSpec)

/-- 'almonerlaw01.TickSums', WHERE WHAT IT READS IS OF BULK AT MOST 1048576: true; the input reads as it did. -/
def tickSumsUptoRow : OpenClaim := { program := "ytbbkkdbgaoidgaa", sum := "24a9b3ad2d8b96668d46e4c433862e43f17b26e9639f6b005cf71365d6c596e8", func := "almoner/almonerlaw01.TickSums", spec := "tickSums", inPlace := ["math/bits.Add64"], apart := false, narrowed := true }
def TickSumsUptoSaid : Prop := tickSumsUptoRow.holds Try.pinned (OpenSpec.upto tickSumsSpec)

/-- 'almonerlaw01.TickQuotients', WHERE WHAT IT READS IS OF BULK AT MOST 1048576: true; the input reads as it did. -/
def tickQuotientsUptoRow : OpenClaim := { program := "ytbbkkdbgaoidgaa", sum := "24a9b3ad2d8b96668d46e4c433862e43f17b26e9639f6b005cf71365d6c596e8", func := "almoner/almonerlaw01.TickQuotients", spec := "tickQuotients", apart := false, narrowed := true }
def TickQuotientsUptoSaid : Prop := tickQuotientsUptoRow.holds Try.pinned (OpenSpec.upto tickQuotientsSpec)

/-- 'almonerlaw01.TickProducts', WHERE WHAT IT READS IS OF BULK AT MOST 1048576: true; the input reads as it did. -/
def tickProductsUptoRow : OpenClaim := { program := "ytbbkkdbgaoidgaa", sum := "24a9b3ad2d8b96668d46e4c433862e43f17b26e9639f6b005cf71365d6c596e8", func := "almoner/almonerlaw01.TickProducts", spec := "tickProducts", apart := false, narrowed := true }
def TickProductsUptoSaid : Prop := tickProductsUptoRow.holds Try.pinned (OpenSpec.upto tickProductsSpec)

end Rows
end Go.Proofs.Ytbbkkdbgaoidgaa
