/-
  NARROWER THAN 'FOR EVERY INPUT', by the rows' own cells (each row's printed sentence says how): SupplyOrders: laid · SupplyGrows: laid · SupplyBounds: laid · SupplyRows: laid · SupplyLeast: laid · SupplyAdds: laid · SupplyPeriods: laid.
  DERIVED. THE GIVEN ROWS OF THIS SEAT. 7 by the template 'for every input the law returns true; each argument reads behind the call as it read before'; 0 by the template 'total and deterministic' (their statements: YtijlocooooacpaaDoorTotals.lean).
  GIVEN WITH THE SEED: the statements are not yours to turn. If you find one false, say at which input.
  Laid BY PROGRAM, IN A SANDBOX (cutbox-rows.mjs): the forced cells as the released guide's own fill.sh prints them over the translation 4535a6306cb7aace… (all of the seat's roots in one cut). By AI agents, Wed Nov 11 2026. No macro, syntax, notation, axiom, sorry.
-/
import Derived.Test.YtijlocooooacpaaDoorChecked
import GoSem.Claim
import GoSem.ClaimJoined
import GoSem.ClaimMapViews
import Derived.JoinedTies
import Derived.KernelRfl
namespace Go.Proofs.YtijlocooooacpaaDoor
/- THE CELL 'sum', in the pinned program and in every row, IS THE sha256 OF THE DUMP (.gsa) THAT YtijlocooooacpaaDoorProg.lean LOADS. Nothing in Lean hashes anything: it is a label: what it is worth is what the hold of that sum in a sandbox is worth. -/
noncomputable def Tryd.pinned : Pinned := { name := "ytijlocooooacpaadoor", sum := "4535a6306cb7aacec666d670d509923a4859fb6a9462969e5bb3bb906853fc37", checked := Tryd.checked }
namespace Rows
def none {H : Type} : Left H := { results := [], args := [] }

/- WHAT THE LISTED PACKAGE-LEVEL VARIABLES READ AS WHEN THE CALL BEGINS. Each datum BY PROGRAM (the guide's laid-datum.mjs) off the statement by which the dump's own 'gosem.cut.vars' lays the variable. In a bare row this is a premise. The card (YtijlocooooacpaaDoorCards.lean) ties it to the program's text. -/
def laid_almoner_api_ErrNumber {H : Type} : DataW H := .iface "*errors.errorString" (.ptr (.agg [.lit (.string [97, 108, 109, 111, 110, 101, 114, 58, 32, 110, 117, 109, 98, 101, 114])]))
def laid_almoner_api_ErrServer {H : Type} : DataW H := .iface "*errors.errorString" (.ptr (.agg [.lit (.string [97, 108, 109, 111, 110, 101, 114, 58, 32, 115, 101, 114, 118, 101, 114])]))
def laid_almoner_api_ErrOver {H : Type} : DataW H := .iface "*errors.errorString" (.ptr (.agg [.lit (.string [97, 108, 109, 111, 110, 101, 114, 58, 32, 111, 118, 101, 114])]))
def laid_almoner_api_ErrBytes {H : Type} : DataW H := .iface "*errors.errorString" (.ptr (.agg [.lit (.string [97, 108, 109, 111, 110, 101, 114, 58, 32, 98, 121, 116, 101, 115])]))
def laid_almoner_api_ErrSum {H : Type} : DataW H := .iface "*errors.errorString" (.ptr (.agg [.lit (.string [97, 108, 109, 111, 110, 101, 114, 58, 32, 115, 117, 109])]))
def laid_almoner_api_ErrGone {H : Type} : DataW H := .iface "*errors.errorString" (.ptr (.agg [.lit (.string [97, 108, 109, 111, 110, 101, 114, 58, 32, 103, 111, 110, 101])]))
def laid_almoner_api_ErrThere {H : Type} : DataW H := .iface "*errors.errorString" (.ptr (.agg [.lit (.string [97, 108, 109, 111, 110, 101, 114, 58, 32, 116, 104, 101, 114, 101])]))
def laid_almoner_api_ErrFull {H : Type} : DataW H := .iface "*errors.errorString" (.ptr (.agg [.lit (.string [97, 108, 109, 111, 110, 101, 114, 58, 32, 102, 117, 108, 108])]))
def laid_almoner_api_ErrLarge {H : Type} : DataW H := .iface "*errors.errorString" (.ptr (.agg [.lit (.string [97, 108, 109, 111, 110, 101, 114, 58, 32, 108, 97, 114, 103, 101])]))
def laid_almoner_api_ErrLost {H : Type} : DataW H := .iface "*errors.errorString" (.ptr (.agg [.lit (.string [97, 108, 109, 111, 110, 101, 114, 58, 32, 108, 111, 115, 116])]))
def laid_almoner_api_ErrTask {H : Type} : DataW H := .iface "*errors.errorString" (.ptr (.agg [.lit (.string [97, 108, 109, 111, 110, 101, 114, 58, 32, 116, 97, 115, 107])]))
def laid_almoner_api_ErrTight {H : Type} : DataW H := .iface "*errors.errorString" (.ptr (.agg [.lit (.string [97, 108, 109, 111, 110, 101, 114, 58, 32, 116, 105, 103, 104, 116])]))
def laid_almoner_api_ErrDeep {H : Type} : DataW H := .iface "*errors.errorString" (.ptr (.agg [.lit (.string [97, 108, 109, 111, 110, 101, 114, 58, 32, 100, 101, 101, 112])]))
def laid_almoner_api_ErrBusy {H : Type} : DataW H := .iface "*errors.errorString" (.ptr (.agg [.lit (.string [97, 108, 109, 111, 110, 101, 114, 58, 32, 98, 117, 115, 121])]))
def laid_almoner_api_ErrBallot {H : Type} : DataW H := .iface "*errors.errorString" (.ptr (.agg [.lit (.string [97, 108, 109, 111, 110, 101, 114, 58, 32, 98, 97, 108, 108, 111, 116])]))
def laid_almoner_api_ErrState {H : Type} : DataW H := .iface "*errors.errorString" (.ptr (.agg [.lit (.string [97, 108, 109, 111, 110, 101, 114, 58, 32, 115, 116, 97, 116, 101])]))

/-- 'almonerlaw10.SupplyOrders': WHATEVER THE INPUT: true; the input reads as it did. -/
def supplyOrdersSpec : ChangeSpec := { name := "supplyOrders", fn := fun _ => fun
  | [d1, d2] => { results := [.lit (.bool true)], args := [d1, d2] }
  | _ => none }
def supplyOrdersRow : OpenClaim := { program := "ytijlocooooacpaadoor", sum := "4535a6306cb7aacec666d670d509923a4859fb6a9462969e5bb3bb906853fc37", func := "almoner/almonerlaw10.SupplyOrders", spec := "supplyOrders", named := ["almoner/api.ErrServer", "almoner/api.ErrNumber"], apart := false, laid := [("almoner/api.ErrNumber", laid_almoner_api_ErrNumber), ("almoner/api.ErrServer", laid_almoner_api_ErrServer)] }
def SupplyOrdersSaid : Prop := supplyOrdersRow.holds Tryd.pinned (OpenSpec.ofChange supplyOrdersSpec)

/-- ITS FALSE NEIGHBOUR: 'it returns false'. Refute it at one input. -/
def supplyOrdersWrong : ChangeSpec := { name := "supplyOrders", fn := fun _ => fun
  | [d1, d2] => { results := [.lit (.bool false)], args := [d1, d2] }
  | _ => none }
def SupplyOrdersWrongFalsely : Prop := supplyOrdersRow.holds Tryd.pinned (OpenSpec.ofChange supplyOrdersWrong)

/-- 'almonerlaw10.SupplyGrows': WHATEVER THE INPUT: true; the input reads as it did. -/
def supplyGrowsSpec : ChangeSpec := { name := "supplyGrows", fn := fun _ => fun
  | [d1, d2, d3] => { results := [.lit (.bool true)], args := [d1, d2, d3] }
  | _ => none }
def supplyGrowsRow : OpenClaim := { program := "ytijlocooooacpaadoor", sum := "4535a6306cb7aacec666d670d509923a4859fb6a9462969e5bb3bb906853fc37", func := "almoner/almonerlaw10.SupplyGrows", spec := "supplyGrows", named := ["almoner/api.ErrNumber", "almoner/api.ErrServer", "almoner/api.ErrOver", "almoner/api.ErrBytes", "almoner/api.ErrSum", "almoner/api.ErrGone", "almoner/api.ErrThere", "almoner/api.ErrFull", "almoner/api.ErrLarge", "almoner/api.ErrLost", "almoner/api.ErrTask", "almoner/api.ErrTight", "almoner/api.ErrDeep", "almoner/api.ErrBusy", "almoner/api.ErrBallot", "almoner/api.ErrState"], apart := false, laid := [("almoner/api.ErrNumber", laid_almoner_api_ErrNumber), ("almoner/api.ErrOver", laid_almoner_api_ErrOver), ("almoner/api.ErrBytes", laid_almoner_api_ErrBytes), ("almoner/api.ErrSum", laid_almoner_api_ErrSum), ("almoner/api.ErrGone", laid_almoner_api_ErrGone), ("almoner/api.ErrThere", laid_almoner_api_ErrThere), ("almoner/api.ErrFull", laid_almoner_api_ErrFull), ("almoner/api.ErrLarge", laid_almoner_api_ErrLarge), ("almoner/api.ErrLost", laid_almoner_api_ErrLost), ("almoner/api.ErrServer", laid_almoner_api_ErrServer), ("almoner/api.ErrTask", laid_almoner_api_ErrTask), ("almoner/api.ErrTight", laid_almoner_api_ErrTight), ("almoner/api.ErrDeep", laid_almoner_api_ErrDeep), ("almoner/api.ErrBusy", laid_almoner_api_ErrBusy), ("almoner/api.ErrBallot", laid_almoner_api_ErrBallot), ("almoner/api.ErrState", laid_almoner_api_ErrState)] }
def SupplyGrowsSaid : Prop := supplyGrowsRow.holds Tryd.pinned (OpenSpec.ofChange supplyGrowsSpec)

/-- ITS FALSE NEIGHBOUR: 'it returns false'. Refute it at one input. -/
def supplyGrowsWrong : ChangeSpec := { name := "supplyGrows", fn := fun _ => fun
  | [d1, d2, d3] => { results := [.lit (.bool false)], args := [d1, d2, d3] }
  | _ => none }
def SupplyGrowsWrongFalsely : Prop := supplyGrowsRow.holds Tryd.pinned (OpenSpec.ofChange supplyGrowsWrong)

/-- 'almonerlaw10.SupplyBounds': WHATEVER THE INPUT: true; the input reads as it did. -/
def supplyBoundsSpec : ChangeSpec := { name := "supplyBounds", fn := fun _ => fun
  | [d1, d2] => { results := [.lit (.bool true)], args := [d1, d2] }
  | _ => none }
def supplyBoundsRow : OpenClaim := { program := "ytijlocooooacpaadoor", sum := "4535a6306cb7aacec666d670d509923a4859fb6a9462969e5bb3bb906853fc37", func := "almoner/almonerlaw10.SupplyBounds", spec := "supplyBounds", named := ["almoner/api.ErrServer", "almoner/api.ErrNumber"], apart := false, laid := [("almoner/api.ErrNumber", laid_almoner_api_ErrNumber), ("almoner/api.ErrServer", laid_almoner_api_ErrServer)] }
def SupplyBoundsSaid : Prop := supplyBoundsRow.holds Tryd.pinned (OpenSpec.ofChange supplyBoundsSpec)

/-- ITS FALSE NEIGHBOUR: 'it returns false'. Refute it at one input. -/
def supplyBoundsWrong : ChangeSpec := { name := "supplyBounds", fn := fun _ => fun
  | [d1, d2] => { results := [.lit (.bool false)], args := [d1, d2] }
  | _ => none }
def SupplyBoundsWrongFalsely : Prop := supplyBoundsRow.holds Tryd.pinned (OpenSpec.ofChange supplyBoundsWrong)

/-- 'almonerlaw10.SupplyRows': WHATEVER THE INPUT: true; the input reads as it did. -/
def supplyRowsSpec : ChangeSpec := { name := "supplyRows", fn := fun _ => fun
  | [d1, d2] => { results := [.lit (.bool true)], args := [d1, d2] }
  | _ => none }
def supplyRowsRow : OpenClaim := { program := "ytijlocooooacpaadoor", sum := "4535a6306cb7aacec666d670d509923a4859fb6a9462969e5bb3bb906853fc37", func := "almoner/almonerlaw10.SupplyRows", spec := "supplyRows", unfollowed := true, recurses := true, named := ["almoner/api.ErrNumber", "almoner/api.ErrServer"], apart := false, laid := [("almoner/api.ErrNumber", laid_almoner_api_ErrNumber), ("almoner/api.ErrServer", laid_almoner_api_ErrServer)] }
def SupplyRowsSaid : Prop := supplyRowsRow.holds Tryd.pinned (OpenSpec.ofChange supplyRowsSpec)

/-- ITS FALSE NEIGHBOUR: 'it returns false'. Refute it at one input. -/
def supplyRowsWrong : ChangeSpec := { name := "supplyRows", fn := fun _ => fun
  | [d1, d2] => { results := [.lit (.bool false)], args := [d1, d2] }
  | _ => none }
def SupplyRowsWrongFalsely : Prop := supplyRowsRow.holds Tryd.pinned (OpenSpec.ofChange supplyRowsWrong)

/-- 'almonerlaw10.SupplyLeast': WHATEVER THE INPUT: true; the input reads as it did. -/
def supplyLeastSpec : ChangeSpec := { name := "supplyLeast", fn := fun _ => fun
  | [d1, d2] => { results := [.lit (.bool true)], args := [d1, d2] }
  | _ => none }
def supplyLeastRow : OpenClaim := { program := "ytijlocooooacpaadoor", sum := "4535a6306cb7aacec666d670d509923a4859fb6a9462969e5bb3bb906853fc37", func := "almoner/almonerlaw10.SupplyLeast", spec := "supplyLeast", named := ["almoner/api.ErrServer", "almoner/api.ErrNumber", "almoner/api.ErrOver"], apart := false, laid := [("almoner/api.ErrNumber", laid_almoner_api_ErrNumber), ("almoner/api.ErrOver", laid_almoner_api_ErrOver), ("almoner/api.ErrServer", laid_almoner_api_ErrServer)] }
def SupplyLeastSaid : Prop := supplyLeastRow.holds Tryd.pinned (OpenSpec.ofChange supplyLeastSpec)

/-- ITS FALSE NEIGHBOUR: 'it returns false'. Refute it at one input. -/
def supplyLeastWrong : ChangeSpec := { name := "supplyLeast", fn := fun _ => fun
  | [d1, d2] => { results := [.lit (.bool false)], args := [d1, d2] }
  | _ => none }
def SupplyLeastWrongFalsely : Prop := supplyLeastRow.holds Tryd.pinned (OpenSpec.ofChange supplyLeastWrong)

/-- 'almonerlaw10.SupplyAdds': WHATEVER THE INPUT: true; the input reads as it did. -/
def supplyAddsSpec : ChangeSpec := { name := "supplyAdds", fn := fun _ => fun
  | [d1, d2, d3] => { results := [.lit (.bool true)], args := [d1, d2, d3] }
  | _ => none }
def supplyAddsRow : OpenClaim := { program := "ytijlocooooacpaadoor", sum := "4535a6306cb7aacec666d670d509923a4859fb6a9462969e5bb3bb906853fc37", func := "almoner/almonerlaw10.SupplyAdds", spec := "supplyAdds", named := ["almoner/api.ErrNumber", "almoner/api.ErrServer", "almoner/api.ErrOver"], apart := false, laid := [("almoner/api.ErrNumber", laid_almoner_api_ErrNumber), ("almoner/api.ErrOver", laid_almoner_api_ErrOver), ("almoner/api.ErrServer", laid_almoner_api_ErrServer)] }
def SupplyAddsSaid : Prop := supplyAddsRow.holds Tryd.pinned (OpenSpec.ofChange supplyAddsSpec)

/-- ITS FALSE NEIGHBOUR: 'it returns false'. Refute it at one input. -/
def supplyAddsWrong : ChangeSpec := { name := "supplyAdds", fn := fun _ => fun
  | [d1, d2, d3] => { results := [.lit (.bool false)], args := [d1, d2, d3] }
  | _ => none }
def SupplyAddsWrongFalsely : Prop := supplyAddsRow.holds Tryd.pinned (OpenSpec.ofChange supplyAddsWrong)

/-- 'almonerlaw10.SupplyPeriods': WHATEVER THE INPUT: true; the input reads as it did. -/
def supplyPeriodsSpec : ChangeSpec := { name := "supplyPeriods", fn := fun _ => fun
  | [d1, d2] => { results := [.lit (.bool true)], args := [d1, d2] }
  | _ => none }
def supplyPeriodsRow : OpenClaim := { program := "ytijlocooooacpaadoor", sum := "4535a6306cb7aacec666d670d509923a4859fb6a9462969e5bb3bb906853fc37", func := "almoner/almonerlaw10.SupplyPeriods", spec := "supplyPeriods", named := ["almoner/api.ErrNumber", "almoner/api.ErrServer", "almoner/api.ErrOver"], apart := false, laid := [("almoner/api.ErrNumber", laid_almoner_api_ErrNumber), ("almoner/api.ErrOver", laid_almoner_api_ErrOver), ("almoner/api.ErrServer", laid_almoner_api_ErrServer)] }
def SupplyPeriodsSaid : Prop := supplyPeriodsRow.holds Tryd.pinned (OpenSpec.ofChange supplyPeriodsSpec)

/-- ITS FALSE NEIGHBOUR: 'it returns false'. Refute it at one input. -/
def supplyPeriodsWrong : ChangeSpec := { name := "supplyPeriods", fn := fun _ => fun
  | [d1, d2] => { results := [.lit (.bool false)], args := [d1, d2] }
  | _ => none }
def SupplyPeriodsWrongFalsely : Prop := supplyPeriodsRow.holds Tryd.pinned (OpenSpec.ofChange supplyPeriodsWrong)

/- THE SECOND FORM. 'bulk': how many values and letters a reading holds, each counted each time it is reached (what is shared counts as often as it is met; a slice's spare places count too). A statement '..UptoSaid' is the law's where the arguments, and the package variables that the reading takes, are together of bulk at most 1048576: NARROWER than '..Said'. Prove '..Said' where nothing that the law and all that it calls make is longer than what came in: it says more and counts as full. Else prove '..UptoSaid'. A law counts once. -/
mutual
def uptoBulk {H : Type} : DataW H → Nat
  | .lit (.string bytes) => bytes.length + 1
  | .lit _ => 1
  | .nil => 1
  | .ptr d => uptoBulk d + 1
  | .slice elems spare => uptoBulkAll elems + uptoBulkAll spare + 1
  | .agg parts => uptoBulkAll parts + 1
  | .iface _ d => uptoBulk d + 1
  | .map entries => uptoBulkEntries entries + 1
  | .held _ => 1
def uptoBulkAll {H : Type} : List (DataW H) → Nat
  | [] => 0
  | d :: r => uptoBulk d + uptoBulkAll r
def uptoBulkEntries {H : Type} : List (Lit × DataW H) → Nat
  | [] => 0
  | x :: r => uptoBulkEntry x + uptoBulkEntries r
def uptoBulkEntry {H : Type} : Lit × DataW H → Nat
  | (.string bytes, d) => bytes.length + uptoBulk d + 1
  | (_, d) => uptoBulk d + 1
 end
def uptoSmall : (H : Type) → List (DataW H) → Bool := fun _ ds => decide (uptoBulkAll ds ≤ 1048576)
def OpenSpec.upto (s : _root_.Go.ChangeSpec) : _root_.Go.OpenSpec := { _root_.Go.OpenSpec.ofChange s with cond := some uptoSmall }

/-- 'almonerlaw10.SupplyOrders', WHERE WHAT IT READS IS OF BULK AT MOST 1048576: true; the input reads as it did. -/
def supplyOrdersUptoRow : OpenClaim := { program := "ytijlocooooacpaadoor", sum := "4535a6306cb7aacec666d670d509923a4859fb6a9462969e5bb3bb906853fc37", func := "almoner/almonerlaw10.SupplyOrders", spec := "supplyOrders", named := ["almoner/api.ErrServer", "almoner/api.ErrNumber"], apart := false, laid := [("almoner/api.ErrNumber", laid_almoner_api_ErrNumber), ("almoner/api.ErrServer", laid_almoner_api_ErrServer)], narrowed := true }
def SupplyOrdersUptoSaid : Prop := supplyOrdersUptoRow.holds Tryd.pinned (OpenSpec.upto supplyOrdersSpec)

/-- 'almonerlaw10.SupplyGrows', WHERE WHAT IT READS IS OF BULK AT MOST 1048576: true; the input reads as it did. -/
def supplyGrowsUptoRow : OpenClaim := { program := "ytijlocooooacpaadoor", sum := "4535a6306cb7aacec666d670d509923a4859fb6a9462969e5bb3bb906853fc37", func := "almoner/almonerlaw10.SupplyGrows", spec := "supplyGrows", named := ["almoner/api.ErrNumber", "almoner/api.ErrServer", "almoner/api.ErrOver", "almoner/api.ErrBytes", "almoner/api.ErrSum", "almoner/api.ErrGone", "almoner/api.ErrThere", "almoner/api.ErrFull", "almoner/api.ErrLarge", "almoner/api.ErrLost", "almoner/api.ErrTask", "almoner/api.ErrTight", "almoner/api.ErrDeep", "almoner/api.ErrBusy", "almoner/api.ErrBallot", "almoner/api.ErrState"], apart := false, laid := [("almoner/api.ErrNumber", laid_almoner_api_ErrNumber), ("almoner/api.ErrOver", laid_almoner_api_ErrOver), ("almoner/api.ErrBytes", laid_almoner_api_ErrBytes), ("almoner/api.ErrSum", laid_almoner_api_ErrSum), ("almoner/api.ErrGone", laid_almoner_api_ErrGone), ("almoner/api.ErrThere", laid_almoner_api_ErrThere), ("almoner/api.ErrFull", laid_almoner_api_ErrFull), ("almoner/api.ErrLarge", laid_almoner_api_ErrLarge), ("almoner/api.ErrLost", laid_almoner_api_ErrLost), ("almoner/api.ErrServer", laid_almoner_api_ErrServer), ("almoner/api.ErrTask", laid_almoner_api_ErrTask), ("almoner/api.ErrTight", laid_almoner_api_ErrTight), ("almoner/api.ErrDeep", laid_almoner_api_ErrDeep), ("almoner/api.ErrBusy", laid_almoner_api_ErrBusy), ("almoner/api.ErrBallot", laid_almoner_api_ErrBallot), ("almoner/api.ErrState", laid_almoner_api_ErrState)], narrowed := true }
def SupplyGrowsUptoSaid : Prop := supplyGrowsUptoRow.holds Tryd.pinned (OpenSpec.upto supplyGrowsSpec)

/-- 'almonerlaw10.SupplyBounds', WHERE WHAT IT READS IS OF BULK AT MOST 1048576: true; the input reads as it did. -/
def supplyBoundsUptoRow : OpenClaim := { program := "ytijlocooooacpaadoor", sum := "4535a6306cb7aacec666d670d509923a4859fb6a9462969e5bb3bb906853fc37", func := "almoner/almonerlaw10.SupplyBounds", spec := "supplyBounds", named := ["almoner/api.ErrServer", "almoner/api.ErrNumber"], apart := false, laid := [("almoner/api.ErrNumber", laid_almoner_api_ErrNumber), ("almoner/api.ErrServer", laid_almoner_api_ErrServer)], narrowed := true }
def SupplyBoundsUptoSaid : Prop := supplyBoundsUptoRow.holds Tryd.pinned (OpenSpec.upto supplyBoundsSpec)

/-- 'almonerlaw10.SupplyRows', WHERE WHAT IT READS IS OF BULK AT MOST 1048576: true; the input reads as it did. -/
def supplyRowsUptoRow : OpenClaim := { program := "ytijlocooooacpaadoor", sum := "4535a6306cb7aacec666d670d509923a4859fb6a9462969e5bb3bb906853fc37", func := "almoner/almonerlaw10.SupplyRows", spec := "supplyRows", unfollowed := true, recurses := true, named := ["almoner/api.ErrNumber", "almoner/api.ErrServer"], apart := false, laid := [("almoner/api.ErrNumber", laid_almoner_api_ErrNumber), ("almoner/api.ErrServer", laid_almoner_api_ErrServer)], narrowed := true }
def SupplyRowsUptoSaid : Prop := supplyRowsUptoRow.holds Tryd.pinned (OpenSpec.upto supplyRowsSpec)

/-- 'almonerlaw10.SupplyLeast', WHERE WHAT IT READS IS OF BULK AT MOST 1048576: true; the input reads as it did. -/
def supplyLeastUptoRow : OpenClaim := { program := "ytijlocooooacpaadoor", sum := "4535a6306cb7aacec666d670d509923a4859fb6a9462969e5bb3bb906853fc37", func := "almoner/almonerlaw10.SupplyLeast", spec := "supplyLeast", named := ["almoner/api.ErrServer", "almoner/api.ErrNumber", "almoner/api.ErrOver"], apart := false, laid := [("almoner/api.ErrNumber", laid_almoner_api_ErrNumber), ("almoner/api.ErrOver", laid_almoner_api_ErrOver), ("almoner/api.ErrServer", laid_almoner_api_ErrServer)], narrowed := true }
def SupplyLeastUptoSaid : Prop := supplyLeastUptoRow.holds Tryd.pinned (OpenSpec.upto supplyLeastSpec)

/-- 'almonerlaw10.SupplyAdds', WHERE WHAT IT READS IS OF BULK AT MOST 1048576: true; the input reads as it did. -/
def supplyAddsUptoRow : OpenClaim := { program := "ytijlocooooacpaadoor", sum := "4535a6306cb7aacec666d670d509923a4859fb6a9462969e5bb3bb906853fc37", func := "almoner/almonerlaw10.SupplyAdds", spec := "supplyAdds", named := ["almoner/api.ErrNumber", "almoner/api.ErrServer", "almoner/api.ErrOver"], apart := false, laid := [("almoner/api.ErrNumber", laid_almoner_api_ErrNumber), ("almoner/api.ErrOver", laid_almoner_api_ErrOver), ("almoner/api.ErrServer", laid_almoner_api_ErrServer)], narrowed := true }
def SupplyAddsUptoSaid : Prop := supplyAddsUptoRow.holds Tryd.pinned (OpenSpec.upto supplyAddsSpec)

/-- 'almonerlaw10.SupplyPeriods', WHERE WHAT IT READS IS OF BULK AT MOST 1048576: true; the input reads as it did. -/
def supplyPeriodsUptoRow : OpenClaim := { program := "ytijlocooooacpaadoor", sum := "4535a6306cb7aacec666d670d509923a4859fb6a9462969e5bb3bb906853fc37", func := "almoner/almonerlaw10.SupplyPeriods", spec := "supplyPeriods", named := ["almoner/api.ErrNumber", "almoner/api.ErrServer", "almoner/api.ErrOver"], apart := false, laid := [("almoner/api.ErrNumber", laid_almoner_api_ErrNumber), ("almoner/api.ErrOver", laid_almoner_api_ErrOver), ("almoner/api.ErrServer", laid_almoner_api_ErrServer)], narrowed := true }
def SupplyPeriodsUptoSaid : Prop := supplyPeriodsUptoRow.holds Tryd.pinned (OpenSpec.upto supplyPeriodsSpec)

end Rows
end Go.Proofs.YtijlocooooacpaaDoor
