/-
  NARROWER THAN 'FOR EVERY INPUT', by the rows' own cells (each row's printed sentence says how): OrderRows: laid · OrderAdds: laid · OrderForms: laid · OrderGets: laid · OrderLedgers: laid · OrderUnlike: laid · NetPuts: laid · NetGets: laid · NetUnlike: laid.
  DERIVED. THE GIVEN ROWS OF THIS SEAT. 9 by the template 'for every input the law returns true; each argument reads behind the call as it read before'; 0 by the template 'total and deterministic' (their statements: YteflnnlihblpgaaDoorTotals.lean).
  GIVEN WITH THE SEED: the statements are not yours to turn. If you find one false, say at which input.
  Laid BY PROGRAM, IN A SANDBOX (cutbox-rows.mjs): the forced cells as the released guide's own fill.sh prints them over the translation ef705a11b877e752… (all of the seat's roots in one cut). By AI agents, Wed Nov 11 2026. No macro, syntax, notation, axiom, sorry.
-/
import Derived.Test.YteflnnlihblpgaaDoorChecked
import GoSem.Claim
import GoSem.ClaimJoined
import GoSem.ClaimMapViews
import Derived.JoinedTies
import Derived.KernelRfl
namespace Go.Proofs.YteflnnlihblpgaaDoor
/- THE CELL 'sum', in the pinned program and in every row, IS THE sha256 OF THE DUMP (.gsa) THAT YteflnnlihblpgaaDoorProg.lean LOADS. Nothing in Lean hashes anything: it is a label: what it is worth is what the hold of that sum in a sandbox is worth. -/
noncomputable def Tryd.pinned : Pinned := { name := "yteflnnlihblpgaadoor", sum := "ef705a11b877e7528ba99644bcb0d327599503d235311bd5f9c831a7c650d43b", checked := Tryd.checked }
namespace Rows
def none {H : Type} : Left H := { results := [], args := [] }

/- WHAT THE LISTED PACKAGE-LEVEL VARIABLES READ AS WHEN THE CALL BEGINS. Each datum BY PROGRAM (the guide's laid-datum.mjs) off the statement by which the dump's own 'gosem.cut.vars' lays the variable. In a bare row this is a premise. The card (YteflnnlihblpgaaDoorCards.lean) ties it to the program's text. -/
def laid_almoner_api_ErrNumber {H : Type} : DataW H := .iface "*errors.errorString" (.ptr (.agg [.lit (.string [97, 108, 109, 111, 110, 101, 114, 58, 32, 110, 117, 109, 98, 101, 114])]))
def laid_almoner_api_ErrOver {H : Type} : DataW H := .iface "*errors.errorString" (.ptr (.agg [.lit (.string [97, 108, 109, 111, 110, 101, 114, 58, 32, 111, 118, 101, 114])]))
def laid_almoner_api_ErrBytes {H : Type} : DataW H := .iface "*errors.errorString" (.ptr (.agg [.lit (.string [97, 108, 109, 111, 110, 101, 114, 58, 32, 98, 121, 116, 101, 115])]))
def laid_almoner_api_ErrSum {H : Type} : DataW H := .iface "*errors.errorString" (.ptr (.agg [.lit (.string [97, 108, 109, 111, 110, 101, 114, 58, 32, 115, 117, 109])]))
def laid_almoner_api_ErrGone {H : Type} : DataW H := .iface "*errors.errorString" (.ptr (.agg [.lit (.string [97, 108, 109, 111, 110, 101, 114, 58, 32, 103, 111, 110, 101])]))
def laid_almoner_api_ErrThere {H : Type} : DataW H := .iface "*errors.errorString" (.ptr (.agg [.lit (.string [97, 108, 109, 111, 110, 101, 114, 58, 32, 116, 104, 101, 114, 101])]))
def laid_almoner_api_ErrFull {H : Type} : DataW H := .iface "*errors.errorString" (.ptr (.agg [.lit (.string [97, 108, 109, 111, 110, 101, 114, 58, 32, 102, 117, 108, 108])]))
def laid_almoner_api_ErrLarge {H : Type} : DataW H := .iface "*errors.errorString" (.ptr (.agg [.lit (.string [97, 108, 109, 111, 110, 101, 114, 58, 32, 108, 97, 114, 103, 101])]))
def laid_almoner_api_ErrLost {H : Type} : DataW H := .iface "*errors.errorString" (.ptr (.agg [.lit (.string [97, 108, 109, 111, 110, 101, 114, 58, 32, 108, 111, 115, 116])]))
def laid_almoner_api_ErrServer {H : Type} : DataW H := .iface "*errors.errorString" (.ptr (.agg [.lit (.string [97, 108, 109, 111, 110, 101, 114, 58, 32, 115, 101, 114, 118, 101, 114])]))
def laid_almoner_api_ErrTask {H : Type} : DataW H := .iface "*errors.errorString" (.ptr (.agg [.lit (.string [97, 108, 109, 111, 110, 101, 114, 58, 32, 116, 97, 115, 107])]))
def laid_almoner_api_ErrTight {H : Type} : DataW H := .iface "*errors.errorString" (.ptr (.agg [.lit (.string [97, 108, 109, 111, 110, 101, 114, 58, 32, 116, 105, 103, 104, 116])]))
def laid_almoner_api_ErrDeep {H : Type} : DataW H := .iface "*errors.errorString" (.ptr (.agg [.lit (.string [97, 108, 109, 111, 110, 101, 114, 58, 32, 100, 101, 101, 112])]))
def laid_almoner_api_ErrBusy {H : Type} : DataW H := .iface "*errors.errorString" (.ptr (.agg [.lit (.string [97, 108, 109, 111, 110, 101, 114, 58, 32, 98, 117, 115, 121])]))
def laid_almoner_api_ErrBallot {H : Type} : DataW H := .iface "*errors.errorString" (.ptr (.agg [.lit (.string [97, 108, 109, 111, 110, 101, 114, 58, 32, 98, 97, 108, 108, 111, 116])]))
def laid_almoner_api_ErrState {H : Type} : DataW H := .iface "*errors.errorString" (.ptr (.agg [.lit (.string [97, 108, 109, 111, 110, 101, 114, 58, 32, 115, 116, 97, 116, 101])]))

/-- 'almonerlaw09.OrderRows': WHATEVER THE INPUT: true; the input reads as it did. -/
def orderRowsSpec : ChangeSpec := { name := "orderRows", fn := fun _ => fun
  | [d1, d2, d3] => { results := [.lit (.bool true)], args := [d1, d2, d3] }
  | _ => none }
def orderRowsRow : OpenClaim := { program := "yteflnnlihblpgaadoor", sum := "ef705a11b877e7528ba99644bcb0d327599503d235311bd5f9c831a7c650d43b", func := "almoner/almonerlaw09.OrderRows", spec := "orderRows", unfollowed := true, recurses := true, named := ["almoner/api.ErrGone", "almoner/api.ErrState", "almoner/api.ErrNumber", "almoner/api.ErrFull", "almoner/api.ErrOver", "almoner/api.ErrBytes", "almoner/api.ErrSum", "almoner/api.ErrThere", "almoner/api.ErrLarge", "almoner/api.ErrLost", "almoner/api.ErrServer", "almoner/api.ErrTask", "almoner/api.ErrTight", "almoner/api.ErrDeep", "almoner/api.ErrBusy", "almoner/api.ErrBallot"], plainKeys := false, apart := false, laid := [("almoner/api.ErrNumber", laid_almoner_api_ErrNumber), ("almoner/api.ErrOver", laid_almoner_api_ErrOver), ("almoner/api.ErrBytes", laid_almoner_api_ErrBytes), ("almoner/api.ErrSum", laid_almoner_api_ErrSum), ("almoner/api.ErrGone", laid_almoner_api_ErrGone), ("almoner/api.ErrThere", laid_almoner_api_ErrThere), ("almoner/api.ErrFull", laid_almoner_api_ErrFull), ("almoner/api.ErrLarge", laid_almoner_api_ErrLarge), ("almoner/api.ErrLost", laid_almoner_api_ErrLost), ("almoner/api.ErrServer", laid_almoner_api_ErrServer), ("almoner/api.ErrTask", laid_almoner_api_ErrTask), ("almoner/api.ErrTight", laid_almoner_api_ErrTight), ("almoner/api.ErrDeep", laid_almoner_api_ErrDeep), ("almoner/api.ErrBusy", laid_almoner_api_ErrBusy), ("almoner/api.ErrBallot", laid_almoner_api_ErrBallot), ("almoner/api.ErrState", laid_almoner_api_ErrState)] }
def OrderRowsSaid : Prop := orderRowsRow.holds Tryd.pinned (OpenSpec.ofChange orderRowsSpec)

/-- ITS FALSE NEIGHBOUR: 'it returns false'. Refute it at one input. -/
def orderRowsWrong : ChangeSpec := { name := "orderRows", fn := fun _ => fun
  | [d1, d2, d3] => { results := [.lit (.bool false)], args := [d1, d2, d3] }
  | _ => none }
def OrderRowsWrongFalsely : Prop := orderRowsRow.holds Tryd.pinned (OpenSpec.ofChange orderRowsWrong)

/-- 'almonerlaw09.OrderAdds': WHATEVER THE INPUT: true; the input reads as it did. -/
def orderAddsSpec : ChangeSpec := { name := "orderAdds", fn := fun _ => fun
  | [d] => { results := [.lit (.bool true)], args := [d] }
  | _ => none }
def orderAddsRow : OpenClaim := { program := "yteflnnlihblpgaadoor", sum := "ef705a11b877e7528ba99644bcb0d327599503d235311bd5f9c831a7c650d43b", func := "almoner/almonerlaw09.OrderAdds", spec := "orderAdds", unfollowed := true, recurses := true, named := ["almoner/api.ErrState", "almoner/api.ErrNumber", "almoner/api.ErrFull", "almoner/api.ErrGone"], plainKeys := false, apart := false, laid := [("almoner/api.ErrNumber", laid_almoner_api_ErrNumber), ("almoner/api.ErrGone", laid_almoner_api_ErrGone), ("almoner/api.ErrFull", laid_almoner_api_ErrFull), ("almoner/api.ErrState", laid_almoner_api_ErrState)] }
def OrderAddsSaid : Prop := orderAddsRow.holds Tryd.pinned (OpenSpec.ofChange orderAddsSpec)

/-- ITS FALSE NEIGHBOUR: 'it returns false'. Refute it at one input. -/
def orderAddsWrong : ChangeSpec := { name := "orderAdds", fn := fun _ => fun
  | [d] => { results := [.lit (.bool false)], args := [d] }
  | _ => none }
def OrderAddsWrongFalsely : Prop := orderAddsRow.holds Tryd.pinned (OpenSpec.ofChange orderAddsWrong)

/-- 'almonerlaw09.OrderForms': WHATEVER THE INPUT: true; the input reads as it did. -/
def orderFormsSpec : ChangeSpec := { name := "orderForms", fn := fun _ => fun
  | [d] => { results := [.lit (.bool true)], args := [d] }
  | _ => none }
def orderFormsRow : OpenClaim := { program := "yteflnnlihblpgaadoor", sum := "ef705a11b877e7528ba99644bcb0d327599503d235311bd5f9c831a7c650d43b", func := "almoner/almonerlaw09.OrderForms", spec := "orderForms", unfollowed := true, recurses := true, named := ["almoner/api.ErrState", "almoner/api.ErrNumber", "almoner/api.ErrBytes"], plainKeys := false, apart := false, laid := [("almoner/api.ErrNumber", laid_almoner_api_ErrNumber), ("almoner/api.ErrBytes", laid_almoner_api_ErrBytes), ("almoner/api.ErrState", laid_almoner_api_ErrState)] }
def OrderFormsSaid : Prop := orderFormsRow.holds Tryd.pinned (OpenSpec.ofChange orderFormsSpec)

/-- ITS FALSE NEIGHBOUR: 'it returns false'. Refute it at one input. -/
def orderFormsWrong : ChangeSpec := { name := "orderForms", fn := fun _ => fun
  | [d] => { results := [.lit (.bool false)], args := [d] }
  | _ => none }
def OrderFormsWrongFalsely : Prop := orderFormsRow.holds Tryd.pinned (OpenSpec.ofChange orderFormsWrong)

/-- 'almonerlaw09.OrderGets': WHATEVER THE INPUT: true; the input reads as it did. -/
def orderGetsSpec : ChangeSpec := { name := "orderGets", fn := fun _ => fun
  | [d] => { results := [.lit (.bool true)], args := [d] }
  | _ => none }
def orderGetsRow : OpenClaim := { program := "yteflnnlihblpgaadoor", sum := "ef705a11b877e7528ba99644bcb0d327599503d235311bd5f9c831a7c650d43b", func := "almoner/almonerlaw09.OrderGets", spec := "orderGets", unfollowed := true, recurses := true, named := ["almoner/api.ErrBytes", "almoner/api.ErrState", "almoner/api.ErrNumber", "almoner/api.ErrLarge"], plainKeys := false, apart := false, laid := [("almoner/api.ErrNumber", laid_almoner_api_ErrNumber), ("almoner/api.ErrBytes", laid_almoner_api_ErrBytes), ("almoner/api.ErrLarge", laid_almoner_api_ErrLarge), ("almoner/api.ErrState", laid_almoner_api_ErrState)] }
def OrderGetsSaid : Prop := orderGetsRow.holds Tryd.pinned (OpenSpec.ofChange orderGetsSpec)

/-- ITS FALSE NEIGHBOUR: 'it returns false'. Refute it at one input. -/
def orderGetsWrong : ChangeSpec := { name := "orderGets", fn := fun _ => fun
  | [d] => { results := [.lit (.bool false)], args := [d] }
  | _ => none }
def OrderGetsWrongFalsely : Prop := orderGetsRow.holds Tryd.pinned (OpenSpec.ofChange orderGetsWrong)

/-- 'almonerlaw09.OrderLedgers': WHATEVER THE INPUT: true; the input reads as it did. -/
def orderLedgersSpec : ChangeSpec := { name := "orderLedgers", fn := fun _ => fun
  | [d] => { results := [.lit (.bool true)], args := [d] }
  | _ => none }
def orderLedgersRow : OpenClaim := { program := "yteflnnlihblpgaadoor", sum := "ef705a11b877e7528ba99644bcb0d327599503d235311bd5f9c831a7c650d43b", func := "almoner/almonerlaw09.OrderLedgers", spec := "orderLedgers", unfollowed := true, recurses := true, named := ["almoner/api.ErrState", "almoner/api.ErrNumber", "almoner/api.ErrLarge", "almoner/api.ErrOver", "almoner/api.ErrBytes", "almoner/api.ErrSum", "almoner/api.ErrGone", "almoner/api.ErrThere", "almoner/api.ErrFull", "almoner/api.ErrLost", "almoner/api.ErrServer", "almoner/api.ErrTask", "almoner/api.ErrTight", "almoner/api.ErrDeep", "almoner/api.ErrBusy", "almoner/api.ErrBallot"], plainKeys := false, apart := false, laid := [("almoner/api.ErrNumber", laid_almoner_api_ErrNumber), ("almoner/api.ErrOver", laid_almoner_api_ErrOver), ("almoner/api.ErrBytes", laid_almoner_api_ErrBytes), ("almoner/api.ErrSum", laid_almoner_api_ErrSum), ("almoner/api.ErrGone", laid_almoner_api_ErrGone), ("almoner/api.ErrThere", laid_almoner_api_ErrThere), ("almoner/api.ErrFull", laid_almoner_api_ErrFull), ("almoner/api.ErrLarge", laid_almoner_api_ErrLarge), ("almoner/api.ErrLost", laid_almoner_api_ErrLost), ("almoner/api.ErrServer", laid_almoner_api_ErrServer), ("almoner/api.ErrTask", laid_almoner_api_ErrTask), ("almoner/api.ErrTight", laid_almoner_api_ErrTight), ("almoner/api.ErrDeep", laid_almoner_api_ErrDeep), ("almoner/api.ErrBusy", laid_almoner_api_ErrBusy), ("almoner/api.ErrBallot", laid_almoner_api_ErrBallot), ("almoner/api.ErrState", laid_almoner_api_ErrState)] }
def OrderLedgersSaid : Prop := orderLedgersRow.holds Tryd.pinned (OpenSpec.ofChange orderLedgersSpec)

/-- ITS FALSE NEIGHBOUR: 'it returns false'. Refute it at one input. -/
def orderLedgersWrong : ChangeSpec := { name := "orderLedgers", fn := fun _ => fun
  | [d] => { results := [.lit (.bool false)], args := [d] }
  | _ => none }
def OrderLedgersWrongFalsely : Prop := orderLedgersRow.holds Tryd.pinned (OpenSpec.ofChange orderLedgersWrong)

/-- 'almonerlaw09.OrderUnlike': WHATEVER THE INPUT: true; the input reads as it did. -/
def orderUnlikeSpec : ChangeSpec := { name := "orderUnlike", fn := fun _ => fun
  | [d1, d2] => { results := [.lit (.bool true)], args := [d1, d2] }
  | _ => none }
def orderUnlikeRow : OpenClaim := { program := "yteflnnlihblpgaadoor", sum := "ef705a11b877e7528ba99644bcb0d327599503d235311bd5f9c831a7c650d43b", func := "almoner/almonerlaw09.OrderUnlike", spec := "orderUnlike", unfollowed := true, recurses := true, named := ["almoner/api.ErrState", "almoner/api.ErrNumber", "almoner/api.ErrLarge", "almoner/api.ErrBytes"], plainKeys := false, apart := false, laid := [("almoner/api.ErrNumber", laid_almoner_api_ErrNumber), ("almoner/api.ErrBytes", laid_almoner_api_ErrBytes), ("almoner/api.ErrLarge", laid_almoner_api_ErrLarge), ("almoner/api.ErrState", laid_almoner_api_ErrState)] }
def OrderUnlikeSaid : Prop := orderUnlikeRow.holds Tryd.pinned (OpenSpec.ofChange orderUnlikeSpec)

/-- ITS FALSE NEIGHBOUR: 'it returns false'. Refute it at one input. -/
def orderUnlikeWrong : ChangeSpec := { name := "orderUnlike", fn := fun _ => fun
  | [d1, d2] => { results := [.lit (.bool false)], args := [d1, d2] }
  | _ => none }
def OrderUnlikeWrongFalsely : Prop := orderUnlikeRow.holds Tryd.pinned (OpenSpec.ofChange orderUnlikeWrong)

/-- 'almonerlaw17.NetPuts': WHATEVER THE INPUT: true; the input reads as it did. -/
def netPutsSpec : ChangeSpec := { name := "netPuts", fn := fun _ => fun
  | [d] => { results := [.lit (.bool true)], args := [d] }
  | _ => none }
def netPutsRow : OpenClaim := { program := "yteflnnlihblpgaadoor", sum := "ef705a11b877e7528ba99644bcb0d327599503d235311bd5f9c831a7c650d43b", func := "almoner/almonerlaw17.NetPuts", spec := "netPuts", unfollowed := true, recurses := true, named := ["almoner/api.ErrState", "almoner/api.ErrLarge", "almoner/api.ErrNumber", "almoner/api.ErrBytes", "almoner/api.ErrSum"], plainKeys := false, apart := false, laid := [("almoner/api.ErrNumber", laid_almoner_api_ErrNumber), ("almoner/api.ErrBytes", laid_almoner_api_ErrBytes), ("almoner/api.ErrSum", laid_almoner_api_ErrSum), ("almoner/api.ErrLarge", laid_almoner_api_ErrLarge), ("almoner/api.ErrState", laid_almoner_api_ErrState)] }
def NetPutsSaid : Prop := netPutsRow.holds Tryd.pinned (OpenSpec.ofChange netPutsSpec)

/-- ITS FALSE NEIGHBOUR: 'it returns false'. Refute it at one input. -/
def netPutsWrong : ChangeSpec := { name := "netPuts", fn := fun _ => fun
  | [d] => { results := [.lit (.bool false)], args := [d] }
  | _ => none }
def NetPutsWrongFalsely : Prop := netPutsRow.holds Tryd.pinned (OpenSpec.ofChange netPutsWrong)

/-- 'almonerlaw17.NetGets': WHATEVER THE INPUT: true; the input reads as it did. -/
def netGetsSpec : ChangeSpec := { name := "netGets", fn := fun _ => fun
  | [d] => { results := [.lit (.bool true)], args := [d] }
  | _ => none }
def netGetsRow : OpenClaim := { program := "yteflnnlihblpgaadoor", sum := "ef705a11b877e7528ba99644bcb0d327599503d235311bd5f9c831a7c650d43b", func := "almoner/almonerlaw17.NetGets", spec := "netGets", unfollowed := true, recurses := true, named := ["almoner/api.ErrState", "almoner/api.ErrLarge", "almoner/api.ErrNumber", "almoner/api.ErrBytes", "almoner/api.ErrSum", "almoner/api.ErrOver", "almoner/api.ErrGone", "almoner/api.ErrThere", "almoner/api.ErrFull", "almoner/api.ErrLost", "almoner/api.ErrServer", "almoner/api.ErrTask", "almoner/api.ErrTight", "almoner/api.ErrDeep", "almoner/api.ErrBusy", "almoner/api.ErrBallot"], plainKeys := false, apart := false, laid := [("almoner/api.ErrNumber", laid_almoner_api_ErrNumber), ("almoner/api.ErrOver", laid_almoner_api_ErrOver), ("almoner/api.ErrBytes", laid_almoner_api_ErrBytes), ("almoner/api.ErrSum", laid_almoner_api_ErrSum), ("almoner/api.ErrGone", laid_almoner_api_ErrGone), ("almoner/api.ErrThere", laid_almoner_api_ErrThere), ("almoner/api.ErrFull", laid_almoner_api_ErrFull), ("almoner/api.ErrLarge", laid_almoner_api_ErrLarge), ("almoner/api.ErrLost", laid_almoner_api_ErrLost), ("almoner/api.ErrServer", laid_almoner_api_ErrServer), ("almoner/api.ErrTask", laid_almoner_api_ErrTask), ("almoner/api.ErrTight", laid_almoner_api_ErrTight), ("almoner/api.ErrDeep", laid_almoner_api_ErrDeep), ("almoner/api.ErrBusy", laid_almoner_api_ErrBusy), ("almoner/api.ErrBallot", laid_almoner_api_ErrBallot), ("almoner/api.ErrState", laid_almoner_api_ErrState)] }
def NetGetsSaid : Prop := netGetsRow.holds Tryd.pinned (OpenSpec.ofChange netGetsSpec)

/-- ITS FALSE NEIGHBOUR: 'it returns false'. Refute it at one input. -/
def netGetsWrong : ChangeSpec := { name := "netGets", fn := fun _ => fun
  | [d] => { results := [.lit (.bool false)], args := [d] }
  | _ => none }
def NetGetsWrongFalsely : Prop := netGetsRow.holds Tryd.pinned (OpenSpec.ofChange netGetsWrong)

/-- 'almonerlaw17.NetUnlike': WHATEVER THE INPUT: true; the input reads as it did. -/
def netUnlikeSpec : ChangeSpec := { name := "netUnlike", fn := fun _ => fun
  | [d] => { results := [.lit (.bool true)], args := [d] }
  | _ => none }
def netUnlikeRow : OpenClaim := { program := "yteflnnlihblpgaadoor", sum := "ef705a11b877e7528ba99644bcb0d327599503d235311bd5f9c831a7c650d43b", func := "almoner/almonerlaw17.NetUnlike", spec := "netUnlike", unfollowed := true, recurses := true, named := ["almoner/api.ErrSum", "almoner/api.ErrState", "almoner/api.ErrLarge", "almoner/api.ErrNumber", "almoner/api.ErrBytes"], plainKeys := false, apart := false, laid := [("almoner/api.ErrNumber", laid_almoner_api_ErrNumber), ("almoner/api.ErrBytes", laid_almoner_api_ErrBytes), ("almoner/api.ErrSum", laid_almoner_api_ErrSum), ("almoner/api.ErrLarge", laid_almoner_api_ErrLarge), ("almoner/api.ErrState", laid_almoner_api_ErrState)] }
def NetUnlikeSaid : Prop := netUnlikeRow.holds Tryd.pinned (OpenSpec.ofChange netUnlikeSpec)

/-- ITS FALSE NEIGHBOUR: 'it returns false'. Refute it at one input. -/
def netUnlikeWrong : ChangeSpec := { name := "netUnlike", fn := fun _ => fun
  | [d] => { results := [.lit (.bool false)], args := [d] }
  | _ => none }
def NetUnlikeWrongFalsely : Prop := netUnlikeRow.holds Tryd.pinned (OpenSpec.ofChange netUnlikeWrong)

/- THE SECOND FORM. 'bulk': how many values and letters a reading holds, each counted each time it is reached (what is shared counts as often as it is met; a slice's spare places count too). A statement '..UptoSaid' is the law's where the arguments, and the package variables that the reading takes, are together of bulk at most 1048576: NARROWER than '..Said'. Prove '..Said' where nothing that the law and all that it calls make is longer than what came in: it says more and counts as full. Else prove '..UptoSaid'. A law counts once. -/
mutual
def uptoBulk {H : Type} : DataW H → Nat
  | .lit (.string bytes) => bytes.length + 1
  | .lit _ => 1
  | .nil => 1
  | .ptr d => uptoBulk d + 1
  | .slice elems spare => uptoBulkAll elems + uptoBulkAll spare + 1
  | .agg parts => uptoBulkAll parts + 1
  | .iface _ d => uptoBulk d + 1
  | .map entries => uptoBulkEntries entries + 1
  | .held _ => 1
def uptoBulkAll {H : Type} : List (DataW H) → Nat
  | [] => 0
  | d :: r => uptoBulk d + uptoBulkAll r
def uptoBulkEntries {H : Type} : List (Lit × DataW H) → Nat
  | [] => 0
  | x :: r => uptoBulkEntry x + uptoBulkEntries r
def uptoBulkEntry {H : Type} : Lit × DataW H → Nat
  | (.string bytes, d) => bytes.length + uptoBulk d + 1
  | (_, d) => uptoBulk d + 1
 end
def uptoSmall : (H : Type) → List (DataW H) → Bool := fun _ ds => decide (uptoBulkAll ds ≤ 1048576)
def OpenSpec.upto (s : _root_.Go.ChangeSpec) : _root_.Go.OpenSpec := { _root_.Go.OpenSpec.ofChange s with cond := some uptoSmall }

/-- 'almonerlaw09.OrderRows', WHERE WHAT IT READS IS OF BULK AT MOST 1048576: true; the input reads as it did. -/
def orderRowsUptoRow : OpenClaim := { program := "yteflnnlihblpgaadoor", sum := "ef705a11b877e7528ba99644bcb0d327599503d235311bd5f9c831a7c650d43b", func := "almoner/almonerlaw09.OrderRows", spec := "orderRows", unfollowed := true, recurses := true, named := ["almoner/api.ErrGone", "almoner/api.ErrState", "almoner/api.ErrNumber", "almoner/api.ErrFull", "almoner/api.ErrOver", "almoner/api.ErrBytes", "almoner/api.ErrSum", "almoner/api.ErrThere", "almoner/api.ErrLarge", "almoner/api.ErrLost", "almoner/api.ErrServer", "almoner/api.ErrTask", "almoner/api.ErrTight", "almoner/api.ErrDeep", "almoner/api.ErrBusy", "almoner/api.ErrBallot"], plainKeys := false, apart := false, laid := [("almoner/api.ErrNumber", laid_almoner_api_ErrNumber), ("almoner/api.ErrOver", laid_almoner_api_ErrOver), ("almoner/api.ErrBytes", laid_almoner_api_ErrBytes), ("almoner/api.ErrSum", laid_almoner_api_ErrSum), ("almoner/api.ErrGone", laid_almoner_api_ErrGone), ("almoner/api.ErrThere", laid_almoner_api_ErrThere), ("almoner/api.ErrFull", laid_almoner_api_ErrFull), ("almoner/api.ErrLarge", laid_almoner_api_ErrLarge), ("almoner/api.ErrLost", laid_almoner_api_ErrLost), ("almoner/api.ErrServer", laid_almoner_api_ErrServer), ("almoner/api.ErrTask", laid_almoner_api_ErrTask), ("almoner/api.ErrTight", laid_almoner_api_ErrTight), ("almoner/api.ErrDeep", laid_almoner_api_ErrDeep), ("almoner/api.ErrBusy", laid_almoner_api_ErrBusy), ("almoner/api.ErrBallot", laid_almoner_api_ErrBallot), ("almoner/api.ErrState", laid_almoner_api_ErrState)], narrowed := true }
def OrderRowsUptoSaid : Prop := orderRowsUptoRow.holds Tryd.pinned (OpenSpec.upto orderRowsSpec)

/-- 'almonerlaw09.OrderAdds', WHERE WHAT IT READS IS OF BULK AT MOST 1048576: true; the input reads as it did. -/
def orderAddsUptoRow : OpenClaim := { program := "yteflnnlihblpgaadoor", sum := "ef705a11b877e7528ba99644bcb0d327599503d235311bd5f9c831a7c650d43b", func := "almoner/almonerlaw09.OrderAdds", spec := "orderAdds", unfollowed := true, recurses := true, named := ["almoner/api.ErrState", "almoner/api.ErrNumber", "almoner/api.ErrFull", "almoner/api.ErrGone"], plainKeys := false, apart := false, laid := [("almoner/api.ErrNumber", laid_almoner_api_ErrNumber), ("almoner/api.ErrGone", laid_almoner_api_ErrGone), ("almoner/api.ErrFull", laid_almoner_api_ErrFull), ("almoner/api.ErrState", laid_almoner_api_ErrState)], narrowed := true }
def OrderAddsUptoSaid : Prop := orderAddsUptoRow.holds Tryd.pinned (OpenSpec.upto orderAddsSpec)

/-- 'almonerlaw09.OrderForms', WHERE WHAT IT READS IS OF BULK AT MOST 1048576: true; the input reads as it did. -/
def orderFormsUptoRow : OpenClaim := { program := "yteflnnlihblpgaadoor", sum := "ef705a11b877e7528ba99644bcb0d327599503d235311bd5f9c831a7c650d43b", func := "almoner/almonerlaw09.OrderForms", spec := "orderForms", unfollowed := true, recurses := true, named := ["almoner/api.ErrState", "almoner/api.ErrNumber", "almoner/api.ErrBytes"], plainKeys := false, apart := false, laid := [("almoner/api.ErrNumber", laid_almoner_api_ErrNumber), ("almoner/api.ErrBytes", laid_almoner_api_ErrBytes), ("almoner/api.ErrState", laid_almoner_api_ErrState)], narrowed := true }
def OrderFormsUptoSaid : Prop := orderFormsUptoRow.holds Tryd.pinned (OpenSpec.upto orderFormsSpec)

/-- 'almonerlaw09.OrderGets', WHERE WHAT IT READS IS OF BULK AT MOST 1048576: true; the input reads as it did. -/
def orderGetsUptoRow : OpenClaim := { program := "yteflnnlihblpgaadoor", sum := "ef705a11b877e7528ba99644bcb0d327599503d235311bd5f9c831a7c650d43b", func := "almoner/almonerlaw09.OrderGets", spec := "orderGets", unfollowed := true, recurses := true, named := ["almoner/api.ErrBytes", "almoner/api.ErrState", "almoner/api.ErrNumber", "almoner/api.ErrLarge"], plainKeys := false, apart := false, laid := [("almoner/api.ErrNumber", laid_almoner_api_ErrNumber), ("almoner/api.ErrBytes", laid_almoner_api_ErrBytes), ("almoner/api.ErrLarge", laid_almoner_api_ErrLarge), ("almoner/api.ErrState", laid_almoner_api_ErrState)], narrowed := true }
def OrderGetsUptoSaid : Prop := orderGetsUptoRow.holds Tryd.pinned (OpenSpec.upto orderGetsSpec)

/-- 'almonerlaw09.OrderLedgers', WHERE WHAT IT READS IS OF BULK AT MOST 1048576: true; the input reads as it did. -/
def orderLedgersUptoRow : OpenClaim := { program := "yteflnnlihblpgaadoor", sum := "ef705a11b877e7528ba99644bcb0d327599503d235311bd5f9c831a7c650d43b", func := "almoner/almonerlaw09.OrderLedgers", spec := "orderLedgers", unfollowed := true, recurses := true, named := ["almoner/api.ErrState", "almoner/api.ErrNumber", "almoner/api.ErrLarge", "almoner/api.ErrOver", "almoner/api.ErrBytes", "almoner/api.ErrSum", "almoner/api.ErrGone", "almoner/api.ErrThere", "almoner/api.ErrFull", "almoner/api.ErrLost", "almoner/api.ErrServer", "almoner/api.ErrTask", "almoner/api.ErrTight", "almoner/api.ErrDeep", "almoner/api.ErrBusy", "almoner/api.ErrBallot"], plainKeys := false, apart := false, laid := [("almoner/api.ErrNumber", laid_almoner_api_ErrNumber), ("almoner/api.ErrOver", laid_almoner_api_ErrOver), ("almoner/api.ErrBytes", laid_almoner_api_ErrBytes), ("almoner/api.ErrSum", laid_almoner_api_ErrSum), ("almoner/api.ErrGone", laid_almoner_api_ErrGone), ("almoner/api.ErrThere", laid_almoner_api_ErrThere), ("almoner/api.ErrFull", laid_almoner_api_ErrFull), ("almoner/api.ErrLarge", laid_almoner_api_ErrLarge), ("almoner/api.ErrLost", laid_almoner_api_ErrLost), ("almoner/api.ErrServer", laid_almoner_api_ErrServer), ("almoner/api.ErrTask", laid_almoner_api_ErrTask), ("almoner/api.ErrTight", laid_almoner_api_ErrTight), ("almoner/api.ErrDeep", laid_almoner_api_ErrDeep), ("almoner/api.ErrBusy", laid_almoner_api_ErrBusy), ("almoner/api.ErrBallot", laid_almoner_api_ErrBallot), ("almoner/api.ErrState", laid_almoner_api_ErrState)], narrowed := true }
def OrderLedgersUptoSaid : Prop := orderLedgersUptoRow.holds Tryd.pinned (OpenSpec.upto orderLedgersSpec)

/-- 'almonerlaw09.OrderUnlike', WHERE WHAT IT READS IS OF BULK AT MOST 1048576: true; the input reads as it did. -/
def orderUnlikeUptoRow : OpenClaim := { program := "yteflnnlihblpgaadoor", sum := "ef705a11b877e7528ba99644bcb0d327599503d235311bd5f9c831a7c650d43b", func := "almoner/almonerlaw09.OrderUnlike", spec := "orderUnlike", unfollowed := true, recurses := true, named := ["almoner/api.ErrState", "almoner/api.ErrNumber", "almoner/api.ErrLarge", "almoner/api.ErrBytes"], plainKeys := false, apart := false, laid := [("almoner/api.ErrNumber", laid_almoner_api_ErrNumber), ("almoner/api.ErrBytes", laid_almoner_api_ErrBytes), ("almoner/api.ErrLarge", laid_almoner_api_ErrLarge), ("almoner/api.ErrState", laid_almoner_api_ErrState)], narrowed := true }
def OrderUnlikeUptoSaid : Prop := orderUnlikeUptoRow.holds Tryd.pinned (OpenSpec.upto orderUnlikeSpec)

/-- 'almonerlaw17.NetPuts', WHERE WHAT IT READS IS OF BULK AT MOST 1048576: true; the input reads as it did. -/
def netPutsUptoRow : OpenClaim := { program := "yteflnnlihblpgaadoor", sum := "ef705a11b877e7528ba99644bcb0d327599503d235311bd5f9c831a7c650d43b", func := "almoner/almonerlaw17.NetPuts", spec := "netPuts", unfollowed := true, recurses := true, named := ["almoner/api.ErrState", "almoner/api.ErrLarge", "almoner/api.ErrNumber", "almoner/api.ErrBytes", "almoner/api.ErrSum"], plainKeys := false, apart := false, laid := [("almoner/api.ErrNumber", laid_almoner_api_ErrNumber), ("almoner/api.ErrBytes", laid_almoner_api_ErrBytes), ("almoner/api.ErrSum", laid_almoner_api_ErrSum), ("almoner/api.ErrLarge", laid_almoner_api_ErrLarge), ("almoner/api.ErrState", laid_almoner_api_ErrState)], narrowed := true }
def NetPutsUptoSaid : Prop := netPutsUptoRow.holds Tryd.pinned (OpenSpec.upto netPutsSpec)

/-- 'almonerlaw17.NetGets', WHERE WHAT IT READS IS OF BULK AT MOST 1048576: true; the input reads as it did. -/
def netGetsUptoRow : OpenClaim := { program := "yteflnnlihblpgaadoor", sum := "ef705a11b877e7528ba99644bcb0d327599503d235311bd5f9c831a7c650d43b", func := "almoner/almonerlaw17.NetGets", spec := "netGets", unfollowed := true, recurses := true, named := ["almoner/api.ErrState", "almoner/api.ErrLarge", "almoner/api.ErrNumber", "almoner/api.ErrBytes", "almoner/api.ErrSum", "almoner/api.ErrOver", "almoner/api.ErrGone", "almoner/api.ErrThere", "almoner/api.ErrFull", "almoner/api.ErrLost", "almoner/api.ErrServer", "almoner/api.ErrTask", "almoner/api.ErrTight", "almoner/api.ErrDeep", "almoner/api.ErrBusy", "almoner/api.ErrBallot"], plainKeys := false, apart := false, laid := [("almoner/api.ErrNumber", laid_almoner_api_ErrNumber), ("almoner/api.ErrOver", laid_almoner_api_ErrOver), ("almoner/api.ErrBytes", laid_almoner_api_ErrBytes), ("almoner/api.ErrSum", laid_almoner_api_ErrSum), ("almoner/api.ErrGone", laid_almoner_api_ErrGone), ("almoner/api.ErrThere", laid_almoner_api_ErrThere), ("almoner/api.ErrFull", laid_almoner_api_ErrFull), ("almoner/api.ErrLarge", laid_almoner_api_ErrLarge), ("almoner/api.ErrLost", laid_almoner_api_ErrLost), ("almoner/api.ErrServer", laid_almoner_api_ErrServer), ("almoner/api.ErrTask", laid_almoner_api_ErrTask), ("almoner/api.ErrTight", laid_almoner_api_ErrTight), ("almoner/api.ErrDeep", laid_almoner_api_ErrDeep), ("almoner/api.ErrBusy", laid_almoner_api_ErrBusy), ("almoner/api.ErrBallot", laid_almoner_api_ErrBallot), ("almoner/api.ErrState", laid_almoner_api_ErrState)], narrowed := true }
def NetGetsUptoSaid : Prop := netGetsUptoRow.holds Tryd.pinned (OpenSpec.upto netGetsSpec)

/-- 'almonerlaw17.NetUnlike', WHERE WHAT IT READS IS OF BULK AT MOST 1048576: true; the input reads as it did. -/
def netUnlikeUptoRow : OpenClaim := { program := "yteflnnlihblpgaadoor", sum := "ef705a11b877e7528ba99644bcb0d327599503d235311bd5f9c831a7c650d43b", func := "almoner/almonerlaw17.NetUnlike", spec := "netUnlike", unfollowed := true, recurses := true, named := ["almoner/api.ErrSum", "almoner/api.ErrState", "almoner/api.ErrLarge", "almoner/api.ErrNumber", "almoner/api.ErrBytes"], plainKeys := false, apart := false, laid := [("almoner/api.ErrNumber", laid_almoner_api_ErrNumber), ("almoner/api.ErrBytes", laid_almoner_api_ErrBytes), ("almoner/api.ErrSum", laid_almoner_api_ErrSum), ("almoner/api.ErrLarge", laid_almoner_api_ErrLarge), ("almoner/api.ErrState", laid_almoner_api_ErrState)], narrowed := true }
def NetUnlikeUptoSaid : Prop := netUnlikeUptoRow.holds Tryd.pinned (OpenSpec.upto netUnlikeSpec)

end Rows
end Go.Proofs.YteflnnlihblpgaaDoor
