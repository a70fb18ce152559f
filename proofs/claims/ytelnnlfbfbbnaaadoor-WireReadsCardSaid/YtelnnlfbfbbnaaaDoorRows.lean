/-
  NARROWER THAN 'FOR EVERY INPUT', by the rows' own cells (each row's printed sentence says how): WireNumbers: laid · WireWrites: laid · WireSpoilt: laid · WireReads: laid · WireBack: laid · WireSums: laid · WireSlips: laid.
  DERIVED. THE GIVEN ROWS OF THIS SEAT. 7 by the template 'for every input the law returns true; each argument reads behind the call as it read before'; 0 by the template 'total and deterministic' (their statements: YtelnnlfbfbbnaaaDoorTotals.lean).
  GIVEN WITH THE SEED: the statements are not yours to turn. If you find one false, say at which input.
  Laid BY PROGRAM, IN A SANDBOX (cutbox-rows.mjs): the forced cells as the released guide's own fill.sh prints them over the translation 7df246bb5333c138… (all of the seat's roots in one cut). By AI agents, Wed Nov 11 2026. No macro, syntax, notation, axiom, sorry.
-/
import Derived.Test.YtelnnlfbfbbnaaaDoorChecked
import GoSem.Claim
import GoSem.ClaimJoined
import GoSem.ClaimMapViews
import Derived.JoinedTies
import Derived.KernelRfl
namespace Go.Proofs.YtelnnlfbfbbnaaaDoor
/- THE CELL 'sum', in the pinned program and in every row, IS THE sha256 OF THE DUMP (.gsa) THAT YtelnnlfbfbbnaaaDoorProg.lean LOADS. Nothing in Lean hashes anything: it is a label: what it is worth is what the hold of that sum in a sandbox is worth. -/
noncomputable def Tryd.pinned : Pinned := { name := "ytelnnlfbfbbnaaadoor", sum := "7df246bb5333c13899769072601f18888679ab02f42d1d68f1e5d6ee4dfca150", checked := Tryd.checked }
namespace Rows
def none {H : Type} : Left H := { results := [], args := [] }

/- WHAT THE LISTED PACKAGE-LEVEL VARIABLES READ AS WHEN THE CALL BEGINS. Each datum BY PROGRAM (the guide's laid-datum.mjs) off the statement by which the dump's own 'gosem.cut.vars' lays the variable. In a bare row this is a premise. The card (YtelnnlfbfbbnaaaDoorCards.lean) ties it to the program's text. -/
def laid_almoner_api_ErrNumber {H : Type} : DataW H := .iface "*errors.errorString" (.ptr (.agg [.lit (.string [97, 108, 109, 111, 110, 101, 114, 58, 32, 110, 117, 109, 98, 101, 114])]))
def laid_almoner_api_ErrOver {H : Type} : DataW H := .iface "*errors.errorString" (.ptr (.agg [.lit (.string [97, 108, 109, 111, 110, 101, 114, 58, 32, 111, 118, 101, 114])]))
def laid_almoner_api_ErrBytes {H : Type} : DataW H := .iface "*errors.errorString" (.ptr (.agg [.lit (.string [97, 108, 109, 111, 110, 101, 114, 58, 32, 98, 121, 116, 101, 115])]))
def laid_almoner_api_ErrSum {H : Type} : DataW H := .iface "*errors.errorString" (.ptr (.agg [.lit (.string [97, 108, 109, 111, 110, 101, 114, 58, 32, 115, 117, 109])]))
def laid_almoner_api_ErrGone {H : Type} : DataW H := .iface "*errors.errorString" (.ptr (.agg [.lit (.string [97, 108, 109, 111, 110, 101, 114, 58, 32, 103, 111, 110, 101])]))
def laid_almoner_api_ErrThere {H : Type} : DataW H := .iface "*errors.errorString" (.ptr (.agg [.lit (.string [97, 108, 109, 111, 110, 101, 114, 58, 32, 116, 104, 101, 114, 101])]))
def laid_almoner_api_ErrFull {H : Type} : DataW H := .iface "*errors.errorString" (.ptr (.agg [.lit (.string [97, 108, 109, 111, 110, 101, 114, 58, 32, 102, 117, 108, 108])]))
def laid_almoner_api_ErrLarge {H : Type} : DataW H := .iface "*errors.errorString" (.ptr (.agg [.lit (.string [97, 108, 109, 111, 110, 101, 114, 58, 32, 108, 97, 114, 103, 101])]))
def laid_almoner_api_ErrLost {H : Type} : DataW H := .iface "*errors.errorString" (.ptr (.agg [.lit (.string [97, 108, 109, 111, 110, 101, 114, 58, 32, 108, 111, 115, 116])]))
def laid_almoner_api_ErrServer {H : Type} : DataW H := .iface "*errors.errorString" (.ptr (.agg [.lit (.string [97, 108, 109, 111, 110, 101, 114, 58, 32, 115, 101, 114, 118, 101, 114])]))
def laid_almoner_api_ErrTask {H : Type} : DataW H := .iface "*errors.errorString" (.ptr (.agg [.lit (.string [97, 108, 109, 111, 110, 101, 114, 58, 32, 116, 97, 115, 107])]))
def laid_almoner_api_ErrTight {H : Type} : DataW H := .iface "*errors.errorString" (.ptr (.agg [.lit (.string [97, 108, 109, 111, 110, 101, 114, 58, 32, 116, 105, 103, 104, 116])]))
def laid_almoner_api_ErrDeep {H : Type} : DataW H := .iface "*errors.errorString" (.ptr (.agg [.lit (.string [97, 108, 109, 111, 110, 101, 114, 58, 32, 100, 101, 101, 112])]))
def laid_almoner_api_ErrBusy {H : Type} : DataW H := .iface "*errors.errorString" (.ptr (.agg [.lit (.string [97, 108, 109, 111, 110, 101, 114, 58, 32, 98, 117, 115, 121])]))
def laid_almoner_api_ErrBallot {H : Type} : DataW H := .iface "*errors.errorString" (.ptr (.agg [.lit (.string [97, 108, 109, 111, 110, 101, 114, 58, 32, 98, 97, 108, 108, 111, 116])]))
def laid_almoner_api_ErrState {H : Type} : DataW H := .iface "*errors.errorString" (.ptr (.agg [.lit (.string [97, 108, 109, 111, 110, 101, 114, 58, 32, 115, 116, 97, 116, 101])]))

/-- 'almonerlaw03.WireNumbers': WHATEVER THE INPUT: true; the input reads as it did. -/
def wireNumbersSpec : ChangeSpec := { name := "wireNumbers", fn := fun _ => fun
  | [d1, d2] => { results := [.lit (.bool true)], args := [d1, d2] }
  | _ => none }
def wireNumbersRow : OpenClaim := { program := "ytelnnlfbfbbnaaadoor", sum := "7df246bb5333c13899769072601f18888679ab02f42d1d68f1e5d6ee4dfca150", func := "almoner/almonerlaw03.WireNumbers", spec := "wireNumbers", named := ["almoner/api.ErrNumber"], apart := false, laid := [("almoner/api.ErrNumber", laid_almoner_api_ErrNumber)] }
def WireNumbersSaid : Prop := wireNumbersRow.holds Tryd.pinned (OpenSpec.ofChange wireNumbersSpec)

/-- ITS FALSE NEIGHBOUR: 'it returns false'. Refute it at one input. -/
def wireNumbersWrong : ChangeSpec := { name := "wireNumbers", fn := fun _ => fun
  | [d1, d2] => { results := [.lit (.bool false)], args := [d1, d2] }
  | _ => none }
def WireNumbersWrongFalsely : Prop := wireNumbersRow.holds Tryd.pinned (OpenSpec.ofChange wireNumbersWrong)

/-- 'almonerlaw03.WireWrites': WHATEVER THE INPUT: true; the input reads as it did. -/
def wireWritesSpec : ChangeSpec := { name := "wireWrites", fn := fun _ => fun
  | [d] => { results := [.lit (.bool true)], args := [d] }
  | _ => none }
def wireWritesRow : OpenClaim := { program := "ytelnnlfbfbbnaaadoor", sum := "7df246bb5333c13899769072601f18888679ab02f42d1d68f1e5d6ee4dfca150", func := "almoner/almonerlaw03.WireWrites", spec := "wireWrites", named := ["almoner/api.ErrNumber"], apart := false, laid := [("almoner/api.ErrNumber", laid_almoner_api_ErrNumber)] }
def WireWritesSaid : Prop := wireWritesRow.holds Tryd.pinned (OpenSpec.ofChange wireWritesSpec)

/-- ITS FALSE NEIGHBOUR: 'it returns false'. Refute it at one input. -/
def wireWritesWrong : ChangeSpec := { name := "wireWrites", fn := fun _ => fun
  | [d] => { results := [.lit (.bool false)], args := [d] }
  | _ => none }
def WireWritesWrongFalsely : Prop := wireWritesRow.holds Tryd.pinned (OpenSpec.ofChange wireWritesWrong)

/-- 'almonerlaw03.WireSpoilt': WHATEVER THE INPUT: true; the input reads as it did. -/
def wireSpoiltSpec : ChangeSpec := { name := "wireSpoilt", fn := fun _ => fun
  | [d1, d2] => { results := [.lit (.bool true)], args := [d1, d2] }
  | _ => none }
def wireSpoiltRow : OpenClaim := { program := "ytelnnlfbfbbnaaadoor", sum := "7df246bb5333c13899769072601f18888679ab02f42d1d68f1e5d6ee4dfca150", func := "almoner/almonerlaw03.WireSpoilt", spec := "wireSpoilt", named := ["almoner/api.ErrNumber"], apart := false, laid := [("almoner/api.ErrNumber", laid_almoner_api_ErrNumber)] }
def WireSpoiltSaid : Prop := wireSpoiltRow.holds Tryd.pinned (OpenSpec.ofChange wireSpoiltSpec)

/-- ITS FALSE NEIGHBOUR: 'it returns false'. Refute it at one input. -/
def wireSpoiltWrong : ChangeSpec := { name := "wireSpoilt", fn := fun _ => fun
  | [d1, d2] => { results := [.lit (.bool false)], args := [d1, d2] }
  | _ => none }
def WireSpoiltWrongFalsely : Prop := wireSpoiltRow.holds Tryd.pinned (OpenSpec.ofChange wireSpoiltWrong)

/-- 'almonerlaw03.WireReads': WHATEVER THE INPUT: true; the input reads as it did. -/
def wireReadsSpec : ChangeSpec := { name := "wireReads", fn := fun _ => fun
  | [d1, d2] => { results := [.lit (.bool true)], args := [d1, d2] }
  | _ => none }
def wireReadsRow : OpenClaim := { program := "ytelnnlfbfbbnaaadoor", sum := "7df246bb5333c13899769072601f18888679ab02f42d1d68f1e5d6ee4dfca150", func := "almoner/almonerlaw03.WireReads", spec := "wireReads", named := ["almoner/api.ErrBytes", "almoner/api.ErrNumber", "almoner/api.ErrOver", "almoner/api.ErrSum", "almoner/api.ErrGone", "almoner/api.ErrThere", "almoner/api.ErrFull", "almoner/api.ErrLarge", "almoner/api.ErrLost", "almoner/api.ErrServer", "almoner/api.ErrTask", "almoner/api.ErrTight", "almoner/api.ErrDeep", "almoner/api.ErrBusy", "almoner/api.ErrBallot", "almoner/api.ErrState"], apart := false, laid := [("almoner/api.ErrNumber", laid_almoner_api_ErrNumber), ("almoner/api.ErrOver", laid_almoner_api_ErrOver), ("almoner/api.ErrBytes", laid_almoner_api_ErrBytes), ("almoner/api.ErrSum", laid_almoner_api_ErrSum), ("almoner/api.ErrGone", laid_almoner_api_ErrGone), ("almoner/api.ErrThere", laid_almoner_api_ErrThere), ("almoner/api.ErrFull", laid_almoner_api_ErrFull), ("almoner/api.ErrLarge", laid_almoner_api_ErrLarge), ("almoner/api.ErrLost", laid_almoner_api_ErrLost), ("almoner/api.ErrServer", laid_almoner_api_ErrServer), ("almoner/api.ErrTask", laid_almoner_api_ErrTask), ("almoner/api.ErrTight", laid_almoner_api_ErrTight), ("almoner/api.ErrDeep", laid_almoner_api_ErrDeep), ("almoner/api.ErrBusy", laid_almoner_api_ErrBusy), ("almoner/api.ErrBallot", laid_almoner_api_ErrBallot), ("almoner/api.ErrState", laid_almoner_api_ErrState)] }
def WireReadsSaid : Prop := wireReadsRow.holds Tryd.pinned (OpenSpec.ofChange wireReadsSpec)

/-- ITS FALSE NEIGHBOUR: 'it returns false'. Refute it at one input. -/
def wireReadsWrong : ChangeSpec := { name := "wireReads", fn := fun _ => fun
  | [d1, d2] => { results := [.lit (.bool false)], args := [d1, d2] }
  | _ => none }
def WireReadsWrongFalsely : Prop := wireReadsRow.holds Tryd.pinned (OpenSpec.ofChange wireReadsWrong)

/-- 'almonerlaw03.WireBack': WHATEVER THE INPUT: true; the input reads as it did. -/
def wireBackSpec : ChangeSpec := { name := "wireBack", fn := fun _ => fun
  | [d1, d2] => { results := [.lit (.bool true)], args := [d1, d2] }
  | _ => none }
def wireBackRow : OpenClaim := { program := "ytelnnlfbfbbnaaadoor", sum := "7df246bb5333c13899769072601f18888679ab02f42d1d68f1e5d6ee4dfca150", func := "almoner/almonerlaw03.WireBack", spec := "wireBack", named := ["almoner/api.ErrNumber", "almoner/api.ErrBytes"], apart := false, laid := [("almoner/api.ErrNumber", laid_almoner_api_ErrNumber), ("almoner/api.ErrBytes", laid_almoner_api_ErrBytes)] }
def WireBackSaid : Prop := wireBackRow.holds Tryd.pinned (OpenSpec.ofChange wireBackSpec)

/-- ITS FALSE NEIGHBOUR: 'it returns false'. Refute it at one input. -/
def wireBackWrong : ChangeSpec := { name := "wireBack", fn := fun _ => fun
  | [d1, d2] => { results := [.lit (.bool false)], args := [d1, d2] }
  | _ => none }
def WireBackWrongFalsely : Prop := wireBackRow.holds Tryd.pinned (OpenSpec.ofChange wireBackWrong)

/-- 'almonerlaw03.WireSums': WHATEVER THE INPUT: true; the input reads as it did. -/
def wireSumsSpec : ChangeSpec := { name := "wireSums", fn := fun _ => fun
  | [d] => { results := [.lit (.bool true)], args := [d] }
  | _ => none }
def wireSumsRow : OpenClaim := { program := "ytelnnlfbfbbnaaadoor", sum := "7df246bb5333c13899769072601f18888679ab02f42d1d68f1e5d6ee4dfca150", func := "almoner/almonerlaw03.WireSums", spec := "wireSums", named := ["almoner/api.ErrNumber", "almoner/api.ErrBytes", "almoner/api.ErrSum", "almoner/api.ErrOver", "almoner/api.ErrGone", "almoner/api.ErrThere", "almoner/api.ErrFull", "almoner/api.ErrLarge", "almoner/api.ErrLost", "almoner/api.ErrServer", "almoner/api.ErrTask", "almoner/api.ErrTight", "almoner/api.ErrDeep", "almoner/api.ErrBusy", "almoner/api.ErrBallot", "almoner/api.ErrState"], apart := false, laid := [("almoner/api.ErrNumber", laid_almoner_api_ErrNumber), ("almoner/api.ErrOver", laid_almoner_api_ErrOver), ("almoner/api.ErrBytes", laid_almoner_api_ErrBytes), ("almoner/api.ErrSum", laid_almoner_api_ErrSum), ("almoner/api.ErrGone", laid_almoner_api_ErrGone), ("almoner/api.ErrThere", laid_almoner_api_ErrThere), ("almoner/api.ErrFull", laid_almoner_api_ErrFull), ("almoner/api.ErrLarge", laid_almoner_api_ErrLarge), ("almoner/api.ErrLost", laid_almoner_api_ErrLost), ("almoner/api.ErrServer", laid_almoner_api_ErrServer), ("almoner/api.ErrTask", laid_almoner_api_ErrTask), ("almoner/api.ErrTight", laid_almoner_api_ErrTight), ("almoner/api.ErrDeep", laid_almoner_api_ErrDeep), ("almoner/api.ErrBusy", laid_almoner_api_ErrBusy), ("almoner/api.ErrBallot", laid_almoner_api_ErrBallot), ("almoner/api.ErrState", laid_almoner_api_ErrState)] }
def WireSumsSaid : Prop := wireSumsRow.holds Tryd.pinned (OpenSpec.ofChange wireSumsSpec)

/-- ITS FALSE NEIGHBOUR: 'it returns false'. Refute it at one input. -/
def wireSumsWrong : ChangeSpec := { name := "wireSums", fn := fun _ => fun
  | [d] => { results := [.lit (.bool false)], args := [d] }
  | _ => none }
def WireSumsWrongFalsely : Prop := wireSumsRow.holds Tryd.pinned (OpenSpec.ofChange wireSumsWrong)

/-- 'almonerlaw03.WireSlips': WHATEVER THE INPUT: true; the input reads as it did. -/
def wireSlipsSpec : ChangeSpec := { name := "wireSlips", fn := fun _ => fun
  | [d1, d2, d3] => { results := [.lit (.bool true)], args := [d1, d2, d3] }
  | _ => none }
def wireSlipsRow : OpenClaim := { program := "ytelnnlfbfbbnaaadoor", sum := "7df246bb5333c13899769072601f18888679ab02f42d1d68f1e5d6ee4dfca150", func := "almoner/almonerlaw03.WireSlips", spec := "wireSlips", named := ["almoner/api.ErrSum", "almoner/api.ErrNumber", "almoner/api.ErrBytes"], apart := false, laid := [("almoner/api.ErrNumber", laid_almoner_api_ErrNumber), ("almoner/api.ErrBytes", laid_almoner_api_ErrBytes), ("almoner/api.ErrSum", laid_almoner_api_ErrSum)] }
def WireSlipsSaid : Prop := wireSlipsRow.holds Tryd.pinned (OpenSpec.ofChange wireSlipsSpec)

/-- ITS FALSE NEIGHBOUR: 'it returns false'. Refute it at one input. -/
def wireSlipsWrong : ChangeSpec := { name := "wireSlips", fn := fun _ => fun
  | [d1, d2, d3] => { results := [.lit (.bool false)], args := [d1, d2, d3] }
  | _ => none }
def WireSlipsWrongFalsely : Prop := wireSlipsRow.holds Tryd.pinned (OpenSpec.ofChange wireSlipsWrong)

/- THE SECOND FORM. 'bulk': how many values and letters a reading holds, each counted each time it is reached (what is shared counts as often as it is met; a slice's spare places count too). A statement '..UptoSaid' is the law's where the arguments, and the package variables that the reading takes, are together of bulk at most 1048576: NARROWER than '..Said'. Prove '..Said' where nothing that the law and all that it calls make is longer than what came in: it says more and counts as full. Else prove '..UptoSaid'. A law counts once. -/
mutual
def uptoBulk {H : Type} : DataW H → Nat
  | .lit (.string bytes) => bytes.length + 1
  | .lit _ => 1
  | .nil => 1
  | .ptr d => uptoBulk d + 1
  | .slice elems spare => uptoBulkAll elems + uptoBulkAll spare + 1
  | .agg parts => uptoBulkAll parts + 1
  | .iface _ d => uptoBulk d + 1
  | .map entries => uptoBulkEntries entries + 1
  | .held _ => 1
def uptoBulkAll {H : Type} : List (DataW H) → Nat
  | [] => 0
  | d :: r => uptoBulk d + uptoBulkAll r
def uptoBulkEntries {H : Type} : List (Lit × DataW H) → Nat
  | [] => 0
  | x :: r => uptoBulkEntry x + uptoBulkEntries r
def uptoBulkEntry {H : Type} : Lit × DataW H → Nat
  | (.string bytes, d) => bytes.length + uptoBulk d + 1
  | (_, d) => uptoBulk d + 1
 end
def uptoSmall : (H : Type) → List (DataW H) → Bool := fun _ ds => decide (uptoBulkAll ds ≤ 1048576)
def OpenSpec.upto (s : _root_.Go.ChangeSpec) : _root_.Go.OpenSpec := { _root_.Go.OpenSpec.ofChange s with cond := some uptoSmall }

/-- 'almonerlaw03.WireNumbers', WHERE WHAT IT READS IS OF BULK AT MOST 1048576: true; the input reads as it did. -/
def wireNumbersUptoRow : OpenClaim := { program := "ytelnnlfbfbbnaaadoor", sum := "7df246bb5333c13899769072601f18888679ab02f42d1d68f1e5d6ee4dfca150", func := "almoner/almonerlaw03.WireNumbers", spec := "wireNumbers", named := ["almoner/api.ErrNumber"], apart := false, laid := [("almoner/api.ErrNumber", laid_almoner_api_ErrNumber)], narrowed := true }
def WireNumbersUptoSaid : Prop := wireNumbersUptoRow.holds Tryd.pinned (OpenSpec.upto wireNumbersSpec)

/-- 'almonerlaw03.WireWrites', WHERE WHAT IT READS IS OF BULK AT MOST 1048576: true; the input reads as it did. -/
def wireWritesUptoRow : OpenClaim := { program := "ytelnnlfbfbbnaaadoor", sum := "7df246bb5333c13899769072601f18888679ab02f42d1d68f1e5d6ee4dfca150", func := "almoner/almonerlaw03.WireWrites", spec := "wireWrites", named := ["almoner/api.ErrNumber"], apart := false, laid := [("almoner/api.ErrNumber", laid_almoner_api_ErrNumber)], narrowed := true }
def WireWritesUptoSaid : Prop := wireWritesUptoRow.holds Tryd.pinned (OpenSpec.upto wireWritesSpec)

/-- 'almonerlaw03.WireSpoilt', WHERE WHAT IT READS IS OF BULK AT MOST 1048576: true; the input reads as it did. -/
def wireSpoiltUptoRow : OpenClaim := { program := "ytelnnlfbfbbnaaadoor", sum := "7df246bb5333c13899769072601f18888679ab02f42d1d68f1e5d6ee4dfca150", func := "almoner/almonerlaw03.WireSpoilt", spec := "wireSpoilt", named := ["almoner/api.ErrNumber"], apart := false, laid := [("almoner/api.ErrNumber", laid_almoner_api_ErrNumber)], narrowed := true }
def WireSpoiltUptoSaid : Prop := wireSpoiltUptoRow.holds Tryd.pinned (OpenSpec.upto wireSpoiltSpec)

/-- 'almonerlaw03.WireReads', WHERE WHAT IT READS IS OF BULK AT MOST 1048576: true; the input reads as it did. -/
def wireReadsUptoRow : OpenClaim := { program := "ytelnnlfbfbbnaaadoor", sum := "7df246bb5333c13899769072601f18888679ab02f42d1d68f1e5d6ee4dfca150", func := "almoner/almonerlaw03.WireReads", spec := "wireReads", named := ["almoner/api.ErrBytes", "almoner/api.ErrNumber", "almoner/api.ErrOver", "almoner/api.ErrSum", "almoner/api.ErrGone", "almoner/api.ErrThere", "almoner/api.ErrFull", "almoner/api.ErrLarge", "almoner/api.ErrLost", "almoner/api.ErrServer", "almoner/api.ErrTask", "almoner/api.ErrTight", "almoner/api.ErrDeep", "almoner/api.ErrBusy", "almoner/api.ErrBallot", "almoner/api.ErrState"], apart := false, laid := [("almoner/api.ErrNumber", laid_almoner_api_ErrNumber), ("almoner/api.ErrOver", laid_almoner_api_ErrOver), ("almoner/api.ErrBytes", laid_almoner_api_ErrBytes), ("almoner/api.ErrSum", laid_almoner_api_ErrSum), ("almoner/api.ErrGone", laid_almoner_api_ErrGone), ("almoner/api.ErrThere", laid_almoner_api_ErrThere), ("almoner/api.ErrFull", laid_almoner_api_ErrFull), ("almoner/api.ErrLarge", laid_almoner_api_ErrLarge), ("almoner/api.ErrLost", laid_almoner_api_ErrLost), ("almoner/api.ErrServer", laid_almoner_api_ErrServer), ("almoner/api.ErrTask", laid_almoner_api_ErrTask), ("almoner/api.ErrTight", laid_almoner_api_ErrTight), ("almoner/api.ErrDeep", laid_almoner_api_ErrDeep), ("almoner/api.ErrBusy", laid_almoner_api_ErrBusy), ("almoner/api.ErrBallot", laid_almoner_api_ErrBallot), ("almoner/api.ErrState", laid_almoner_api_ErrState)], narrowed := true }
def WireReadsUptoSaid : Prop := wireReadsUptoRow.holds Tryd.pinned (OpenSpec.upto wireReadsSpec)

/-- 'almonerlaw03.WireBack', WHERE WHAT IT READS IS OF BULK AT MOST 1048576: true; the input reads as it did. -/
def wireBackUptoRow : OpenClaim := { program := "ytelnnlfbfbbnaaadoor", sum := "7df246bb5333c13899769072601f18888679ab02f42d1d68f1e5d6ee4dfca150", func := "almoner/almonerlaw03.WireBack", spec := "wireBack", named := ["almoner/api.ErrNumber", "almoner/api.ErrBytes"], apart := false, laid := [("almoner/api.ErrNumber", laid_almoner_api_ErrNumber), ("almoner/api.ErrBytes", laid_almoner_api_ErrBytes)], narrowed := true }
def WireBackUptoSaid : Prop := wireBackUptoRow.holds Tryd.pinned (OpenSpec.upto wireBackSpec)

/-- 'almonerlaw03.WireSums', WHERE WHAT IT READS IS OF BULK AT MOST 1048576: true; the input reads as it did. -/
def wireSumsUptoRow : OpenClaim := { program := "ytelnnlfbfbbnaaadoor", sum := "7df246bb5333c13899769072601f18888679ab02f42d1d68f1e5d6ee4dfca150", func := "almoner/almonerlaw03.WireSums", spec := "wireSums", named := ["almoner/api.ErrNumber", "almoner/api.ErrBytes", "almoner/api.ErrSum", "almoner/api.ErrOver", "almoner/api.ErrGone", "almoner/api.ErrThere", "almoner/api.ErrFull", "almoner/api.ErrLarge", "almoner/api.ErrLost", "almoner/api.ErrServer", "almoner/api.ErrTask", "almoner/api.ErrTight", "almoner/api.ErrDeep", "almoner/api.ErrBusy", "almoner/api.ErrBallot", "almoner/api.ErrState"], apart := false, laid := [("almoner/api.ErrNumber", laid_almoner_api_ErrNumber), ("almoner/api.ErrOver", laid_almoner_api_ErrOver), ("almoner/api.ErrBytes", laid_almoner_api_ErrBytes), ("almoner/api.ErrSum", laid_almoner_api_ErrSum), ("almoner/api.ErrGone", laid_almoner_api_ErrGone), ("almoner/api.ErrThere", laid_almoner_api_ErrThere), ("almoner/api.ErrFull", laid_almoner_api_ErrFull), ("almoner/api.ErrLarge", laid_almoner_api_ErrLarge), ("almoner/api.ErrLost", laid_almoner_api_ErrLost), ("almoner/api.ErrServer", laid_almoner_api_ErrServer), ("almoner/api.ErrTask", laid_almoner_api_ErrTask), ("almoner/api.ErrTight", laid_almoner_api_ErrTight), ("almoner/api.ErrDeep", laid_almoner_api_ErrDeep), ("almoner/api.ErrBusy", laid_almoner_api_ErrBusy), ("almoner/api.ErrBallot", laid_almoner_api_ErrBallot), ("almoner/api.ErrState", laid_almoner_api_ErrState)], narrowed := true }
def WireSumsUptoSaid : Prop := wireSumsUptoRow.holds Tryd.pinned (OpenSpec.upto wireSumsSpec)

/-- 'almonerlaw03.WireSlips', WHERE WHAT IT READS IS OF BULK AT MOST 1048576: true; the input reads as it did. -/
def wireSlipsUptoRow : OpenClaim := { program := "ytelnnlfbfbbnaaadoor", sum := "7df246bb5333c13899769072601f18888679ab02f42d1d68f1e5d6ee4dfca150", func := "almoner/almonerlaw03.WireSlips", spec := "wireSlips", named := ["almoner/api.ErrSum", "almoner/api.ErrNumber", "almoner/api.ErrBytes"], apart := false, laid := [("almoner/api.ErrNumber", laid_almoner_api_ErrNumber), ("almoner/api.ErrBytes", laid_almoner_api_ErrBytes), ("almoner/api.ErrSum", laid_almoner_api_ErrSum)], narrowed := true }
def WireSlipsUptoSaid : Prop := wireSlipsUptoRow.holds Tryd.pinned (OpenSpec.upto wireSlipsSpec)

end Rows
end Go.Proofs.YtelnnlfbfbbnaaaDoor
