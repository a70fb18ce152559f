/-
  NARROWER THAN 'FOR EVERY INPUT', by the rows' own cells (each row's printed sentence says how): CrcFrames: laid · CrcSlips: laid · CrcReads: laid · CrcStreams: laid.
  DERIVED. THE GIVEN ROWS OF THIS SEAT. 4 by the template 'for every input the law returns true; each argument reads behind the call as it read before'; 0 by the template 'total and deterministic' (their statements: YtbinimejjenmlaaDoorTotals.lean).
  GIVEN WITH THE SEED: the statements are not yours to turn. If you find one false, say at which input.
  Laid BY PROGRAM, IN A SANDBOX (cutbox-rows.mjs): the forced cells as the released guide's own fill.sh prints them over the translation e363a7a9e72d0ed9… (all of the seat's roots in one cut). By AI agents, Wed Nov 11 2026. No macro, syntax, notation, axiom, sorry.
-/
import Derived.Test.YtbinimejjenmlaaDoorChecked
import GoSem.Claim
import GoSem.ClaimJoined
import GoSem.ClaimMapViews
import Derived.JoinedTies
import Derived.KernelRfl
namespace Go.Proofs.YtbinimejjenmlaaDoor
/- THE CELL 'sum', in the pinned program and in every row, IS THE sha256 OF THE DUMP (.gsa) THAT YtbinimejjenmlaaDoorProg.lean LOADS. Nothing in Lean hashes anything: it is a label: what it is worth is what the hold of that sum in a sandbox is worth. -/
noncomputable def Tryd.pinned : Pinned := { name := "ytbinimejjenmlaadoor", sum := "e363a7a9e72d0ed93be9cb143b9b1c9cd1231c85bb672aa8c342df1a2471893e", checked := Tryd.checked }
namespace Rows
def none {H : Type} : Left H := { results := [], args := [] }

/- WHAT THE LISTED PACKAGE-LEVEL VARIABLES READ AS WHEN THE CALL BEGINS. Each datum BY PROGRAM (the guide's laid-datum.mjs) off the statement by which the dump's own 'gosem.cut.vars' lays the variable. In a bare row this is a premise. The card (YtbinimejjenmlaaDoorCards.lean) ties it to the program's text. -/
def laid_almoner_api_ErrNumber {H : Type} : DataW H := .iface "*errors.errorString" (.ptr (.agg [.lit (.string [97, 108, 109, 111, 110, 101, 114, 58, 32, 110, 117, 109, 98, 101, 114])]))
def laid_almoner_api_ErrOver {H : Type} : DataW H := .iface "*errors.errorString" (.ptr (.agg [.lit (.string [97, 108, 109, 111, 110, 101, 114, 58, 32, 111, 118, 101, 114])]))
def laid_almoner_api_ErrBytes {H : Type} : DataW H := .iface "*errors.errorString" (.ptr (.agg [.lit (.string [97, 108, 109, 111, 110, 101, 114, 58, 32, 98, 121, 116, 101, 115])]))
def laid_almoner_api_ErrSum {H : Type} : DataW H := .iface "*errors.errorString" (.ptr (.agg [.lit (.string [97, 108, 109, 111, 110, 101, 114, 58, 32, 115, 117, 109])]))
def laid_almoner_api_ErrGone {H : Type} : DataW H := .iface "*errors.errorString" (.ptr (.agg [.lit (.string [97, 108, 109, 111, 110, 101, 114, 58, 32, 103, 111, 110, 101])]))
def laid_almoner_api_ErrThere {H : Type} : DataW H := .iface "*errors.errorString" (.ptr (.agg [.lit (.string [97, 108, 109, 111, 110, 101, 114, 58, 32, 116, 104, 101, 114, 101])]))
def laid_almoner_api_ErrFull {H : Type} : DataW H := .iface "*errors.errorString" (.ptr (.agg [.lit (.string [97, 108, 109, 111, 110, 101, 114, 58, 32, 102, 117, 108, 108])]))
def laid_almoner_api_ErrLarge {H : Type} : DataW H := .iface "*errors.errorString" (.ptr (.agg [.lit (.string [97, 108, 109, 111, 110, 101, 114, 58, 32, 108, 97, 114, 103, 101])]))
def laid_almoner_api_ErrLost {H : Type} : DataW H := .iface "*errors.errorString" (.ptr (.agg [.lit (.string [97, 108, 109, 111, 110, 101, 114, 58, 32, 108, 111, 115, 116])]))
def laid_almoner_api_ErrServer {H : Type} : DataW H := .iface "*errors.errorString" (.ptr (.agg [.lit (.string [97, 108, 109, 111, 110, 101, 114, 58, 32, 115, 101, 114, 118, 101, 114])]))
def laid_almoner_api_ErrTask {H : Type} : DataW H := .iface "*errors.errorString" (.ptr (.agg [.lit (.string [97, 108, 109, 111, 110, 101, 114, 58, 32, 116, 97, 115, 107])]))
def laid_almoner_api_ErrTight {H : Type} : DataW H := .iface "*errors.errorString" (.ptr (.agg [.lit (.string [97, 108, 109, 111, 110, 101, 114, 58, 32, 116, 105, 103, 104, 116])]))
def laid_almoner_api_ErrDeep {H : Type} : DataW H := .iface "*errors.errorString" (.ptr (.agg [.lit (.string [97, 108, 109, 111, 110, 101, 114, 58, 32, 100, 101, 101, 112])]))
def laid_almoner_api_ErrBusy {H : Type} : DataW H := .iface "*errors.errorString" (.ptr (.agg [.lit (.string [97, 108, 109, 111, 110, 101, 114, 58, 32, 98, 117, 115, 121])]))
def laid_almoner_api_ErrBallot {H : Type} : DataW H := .iface "*errors.errorString" (.ptr (.agg [.lit (.string [97, 108, 109, 111, 110, 101, 114, 58, 32, 98, 97, 108, 108, 111, 116])]))
def laid_almoner_api_ErrState {H : Type} : DataW H := .iface "*errors.errorString" (.ptr (.agg [.lit (.string [97, 108, 109, 111, 110, 101, 114, 58, 32, 115, 116, 97, 116, 101])]))

/-- 'almonerlaw04.CrcFrames': WHATEVER THE INPUT: true; the input reads as it did. -/
def crcFramesSpec : ChangeSpec := { name := "crcFrames", fn := fun _ => fun
  | [d1, d2] => { results := [.lit (.bool true)], args := [d1, d2] }
  | _ => none }
def crcFramesRow : OpenClaim := { program := "ytbinimejjenmlaadoor", sum := "e363a7a9e72d0ed93be9cb143b9b1c9cd1231c85bb672aa8c342df1a2471893e", func := "almoner/almonerlaw04.CrcFrames", spec := "crcFrames", named := ["almoner/api.ErrLarge", "almoner/api.ErrNumber", "almoner/api.ErrOver", "almoner/api.ErrBytes", "almoner/api.ErrSum", "almoner/api.ErrGone", "almoner/api.ErrThere", "almoner/api.ErrFull", "almoner/api.ErrLost", "almoner/api.ErrServer", "almoner/api.ErrTask", "almoner/api.ErrTight", "almoner/api.ErrDeep", "almoner/api.ErrBusy", "almoner/api.ErrBallot", "almoner/api.ErrState"], apart := false, laid := [("almoner/api.ErrNumber", laid_almoner_api_ErrNumber), ("almoner/api.ErrOver", laid_almoner_api_ErrOver), ("almoner/api.ErrBytes", laid_almoner_api_ErrBytes), ("almoner/api.ErrSum", laid_almoner_api_ErrSum), ("almoner/api.ErrGone", laid_almoner_api_ErrGone), ("almoner/api.ErrThere", laid_almoner_api_ErrThere), ("almoner/api.ErrFull", laid_almoner_api_ErrFull), ("almoner/api.ErrLarge", laid_almoner_api_ErrLarge), ("almoner/api.ErrLost", laid_almoner_api_ErrLost), ("almoner/api.ErrServer", laid_almoner_api_ErrServer), ("almoner/api.ErrTask", laid_almoner_api_ErrTask), ("almoner/api.ErrTight", laid_almoner_api_ErrTight), ("almoner/api.ErrDeep", laid_almoner_api_ErrDeep), ("almoner/api.ErrBusy", laid_almoner_api_ErrBusy), ("almoner/api.ErrBallot", laid_almoner_api_ErrBallot), ("almoner/api.ErrState", laid_almoner_api_ErrState)] }
def CrcFramesSaid : Prop := crcFramesRow.holds Tryd.pinned (OpenSpec.ofChange crcFramesSpec)

/-- ITS FALSE NEIGHBOUR: 'it returns false'. Refute it at one input. -/
def crcFramesWrong : ChangeSpec := { name := "crcFrames", fn := fun _ => fun
  | [d1, d2] => { results := [.lit (.bool false)], args := [d1, d2] }
  | _ => none }
def CrcFramesWrongFalsely : Prop := crcFramesRow.holds Tryd.pinned (OpenSpec.ofChange crcFramesWrong)

/-- 'almonerlaw04.CrcSlips': WHATEVER THE INPUT: true; the input reads as it did. -/
def crcSlipsSpec : ChangeSpec := { name := "crcSlips", fn := fun _ => fun
  | [d1, d2] => { results := [.lit (.bool true)], args := [d1, d2] }
  | _ => none }
def crcSlipsRow : OpenClaim := { program := "ytbinimejjenmlaadoor", sum := "e363a7a9e72d0ed93be9cb143b9b1c9cd1231c85bb672aa8c342df1a2471893e", func := "almoner/almonerlaw04.CrcSlips", spec := "crcSlips", named := ["almoner/api.ErrLarge", "almoner/api.ErrSum", "almoner/api.ErrNumber", "almoner/api.ErrOver", "almoner/api.ErrBytes", "almoner/api.ErrGone", "almoner/api.ErrThere", "almoner/api.ErrFull", "almoner/api.ErrLost", "almoner/api.ErrServer", "almoner/api.ErrTask", "almoner/api.ErrTight", "almoner/api.ErrDeep", "almoner/api.ErrBusy", "almoner/api.ErrBallot", "almoner/api.ErrState"], apart := false, laid := [("almoner/api.ErrNumber", laid_almoner_api_ErrNumber), ("almoner/api.ErrOver", laid_almoner_api_ErrOver), ("almoner/api.ErrBytes", laid_almoner_api_ErrBytes), ("almoner/api.ErrSum", laid_almoner_api_ErrSum), ("almoner/api.ErrGone", laid_almoner_api_ErrGone), ("almoner/api.ErrThere", laid_almoner_api_ErrThere), ("almoner/api.ErrFull", laid_almoner_api_ErrFull), ("almoner/api.ErrLarge", laid_almoner_api_ErrLarge), ("almoner/api.ErrLost", laid_almoner_api_ErrLost), ("almoner/api.ErrServer", laid_almoner_api_ErrServer), ("almoner/api.ErrTask", laid_almoner_api_ErrTask), ("almoner/api.ErrTight", laid_almoner_api_ErrTight), ("almoner/api.ErrDeep", laid_almoner_api_ErrDeep), ("almoner/api.ErrBusy", laid_almoner_api_ErrBusy), ("almoner/api.ErrBallot", laid_almoner_api_ErrBallot), ("almoner/api.ErrState", laid_almoner_api_ErrState)] }
def CrcSlipsSaid : Prop := crcSlipsRow.holds Tryd.pinned (OpenSpec.ofChange crcSlipsSpec)

/-- ITS FALSE NEIGHBOUR: 'it returns false'. Refute it at one input. -/
def crcSlipsWrong : ChangeSpec := { name := "crcSlips", fn := fun _ => fun
  | [d1, d2] => { results := [.lit (.bool false)], args := [d1, d2] }
  | _ => none }
def CrcSlipsWrongFalsely : Prop := crcSlipsRow.holds Tryd.pinned (OpenSpec.ofChange crcSlipsWrong)

/-- 'almonerlaw04.CrcReads': WHATEVER THE INPUT: true; the input reads as it did. -/
def crcReadsSpec : ChangeSpec := { name := "crcReads", fn := fun _ => fun
  | [d] => { results := [.lit (.bool true)], args := [d] }
  | _ => none }
def crcReadsRow : OpenClaim := { program := "ytbinimejjenmlaadoor", sum := "e363a7a9e72d0ed93be9cb143b9b1c9cd1231c85bb672aa8c342df1a2471893e", func := "almoner/almonerlaw04.CrcReads", spec := "crcReads", named := ["almoner/api.ErrLarge", "almoner/api.ErrSum", "almoner/api.ErrNumber", "almoner/api.ErrOver", "almoner/api.ErrBytes", "almoner/api.ErrGone", "almoner/api.ErrThere", "almoner/api.ErrFull", "almoner/api.ErrLost", "almoner/api.ErrServer", "almoner/api.ErrTask", "almoner/api.ErrTight", "almoner/api.ErrDeep", "almoner/api.ErrBusy", "almoner/api.ErrBallot", "almoner/api.ErrState"], apart := false, laid := [("almoner/api.ErrNumber", laid_almoner_api_ErrNumber), ("almoner/api.ErrOver", laid_almoner_api_ErrOver), ("almoner/api.ErrBytes", laid_almoner_api_ErrBytes), ("almoner/api.ErrSum", laid_almoner_api_ErrSum), ("almoner/api.ErrGone", laid_almoner_api_ErrGone), ("almoner/api.ErrThere", laid_almoner_api_ErrThere), ("almoner/api.ErrFull", laid_almoner_api_ErrFull), ("almoner/api.ErrLarge", laid_almoner_api_ErrLarge), ("almoner/api.ErrLost", laid_almoner_api_ErrLost), ("almoner/api.ErrServer", laid_almoner_api_ErrServer), ("almoner/api.ErrTask", laid_almoner_api_ErrTask), ("almoner/api.ErrTight", laid_almoner_api_ErrTight), ("almoner/api.ErrDeep", laid_almoner_api_ErrDeep), ("almoner/api.ErrBusy", laid_almoner_api_ErrBusy), ("almoner/api.ErrBallot", laid_almoner_api_ErrBallot), ("almoner/api.ErrState", laid_almoner_api_ErrState)] }
def CrcReadsSaid : Prop := crcReadsRow.holds Tryd.pinned (OpenSpec.ofChange crcReadsSpec)

/-- ITS FALSE NEIGHBOUR: 'it returns false'. Refute it at one input. -/
def crcReadsWrong : ChangeSpec := { name := "crcReads", fn := fun _ => fun
  | [d] => { results := [.lit (.bool false)], args := [d] }
  | _ => none }
def CrcReadsWrongFalsely : Prop := crcReadsRow.holds Tryd.pinned (OpenSpec.ofChange crcReadsWrong)

/-- 'almonerlaw04.CrcStreams': WHATEVER THE INPUT: true; the input reads as it did. -/
def crcStreamsSpec : ChangeSpec := { name := "crcStreams", fn := fun _ => fun
  | [d1, d2] => { results := [.lit (.bool true)], args := [d1, d2] }
  | _ => none }
def crcStreamsRow : OpenClaim := { program := "ytbinimejjenmlaadoor", sum := "e363a7a9e72d0ed93be9cb143b9b1c9cd1231c85bb672aa8c342df1a2471893e", func := "almoner/almonerlaw04.CrcStreams", spec := "crcStreams", named := ["almoner/api.ErrLarge", "almoner/api.ErrSum"], apart := false, laid := [("almoner/api.ErrSum", laid_almoner_api_ErrSum), ("almoner/api.ErrLarge", laid_almoner_api_ErrLarge)] }
def CrcStreamsSaid : Prop := crcStreamsRow.holds Tryd.pinned (OpenSpec.ofChange crcStreamsSpec)

/-- ITS FALSE NEIGHBOUR: 'it returns false'. Refute it at one input. -/
def crcStreamsWrong : ChangeSpec := { name := "crcStreams", fn := fun _ => fun
  | [d1, d2] => { results := [.lit (.bool false)], args := [d1, d2] }
  | _ => none }
def CrcStreamsWrongFalsely : Prop := crcStreamsRow.holds Tryd.pinned (OpenSpec.ofChange crcStreamsWrong)

/- THE SECOND FORM. 'bulk': how many values and letters a reading holds, each counted each time it is reached (what is shared counts as often as it is met; a slice's spare places count too). A statement '..UptoSaid' is the law's where the arguments, and the package variables that the reading takes, are together of bulk at most 1048576: NARROWER than '..Said'. Prove '..Said' where nothing that the law and all that it calls make is longer than what came in: it says more and counts as full. Else prove '..UptoSaid'. A law counts once. -/
mutual
def uptoBulk {H : Type} : DataW H → Nat
  | .lit (.string bytes) => bytes.length + 1
  | .lit _ => 1
  | .nil => 1
  | .ptr d => uptoBulk d + 1
  | .slice elems spare => uptoBulkAll elems + uptoBulkAll spare + 1
  | .agg parts => uptoBulkAll parts + 1
  | .iface _ d => uptoBulk d + 1
  | .map entries => uptoBulkEntries entries + 1
  | .held _ => 1
def uptoBulkAll {H : Type} : List (DataW H) → Nat
  | [] => 0
  | d :: r => uptoBulk d + uptoBulkAll r
def uptoBulkEntries {H : Type} : List (Lit × DataW H) → Nat
  | [] => 0
  | x :: r => uptoBulkEntry x + uptoBulkEntries r
def uptoBulkEntry {H : Type} : Lit × DataW H → Nat
  | (.string bytes, d) => bytes.length + uptoBulk d + 1
  | (_, d) => uptoBulk d + 1
 end
def uptoSmall : (H : Type) → List (DataW H) → Bool := fun _ ds => decide (uptoBulkAll ds ≤ 1048576)
def OpenSpec.upto (s : _root_.Go.ChangeSpec) : _root_.Go.OpenSpec := { _root_.Go.OpenSpec.ofChange s with cond := some uptoSmall }

/-- 'almonerlaw04.CrcFrames', WHERE WHAT IT READS IS OF BULK AT MOST 1048576: true; the input reads as it did. -/
def crcFramesUptoRow : OpenClaim := { program := "ytbinimejjenmlaadoor", sum := "e363a7a9e72d0ed93be9cb143b9b1c9cd1231c85bb672aa8c342df1a2471893e", func := "almoner/almonerlaw04.CrcFrames", spec := "crcFrames", named := ["almoner/api.ErrLarge", "almoner/api.ErrNumber", "almoner/api.ErrOver", "almoner/api.ErrBytes", "almoner/api.ErrSum", "almoner/api.ErrGone", "almoner/api.ErrThere", "almoner/api.ErrFull", "almoner/api.ErrLost", "almoner/api.ErrServer", "almoner/api.ErrTask", "almoner/api.ErrTight", "almoner/api.ErrDeep", "almoner/api.ErrBusy", "almoner/api.ErrBallot", "almoner/api.ErrState"], apart := false, laid := [("almoner/api.ErrNumber", laid_almoner_api_ErrNumber), ("almoner/api.ErrOver", laid_almoner_api_ErrOver), ("almoner/api.ErrBytes", laid_almoner_api_ErrBytes), ("almoner/api.ErrSum", laid_almoner_api_ErrSum), ("almoner/api.ErrGone", laid_almoner_api_ErrGone), ("almoner/api.ErrThere", laid_almoner_api_ErrThere), ("almoner/api.ErrFull", laid_almoner_api_ErrFull), ("almoner/api.ErrLarge", laid_almoner_api_ErrLarge), ("almoner/api.ErrLost", laid_almoner_api_ErrLost), ("almoner/api.ErrServer", laid_almoner_api_ErrServer), ("almoner/api.ErrTask", laid_almoner_api_ErrTask), ("almoner/api.ErrTight", laid_almoner_api_ErrTight), ("almoner/api.ErrDeep", laid_almoner_api_ErrDeep), ("almoner/api.ErrBusy", laid_almoner_api_ErrBusy), ("almoner/api.ErrBallot", laid_almoner_api_ErrBallot), ("almoner/api.ErrState", laid_almoner_api_ErrState)], narrowed := true }
def CrcFramesUptoSaid : Prop := crcFramesUptoRow.holds Tryd.pinned (OpenSpec.upto crcFramesSpec)

/-- 'almonerlaw04.CrcSlips', WHERE WHAT IT READS IS OF BULK AT MOST 1048576: true; the input reads as it did. -/
def crcSlipsUptoRow : OpenClaim := { program := "ytbinimejjenmlaadoor", sum := "e363a7a9e72d0ed93be9cb143b9b1c9cd1231c85bb672aa8c342df1a2471893e", func := "almoner/almonerlaw04.CrcSlips", spec := "crcSlips", named := ["almoner/api.ErrLarge", "almoner/api.ErrSum", "almoner/api.ErrNumber", "almoner/api.ErrOver", "almoner/api.ErrBytes", "almoner/api.ErrGone", "almoner/api.ErrThere", "almoner/api.ErrFull", "almoner/api.ErrLost", "almoner/api.ErrServer", "almoner/api.ErrTask", "almoner/api.ErrTight", "almoner/api.ErrDeep", "almoner/api.ErrBusy", "almoner/api.ErrBallot", "almoner/api.ErrState"], apart := false, laid := [("almoner/api.ErrNumber", laid_almoner_api_ErrNumber), ("almoner/api.ErrOver", laid_almoner_api_ErrOver), ("almoner/api.ErrBytes", laid_almoner_api_ErrBytes), ("almoner/api.ErrSum", laid_almoner_api_ErrSum), ("almoner/api.ErrGone", laid_almoner_api_ErrGone), ("almoner/api.ErrThere", laid_almoner_api_ErrThere), ("almoner/api.ErrFull", laid_almoner_api_ErrFull), ("almoner/api.ErrLarge", laid_almoner_api_ErrLarge), ("almoner/api.ErrLost", laid_almoner_api_ErrLost), ("almoner/api.ErrServer", laid_almoner_api_ErrServer), ("almoner/api.ErrTask", laid_almoner_api_ErrTask), ("almoner/api.ErrTight", laid_almoner_api_ErrTight), ("almoner/api.ErrDeep", laid_almoner_api_ErrDeep), ("almoner/api.ErrBusy", laid_almoner_api_ErrBusy), ("almoner/api.ErrBallot", laid_almoner_api_ErrBallot), ("almoner/api.ErrState", laid_almoner_api_ErrState)], narrowed := true }
def CrcSlipsUptoSaid : Prop := crcSlipsUptoRow.holds Tryd.pinned (OpenSpec.upto crcSlipsSpec)

/-- 'almonerlaw04.CrcReads', WHERE WHAT IT READS IS OF BULK AT MOST 1048576: true; the input reads as it did. -/
def crcReadsUptoRow : OpenClaim := { program := "ytbinimejjenmlaadoor", sum := "e363a7a9e72d0ed93be9cb143b9b1c9cd1231c85bb672aa8c342df1a2471893e", func := "almoner/almonerlaw04.CrcReads", spec := "crcReads", named := ["almoner/api.ErrLarge", "almoner/api.ErrSum", "almoner/api.ErrNumber", "almoner/api.ErrOver", "almoner/api.ErrBytes", "almoner/api.ErrGone", "almoner/api.ErrThere", "almoner/api.ErrFull", "almoner/api.ErrLost", "almoner/api.ErrServer", "almoner/api.ErrTask", "almoner/api.ErrTight", "almoner/api.ErrDeep", "almoner/api.ErrBusy", "almoner/api.ErrBallot", "almoner/api.ErrState"], apart := false, laid := [("almoner/api.ErrNumber", laid_almoner_api_ErrNumber), ("almoner/api.ErrOver", laid_almoner_api_ErrOver), ("almoner/api.ErrBytes", laid_almoner_api_ErrBytes), ("almoner/api.ErrSum", laid_almoner_api_ErrSum), ("almoner/api.ErrGone", laid_almoner_api_ErrGone), ("almoner/api.ErrThere", laid_almoner_api_ErrThere), ("almoner/api.ErrFull", laid_almoner_api_ErrFull), ("almoner/api.ErrLarge", laid_almoner_api_ErrLarge), ("almoner/api.ErrLost", laid_almoner_api_ErrLost), ("almoner/api.ErrServer", laid_almoner_api_ErrServer), ("almoner/api.ErrTask", laid_almoner_api_ErrTask), ("almoner/api.ErrTight", laid_almoner_api_ErrTight), ("almoner/api.ErrDeep", laid_almoner_api_ErrDeep), ("almoner/api.ErrBusy", laid_almoner_api_ErrBusy), ("almoner/api.ErrBallot", laid_almoner_api_ErrBallot), ("almoner/api.ErrState", laid_almoner_api_ErrState)], narrowed := true }
def CrcReadsUptoSaid : Prop := crcReadsUptoRow.holds Tryd.pinned (OpenSpec.upto crcReadsSpec)

/-- 'almonerlaw04.CrcStreams', WHERE WHAT IT READS IS OF BULK AT MOST 1048576: true; the input reads as it did. -/
def crcStreamsUptoRow : OpenClaim := { program := "ytbinimejjenmlaadoor", sum := "e363a7a9e72d0ed93be9cb143b9b1c9cd1231c85bb672aa8c342df1a2471893e", func := "almoner/almonerlaw04.CrcStreams", spec := "crcStreams", named := ["almoner/api.ErrLarge", "almoner/api.ErrSum"], apart := false, laid := [("almoner/api.ErrSum", laid_almoner_api_ErrSum), ("almoner/api.ErrLarge", laid_almoner_api_ErrLarge)], narrowed := true }
def CrcStreamsUptoSaid : Prop := crcStreamsUptoRow.holds Tryd.pinned (OpenSpec.upto crcStreamsSpec)

end Rows
end Go.Proofs.YtbinimejjenmlaaDoor
