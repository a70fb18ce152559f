/-
  NARROWER THAN 'FOR EVERY INPUT', by the rows' own cells (each row's printed sentence says how): QueueSorts: laid · QueueLists: laid · QueueMerges: laid · QueueLeast: laid · QueuePlays: laid.
  DERIVED. THE GIVEN ROWS OF THIS SEAT. 5 by the template 'for every input the law returns true; each argument reads behind the call as it read before'; 0 by the template 'total and deterministic' (their statements: YtocjbllkgbjihaaDoorTotals.lean).
  GIVEN WITH THE SEED: the statements are not yours to turn. If you find one false, say at which input.
  Laid BY PROGRAM, IN A SANDBOX (cutbox-rows.mjs): the forced cells as the released guide's own fill.sh prints them over the translation 74681c3666576086… (all of the seat's roots in one cut). By AI agents, Wed Nov 11 2026. No macro, syntax, notation, axiom, sorry.
-/
import Derived.Test.YtocjbllkgbjihaaDoorChecked
import GoSem.Claim
import GoSem.ClaimJoined
import GoSem.ClaimMapViews
import Derived.JoinedTies
import Derived.KernelRfl
namespace Go.Proofs.YtocjbllkgbjihaaDoor
/- THE CELL 'sum', in the pinned program and in every row, IS THE sha256 OF THE DUMP (.gsa) THAT YtocjbllkgbjihaaDoorProg.lean LOADS. Nothing in Lean hashes anything: it is a label: what it is worth is what the hold of that sum in a sandbox is worth. -/
noncomputable def Tryd.pinned : Pinned := { name := "ytocjbllkgbjihaadoor", sum := "74681c3666576086f5904114d2b8e807786d6f7de99695ccc31e0e8ebd6d97f1", checked := Tryd.checked }
namespace Rows
def none {H : Type} : Left H := { results := [], args := [] }

/- WHAT THE LISTED PACKAGE-LEVEL VARIABLES READ AS WHEN THE CALL BEGINS. Each datum BY PROGRAM (the guide's laid-datum.mjs) off the statement by which the dump's own 'gosem.cut.vars' lays the variable. In a bare row this is a premise. The card (YtocjbllkgbjihaaDoorCards.lean) ties it to the program's text. -/
def laid_almoner_api_ErrGone {H : Type} : DataW H := .iface "*errors.errorString" (.ptr (.agg [.lit (.string [97, 108, 109, 111, 110, 101, 114, 58, 32, 103, 111, 110, 101])]))
def laid_almoner_api_ErrThere {H : Type} : DataW H := .iface "*errors.errorString" (.ptr (.agg [.lit (.string [97, 108, 109, 111, 110, 101, 114, 58, 32, 116, 104, 101, 114, 101])]))
def laid_almoner_api_ErrFull {H : Type} : DataW H := .iface "*errors.errorString" (.ptr (.agg [.lit (.string [97, 108, 109, 111, 110, 101, 114, 58, 32, 102, 117, 108, 108])]))
def laid_almoner_api_ErrNumber {H : Type} : DataW H := .iface "*errors.errorString" (.ptr (.agg [.lit (.string [97, 108, 109, 111, 110, 101, 114, 58, 32, 110, 117, 109, 98, 101, 114])]))
def laid_almoner_api_ErrOver {H : Type} : DataW H := .iface "*errors.errorString" (.ptr (.agg [.lit (.string [97, 108, 109, 111, 110, 101, 114, 58, 32, 111, 118, 101, 114])]))
def laid_almoner_api_ErrBytes {H : Type} : DataW H := .iface "*errors.errorString" (.ptr (.agg [.lit (.string [97, 108, 109, 111, 110, 101, 114, 58, 32, 98, 121, 116, 101, 115])]))
def laid_almoner_api_ErrSum {H : Type} : DataW H := .iface "*errors.errorString" (.ptr (.agg [.lit (.string [97, 108, 109, 111, 110, 101, 114, 58, 32, 115, 117, 109])]))
def laid_almoner_api_ErrLarge {H : Type} : DataW H := .iface "*errors.errorString" (.ptr (.agg [.lit (.string [97, 108, 109, 111, 110, 101, 114, 58, 32, 108, 97, 114, 103, 101])]))
def laid_almoner_api_ErrLost {H : Type} : DataW H := .iface "*errors.errorString" (.ptr (.agg [.lit (.string [97, 108, 109, 111, 110, 101, 114, 58, 32, 108, 111, 115, 116])]))
def laid_almoner_api_ErrServer {H : Type} : DataW H := .iface "*errors.errorString" (.ptr (.agg [.lit (.string [97, 108, 109, 111, 110, 101, 114, 58, 32, 115, 101, 114, 118, 101, 114])]))
def laid_almoner_api_ErrTask {H : Type} : DataW H := .iface "*errors.errorString" (.ptr (.agg [.lit (.string [97, 108, 109, 111, 110, 101, 114, 58, 32, 116, 97, 115, 107])]))
def laid_almoner_api_ErrTight {H : Type} : DataW H := .iface "*errors.errorString" (.ptr (.agg [.lit (.string [97, 108, 109, 111, 110, 101, 114, 58, 32, 116, 105, 103, 104, 116])]))
def laid_almoner_api_ErrDeep {H : Type} : DataW H := .iface "*errors.errorString" (.ptr (.agg [.lit (.string [97, 108, 109, 111, 110, 101, 114, 58, 32, 100, 101, 101, 112])]))
def laid_almoner_api_ErrBusy {H : Type} : DataW H := .iface "*errors.errorString" (.ptr (.agg [.lit (.string [97, 108, 109, 111, 110, 101, 114, 58, 32, 98, 117, 115, 121])]))
def laid_almoner_api_ErrBallot {H : Type} : DataW H := .iface "*errors.errorString" (.ptr (.agg [.lit (.string [97, 108, 109, 111, 110, 101, 114, 58, 32, 98, 97, 108, 108, 111, 116])]))
def laid_almoner_api_ErrState {H : Type} : DataW H := .iface "*errors.errorString" (.ptr (.agg [.lit (.string [97, 108, 109, 111, 110, 101, 114, 58, 32, 115, 116, 97, 116, 101])]))

/-- 'almonerlaw07.QueueSorts': WHATEVER THE INPUT: true; the input reads as it did. -/
def queueSortsSpec : ChangeSpec := { name := "queueSorts", fn := fun _ => fun
  | [d1, d2] => { results := [.lit (.bool true)], args := [d1, d2] }
  | _ => none }
def queueSortsRow : OpenClaim := { program := "ytocjbllkgbjihaadoor", sum := "74681c3666576086f5904114d2b8e807786d6f7de99695ccc31e0e8ebd6d97f1", func := "almoner/almonerlaw07.QueueSorts", spec := "queueSorts", unfollowed := true, recurses := true, named := ["almoner/api.ErrGone", "almoner/api.ErrThere", "almoner/api.ErrFull"], apart := false, laid := [("almoner/api.ErrGone", laid_almoner_api_ErrGone), ("almoner/api.ErrThere", laid_almoner_api_ErrThere), ("almoner/api.ErrFull", laid_almoner_api_ErrFull)] }
def QueueSortsSaid : Prop := queueSortsRow.holds Tryd.pinned (OpenSpec.ofChange queueSortsSpec)

/-- ITS FALSE NEIGHBOUR: 'it returns false'. Refute it at one input. -/
def queueSortsWrong : ChangeSpec := { name := "queueSorts", fn := fun _ => fun
  | [d1, d2] => { results := [.lit (.bool false)], args := [d1, d2] }
  | _ => none }
def QueueSortsWrongFalsely : Prop := queueSortsRow.holds Tryd.pinned (OpenSpec.ofChange queueSortsWrong)

/-- 'almonerlaw07.QueueLists': WHATEVER THE INPUT: true; the input reads as it did. -/
def queueListsSpec : ChangeSpec := { name := "queueLists", fn := fun _ => fun
  | [d1, d2, d3] => { results := [.lit (.bool true)], args := [d1, d2, d3] }
  | _ => none }
def queueListsRow : OpenClaim := { program := "ytocjbllkgbjihaadoor", sum := "74681c3666576086f5904114d2b8e807786d6f7de99695ccc31e0e8ebd6d97f1", func := "almoner/almonerlaw07.QueueLists", spec := "queueLists", unfollowed := true, recurses := true, named := ["almoner/api.ErrThere", "almoner/api.ErrFull", "almoner/api.ErrGone"], apart := false, laid := [("almoner/api.ErrGone", laid_almoner_api_ErrGone), ("almoner/api.ErrThere", laid_almoner_api_ErrThere), ("almoner/api.ErrFull", laid_almoner_api_ErrFull)] }
def QueueListsSaid : Prop := queueListsRow.holds Tryd.pinned (OpenSpec.ofChange queueListsSpec)

/-- ITS FALSE NEIGHBOUR: 'it returns false'. Refute it at one input. -/
def queueListsWrong : ChangeSpec := { name := "queueLists", fn := fun _ => fun
  | [d1, d2, d3] => { results := [.lit (.bool false)], args := [d1, d2, d3] }
  | _ => none }
def QueueListsWrongFalsely : Prop := queueListsRow.holds Tryd.pinned (OpenSpec.ofChange queueListsWrong)

/-- 'almonerlaw07.QueueMerges': WHATEVER THE INPUT: true; the input reads as it did. -/
def queueMergesSpec : ChangeSpec := { name := "queueMerges", fn := fun _ => fun
  | [d1, d2] => { results := [.lit (.bool true)], args := [d1, d2] }
  | _ => none }
def queueMergesRow : OpenClaim := { program := "ytocjbllkgbjihaadoor", sum := "74681c3666576086f5904114d2b8e807786d6f7de99695ccc31e0e8ebd6d97f1", func := "almoner/almonerlaw07.QueueMerges", spec := "queueMerges", unfollowed := true, recurses := true, named := ["almoner/api.ErrThere", "almoner/api.ErrFull", "almoner/api.ErrGone"], apart := false, laid := [("almoner/api.ErrGone", laid_almoner_api_ErrGone), ("almoner/api.ErrThere", laid_almoner_api_ErrThere), ("almoner/api.ErrFull", laid_almoner_api_ErrFull)] }
def QueueMergesSaid : Prop := queueMergesRow.holds Tryd.pinned (OpenSpec.ofChange queueMergesSpec)

/-- ITS FALSE NEIGHBOUR: 'it returns false'. Refute it at one input. -/
def queueMergesWrong : ChangeSpec := { name := "queueMerges", fn := fun _ => fun
  | [d1, d2] => { results := [.lit (.bool false)], args := [d1, d2] }
  | _ => none }
def QueueMergesWrongFalsely : Prop := queueMergesRow.holds Tryd.pinned (OpenSpec.ofChange queueMergesWrong)

/-- 'almonerlaw07.QueueLeast': WHATEVER THE INPUT: true; the input reads as it did. -/
def queueLeastSpec : ChangeSpec := { name := "queueLeast", fn := fun _ => fun
  | [d1, d2] => { results := [.lit (.bool true)], args := [d1, d2] }
  | _ => none }
def queueLeastRow : OpenClaim := { program := "ytocjbllkgbjihaadoor", sum := "74681c3666576086f5904114d2b8e807786d6f7de99695ccc31e0e8ebd6d97f1", func := "almoner/almonerlaw07.QueueLeast", spec := "queueLeast", unfollowed := true, recurses := true, named := ["almoner/api.ErrGone", "almoner/api.ErrThere", "almoner/api.ErrFull"], apart := false, laid := [("almoner/api.ErrGone", laid_almoner_api_ErrGone), ("almoner/api.ErrThere", laid_almoner_api_ErrThere), ("almoner/api.ErrFull", laid_almoner_api_ErrFull)] }
def QueueLeastSaid : Prop := queueLeastRow.holds Tryd.pinned (OpenSpec.ofChange queueLeastSpec)

/-- ITS FALSE NEIGHBOUR: 'it returns false'. Refute it at one input. -/
def queueLeastWrong : ChangeSpec := { name := "queueLeast", fn := fun _ => fun
  | [d1, d2] => { results := [.lit (.bool false)], args := [d1, d2] }
  | _ => none }
def QueueLeastWrongFalsely : Prop := queueLeastRow.holds Tryd.pinned (OpenSpec.ofChange queueLeastWrong)

/-- 'almonerlaw07.QueuePlays': WHATEVER THE INPUT: true; the input reads as it did. -/
def queuePlaysSpec : ChangeSpec := { name := "queuePlays", fn := fun _ => fun
  | [d] => { results := [.lit (.bool true)], args := [d] }
  | _ => none }
def queuePlaysRow : OpenClaim := { program := "ytocjbllkgbjihaadoor", sum := "74681c3666576086f5904114d2b8e807786d6f7de99695ccc31e0e8ebd6d97f1", func := "almoner/almonerlaw07.QueuePlays", spec := "queuePlays", unfollowed := true, recurses := true, named := ["almoner/api.ErrThere", "almoner/api.ErrFull", "almoner/api.ErrGone", "almoner/api.ErrNumber", "almoner/api.ErrOver", "almoner/api.ErrBytes", "almoner/api.ErrSum", "almoner/api.ErrLarge", "almoner/api.ErrLost", "almoner/api.ErrServer", "almoner/api.ErrTask", "almoner/api.ErrTight", "almoner/api.ErrDeep", "almoner/api.ErrBusy", "almoner/api.ErrBallot", "almoner/api.ErrState"], apart := false, laid := [("almoner/api.ErrNumber", laid_almoner_api_ErrNumber), ("almoner/api.ErrOver", laid_almoner_api_ErrOver), ("almoner/api.ErrBytes", laid_almoner_api_ErrBytes), ("almoner/api.ErrSum", laid_almoner_api_ErrSum), ("almoner/api.ErrGone", laid_almoner_api_ErrGone), ("almoner/api.ErrThere", laid_almoner_api_ErrThere), ("almoner/api.ErrFull", laid_almoner_api_ErrFull), ("almoner/api.ErrLarge", laid_almoner_api_ErrLarge), ("almoner/api.ErrLost", laid_almoner_api_ErrLost), ("almoner/api.ErrServer", laid_almoner_api_ErrServer), ("almoner/api.ErrTask", laid_almoner_api_ErrTask), ("almoner/api.ErrTight", laid_almoner_api_ErrTight), ("almoner/api.ErrDeep", laid_almoner_api_ErrDeep), ("almoner/api.ErrBusy", laid_almoner_api_ErrBusy), ("almoner/api.ErrBallot", laid_almoner_api_ErrBallot), ("almoner/api.ErrState", laid_almoner_api_ErrState)] }
def QueuePlaysSaid : Prop := queuePlaysRow.holds Tryd.pinned (OpenSpec.ofChange queuePlaysSpec)

/-- ITS FALSE NEIGHBOUR: 'it returns false'. Refute it at one input. -/
def queuePlaysWrong : ChangeSpec := { name := "queuePlays", fn := fun _ => fun
  | [d] => { results := [.lit (.bool false)], args := [d] }
  | _ => none }
def QueuePlaysWrongFalsely : Prop := queuePlaysRow.holds Tryd.pinned (OpenSpec.ofChange queuePlaysWrong)

/- THE SECOND FORM. 'bulk': how many values and letters a reading holds, each counted each time it is reached (what is shared counts as often as it is met; a slice's spare places count too). A statement '..UptoSaid' is the law's where the arguments, and the package variables that the reading takes, are together of bulk at most 1048576: NARROWER than '..Said'. Prove '..Said' where nothing that the law and all that it calls make is longer than what came in: it says more and counts as full. Else prove '..UptoSaid'. A law counts once. -/
mutual
def uptoBulk {H : Type} : DataW H → Nat
  | .lit (.string bytes) => bytes.length + 1
  | .lit _ => 1
  | .nil => 1
  | .ptr d => uptoBulk d + 1
  | .slice elems spare => uptoBulkAll elems + uptoBulkAll spare + 1
  | .agg parts => uptoBulkAll parts + 1
  | .iface _ d => uptoBulk d + 1
  | .map entries => uptoBulkEntries entries + 1
  | .held _ => 1
def uptoBulkAll {H : Type} : List (DataW H) → Nat
  | [] => 0
  | d :: r => uptoBulk d + uptoBulkAll r
def uptoBulkEntries {H : Type} : List (Lit × DataW H) → Nat
  | [] => 0
  | x :: r => uptoBulkEntry x + uptoBulkEntries r
def uptoBulkEntry {H : Type} : Lit × DataW H → Nat
  | (.string bytes, d) => bytes.length + uptoBulk d + 1
  | (_, d) => uptoBulk d + 1
 end
def uptoSmall : (H : Type) → List (DataW H) → Bool := fun _ ds => decide (uptoBulkAll ds ≤ 1048576)
def OpenSpec.upto (s : _root_.Go.ChangeSpec) : _root_.Go.OpenSpec := { _root_.Go.OpenSpec.ofChange s with cond := some uptoSmall }

/-- 'almonerlaw07.QueueSorts', WHERE WHAT IT READS IS OF BULK AT MOST 1048576: true; the input reads as it did. -/
def queueSortsUptoRow : OpenClaim := { program := "ytocjbllkgbjihaadoor", sum := "74681c3666576086f5904114d2b8e807786d6f7de99695ccc31e0e8ebd6d97f1", func := "almoner/almonerlaw07.QueueSorts", spec := "queueSorts", unfollowed := true, recurses := true, named := ["almoner/api.ErrGone", "almoner/api.ErrThere", "almoner/api.ErrFull"], apart := false, laid := [("almoner/api.ErrGone", laid_almoner_api_ErrGone), ("almoner/api.ErrThere", laid_almoner_api_ErrThere), ("almoner/api.ErrFull", laid_almoner_api_ErrFull)], narrowed := true }
def QueueSortsUptoSaid : Prop := queueSortsUptoRow.holds Tryd.pinned (OpenSpec.upto queueSortsSpec)

/-- 'almonerlaw07.QueueLists', WHERE WHAT IT READS IS OF BULK AT MOST 1048576: true; the input reads as it did. -/
def queueListsUptoRow : OpenClaim := { program := "ytocjbllkgbjihaadoor", sum := "74681c3666576086f5904114d2b8e807786d6f7de99695ccc31e0e8ebd6d97f1", func := "almoner/almonerlaw07.QueueLists", spec := "queueLists", unfollowed := true, recurses := true, named := ["almoner/api.ErrThere", "almoner/api.ErrFull", "almoner/api.ErrGone"], apart := false, laid := [("almoner/api.ErrGone", laid_almoner_api_ErrGone), ("almoner/api.ErrThere", laid_almoner_api_ErrThere), ("almoner/api.ErrFull", laid_almoner_api_ErrFull)], narrowed := true }
def QueueListsUptoSaid : Prop := queueListsUptoRow.holds Tryd.pinned (OpenSpec.upto queueListsSpec)

/-- 'almonerlaw07.QueueMerges', WHERE WHAT IT READS IS OF BULK AT MOST 1048576: true; the input reads as it did. -/
def queueMergesUptoRow : OpenClaim := { program := "ytocjbllkgbjihaadoor", sum := "74681c3666576086f5904114d2b8e807786d6f7de99695ccc31e0e8ebd6d97f1", func := "almoner/almonerlaw07.QueueMerges", spec := "queueMerges", unfollowed := true, recurses := true, named := ["almoner/api.ErrThere", "almoner/api.ErrFull", "almoner/api.ErrGone"], apart := false, laid := [("almoner/api.ErrGone", laid_almoner_api_ErrGone), ("almoner/api.ErrThere", laid_almoner_api_ErrThere), ("almoner/api.ErrFull", laid_almoner_api_ErrFull)], narrowed := true }
def QueueMergesUptoSaid : Prop := queueMergesUptoRow.holds Tryd.pinned (OpenSpec.upto queueMergesSpec)

/-- 'almonerlaw07.QueueLeast', WHERE WHAT IT READS IS OF BULK AT MOST 1048576: true; the input reads as it did. -/
def queueLeastUptoRow : OpenClaim := { program := "ytocjbllkgbjihaadoor", sum := "74681c3666576086f5904114d2b8e807786d6f7de99695ccc31e0e8ebd6d97f1", func := "almoner/almonerlaw07.QueueLeast", spec := "queueLeast", unfollowed := true, recurses := true, named := ["almoner/api.ErrGone", "almoner/api.ErrThere", "almoner/api.ErrFull"], apart := false, laid := [("almoner/api.ErrGone", laid_almoner_api_ErrGone), ("almoner/api.ErrThere", laid_almoner_api_ErrThere), ("almoner/api.ErrFull", laid_almoner_api_ErrFull)], narrowed := true }
def QueueLeastUptoSaid : Prop := queueLeastUptoRow.holds Tryd.pinned (OpenSpec.upto queueLeastSpec)

/-- 'almonerlaw07.QueuePlays', WHERE WHAT IT READS IS OF BULK AT MOST 1048576: true; the input reads as it did. -/
def queuePlaysUptoRow : OpenClaim := { program := "ytocjbllkgbjihaadoor", sum := "74681c3666576086f5904114d2b8e807786d6f7de99695ccc31e0e8ebd6d97f1", func := "almoner/almonerlaw07.QueuePlays", spec := "queuePlays", unfollowed := true, recurses := true, named := ["almoner/api.ErrThere", "almoner/api.ErrFull", "almoner/api.ErrGone", "almoner/api.ErrNumber", "almoner/api.ErrOver", "almoner/api.ErrBytes", "almoner/api.ErrSum", "almoner/api.ErrLarge", "almoner/api.ErrLost", "almoner/api.ErrServer", "almoner/api.ErrTask", "almoner/api.ErrTight", "almoner/api.ErrDeep", "almoner/api.ErrBusy", "almoner/api.ErrBallot", "almoner/api.ErrState"], apart := false, laid := [("almoner/api.ErrNumber", laid_almoner_api_ErrNumber), ("almoner/api.ErrOver", laid_almoner_api_ErrOver), ("almoner/api.ErrBytes", laid_almoner_api_ErrBytes), ("almoner/api.ErrSum", laid_almoner_api_ErrSum), ("almoner/api.ErrGone", laid_almoner_api_ErrGone), ("almoner/api.ErrThere", laid_almoner_api_ErrThere), ("almoner/api.ErrFull", laid_almoner_api_ErrFull), ("almoner/api.ErrLarge", laid_almoner_api_ErrLarge), ("almoner/api.ErrLost", laid_almoner_api_ErrLost), ("almoner/api.ErrServer", laid_almoner_api_ErrServer), ("almoner/api.ErrTask", laid_almoner_api_ErrTask), ("almoner/api.ErrTight", laid_almoner_api_ErrTight), ("almoner/api.ErrDeep", laid_almoner_api_ErrDeep), ("almoner/api.ErrBusy", laid_almoner_api_ErrBusy), ("almoner/api.ErrBallot", laid_almoner_api_ErrBallot), ("almoner/api.ErrState", laid_almoner_api_ErrState)], narrowed := true }
def QueuePlaysUptoSaid : Prop := queuePlaysUptoRow.holds Tryd.pinned (OpenSpec.upto queuePlaysSpec)

end Rows
end Go.Proofs.YtocjbllkgbjihaaDoor
