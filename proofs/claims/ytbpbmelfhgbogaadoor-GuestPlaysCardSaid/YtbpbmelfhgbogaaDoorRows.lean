/-
  NARROWER THAN 'FOR EVERY INPUT', by the rows' own cells (each row's printed sentence says how): GuestSpaces: laid · GuestRuns: laid · GuestHolds: laid · GuestChooses: laid · GuestPlays: laid.
  DERIVED. THE GIVEN ROWS OF THIS SEAT. 5 by the template 'for every input the law returns true; each argument reads behind the call as it read before'; 0 by the template 'total and deterministic' (their statements: YtbpbmelfhgbogaaDoorTotals.lean).
  GIVEN WITH THE SEED: the statements are not yours to turn. If you find one false, say at which input.
  Laid BY PROGRAM, IN A SANDBOX (cutbox-rows.mjs): the forced cells as the released guide's own fill.sh prints them over the translation b6b280add2c999f6… (all of the seat's roots in one cut). By AI agents, Wed Nov 11 2026. No macro, syntax, notation, axiom, sorry.
-/
import Derived.Test.YtbpbmelfhgbogaaDoorChecked
import GoSem.Claim
import GoSem.ClaimJoined
import GoSem.ClaimMapViews
import Derived.JoinedTies
import Derived.KernelRfl
namespace Go.Proofs.YtbpbmelfhgbogaaDoor
/- THE CELL 'sum', in the pinned program and in every row, IS THE sha256 OF THE DUMP (.gsa) THAT YtbpbmelfhgbogaaDoorProg.lean LOADS. Nothing in Lean hashes anything: it is a label: what it is worth is what the hold of that sum in a sandbox is worth. -/
noncomputable def Tryd.pinned : Pinned := { name := "ytbpbmelfhgbogaadoor", sum := "b6b280add2c999f6029b6cbc9f31886864f11a6aaab9fe2f0773e5908820ef2a", checked := Tryd.checked }
namespace Rows
def none {H : Type} : Left H := { results := [], args := [] }

/- WHAT THE LISTED PACKAGE-LEVEL VARIABLES READ AS WHEN THE CALL BEGINS. Each datum BY PROGRAM (the guide's laid-datum.mjs) off the statement by which the dump's own 'gosem.cut.vars' lays the variable. In a bare row this is a premise. The card (YtbpbmelfhgbogaaDoorCards.lean) ties it to the program's text. -/
def laid_almoner_api_ErrNumber {H : Type} : DataW H := .iface "*errors.errorString" (.ptr (.agg [.lit (.string [97, 108, 109, 111, 110, 101, 114, 58, 32, 110, 117, 109, 98, 101, 114])]))
def laid_almoner_api_ErrFull {H : Type} : DataW H := .iface "*errors.errorString" (.ptr (.agg [.lit (.string [97, 108, 109, 111, 110, 101, 114, 58, 32, 102, 117, 108, 108])]))
def laid_almoner_api_ErrTask {H : Type} : DataW H := .iface "*errors.errorString" (.ptr (.agg [.lit (.string [97, 108, 109, 111, 110, 101, 114, 58, 32, 116, 97, 115, 107])]))
def laid_almoner_api_ErrBusy {H : Type} : DataW H := .iface "*errors.errorString" (.ptr (.agg [.lit (.string [97, 108, 109, 111, 110, 101, 114, 58, 32, 98, 117, 115, 121])]))
def laid_almoner_api_ErrState {H : Type} : DataW H := .iface "*errors.errorString" (.ptr (.agg [.lit (.string [97, 108, 109, 111, 110, 101, 114, 58, 32, 115, 116, 97, 116, 101])]))
def laid_almoner_api_ErrOver {H : Type} : DataW H := .iface "*errors.errorString" (.ptr (.agg [.lit (.string [97, 108, 109, 111, 110, 101, 114, 58, 32, 111, 118, 101, 114])]))
def laid_almoner_api_ErrBytes {H : Type} : DataW H := .iface "*errors.errorString" (.ptr (.agg [.lit (.string [97, 108, 109, 111, 110, 101, 114, 58, 32, 98, 121, 116, 101, 115])]))
def laid_almoner_api_ErrSum {H : Type} : DataW H := .iface "*errors.errorString" (.ptr (.agg [.lit (.string [97, 108, 109, 111, 110, 101, 114, 58, 32, 115, 117, 109])]))
def laid_almoner_api_ErrGone {H : Type} : DataW H := .iface "*errors.errorString" (.ptr (.agg [.lit (.string [97, 108, 109, 111, 110, 101, 114, 58, 32, 103, 111, 110, 101])]))
def laid_almoner_api_ErrThere {H : Type} : DataW H := .iface "*errors.errorString" (.ptr (.agg [.lit (.string [97, 108, 109, 111, 110, 101, 114, 58, 32, 116, 104, 101, 114, 101])]))
def laid_almoner_api_ErrLarge {H : Type} : DataW H := .iface "*errors.errorString" (.ptr (.agg [.lit (.string [97, 108, 109, 111, 110, 101, 114, 58, 32, 108, 97, 114, 103, 101])]))
def laid_almoner_api_ErrLost {H : Type} : DataW H := .iface "*errors.errorString" (.ptr (.agg [.lit (.string [97, 108, 109, 111, 110, 101, 114, 58, 32, 108, 111, 115, 116])]))
def laid_almoner_api_ErrServer {H : Type} : DataW H := .iface "*errors.errorString" (.ptr (.agg [.lit (.string [97, 108, 109, 111, 110, 101, 114, 58, 32, 115, 101, 114, 118, 101, 114])]))
def laid_almoner_api_ErrTight {H : Type} : DataW H := .iface "*errors.errorString" (.ptr (.agg [.lit (.string [97, 108, 109, 111, 110, 101, 114, 58, 32, 116, 105, 103, 104, 116])]))
def laid_almoner_api_ErrDeep {H : Type} : DataW H := .iface "*errors.errorString" (.ptr (.agg [.lit (.string [97, 108, 109, 111, 110, 101, 114, 58, 32, 100, 101, 101, 112])]))
def laid_almoner_api_ErrBallot {H : Type} : DataW H := .iface "*errors.errorString" (.ptr (.agg [.lit (.string [97, 108, 109, 111, 110, 101, 114, 58, 32, 98, 97, 108, 108, 111, 116])]))

/-- 'almonerlaw15.GuestSpaces': WHATEVER THE INPUT: true; the input reads as it did. -/
def guestSpacesSpec : ChangeSpec := { name := "guestSpaces", fn := fun _ => fun
  | [d] => { results := [.lit (.bool true)], args := [d] }
  | _ => none }
def guestSpacesRow : OpenClaim := { program := "ytbpbmelfhgbogaadoor", sum := "b6b280add2c999f6029b6cbc9f31886864f11a6aaab9fe2f0773e5908820ef2a", func := "almoner/almonerlaw15.GuestSpaces", spec := "guestSpaces", unfollowed := true, recurses := true, named := ["almoner/api.ErrNumber", "almoner/api.ErrBusy", "almoner/api.ErrFull", "almoner/api.ErrTask"], apart := false, laid := [("almoner/api.ErrNumber", laid_almoner_api_ErrNumber), ("almoner/api.ErrFull", laid_almoner_api_ErrFull), ("almoner/api.ErrTask", laid_almoner_api_ErrTask), ("almoner/api.ErrBusy", laid_almoner_api_ErrBusy)] }
def GuestSpacesSaid : Prop := guestSpacesRow.holds Tryd.pinned (OpenSpec.ofChange guestSpacesSpec)

/-- ITS FALSE NEIGHBOUR: 'it returns false'. Refute it at one input. -/
def guestSpacesWrong : ChangeSpec := { name := "guestSpaces", fn := fun _ => fun
  | [d] => { results := [.lit (.bool false)], args := [d] }
  | _ => none }
def GuestSpacesWrongFalsely : Prop := guestSpacesRow.holds Tryd.pinned (OpenSpec.ofChange guestSpacesWrong)

/-- 'almonerlaw15.GuestRuns': WHATEVER THE INPUT: true; the input reads as it did. -/
def guestRunsSpec : ChangeSpec := { name := "guestRuns", fn := fun _ => fun
  | [d] => { results := [.lit (.bool true)], args := [d] }
  | _ => none }
def guestRunsRow : OpenClaim := { program := "ytbpbmelfhgbogaadoor", sum := "b6b280add2c999f6029b6cbc9f31886864f11a6aaab9fe2f0773e5908820ef2a", func := "almoner/almonerlaw15.GuestRuns", spec := "guestRuns", unfollowed := true, recurses := true, named := ["almoner/api.ErrTask", "almoner/api.ErrNumber", "almoner/api.ErrBusy", "almoner/api.ErrFull", "almoner/api.ErrState"], apart := false, laid := [("almoner/api.ErrNumber", laid_almoner_api_ErrNumber), ("almoner/api.ErrFull", laid_almoner_api_ErrFull), ("almoner/api.ErrTask", laid_almoner_api_ErrTask), ("almoner/api.ErrBusy", laid_almoner_api_ErrBusy), ("almoner/api.ErrState", laid_almoner_api_ErrState)] }
def GuestRunsSaid : Prop := guestRunsRow.holds Tryd.pinned (OpenSpec.ofChange guestRunsSpec)

/-- ITS FALSE NEIGHBOUR: 'it returns false'. Refute it at one input. -/
def guestRunsWrong : ChangeSpec := { name := "guestRuns", fn := fun _ => fun
  | [d] => { results := [.lit (.bool false)], args := [d] }
  | _ => none }
def GuestRunsWrongFalsely : Prop := guestRunsRow.holds Tryd.pinned (OpenSpec.ofChange guestRunsWrong)

/-- 'almonerlaw15.GuestHolds': WHATEVER THE INPUT: true; the input reads as it did. -/
def guestHoldsSpec : ChangeSpec := { name := "guestHolds", fn := fun _ => fun
  | [d] => { results := [.lit (.bool true)], args := [d] }
  | _ => none }
def guestHoldsRow : OpenClaim := { program := "ytbpbmelfhgbogaadoor", sum := "b6b280add2c999f6029b6cbc9f31886864f11a6aaab9fe2f0773e5908820ef2a", func := "almoner/almonerlaw15.GuestHolds", spec := "guestHolds", unfollowed := true, recurses := true, named := ["almoner/api.ErrTask", "almoner/api.ErrNumber", "almoner/api.ErrBusy", "almoner/api.ErrFull", "almoner/api.ErrState"], apart := false, laid := [("almoner/api.ErrNumber", laid_almoner_api_ErrNumber), ("almoner/api.ErrFull", laid_almoner_api_ErrFull), ("almoner/api.ErrTask", laid_almoner_api_ErrTask), ("almoner/api.ErrBusy", laid_almoner_api_ErrBusy), ("almoner/api.ErrState", laid_almoner_api_ErrState)] }
def GuestHoldsSaid : Prop := guestHoldsRow.holds Tryd.pinned (OpenSpec.ofChange guestHoldsSpec)

/-- ITS FALSE NEIGHBOUR: 'it returns false'. Refute it at one input. -/
def guestHoldsWrong : ChangeSpec := { name := "guestHolds", fn := fun _ => fun
  | [d] => { results := [.lit (.bool false)], args := [d] }
  | _ => none }
def GuestHoldsWrongFalsely : Prop := guestHoldsRow.holds Tryd.pinned (OpenSpec.ofChange guestHoldsWrong)

/-- 'almonerlaw15.GuestChooses': WHATEVER THE INPUT: true; the input reads as it did. -/
def guestChoosesSpec : ChangeSpec := { name := "guestChooses", fn := fun _ => fun
  | [d] => { results := [.lit (.bool true)], args := [d] }
  | _ => none }
def guestChoosesRow : OpenClaim := { program := "ytbpbmelfhgbogaadoor", sum := "b6b280add2c999f6029b6cbc9f31886864f11a6aaab9fe2f0773e5908820ef2a", func := "almoner/almonerlaw15.GuestChooses", spec := "guestChooses", unfollowed := true, recurses := true, named := ["almoner/api.ErrTask", "almoner/api.ErrNumber", "almoner/api.ErrBusy", "almoner/api.ErrFull", "almoner/api.ErrState"], apart := false, laid := [("almoner/api.ErrNumber", laid_almoner_api_ErrNumber), ("almoner/api.ErrFull", laid_almoner_api_ErrFull), ("almoner/api.ErrTask", laid_almoner_api_ErrTask), ("almoner/api.ErrBusy", laid_almoner_api_ErrBusy), ("almoner/api.ErrState", laid_almoner_api_ErrState)] }
def GuestChoosesSaid : Prop := guestChoosesRow.holds Tryd.pinned (OpenSpec.ofChange guestChoosesSpec)

/-- ITS FALSE NEIGHBOUR: 'it returns false'. Refute it at one input. -/
def guestChoosesWrong : ChangeSpec := { name := "guestChooses", fn := fun _ => fun
  | [d] => { results := [.lit (.bool false)], args := [d] }
  | _ => none }
def GuestChoosesWrongFalsely : Prop := guestChoosesRow.holds Tryd.pinned (OpenSpec.ofChange guestChoosesWrong)

/-- 'almonerlaw15.GuestPlays': WHATEVER THE INPUT: true; the input reads as it did. -/
def guestPlaysSpec : ChangeSpec := { name := "guestPlays", fn := fun _ => fun
  | [d] => { results := [.lit (.bool true)], args := [d] }
  | _ => none }
def guestPlaysRow : OpenClaim := { program := "ytbpbmelfhgbogaadoor", sum := "b6b280add2c999f6029b6cbc9f31886864f11a6aaab9fe2f0773e5908820ef2a", func := "almoner/almonerlaw15.GuestPlays", spec := "guestPlays", unfollowed := true, recurses := true, named := ["almoner/api.ErrTask", "almoner/api.ErrNumber", "almoner/api.ErrBusy", "almoner/api.ErrFull", "almoner/api.ErrOver", "almoner/api.ErrBytes", "almoner/api.ErrSum", "almoner/api.ErrGone", "almoner/api.ErrThere", "almoner/api.ErrLarge", "almoner/api.ErrLost", "almoner/api.ErrServer", "almoner/api.ErrTight", "almoner/api.ErrDeep", "almoner/api.ErrBallot", "almoner/api.ErrState"], apart := false, laid := [("almoner/api.ErrNumber", laid_almoner_api_ErrNumber), ("almoner/api.ErrOver", laid_almoner_api_ErrOver), ("almoner/api.ErrBytes", laid_almoner_api_ErrBytes), ("almoner/api.ErrSum", laid_almoner_api_ErrSum), ("almoner/api.ErrGone", laid_almoner_api_ErrGone), ("almoner/api.ErrThere", laid_almoner_api_ErrThere), ("almoner/api.ErrFull", laid_almoner_api_ErrFull), ("almoner/api.ErrLarge", laid_almoner_api_ErrLarge), ("almoner/api.ErrLost", laid_almoner_api_ErrLost), ("almoner/api.ErrServer", laid_almoner_api_ErrServer), ("almoner/api.ErrTask", laid_almoner_api_ErrTask), ("almoner/api.ErrTight", laid_almoner_api_ErrTight), ("almoner/api.ErrDeep", laid_almoner_api_ErrDeep), ("almoner/api.ErrBusy", laid_almoner_api_ErrBusy), ("almoner/api.ErrBallot", laid_almoner_api_ErrBallot), ("almoner/api.ErrState", laid_almoner_api_ErrState)] }
def GuestPlaysSaid : Prop := guestPlaysRow.holds Tryd.pinned (OpenSpec.ofChange guestPlaysSpec)

/-- ITS FALSE NEIGHBOUR: 'it returns false'. Refute it at one input. -/
def guestPlaysWrong : ChangeSpec := { name := "guestPlays", fn := fun _ => fun
  | [d] => { results := [.lit (.bool false)], args := [d] }
  | _ => none }
def GuestPlaysWrongFalsely : Prop := guestPlaysRow.holds Tryd.pinned (OpenSpec.ofChange guestPlaysWrong)

/- THE SECOND FORM. 'bulk': how many values and letters a reading holds, each counted each time it is reached (what is shared counts as often as it is met; a slice's spare places count too). A statement '..UptoSaid' is the law's where the arguments, and the package variables that the reading takes, are together of bulk at most 1048576: NARROWER than '..Said'. Prove '..Said' where nothing that the law and all that it calls make is longer than what came in: it says more and counts as full. Else prove '..UptoSaid'. A law counts once. -/
mutual
def uptoBulk {H : Type} : DataW H → Nat
  | .lit (.string bytes) => bytes.length + 1
  | .lit _ => 1
  | .nil => 1
  | .ptr d => uptoBulk d + 1
  | .slice elems spare => uptoBulkAll elems + uptoBulkAll spare + 1
  | .agg parts => uptoBulkAll parts + 1
  | .iface _ d => uptoBulk d + 1
  | .map entries => uptoBulkEntries entries + 1
  | .held _ => 1
def uptoBulkAll {H : Type} : List (DataW H) → Nat
  | [] => 0
  | d :: r => uptoBulk d + uptoBulkAll r
def uptoBulkEntries {H : Type} : List (Lit × DataW H) → Nat
  | [] => 0
  | x :: r => uptoBulkEntry x + uptoBulkEntries r
def uptoBulkEntry {H : Type} : Lit × DataW H → Nat
  | (.string bytes, d) => bytes.length + uptoBulk d + 1
  | (_, d) => uptoBulk d + 1
 end
def uptoSmall : (H : Type) → List (DataW H) → Bool := fun _ ds => decide (uptoBulkAll ds ≤ 1048576)
def OpenSpec.upto (s : _root_.Go.ChangeSpec) : _root_.Go.OpenSpec := { _root_.Go.OpenSpec.ofChange s with cond := some uptoSmall }

/-- 'almonerlaw15.GuestSpaces', WHERE WHAT IT READS IS OF BULK AT MOST 1048576: true; the input reads as it did. -/
def guestSpacesUptoRow : OpenClaim := { program := "ytbpbmelfhgbogaadoor", sum := "b6b280add2c999f6029b6cbc9f31886864f11a6aaab9fe2f0773e5908820ef2a", func := "almoner/almonerlaw15.GuestSpaces", spec := "guestSpaces", unfollowed := true, recurses := true, named := ["almoner/api.ErrNumber", "almoner/api.ErrBusy", "almoner/api.ErrFull", "almoner/api.ErrTask"], apart := false, laid := [("almoner/api.ErrNumber", laid_almoner_api_ErrNumber), ("almoner/api.ErrFull", laid_almoner_api_ErrFull), ("almoner/api.ErrTask", laid_almoner_api_ErrTask), ("almoner/api.ErrBusy", laid_almoner_api_ErrBusy)], narrowed := true }
def GuestSpacesUptoSaid : Prop := guestSpacesUptoRow.holds Tryd.pinned (OpenSpec.upto guestSpacesSpec)

/-- 'almonerlaw15.GuestRuns', WHERE WHAT IT READS IS OF BULK AT MOST 1048576: true; the input reads as it did. -/
def guestRunsUptoRow : OpenClaim := { program := "ytbpbmelfhgbogaadoor", sum := "b6b280add2c999f6029b6cbc9f31886864f11a6aaab9fe2f0773e5908820ef2a", func := "almoner/almonerlaw15.GuestRuns", spec := "guestRuns", unfollowed := true, recurses := true, named := ["almoner/api.ErrTask", "almoner/api.ErrNumber", "almoner/api.ErrBusy", "almoner/api.ErrFull", "almoner/api.ErrState"], apart := false, laid := [("almoner/api.ErrNumber", laid_almoner_api_ErrNumber), ("almoner/api.ErrFull", laid_almoner_api_ErrFull), ("almoner/api.ErrTask", laid_almoner_api_ErrTask), ("almoner/api.ErrBusy", laid_almoner_api_ErrBusy), ("almoner/api.ErrState", laid_almoner_api_ErrState)], narrowed := true }
def GuestRunsUptoSaid : Prop := guestRunsUptoRow.holds Tryd.pinned (OpenSpec.upto guestRunsSpec)

/-- 'almonerlaw15.GuestHolds', WHERE WHAT IT READS IS OF BULK AT MOST 1048576: true; the input reads as it did. -/
def guestHoldsUptoRow : OpenClaim := { program := "ytbpbmelfhgbogaadoor", sum := "b6b280add2c999f6029b6cbc9f31886864f11a6aaab9fe2f0773e5908820ef2a", func := "almoner/almonerlaw15.GuestHolds", spec := "guestHolds", unfollowed := true, recurses := true, named := ["almoner/api.ErrTask", "almoner/api.ErrNumber", "almoner/api.ErrBusy", "almoner/api.ErrFull", "almoner/api.ErrState"], apart := false, laid := [("almoner/api.ErrNumber", laid_almoner_api_ErrNumber), ("almoner/api.ErrFull", laid_almoner_api_ErrFull), ("almoner/api.ErrTask", laid_almoner_api_ErrTask), ("almoner/api.ErrBusy", laid_almoner_api_ErrBusy), ("almoner/api.ErrState", laid_almoner_api_ErrState)], narrowed := true }
def GuestHoldsUptoSaid : Prop := guestHoldsUptoRow.holds Tryd.pinned (OpenSpec.upto guestHoldsSpec)

/-- 'almonerlaw15.GuestChooses', WHERE WHAT IT READS IS OF BULK AT MOST 1048576: true; the input reads as it did. -/
def guestChoosesUptoRow : OpenClaim := { program := "ytbpbmelfhgbogaadoor", sum := "b6b280add2c999f6029b6cbc9f31886864f11a6aaab9fe2f0773e5908820ef2a", func := "almoner/almonerlaw15.GuestChooses", spec := "guestChooses", unfollowed := true, recurses := true, named := ["almoner/api.ErrTask", "almoner/api.ErrNumber", "almoner/api.ErrBusy", "almoner/api.ErrFull", "almoner/api.ErrState"], apart := false, laid := [("almoner/api.ErrNumber", laid_almoner_api_ErrNumber), ("almoner/api.ErrFull", laid_almoner_api_ErrFull), ("almoner/api.ErrTask", laid_almoner_api_ErrTask), ("almoner/api.ErrBusy", laid_almoner_api_ErrBusy), ("almoner/api.ErrState", laid_almoner_api_ErrState)], narrowed := true }
def GuestChoosesUptoSaid : Prop := guestChoosesUptoRow.holds Tryd.pinned (OpenSpec.upto guestChoosesSpec)

/-- 'almonerlaw15.GuestPlays', WHERE WHAT IT READS IS OF BULK AT MOST 1048576: true; the input reads as it did. -/
def guestPlaysUptoRow : OpenClaim := { program := "ytbpbmelfhgbogaadoor", sum := "b6b280add2c999f6029b6cbc9f31886864f11a6aaab9fe2f0773e5908820ef2a", func := "almoner/almonerlaw15.GuestPlays", spec := "guestPlays", unfollowed := true, recurses := true, named := ["almoner/api.ErrTask", "almoner/api.ErrNumber", "almoner/api.ErrBusy", "almoner/api.ErrFull", "almoner/api.ErrOver", "almoner/api.ErrBytes", "almoner/api.ErrSum", "almoner/api.ErrGone", "almoner/api.ErrThere", "almoner/api.ErrLarge", "almoner/api.ErrLost", "almoner/api.ErrServer", "almoner/api.ErrTight", "almoner/api.ErrDeep", "almoner/api.ErrBallot", "almoner/api.ErrState"], apart := false, laid := [("almoner/api.ErrNumber", laid_almoner_api_ErrNumber), ("almoner/api.ErrOver", laid_almoner_api_ErrOver), ("almoner/api.ErrBytes", laid_almoner_api_ErrBytes), ("almoner/api.ErrSum", laid_almoner_api_ErrSum), ("almoner/api.ErrGone", laid_almoner_api_ErrGone), ("almoner/api.ErrThere", laid_almoner_api_ErrThere), ("almoner/api.ErrFull", laid_almoner_api_ErrFull), ("almoner/api.ErrLarge", laid_almoner_api_ErrLarge), ("almoner/api.ErrLost", laid_almoner_api_ErrLost), ("almoner/api.ErrServer", laid_almoner_api_ErrServer), ("almoner/api.ErrTask", laid_almoner_api_ErrTask), ("almoner/api.ErrTight", laid_almoner_api_ErrTight), ("almoner/api.ErrDeep", laid_almoner_api_ErrDeep), ("almoner/api.ErrBusy", laid_almoner_api_ErrBusy), ("almoner/api.ErrBallot", laid_almoner_api_ErrBallot), ("almoner/api.ErrState", laid_almoner_api_ErrState)], narrowed := true }
def GuestPlaysUptoSaid : Prop := guestPlaysUptoRow.holds Tryd.pinned (OpenSpec.upto guestPlaysSpec)

end Rows
end Go.Proofs.YtbpbmelfhgbogaaDoor
