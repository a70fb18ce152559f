/-
  NARROWER THAN 'FOR EVERY INPUT', by the rows' own cells (each row's printed sentence says how): ServerDemands: laid · ServerFull: laid · ServerChunks: laid · ServerSupplies: laid · ServerIdle: laid · ServerPlays: laid.
  DERIVED. THE GIVEN ROWS OF THIS SEAT. 6 by the template 'for every input the law returns true; each argument reads behind the call as it read before'; 0 by the template 'total and deterministic' (their statements: YtakilnelbmbjdaaDoorTotals.lean).
  GIVEN WITH THE SEED: the statements are not yours to turn. If you find one false, say at which input.
  Laid BY PROGRAM, IN A SANDBOX (cutbox-rows.mjs): the forced cells as the released guide's own fill.sh prints them over the translation 24e598f20361242b… (all of the seat's roots in one cut). By AI agents, Wed Nov 11 2026. No macro, syntax, notation, axiom, sorry.
-/
import Derived.Test.YtakilnelbmbjdaaDoorChecked
import GoSem.Claim
import GoSem.ClaimJoined
import GoSem.ClaimMapViews
import Derived.JoinedTies
import Derived.KernelRfl
namespace Go.Proofs.YtakilnelbmbjdaaDoor
/- THE CELL 'sum', in the pinned program and in every row, IS THE sha256 OF THE DUMP (.gsa) THAT YtakilnelbmbjdaaDoorProg.lean LOADS. Nothing in Lean hashes anything: it is a label: what it is worth is what the hold of that sum in a sandbox is worth. -/
noncomputable def Tryd.pinned : Pinned := { name := "ytakilnelbmbjdaadoor", sum := "24e598f20361242b50fdf5e57e6bdabf80746b2ca6b972e5ca2ac7ca5df2f5e0", checked := Tryd.checked }
namespace Rows
def none {H : Type} : Left H := { results := [], args := [] }

/- WHAT THE LISTED PACKAGE-LEVEL VARIABLES READ AS WHEN THE CALL BEGINS. Each datum BY PROGRAM (the guide's laid-datum.mjs) off the statement by which the dump's own 'gosem.cut.vars' lays the variable. In a bare row this is a premise. The card (YtakilnelbmbjdaaDoorCards.lean) ties it to the program's text. -/
def laid_almoner_api_ErrNumber {H : Type} : DataW H := .iface "*errors.errorString" (.ptr (.agg [.lit (.string [97, 108, 109, 111, 110, 101, 114, 58, 32, 110, 117, 109, 98, 101, 114])]))
def laid_almoner_api_ErrServer {H : Type} : DataW H := .iface "*errors.errorString" (.ptr (.agg [.lit (.string [97, 108, 109, 111, 110, 101, 114, 58, 32, 115, 101, 114, 118, 101, 114])]))
def laid_almoner_api_ErrState {H : Type} : DataW H := .iface "*errors.errorString" (.ptr (.agg [.lit (.string [97, 108, 109, 111, 110, 101, 114, 58, 32, 115, 116, 97, 116, 101])]))
def laid_almoner_api_ErrOver {H : Type} : DataW H := .iface "*errors.errorString" (.ptr (.agg [.lit (.string [97, 108, 109, 111, 110, 101, 114, 58, 32, 111, 118, 101, 114])]))
def laid_almoner_api_ErrBytes {H : Type} : DataW H := .iface "*errors.errorString" (.ptr (.agg [.lit (.string [97, 108, 109, 111, 110, 101, 114, 58, 32, 98, 121, 116, 101, 115])]))
def laid_almoner_api_ErrSum {H : Type} : DataW H := .iface "*errors.errorString" (.ptr (.agg [.lit (.string [97, 108, 109, 111, 110, 101, 114, 58, 32, 115, 117, 109])]))
def laid_almoner_api_ErrGone {H : Type} : DataW H := .iface "*errors.errorString" (.ptr (.agg [.lit (.string [97, 108, 109, 111, 110, 101, 114, 58, 32, 103, 111, 110, 101])]))
def laid_almoner_api_ErrThere {H : Type} : DataW H := .iface "*errors.errorString" (.ptr (.agg [.lit (.string [97, 108, 109, 111, 110, 101, 114, 58, 32, 116, 104, 101, 114, 101])]))
def laid_almoner_api_ErrFull {H : Type} : DataW H := .iface "*errors.errorString" (.ptr (.agg [.lit (.string [97, 108, 109, 111, 110, 101, 114, 58, 32, 102, 117, 108, 108])]))
def laid_almoner_api_ErrLarge {H : Type} : DataW H := .iface "*errors.errorString" (.ptr (.agg [.lit (.string [97, 108, 109, 111, 110, 101, 114, 58, 32, 108, 97, 114, 103, 101])]))
def laid_almoner_api_ErrLost {H : Type} : DataW H := .iface "*errors.errorString" (.ptr (.agg [.lit (.string [97, 108, 109, 111, 110, 101, 114, 58, 32, 108, 111, 115, 116])]))
def laid_almoner_api_ErrTask {H : Type} : DataW H := .iface "*errors.errorString" (.ptr (.agg [.lit (.string [97, 108, 109, 111, 110, 101, 114, 58, 32, 116, 97, 115, 107])]))
def laid_almoner_api_ErrTight {H : Type} : DataW H := .iface "*errors.errorString" (.ptr (.agg [.lit (.string [97, 108, 109, 111, 110, 101, 114, 58, 32, 116, 105, 103, 104, 116])]))
def laid_almoner_api_ErrDeep {H : Type} : DataW H := .iface "*errors.errorString" (.ptr (.agg [.lit (.string [97, 108, 109, 111, 110, 101, 114, 58, 32, 100, 101, 101, 112])]))
def laid_almoner_api_ErrBusy {H : Type} : DataW H := .iface "*errors.errorString" (.ptr (.agg [.lit (.string [97, 108, 109, 111, 110, 101, 114, 58, 32, 98, 117, 115, 121])]))
def laid_almoner_api_ErrBallot {H : Type} : DataW H := .iface "*errors.errorString" (.ptr (.agg [.lit (.string [97, 108, 109, 111, 110, 101, 114, 58, 32, 98, 97, 108, 108, 111, 116])]))

/-- 'almonerlaw14.ServerDemands': WHATEVER THE INPUT: true; the input reads as it did. -/
def serverDemandsSpec : ChangeSpec := { name := "serverDemands", fn := fun _ => fun
  | [d] => { results := [.lit (.bool true)], args := [d] }
  | _ => none }
def serverDemandsRow : OpenClaim := { program := "ytakilnelbmbjdaadoor", sum := "24e598f20361242b50fdf5e57e6bdabf80746b2ca6b972e5ca2ac7ca5df2f5e0", func := "almoner/almonerlaw14.ServerDemands", spec := "serverDemands", unfollowed := true, recurses := true, named := ["almoner/api.ErrNumber", "almoner/api.ErrServer", "almoner/api.ErrState"], apart := false, laid := [("almoner/api.ErrNumber", laid_almoner_api_ErrNumber), ("almoner/api.ErrServer", laid_almoner_api_ErrServer), ("almoner/api.ErrState", laid_almoner_api_ErrState)] }
def ServerDemandsSaid : Prop := serverDemandsRow.holds Tryd.pinned (OpenSpec.ofChange serverDemandsSpec)

/-- ITS FALSE NEIGHBOUR: 'it returns false'. Refute it at one input. -/
def serverDemandsWrong : ChangeSpec := { name := "serverDemands", fn := fun _ => fun
  | [d] => { results := [.lit (.bool false)], args := [d] }
  | _ => none }
def ServerDemandsWrongFalsely : Prop := serverDemandsRow.holds Tryd.pinned (OpenSpec.ofChange serverDemandsWrong)

/-- 'almonerlaw14.ServerFull': WHATEVER THE INPUT: true; the input reads as it did. -/
def serverFullSpec : ChangeSpec := { name := "serverFull", fn := fun _ => fun
  | [d1, d2] => { results := [.lit (.bool true)], args := [d1, d2] }
  | _ => none }
def serverFullRow : OpenClaim := { program := "ytakilnelbmbjdaadoor", sum := "24e598f20361242b50fdf5e57e6bdabf80746b2ca6b972e5ca2ac7ca5df2f5e0", func := "almoner/almonerlaw14.ServerFull", spec := "serverFull", unfollowed := true, recurses := true, named := ["almoner/api.ErrNumber", "almoner/api.ErrServer", "almoner/api.ErrState"], apart := false, laid := [("almoner/api.ErrNumber", laid_almoner_api_ErrNumber), ("almoner/api.ErrServer", laid_almoner_api_ErrServer), ("almoner/api.ErrState", laid_almoner_api_ErrState)] }
def ServerFullSaid : Prop := serverFullRow.holds Tryd.pinned (OpenSpec.ofChange serverFullSpec)

/-- ITS FALSE NEIGHBOUR: 'it returns false'. Refute it at one input. -/
def serverFullWrong : ChangeSpec := { name := "serverFull", fn := fun _ => fun
  | [d1, d2] => { results := [.lit (.bool false)], args := [d1, d2] }
  | _ => none }
def ServerFullWrongFalsely : Prop := serverFullRow.holds Tryd.pinned (OpenSpec.ofChange serverFullWrong)

/-- 'almonerlaw14.ServerChunks': WHATEVER THE INPUT: true; the input reads as it did. -/
def serverChunksSpec : ChangeSpec := { name := "serverChunks", fn := fun _ => fun
  | [d] => { results := [.lit (.bool true)], args := [d] }
  | _ => none }
def serverChunksRow : OpenClaim := { program := "ytakilnelbmbjdaadoor", sum := "24e598f20361242b50fdf5e57e6bdabf80746b2ca6b972e5ca2ac7ca5df2f5e0", func := "almoner/almonerlaw14.ServerChunks", spec := "serverChunks", unfollowed := true, recurses := true, named := ["almoner/api.ErrNumber", "almoner/api.ErrServer", "almoner/api.ErrState"], apart := false, laid := [("almoner/api.ErrNumber", laid_almoner_api_ErrNumber), ("almoner/api.ErrServer", laid_almoner_api_ErrServer), ("almoner/api.ErrState", laid_almoner_api_ErrState)] }
def ServerChunksSaid : Prop := serverChunksRow.holds Tryd.pinned (OpenSpec.ofChange serverChunksSpec)

/-- ITS FALSE NEIGHBOUR: 'it returns false'. Refute it at one input. -/
def serverChunksWrong : ChangeSpec := { name := "serverChunks", fn := fun _ => fun
  | [d] => { results := [.lit (.bool false)], args := [d] }
  | _ => none }
def ServerChunksWrongFalsely : Prop := serverChunksRow.holds Tryd.pinned (OpenSpec.ofChange serverChunksWrong)

/-- 'almonerlaw14.ServerSupplies': WHATEVER THE INPUT: true; the input reads as it did. -/
def serverSuppliesSpec : ChangeSpec := { name := "serverSupplies", fn := fun _ => fun
  | [d] => { results := [.lit (.bool true)], args := [d] }
  | _ => none }
def serverSuppliesRow : OpenClaim := { program := "ytakilnelbmbjdaadoor", sum := "24e598f20361242b50fdf5e57e6bdabf80746b2ca6b972e5ca2ac7ca5df2f5e0", func := "almoner/almonerlaw14.ServerSupplies", spec := "serverSupplies", unfollowed := true, recurses := true, named := ["almoner/api.ErrNumber", "almoner/api.ErrServer", "almoner/api.ErrState"], apart := false, laid := [("almoner/api.ErrNumber", laid_almoner_api_ErrNumber), ("almoner/api.ErrServer", laid_almoner_api_ErrServer), ("almoner/api.ErrState", laid_almoner_api_ErrState)] }
def ServerSuppliesSaid : Prop := serverSuppliesRow.holds Tryd.pinned (OpenSpec.ofChange serverSuppliesSpec)

/-- ITS FALSE NEIGHBOUR: 'it returns false'. Refute it at one input. -/
def serverSuppliesWrong : ChangeSpec := { name := "serverSupplies", fn := fun _ => fun
  | [d] => { results := [.lit (.bool false)], args := [d] }
  | _ => none }
def ServerSuppliesWrongFalsely : Prop := serverSuppliesRow.holds Tryd.pinned (OpenSpec.ofChange serverSuppliesWrong)

/-- 'almonerlaw14.ServerIdle': WHATEVER THE INPUT: true; the input reads as it did. -/
def serverIdleSpec : ChangeSpec := { name := "serverIdle", fn := fun _ => fun
  | [d] => { results := [.lit (.bool true)], args := [d] }
  | _ => none }
def serverIdleRow : OpenClaim := { program := "ytakilnelbmbjdaadoor", sum := "24e598f20361242b50fdf5e57e6bdabf80746b2ca6b972e5ca2ac7ca5df2f5e0", func := "almoner/almonerlaw14.ServerIdle", spec := "serverIdle", unfollowed := true, recurses := true, named := ["almoner/api.ErrState", "almoner/api.ErrNumber", "almoner/api.ErrServer"], apart := false, laid := [("almoner/api.ErrNumber", laid_almoner_api_ErrNumber), ("almoner/api.ErrServer", laid_almoner_api_ErrServer), ("almoner/api.ErrState", laid_almoner_api_ErrState)] }
def ServerIdleSaid : Prop := serverIdleRow.holds Tryd.pinned (OpenSpec.ofChange serverIdleSpec)

/-- ITS FALSE NEIGHBOUR: 'it returns false'. Refute it at one input. -/
def serverIdleWrong : ChangeSpec := { name := "serverIdle", fn := fun _ => fun
  | [d] => { results := [.lit (.bool false)], args := [d] }
  | _ => none }
def ServerIdleWrongFalsely : Prop := serverIdleRow.holds Tryd.pinned (OpenSpec.ofChange serverIdleWrong)

/-- 'almonerlaw14.ServerPlays': WHATEVER THE INPUT: true; the input reads as it did. -/
def serverPlaysSpec : ChangeSpec := { name := "serverPlays", fn := fun _ => fun
  | [d] => { results := [.lit (.bool true)], args := [d] }
  | _ => none }
def serverPlaysRow : OpenClaim := { program := "ytakilnelbmbjdaadoor", sum := "24e598f20361242b50fdf5e57e6bdabf80746b2ca6b972e5ca2ac7ca5df2f5e0", func := "almoner/almonerlaw14.ServerPlays", spec := "serverPlays", unfollowed := true, recurses := true, named := ["almoner/api.ErrNumber", "almoner/api.ErrServer", "almoner/api.ErrState", "almoner/api.ErrOver", "almoner/api.ErrBytes", "almoner/api.ErrSum", "almoner/api.ErrGone", "almoner/api.ErrThere", "almoner/api.ErrFull", "almoner/api.ErrLarge", "almoner/api.ErrLost", "almoner/api.ErrTask", "almoner/api.ErrTight", "almoner/api.ErrDeep", "almoner/api.ErrBusy", "almoner/api.ErrBallot"], apart := false, laid := [("almoner/api.ErrNumber", laid_almoner_api_ErrNumber), ("almoner/api.ErrOver", laid_almoner_api_ErrOver), ("almoner/api.ErrBytes", laid_almoner_api_ErrBytes), ("almoner/api.ErrSum", laid_almoner_api_ErrSum), ("almoner/api.ErrGone", laid_almoner_api_ErrGone), ("almoner/api.ErrThere", laid_almoner_api_ErrThere), ("almoner/api.ErrFull", laid_almoner_api_ErrFull), ("almoner/api.ErrLarge", laid_almoner_api_ErrLarge), ("almoner/api.ErrLost", laid_almoner_api_ErrLost), ("almoner/api.ErrServer", laid_almoner_api_ErrServer), ("almoner/api.ErrTask", laid_almoner_api_ErrTask), ("almoner/api.ErrTight", laid_almoner_api_ErrTight), ("almoner/api.ErrDeep", laid_almoner_api_ErrDeep), ("almoner/api.ErrBusy", laid_almoner_api_ErrBusy), ("almoner/api.ErrBallot", laid_almoner_api_ErrBallot), ("almoner/api.ErrState", laid_almoner_api_ErrState)] }
def ServerPlaysSaid : Prop := serverPlaysRow.holds Tryd.pinned (OpenSpec.ofChange serverPlaysSpec)

/-- ITS FALSE NEIGHBOUR: 'it returns false'. Refute it at one input. -/
def serverPlaysWrong : ChangeSpec := { name := "serverPlays", fn := fun _ => fun
  | [d] => { results := [.lit (.bool false)], args := [d] }
  | _ => none }
def ServerPlaysWrongFalsely : Prop := serverPlaysRow.holds Tryd.pinned (OpenSpec.ofChange serverPlaysWrong)

/- THE SECOND FORM. 'bulk': how many values and letters a reading holds, each counted each time it is reached (what is shared counts as often as it is met; a slice's spare places count too). A statement '..UptoSaid' is the law's where the arguments, and the package variables that the reading takes, are together of bulk at most 1048576: NARROWER than '..Said'. Prove '..Said' where nothing that the law and all that it calls make is longer than what came in: it says more and counts as full. Else prove '..UptoSaid'. A law counts once. -/
mutual
def uptoBulk {H : Type} : DataW H → Nat
  | .lit (.string bytes) => bytes.length + 1
  | .lit _ => 1
  | .nil => 1
  | .ptr d => uptoBulk d + 1
  | .slice elems spare => uptoBulkAll elems + uptoBulkAll spare + 1
  | .agg parts => uptoBulkAll parts + 1
  | .iface _ d => uptoBulk d + 1
  | .map entries => uptoBulkEntries entries + 1
  | .held _ => 1
def uptoBulkAll {H : Type} : List (DataW H) → Nat
  | [] => 0
  | d :: r => uptoBulk d + uptoBulkAll r
def uptoBulkEntries {H : Type} : List (Lit × DataW H) → Nat
  | [] => 0
  | x :: r => uptoBulkEntry x + uptoBulkEntries r
def uptoBulkEntry {H : Type} : Lit × DataW H → Nat
  | (.string bytes, d) => bytes.length + uptoBulk d + 1
  | (_, d) => uptoBulk d + 1
 end
def uptoSmall : (H : Type) → List (DataW H) → Bool := fun _ ds => decide (uptoBulkAll ds ≤ 1048576)
def OpenSpec.upto (s : _root_.Go.ChangeSpec) : _root_.Go.OpenSpec := { _root_.Go.OpenSpec.ofChange s with cond := some uptoSmall }

/-- 'almonerlaw14.ServerDemands', WHERE WHAT IT READS IS OF BULK AT MOST 1048576: true; the input reads as it did. -/
def serverDemandsUptoRow : OpenClaim := { program := "ytakilnelbmbjdaadoor", sum := "24e598f20361242b50fdf5e57e6bdabf80746b2ca6b972e5ca2ac7ca5df2f5e0", func := "almoner/almonerlaw14.ServerDemands", spec := "serverDemands", unfollowed := true, recurses := true, named := ["almoner/api.ErrNumber", "almoner/api.ErrServer", "almoner/api.ErrState"], apart := false, laid := [("almoner/api.ErrNumber", laid_almoner_api_ErrNumber), ("almoner/api.ErrServer", laid_almoner_api_ErrServer), ("almoner/api.ErrState", laid_almoner_api_ErrState)], narrowed := true }
def ServerDemandsUptoSaid : Prop := serverDemandsUptoRow.holds Tryd.pinned (OpenSpec.upto serverDemandsSpec)

/-- 'almonerlaw14.ServerFull', WHERE WHAT IT READS IS OF BULK AT MOST 1048576: true; the input reads as it did. -/
def serverFullUptoRow : OpenClaim := { program := "ytakilnelbmbjdaadoor", sum := "24e598f20361242b50fdf5e57e6bdabf80746b2ca6b972e5ca2ac7ca5df2f5e0", func := "almoner/almonerlaw14.ServerFull", spec := "serverFull", unfollowed := true, recurses := true, named := ["almoner/api.ErrNumber", "almoner/api.ErrServer", "almoner/api.ErrState"], apart := false, laid := [("almoner/api.ErrNumber", laid_almoner_api_ErrNumber), ("almoner/api.ErrServer", laid_almoner_api_ErrServer), ("almoner/api.ErrState", laid_almoner_api_ErrState)], narrowed := true }
def ServerFullUptoSaid : Prop := serverFullUptoRow.holds Tryd.pinned (OpenSpec.upto serverFullSpec)

/-- 'almonerlaw14.ServerChunks', WHERE WHAT IT READS IS OF BULK AT MOST 1048576: true; the input reads as it did. -/
def serverChunksUptoRow : OpenClaim := { program := "ytakilnelbmbjdaadoor", sum := "24e598f20361242b50fdf5e57e6bdabf80746b2ca6b972e5ca2ac7ca5df2f5e0", func := "almoner/almonerlaw14.ServerChunks", spec := "serverChunks", unfollowed := true, recurses := true, named := ["almoner/api.ErrNumber", "almoner/api.ErrServer", "almoner/api.ErrState"], apart := false, laid := [("almoner/api.ErrNumber", laid_almoner_api_ErrNumber), ("almoner/api.ErrServer", laid_almoner_api_ErrServer), ("almoner/api.ErrState", laid_almoner_api_ErrState)], narrowed := true }
def ServerChunksUptoSaid : Prop := serverChunksUptoRow.holds Tryd.pinned (OpenSpec.upto serverChunksSpec)

/-- 'almonerlaw14.ServerSupplies', WHERE WHAT IT READS IS OF BULK AT MOST 1048576: true; the input reads as it did. -/
def serverSuppliesUptoRow : OpenClaim := { program := "ytakilnelbmbjdaadoor", sum := "24e598f20361242b50fdf5e57e6bdabf80746b2ca6b972e5ca2ac7ca5df2f5e0", func := "almoner/almonerlaw14.ServerSupplies", spec := "serverSupplies", unfollowed := true, recurses := true, named := ["almoner/api.ErrNumber", "almoner/api.ErrServer", "almoner/api.ErrState"], apart := false, laid := [("almoner/api.ErrNumber", laid_almoner_api_ErrNumber), ("almoner/api.ErrServer", laid_almoner_api_ErrServer), ("almoner/api.ErrState", laid_almoner_api_ErrState)], narrowed := true }
def ServerSuppliesUptoSaid : Prop := serverSuppliesUptoRow.holds Tryd.pinned (OpenSpec.upto serverSuppliesSpec)

/-- 'almonerlaw14.ServerIdle', WHERE WHAT IT READS IS OF BULK AT MOST 1048576: true; the input reads as it did. -/
def serverIdleUptoRow : OpenClaim := { program := "ytakilnelbmbjdaadoor", sum := "24e598f20361242b50fdf5e57e6bdabf80746b2ca6b972e5ca2ac7ca5df2f5e0", func := "almoner/almonerlaw14.ServerIdle", spec := "serverIdle", unfollowed := true, recurses := true, named := ["almoner/api.ErrState", "almoner/api.ErrNumber", "almoner/api.ErrServer"], apart := false, laid := [("almoner/api.ErrNumber", laid_almoner_api_ErrNumber), ("almoner/api.ErrServer", laid_almoner_api_ErrServer), ("almoner/api.ErrState", laid_almoner_api_ErrState)], narrowed := true }
def ServerIdleUptoSaid : Prop := serverIdleUptoRow.holds Tryd.pinned (OpenSpec.upto serverIdleSpec)

/-- 'almonerlaw14.ServerPlays', WHERE WHAT IT READS IS OF BULK AT MOST 1048576: true; the input reads as it did. -/
def serverPlaysUptoRow : OpenClaim := { program := "ytakilnelbmbjdaadoor", sum := "24e598f20361242b50fdf5e57e6bdabf80746b2ca6b972e5ca2ac7ca5df2f5e0", func := "almoner/almonerlaw14.ServerPlays", spec := "serverPlays", unfollowed := true, recurses := true, named := ["almoner/api.ErrNumber", "almoner/api.ErrServer", "almoner/api.ErrState", "almoner/api.ErrOver", "almoner/api.ErrBytes", "almoner/api.ErrSum", "almoner/api.ErrGone", "almoner/api.ErrThere", "almoner/api.ErrFull", "almoner/api.ErrLarge", "almoner/api.ErrLost", "almoner/api.ErrTask", "almoner/api.ErrTight", "almoner/api.ErrDeep", "almoner/api.ErrBusy", "almoner/api.ErrBallot"], apart := false, laid := [("almoner/api.ErrNumber", laid_almoner_api_ErrNumber), ("almoner/api.ErrOver", laid_almoner_api_ErrOver), ("almoner/api.ErrBytes", laid_almoner_api_ErrBytes), ("almoner/api.ErrSum", laid_almoner_api_ErrSum), ("almoner/api.ErrGone", laid_almoner_api_ErrGone), ("almoner/api.ErrThere", laid_almoner_api_ErrThere), ("almoner/api.ErrFull", laid_almoner_api_ErrFull), ("almoner/api.ErrLarge", laid_almoner_api_ErrLarge), ("almoner/api.ErrLost", laid_almoner_api_ErrLost), ("almoner/api.ErrServer", laid_almoner_api_ErrServer), ("almoner/api.ErrTask", laid_almoner_api_ErrTask), ("almoner/api.ErrTight", laid_almoner_api_ErrTight), ("almoner/api.ErrDeep", laid_almoner_api_ErrDeep), ("almoner/api.ErrBusy", laid_almoner_api_ErrBusy), ("almoner/api.ErrBallot", laid_almoner_api_ErrBallot), ("almoner/api.ErrState", laid_almoner_api_ErrState)], narrowed := true }
def ServerPlaysUptoSaid : Prop := serverPlaysUptoRow.holds Tryd.pinned (OpenSpec.upto serverPlaysSpec)

end Rows
end Go.Proofs.YtakilnelbmbjdaaDoor
