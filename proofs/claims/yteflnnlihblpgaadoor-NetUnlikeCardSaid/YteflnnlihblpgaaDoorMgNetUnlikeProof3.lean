/-
  The statement NetUnlikeSaid: for every input the law returns true and leaves what it was handed as it was.
-/
import Derived.Test.YteflnnlihblpgaaDoorMgNetUnlikeProof2
import Derived.Test.YteflnnlihblpgaaDoorCards
import Derived.Test.YteflnnlihblpgaaDoorTie
import Derived.ProofKit
import Derived.OpenShut
import Derived.LaidMore
import Derived.Deep.DeepHandedRow
import Derived.Stop.Joined
namespace Go.Proofs.YteflnnlihblpgaaDoor.netUnlike
open Go.ChangeShapes Go.WideShapes Go.ChangeAt Go.RowKit
set_option linter.unusedVariables false

theorem own : ownKnob Tryd.prog.godebug = none := by kernel_rfl
theorem laidOut : laidOutB Tryd.prog = true := by kernel_rfl

/-- The errors that the row lists. -/
def list : List (String × List UInt8 × Nat) := [("almoner/api.ErrNumber", [97, 108, 109, 111, 110, 101, 114, 58, 32, 110, 117, 109, 98, 101, 114], 5), ("almoner/api.ErrBytes", [97, 108, 109, 111, 110, 101, 114, 58, 32, 98, 121, 116, 101, 115], 2), ("almoner/api.ErrSum", [97, 108, 109, 111, 110, 101, 114, 58, 32, 115, 117, 109], 3), ("almoner/api.ErrLarge", [97, 108, 109, 111, 110, 101, 114, 58, 32, 108, 97, 114, 103, 101], 8), ("almoner/api.ErrState", [97, 108, 109, 111, 110, 101, 114, 58, 32, 115, 116, 97, 116, 101], 1)]
theorem listed : Rows.netUnlikeRow.laid = list.map entry := rfl
theorem errs {W : World} (h : laidMetH Tryd.prog Rows.netUnlikeRow.laid W) : ∃ E : Nat → Addr, (∀ x ∈ list, Sen W x.2.2 (E x.2.2)) ∧ ∀ x ∈ list, ∀ y ∈ list, x.2.2 ≠ y.2.2 → E x.2.2 ≠ E y.2.2 := by
  rw [MakeChecks.laidMetH_plain _ _ _ (by kernel_rfl), listed] at h
  refine sens_of list h fun x hx => ?_
  simp only [list, List.mem_cons, List.not_mem_nil, or_false] at hx
  rcases hx with rfl | rfl | rfl | rfl | rfl
  · exact ⟨by kernel_rfl, by kernel_rfl⟩
  · exact ⟨by kernel_rfl, by kernel_rfl⟩
  · exact ⟨by kernel_rfl, by kernel_rfl⟩
  · exact ⟨by kernel_rfl, by kernel_rfl⟩
  · exact ⟨by kernel_rfl, by kernel_rfl⟩
theorem door_met (os : Os) (args : Array Value) : laidMetH Tryd.prog Rows.netUnlikeRow.laid ((World.doorLaid Tryd.prog 400 os).forCall (fun _ _ => 0) ⟨#[], args, []⟩).memory :=
  laidMetH_of_parts3 (fuel := 8) (laidMet_of_run' 8 (by kernel_rfl) (by kernel_rfl)) (by kernel_rfl) (by kernel_rfl)

set_option maxRecDepth 100000 in
theorem lifted (os : Os) (started : os.Started) (H : Type) (enc : TypeId × Value → H) :
    ReturnsInHanded {} Tryd.checked os 11 .any (fun w args => (Rows.netUnlikeSpec.pre enc Tryd.prog Tryd.f11 Rows.netUnlikeRow.domain false w args ∧ laidMetH Tryd.prog Rows.netUnlikeRow.laid w) ∧ sizedMet enc Tryd.prog Tryd.f11 (OpenSpec.ofChange Rows.netUnlikeSpec) false w args) (Rows.netUnlikeSpec.post enc Tryd.prog Tryd.f11 false true false false) := by
  refine returnsInHanded_of_change_and (C := Tryd.checked) (X := fun w _ => laidMetH Tryd.prog Rows.netUnlikeRow.laid w) (fun _ _ _ hh h => h.of_heap hh) own started (by kernel_rfl) Tryd.func11
    (ChangeSpec.witness_shaped (enc := enc) (C := Tryd.checked) (os := os) (X := fun w _ => laidMetH Tryd.prog Rows.netUnlikeRow.laid w) false (World.doorLaid Tryd.prog 400 os) #[.agg #[.int .i64 0, .int .i64 0, .int .i64 0, .int .i64 0, .int .i64 0, .int .i64 0, .int .i64 0, .int .i64 0, .slice none 0 0, .int .i64 0, .int .i64 0, .int .i64 0, .int .i64 0, .int .i64 0, .int .i64 0, .int .i64 0, .int .i64 0, .slice none 0 0, .int .i64 0, .int .u8 0]] 8 rfl (World.shaped_of_RefB (by kernel_rfl) (by kernel_rfl)) (by kernel_rfl) (by kernel_rfl) (by kernel_rfl) (door_met os _)) ?_
  intro W base args ds gs before hval0 hW hcnd hsz0 hL _
  have hval : ∀ (j : Nat) t v, Tryd.f11.params[j]? = some t → args[j]? = some v → Value.okWide Tryd.prog W .any base t v := hval0
  have hsz : (DataW.weightsEach Tryd.prog (Tryd.f11.params.toList ++ Rows.netUnlikeSpec.plain.varTypes Tryd.prog) (ds ++ gs)).all (· ≤ reachBytes) = true := hsz0
  have hW' := hW
  obtain ⟨p, q, hA0, hV, rfl, hfz, hnd⟩ := hW
  have hA : DataW.TrodAll enc Tryd.prog W 0 (fun _ => true) true Tryd.f11.params.toList args.toList ds p := hA0
  rw [Tryd.params11] at hA hval hsz
  obtain ⟨v0, vs0, d0, ds0, p0, q0, hargs, rfl, rfl, h0, r0⟩ := trodAll_cons hA
  obtain ⟨rfl, rfl, rfl⟩ := trodAll_nil r0
  obtain rfl : args = #[v0] := by cases args; simp_all
  obtain ⟨rfl, rfl⟩ := trodVars_none hV
  have k0 := h0
  have lt0 : ∀ x ∈ p0, x.block < W.heap.size := by obtain ⟨m, hm⟩ := k0; exact DataW.trod_lt m _ _ _ hm
  obtain ⟨mm0, ee0, A0, n0, c0, ss0, B0, rr0, qq0, tt0, xx0, yy0, rfl, hn0, hl0, hkk0, hxx0, hyy0⟩ := open_pairm (hval 0 87 v0 rfl rfl) h0 (fun n hn => of_decide_eq_true (List.all_eq_true.1 hsz _ (DataW.weights_mem_each (j := 0) rfl rfl n hn)))
  obtain ⟨E, hE, hD⟩ := errs hL
  have hErrNumber : Sen W 5 (E 5) := hE list[0] (List.getElem_mem _)
  have hErrBytes : Sen W 2 (E 2) := hE list[1] (List.getElem_mem _)
  have hErrSum : Sen W 3 (E 3) := hE list[2] (List.getElem_mem _)
  have hErrLarge : Sen W 8 (E 8) := hE list[3] (List.getElem_mem _)
  have hErrState : Sen W 1 (E 1) := hE list[4] (List.getElem_mem _)
  clear hA0 hval0
  refine (netunlike_any mm0 ee0 A0 n0 c0 ss0 B0 rr0 qq0 tt0 xx0 yy0 W hl0 hkk0 (by omega) hxx0 hyy0 hErrBytes hErrState hErrSum).mono fun e W' ⟨he, bel⟩ => ?_
  subst he
  exact ⟨_, rfl, _, _, _, [], _, [], hW', trodAll_mk1 (shut_bool Tryd.underlying4 _), (trodAll_cons_mk (Below.trod laidOut (by kernel_rfl) (of_decide_eq_true (by kernel_rfl)) k0 bel lt0) trodAll_mk0), rfl, bel.frame _, fun h => by cases h⟩

theorem over : Rows.netUnlikeRow.holds Tryd.pinned (OpenSpec.ofChange Rows.netUnlikeSpec) :=
  OpenClaim.holds_of_wide 11 Tryd.f11 rfl rfl rfl rfl rfl rfl rfl ⟨rfl, rfl, rfl, rfl, rfl⟩ rfl rfl rfl rfl rfl (by kernel_rfl) Tryd.func11 (by kernel_rfl)
    (of_decide_eq_true (by kernel_rfl)) (by unfold Func.isWrapper; first | (rw [if_pos (by decide +kernel)]; kernel_rfl) | (rw [if_neg (by decide +kernel)]; exact ⟨rfl, rfl⟩))
    (fun os started H enc _ => lifted os started H enc)

/-- No parameter wants a stand-in. -/
theorem plain (f : FuncId) (fn : Func) (hf : Tryd.pinned.checked.prog.funcNamed "almoner/almonerlaw17.NetUnlike" = some f) (hfn : Tryd.pinned.checked.prog.funcs[f]? = some fn) :
    true = Tryd.pinned.checked.prog.looks [] ∧ ∀ (j : Nat) t, fn.params[j]? = some t → Tryd.pinned.checked.prog.wantsStandIn t = false := by
  obtain rfl : f = 11 := Option.some.inj ((show Tryd.prog.funcNamed "almoner/almonerlaw17.NetUnlike" = some 11 by kernel_rfl).symm.trans hf) |>.symm
  obtain rfl : fn = Tryd.f11 := (Option.some.inj (Tryd.func11.symm.trans hfn)).symm
  refine ⟨by kernel_rfl, fun j t ht => ?_⟩
  rw [Tryd.params11] at ht
  have hm := Array.mem_of_getElem? ht
  simp only [List.mem_toArray, List.mem_cons, List.not_mem_nil, or_false] at hm
  rcases hm with rfl
  · exact (show Tryd.prog.wantsStandIn 87 = false by kernel_rfl)

/-- The statement. -/
theorem proved : Rows.NetUnlikeCardSaid :=
  Claim7.holds_tied_plain_at .later [] _ _ _ _ over (fun _ h => by cases h) (by kernel_rfl) (fun _ h => by cases h) netUnlike_row_tie rfl ⟨rfl, rfl⟩ (by kernel_rfl) rfl plain (by kernel_rfl)
#print axioms proved
end Go.Proofs.YteflnnlihblpgaaDoor.netUnlike
