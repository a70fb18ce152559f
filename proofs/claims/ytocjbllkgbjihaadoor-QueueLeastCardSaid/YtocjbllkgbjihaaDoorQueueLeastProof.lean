/-
  The statement QueueLeastSaid: for every input the law returns true and leaves what it was handed as it was.
-/
import Derived.Test.YtocjbllkgbjihaaDoorQuLeasts
import Derived.Test.YtocjbllkgbjihaaDoorOpen
import Derived.Test.YtocjbllkgbjihaaDoorCards
import Derived.Test.YtocjbllkgbjihaaDoorTie
import Derived.ProofKit
import Derived.OpenShut
import Derived.LaidMore
import Derived.Deep.DeepHandedRow
import Derived.Stop.Joined
import Derived.Test.YtocjbllkgbjihaaDoorQuOpen
namespace Go.Proofs.YtocjbllkgbjihaaDoor.queueLeast
open Go.ChangeShapes Go.WideShapes Go.ChangeAt Go.RowKit
set_option linter.unusedVariables false

theorem own : ownKnob Tryd.prog.godebug = none := by kernel_rfl
theorem laidOut : laidOutB Tryd.prog = true := by kernel_rfl
theorem cells_ints : Tryd.prog.cellsOf 3 = 1 := by kernel_rfl
theorem bytes_ints : Tryd.prog.bytesOf 3 = 8 := by kernel_rfl

/-- The errors that the row lists. -/
def list : List (String × List UInt8 × Nat) := [("almoner/api.ErrGone", [97, 108, 109, 111, 110, 101, 114, 58, 32, 103, 111, 110, 101], 0), ("almoner/api.ErrThere", [97, 108, 109, 111, 110, 101, 114, 58, 32, 116, 104, 101, 114, 101], 1), ("almoner/api.ErrFull", [97, 108, 109, 111, 110, 101, 114, 58, 32, 102, 117, 108, 108], 2)]
theorem listed : Rows.queueLeastRow.laid = list.map entry := rfl
theorem errs {W : World} (h : laidMetH Tryd.prog Rows.queueLeastRow.laid W) : ∃ E : Nat → Addr, (∀ x ∈ list, Sen W x.2.2 (E x.2.2)) ∧ ∀ x ∈ list, ∀ y ∈ list, x.2.2 ≠ y.2.2 → E x.2.2 ≠ E y.2.2 := by
  rw [MakeChecks.laidMetH_plain _ _ _ (by kernel_rfl), listed] at h
  refine sens_of list h fun x hx => ?_
  simp only [list, List.mem_cons, List.not_mem_nil, or_false] at hx
  rcases hx with rfl | rfl | rfl
  · exact ⟨by kernel_rfl, by kernel_rfl⟩
  · exact ⟨by kernel_rfl, by kernel_rfl⟩
  · exact ⟨by kernel_rfl, by kernel_rfl⟩
theorem door_met (os : Os) (args : Array Value) : laidMetH Tryd.prog Rows.queueLeastRow.laid ((World.doorLaid Tryd.prog 400 os).forCall (fun _ _ => 0) ⟨#[], args, []⟩).memory :=
  laidMetH_of_parts3 (fuel := 8) (laidMet_of_run' 8 (by kernel_rfl) (by kernel_rfl)) (by kernel_rfl) (by kernel_rfl)

set_option maxRecDepth 100000 in
theorem lifted (os : Os) (started : os.Started) (H : Type) (enc : TypeId × Value → H) :
    ReturnsInHanded {} Tryd.checked os 6 .any (fun w args => (Rows.queueLeastSpec.pre enc Tryd.prog Tryd.f6 Rows.queueLeastRow.domain false w args ∧ laidMetH Tryd.prog Rows.queueLeastRow.laid w) ∧ sizedMet enc Tryd.prog Tryd.f6 (OpenSpec.ofChange Rows.queueLeastSpec) false w args) (Rows.queueLeastSpec.post enc Tryd.prog Tryd.f6 false true false false) := by
  refine returnsInHanded_of_change_and (C := Tryd.checked) (X := fun w _ => laidMetH Tryd.prog Rows.queueLeastRow.laid w) (fun _ _ _ hh h => h.of_heap hh) own started (by kernel_rfl) Tryd.func6
    (ChangeSpec.witness_shaped (enc := enc) (C := Tryd.checked) (os := os) (X := fun w _ => laidMetH Tryd.prog Rows.queueLeastRow.laid w) false (World.doorLaid Tryd.prog 400 os) #[.slice none 0 0, .int .i64 0] 8 rfl (World.shaped_of_RefB (by kernel_rfl) (by kernel_rfl)) (by kernel_rfl) (by kernel_rfl) (by kernel_rfl) (door_met os _)) ?_
  intro W base args ds gs before hval0 hW hcnd hsz0 hL _
  have hval : ∀ (j : Nat) t v, Tryd.f6.params[j]? = some t → args[j]? = some v → Value.okWide Tryd.prog W .any base t v := hval0
  have hsz : (DataW.weightsEach Tryd.prog (Tryd.f6.params.toList ++ Rows.queueLeastSpec.plain.varTypes Tryd.prog) (ds ++ gs)).all (· ≤ reachBytes) = true := hsz0
  have hW' := hW
  obtain ⟨p, q, hA0, hV, rfl, hfz, hnd⟩ := hW
  have hA : DataW.TrodAll enc Tryd.prog W 0 (fun _ => true) true Tryd.f6.params.toList args.toList ds p := hA0
  rw [Tryd.params6] at hA hval hsz
  obtain ⟨v0, vs0, d0, ds0, p0, q0, hargs, rfl, rfl, h0, r0⟩ := trodAll_cons hA
  obtain ⟨v1, vs1, d1, ds1, p1, q1, rfl, rfl, rfl, h1, r1⟩ := trodAll_cons r0
  obtain ⟨rfl, rfl, rfl⟩ := trodAll_nil r1
  obtain rfl : args = #[v0, v1] := by cases args; simp_all
  obtain ⟨rfl, rfl⟩ := trodVars_none hV
  have k0 := h0
  have lt0 : ∀ x ∈ p0, x.block < W.heap.size := by obtain ⟨m, hm⟩ := k0; exact DataW.trod_lt m _ _ _ hm
  obtain ⟨a0, n0, c0, l0, rfl, hn0, hc0, hr0, hl0, hd0⟩ := open_ilist Tryd.underlying22 Tryd.underlying3 cells_ints bytes_ints (hval 0 22 v0 rfl rfl) h0 (fun elems spare hd => sized_slice hsz (j := 0) (t := 22) (e := 3) rfl (by rw [hd]; rfl) Tryd.underlying22)
  obtain ⟨x1, rfl, rfl, rfl, w1⟩ := open_int Tryd.underlying3 (hval 1 3 v1 rfl rfl) h1
  have hx1 := wf_i64b w1
  obtain ⟨E, hE, hD⟩ := errs hL
  have hErrGone : Sen W 0 (E 0) := hE list[0] (List.getElem_mem _)
  have hErrThere : Sen W 1 (E 1) := hE list[1] (List.getElem_mem _)
  have hErrFull : Sen W 2 (E 2) := hE list[2] (List.getElem_mem _)
  clear hA0 hval0
  refine (leasts_any a0 n0 c0 l0 x1 W hr0 (by have := hr0.len; rwa [ints_len] at this) hErrGone).mono fun e W' ⟨he, bel⟩ => ?_
  subst he
  exact ⟨_, rfl, _, _, _, [], _, [], hW', trodAll_mk1 (shut_bool Tryd.underlying4 _), (trodAll_cons_mk (Below.trod laidOut (by kernel_rfl) (of_decide_eq_true (by kernel_rfl)) k0 bel lt0) (trodAll_cons_mk (shut_int Tryd.underlying3 w1) trodAll_mk0)), rfl, bel.frame _, fun h => by cases h⟩

theorem over : Rows.queueLeastRow.holds Tryd.pinned (OpenSpec.ofChange Rows.queueLeastSpec) :=
  OpenClaim.holds_of_wide 6 Tryd.f6 rfl rfl rfl rfl rfl rfl rfl ⟨rfl, rfl, rfl, rfl, rfl⟩ rfl rfl rfl rfl rfl (by kernel_rfl) Tryd.func6 (by kernel_rfl)
    (of_decide_eq_true (by kernel_rfl)) (by unfold Func.isWrapper; first | (rw [if_pos (by decide +kernel)]; kernel_rfl) | (rw [if_neg (by decide +kernel)]; exact ⟨rfl, rfl⟩))
    (fun os started H enc _ => lifted os started H enc)

/-- No parameter wants a stand-in. -/
theorem plain (f : FuncId) (fn : Func) (hf : Tryd.pinned.checked.prog.funcNamed "almoner/almonerlaw07.QueueLeast" = some f) (hfn : Tryd.pinned.checked.prog.funcs[f]? = some fn) :
    true = Tryd.pinned.checked.prog.looks [] ∧ ∀ (j : Nat) t, fn.params[j]? = some t → Tryd.pinned.checked.prog.wantsStandIn t = false := by
  obtain rfl : f = 6 := Option.some.inj ((show Tryd.prog.funcNamed "almoner/almonerlaw07.QueueLeast" = some 6 by kernel_rfl).symm.trans hf) |>.symm
  obtain rfl : fn = Tryd.f6 := (Option.some.inj (Tryd.func6.symm.trans hfn)).symm
  refine ⟨by kernel_rfl, fun j t ht => ?_⟩
  rw [Tryd.params6] at ht
  have hm := Array.mem_of_getElem? ht
  simp only [List.mem_toArray, List.mem_cons, List.not_mem_nil, or_false] at hm
  rcases hm with rfl | rfl
  · exact (show Tryd.prog.wantsStandIn 22 = false by kernel_rfl)
  · exact (show Tryd.prog.wantsStandIn 3 = false by kernel_rfl)

/-- The statement. -/
theorem proved : Rows.QueueLeastCardSaid :=
  Claim7.holds_tied_plain_at .later [] _ _ _ _ over (fun _ h => by cases h) (by kernel_rfl) (fun _ h => by cases h) queueLeast_row_tie rfl ⟨rfl, rfl⟩ (by kernel_rfl) rfl plain (by kernel_rfl)
#print axioms proved
end Go.Proofs.YtocjbllkgbjihaaDoor.queueLeast
