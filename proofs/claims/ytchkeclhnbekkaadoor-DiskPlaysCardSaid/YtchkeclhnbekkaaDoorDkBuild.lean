/-
  A write built of a number and a sector; a row of one write.
-/
import Derived.Test.YtchkeclhnbekkaaDoorDkRead
import Derived.Great.BuildSlice
namespace Go.Proofs.YtchkeclhnbekkaaDoor
set_option maxRecDepth 100000
open Go.RowKit Go.Maps
set_option linter.unusedVariables false
theorem fold_get (off : Nat) : ∀ (v : List Value) (k : Nat) (cs : Array Value), ((v.zipIdx k).foldl (fun cs (p : Value × Nat) => cs.setIfInBounds (off + p.2) p.1) cs).size = cs.size ∧
    ∀ j, ((v.zipIdx k).foldl (fun cs (p : Value × Nat) => cs.setIfInBounds (off + p.2) p.1) cs)[j]? = if off + k ≤ j ∧ j < off + k + v.length ∧ j < cs.size then v[j - off - k]? else cs[j]?
  | [], k, cs => ⟨rfl, fun j => by rw [if_neg (by simp; omega)]; rfl⟩
  | a :: v, k, cs => by
    obtain ⟨h1, h2⟩ := fold_get off v (k + 1) (cs.setIfInBounds (off + k) a)
    rw [List.zipIdx_cons, List.foldl_cons]
    refine ⟨by rw [h1]; simp, fun j => ?_⟩
    rw [h2 j]
    simp only [Array.size_setIfInBounds, List.length_cons]
    by_cases e : j = off + k
    · subst e
      rw [if_neg (by omega), Array.getElem?_setIfInBounds_self]
      by_cases hl : off + k < cs.size
      · rw [if_pos hl, if_pos ⟨by omega, by omega, hl⟩]
        simp
      · rw [if_neg hl, if_neg (by omega), Array.getElem?_eq_none (by omega)]
    · rw [Array.getElem?_setIfInBounds_ne (by omega)]
      by_cases h : off + k ≤ j ∧ j < off + k + (v.length + 1) ∧ j < cs.size
      · rw [if_pos ⟨by omega, by omega, h.2.2⟩, if_pos h]
        obtain ⟨q, hq⟩ : ∃ q, j - off - k = q + 1 := ⟨j - off - k - 1, by omega⟩
        rw [hq, show j - off - (k + 1) = q by omega]
        rfl
      · rw [if_neg (by omega), if_neg h]
theorem fold_arr (off : Nat) (v cs : Array Value) : (v.zipIdx.foldl (fun cs (p : Value × Nat) => cs.setIfInBounds (off + p.2) p.1) cs).size = cs.size ∧
    ∀ j, (v.zipIdx.foldl (fun cs (p : Value × Nat) => cs.setIfInBounds (off + p.2) p.1) cs)[j]? = if off ≤ j ∧ j < off + v.size ∧ j < cs.size then v[j - off]? else cs[j]? := by
  have h := fold_get off v.toList 0 cs
  have e : v.zipIdx.foldl (fun cs (p : Value × Nat) => cs.setIfInBounds (off + p.2) p.1) cs = (v.toList.zipIdx 0).foldl (fun cs (p : Value × Nat) => cs.setIfInBounds (off + p.2) p.1) cs := by
    rw [← Array.foldl_toList]
    simp
  rw [e]
  simpa using h
theorem fill_one {place : Nat → Option (Nat × Nat)} {cells : Array Value} {i off size : Nat} {v : Value} {rest : List (Nat × Value)} (hp : place i = some (off, size)) (hc : v.cells.size = size) (ho : off + size ≤ cells.size) :
    Instr.fill place cells ((i, v) :: rest) = Instr.fill place (v.cells.zipIdx.foldl (fun cs (p : Value × Nat) => cs.setIfInBounds (off + p.2) p.1) cells) rest := by
  have h1 : ¬ (off + size > cells.size) := by omega
  simp [Instr.fill, hp, hc, h1]
theorem built_wr (v0 v1 : Value) : Tryd.prog.built 63 [(0, v0), (1, v1)] = Instr.fill (fun k => (#[(0, 1), (1, 64)] : Array (Nat × Nat))[k]?) (wrow ⟨0, z64⟩).toArray [(0, v0), (1, v1)] := by kernel_rfl
theorem wrow_get (x : WrV) (j : Nat) : (wrow x)[j]? = if j = 0 then some (.int .i64 x.i) else (u8s x.s)[j - 1]? := by
  cases j with
  | zero => rfl
  | succ j => simp [wrow]
theorem run_built (i : Int) {s : List Nat} (hs : IsSec s) (w : World) : (Instr.build 63 #[(0, .int .i64 i), (1, .agg (u8s s).toArray)]).run Tryd.prog w = .ok (.agg (wrow ⟨i, s⟩).toArray) w := by
  refine run_build w _ _ _ ?_
  show Tryd.prog.built 63 [(0, .int .i64 i), (1, .agg (u8s s).toArray)] = _
  have hz := wrow_size (x := ⟨0, z64⟩) isSec_z64
  have hl := sec_size hs
  rw [built_wr, fill_one (off := 0) (size := 1) rfl rfl (by omega)]
  obtain ⟨s1, g1⟩ := fold_arr 0 (Value.int .i64 i).cells (wrow ⟨0, z64⟩).toArray
  generalize ((Value.int .i64 i).cells.zipIdx.foldl (fun cs (p : Value × Nat) => cs.setIfInBounds (0 + p.2) p.1) (wrow ⟨0, z64⟩).toArray) = c1 at *
  rw [fill_one (off := 1) (size := 64) (v := .agg (u8s s).toArray) rfl hl (by omega)]
  obtain ⟨s2, g2⟩ := fold_arr 1 (Value.agg (u8s s).toArray).cells c1
  generalize ((Value.agg (u8s s).toArray).cells.zipIdx.foldl (fun cs (p : Value × Nat) => cs.setIfInBounds (1 + p.2) p.1) c1) = c2 at *
  show some c2 = _
  congr 1
  have e65 := wrow_size (x := ⟨i, s⟩) hs
  apply Array.ext_getElem?
  intro j
  rw [g2 j, s1, hz]
  have hc : (Value.agg (u8s s).toArray).cells = (u8s s).toArray := rfl
  rw [hc, hl]
  by_cases h0 : j = 0
  · subst h0
    rw [if_neg (by omega), g1 0, if_pos ⟨by omega, by show 0 < 0 + 1; omega, by omega⟩]
    rfl
  · have e9 : (wrow ⟨i, s⟩).toArray[j]? = (wrow ⟨i, s⟩)[j]? := by simp
    rw [e9, wrow_get, if_neg h0]
    by_cases hj : j < 65
    · rw [if_pos ⟨by omega, by omega, hj⟩, List.getElem?_toArray]
    · rw [if_neg (by omega), Array.getElem?_eq_none (by omega), List.getElem?_eq_none (by rw [u8s_len, hs.1]; omega)]
theorem infoWr2 : ∃ ie, Tryd.prog.info? 63 = some ie ∧ ie.zero = some (.agg (wrow ⟨0, z64⟩).toArray) ∧ ie.size = 65 := by
  obtain ⟨i, hi, hz, hs, _⟩ := info_parts eltWr.info
  exact ⟨i, hi, hz, hs⟩
theorem run_builtSlice {x : WrV} (hs : IsSec x.s) (w : World) : (Instr.buildSlice 56 1 #[(0, .agg (wrow x).toArray)]).run Tryd.prog w = .ok (.slice (some ⟨w.heap.size, 0, none⟩) 1 1) (w.alloc (.cells (wrow x).toArray 63)) := by
  obtain ⟨ie, h1, h2, h3⟩ := infoWr2
  refine run_buildSlice w _ _ 1 _ _ ie _ Tryd.underlying56 h1 h2 (by rw [h3]; omega) (by rw [h3]; omega) ?_
  show Instr.fill _ _ [(0, .agg (wrow x).toArray)] = _
  have hl := wrow_size hs
  rw [h3]
  rw [fill_one (off := 0) (size := 65) (v := .agg (wrow x).toArray) rfl hl (by simp)]
  obtain ⟨s1, g1⟩ := fold_arr 0 (Value.agg (wrow x).toArray).cells ((Array.range (1 * 65)).map ((Value.agg (wrow ⟨0, z64⟩).toArray).cells[· % (Value.agg (wrow ⟨0, z64⟩).toArray).cells.size]!))
  generalize ((Value.agg (wrow x).toArray).cells.zipIdx.foldl (fun cs (p : Value × Nat) => cs.setIfInBounds (0 + p.2) p.1) ((Array.range (1 * 65)).map ((Value.agg (wrow ⟨0, z64⟩).toArray).cells[· % (Value.agg (wrow ⟨0, z64⟩).toArray).cells.size]!))) = c1 at *
  show some c1 = _
  congr 1
  have hc : (Value.agg (wrow x).toArray).cells = (wrow x).toArray := rfl
  have s65 : c1.size = 65 := by rw [s1]; simp
  have q65 : ((Array.range (1 * 65)).map ((Value.agg (wrow ⟨0, z64⟩).toArray).cells[· % (Value.agg (wrow ⟨0, z64⟩).toArray).cells.size]!)).size = 65 := by simp
  apply Array.ext_getElem?
  intro j
  rw [g1 j, hc, hl, q65]
  by_cases hj : j < 65
  · rw [if_pos ⟨by omega, by omega, hj⟩, Nat.sub_zero]
  · rw [if_neg (by omega), Array.getElem?_eq_none (by omega), Array.getElem?_eq_none (by omega)]
section
variable {P : Program} {ops : Array Oper} {S : World → Prop} {op : Oper} {a : Act}
theorem yields_build (hw : Region.wanted op (yielded ops a.tmps) = true) (t : TypeId) (parts : Array (Nat × Operand)) (vals : Array (Nat × Value)) (v : Value) (ho : op.op = .build t parts) (hv : (parts.map fun (i, x) => (i, a.eval x)) = vals) (hrun : ∀ w, (Instr.build t vals).run P w = .ok v w) : YieldsIf P ops S op v a :=
  .inl ⟨hw, fun w _ => by
    unfold execOp
    simp only [ho, hv, Sem.run_bind, hrun, Result.andThen_ok, Sem.run_pure]⟩
theorem oper_buildSlice {w w' : World} {K : Act → World → Prop} {Q : Exit → Act → World → Prop} (t : TypeId) (n : Nat) (parts : Array (Nat × Operand)) (vals : Array (Nat × Value)) (v : Value) (ho : op.op = .buildSlice t n parts) (hv : (parts.map fun (i, x) => (i, a.eval x)) = vals) (hrun : (Instr.buildSlice t n vals).run P w = .ok v w')
    (h : K (a.put op.dst v) w') : op.wp P a w K Q := by
  unfold Oper.wp execOp
  simp only [ho, hv, Sem.run_bind, hrun, Result.andThen_ok, Sem.run_pure]
  exact h
end
theorem run_arrAt (a : Addr) (cap : Nat) (w : World) : (Instr.arrayAt 61 (.slice (some a) 64 cap)).run Tryd.prog w = .ok (.pointer (some a)) w := by
  unfold Instr.arrayAt
  simp [run_underlying Tryd.underlying61]
end Go.Proofs.YtchkeclhnbekkaaDoor
