/-
  A map keyed by ints as a function: an entry that is there is taken and stored; an entry is deleted.
-/
import Derived.Test.YtocjbllkgbjihaaDoorMapV
import Derived.WideKeyEntry
namespace Go.Proofs.YtocjbllkgbjihaaDoor
set_option maxRecDepth 100000
open Go.RowKit Go.Maps
set_option linter.unusedVariables false
theorem heap_self {w : World} {b : Nat} {o : Obj} (h : w.heap[b]? = some o) : ({ w with heap := w.heap.setIfInBounds b o } : World) = w := by
  have hlt := (Array.getElem?_eq_some_iff.1 h).1
  have he := (Array.getElem?_eq_some_iff.1 h).2
  have e : w.heap.setIfInBounds b o = w.heap := by
    apply Array.ext'
    rw [Array.toList_setIfInBounds]
    exact Go.WideElems.set_self _ _ _ (by simpa using h)
  rw [e]
section
variable {P : Program} {kt et t : TypeId} {w : World} {b n : Nat} {f : Int → Option Value}
theorem MapI.drop (h : MapI P kt w b n f) (ht : P.underlying t = some (.map kt et)) (hk : P.underlying kt = some (.int .i64)) {x : Int} (hx : -9223372036854775808 ≤ x ∧ x ≤ 9223372036854775807) :
    ∃ w', (∀ ty, (Builtin.delete_ #[t, kt] ty #[.map (some b), .int .i64 x]).run P w = .ok (.tuple #[]) w') ∧ MapI P kt w' b n (fun y => if y = x then none else f y) ∧ Fr w w' (· = b) := by
  obtain ⟨D, h1, hi, h2⟩ := h
  obtain ⟨w', hrun, h3, h4⟩ := h1.drop (int_keyed hk) ht (keyOf_int_mk hk (wf64 hx)) 0
  have hg := h4.grown
  refine ⟨w', fun ty => ?_, ⟨_, h3, hi.del _, fun y => ?_⟩, ⟨hg.os, hg.tape, hg.output, hg.size, fun k hk hb => hg.block k hk (fun e => hb (by injection e))⟩⟩
  · obtain ⟨w2, hrun2, h5, h6⟩ := h1.drop (int_keyed hk) ht (keyOf_int_mk hk (wf64 hx)) ty
    have e : (Builtin.delete_ #[t, kt] ty #[.map (some b), .int .i64 x]) = (Builtin.delete_ #[t, kt] 0 #[.map (some b), .int .i64 x]) := rfl
    rw [e]; exact hrun
  · dsimp only
    by_cases e : y = x
    · subst e
      rw [if_pos rfl]
      exact ⟨has_del_same, fun u hu => by cases hu⟩
    · rw [if_neg e]
      have ne : (Lit.int .i64 y) ≠ (Lit.int .i64 x) := fun e2 => e (by injection e2)
      obtain ⟨g1, g2⟩ := h2 y
      exact ⟨by rw [has_del_other ne]; exact g1, fun u hu z => by rw [atKey_del_other ne]; exact g2 u hu z⟩
theorem MapI.entry (h : MapI P kt w b n f) (ht : P.underlying t = some (.map kt et)) (hk : P.underlying kt = some (.int .i64)) {z : Value} (hz : (zeroValue et).run P w = .ok z w) (hn : n < 4611686018427387904) {x : Int} (hx : -9223372036854775808 ≤ x ∧ x ≤ 9223372036854775807) (hf : (f x).isSome = true) :
    ∃ (v0 : Value) (st : Int), (Instr.mapEntry t (.map (some b)) (.int .i64 x)).run P w = .ok (.tuple #[v0, .int .i64 st]) w ∧
      ∀ v, ∃ w', (Instr.entryStore t (.map (some b)) (.int .i64 st) v).run P w = .ok () w' ∧ MapI P kt w' b (n + 1) (fun y => if y = x then some v else f y) ∧ Fr w w' (· = b) := by
  have hl := h.at_ok ht hk hz hx
  have hst := fun v => h.store ht hk hn hx v
  obtain ⟨D, ⟨es, clock, hb, F, hs, hD⟩, hi, h2⟩ := h
  obtain ⟨s1, s2, _⟩ := F.stamped
  have K := int_keyed (P := P) hk
  have hkey := keyOf_int_mk (P := P) hk (wf64 hx)
  rcases K.find w hkey es.toList F.keys with ⟨e1, e2⟩ | ⟨j, e0, e1, e2, e3⟩
  · have hl2 : (Instr.lookup t (.map (some b)) (.int .i64 x) true).run P w = .ok (.tuple #[z, .bool false]) w := by
      simp [Instr.lookup, run_underlying ht, MapKept.run_getObj_map hb, Result.andThen]
      simp [K.check w es.isEmpty hkey, e1, hz]
    rw [hl2, hf] at hl
    simp at hl
  · have hj : es[j]? = some e0 := by simpa using e2
    have hsame : es.modify j (fun e => { e with key := .int .i64 x }) = es := by
      apply Array.ext'
      rw [Array.toList_modify, Go.ChangeMaps.modify_eq_set _ _ _ _ e2]
      have e : ({ e0 with key := .int .i64 x } : MapEntry) = e0 := by rw [← e3]
      rw [e]
      exact Go.WideElems.set_self _ _ _ e2
    refine ⟨e0.val, (e0.born : Int), ?_, fun v => ?_⟩
    · have h3 := heap_self hb
      simp [Instr.mapEntry, run_underlying ht, MapKept.run_getObj_map hb, K.check w false hkey, e1, hj, e3, K.stays w hkey, hsame, MapKept.run_setObj_map _ hb, Result.andThen, goInt, h3]
    · obtain ⟨w', r1, r2, r3⟩ := hst v
      have hidx : es.findIdx? (fun e => ((e.born : Nat) : Int) == ((e0.born : Nat) : Int)) = some j := by
        rw [Go.WideElems.findIdx_arr]
        exact Go.WideElems.findIdx_born s2 e2
      have hmod : es.modify j (fun e => { e with val := v }) = es.modify j (fun e' => { e' with key := .int .i64 x, val := v }) := by
        apply Array.ext'
        rw [Array.toList_modify, Array.toList_modify, Go.ChangeMaps.modify_eq_set _ _ _ _ e2, Go.ChangeMaps.modify_eq_set _ _ _ _ e2, ← e3]
      have r0 : (Instr.mapUpdate t (.map (some b)) (.int .i64 x) v).run P w = (Instr.entryStore t (.map (some b)) (.int .i64 (e0.born : Int)) v).run P w := by
        simp [Instr.entryStore, Instr.mapUpdate, run_underlying ht, MapKept.run_getObj_map hb, K.check w false hkey, e1, hj, e3, K.stays w hkey, asInt, asIntOf, hidx, hmod, MapKept.run_setObj_map _ hb, Result.andThen]
      exact ⟨w', r0 ▸ r1, r2, r3⟩
end
end Go.Proofs.YtocjbllkgbjihaaDoor
