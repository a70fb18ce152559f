/-
  A map keyed by ints that the program made, as a function from ints to values.
-/
import Derived.Test.YtocjbllkgbjihaaDoorFr
import Derived.Maps.OwnSet
import Derived.Maps.OwnOps
namespace Go.Proofs.YtocjbllkgbjihaaDoor
set_option maxRecDepth 100000
open Go.RowKit Go.Maps
set_option linter.unusedVariables false
/-- A value reads as itself. -/
def tok (v : Value) : Option (DataW Value × List MemPlace) := some (.held v, [])
/-- Block b is a map of at most n entries: under x it has f x. -/
def MapI (P : Program) (kt : TypeId) (w : World) (b n : Nat) (f : Int → Option Value) : Prop :=
  ∃ D : DataW Value, w.ownsMap P kt tok b n D ∧ IsMap D ∧ ∀ x : Int, has D (.int .i64 x) = (f x).isSome ∧ ∀ v, f x = some v → ∀ z, D.atKey (.int .i64 x) z = .held v
section
variable {P : Program} {kt et t : TypeId} {w : World} {b n : Nat} {f : Int → Option Value}
theorem MapI.made (P : Program) (kt : TypeId) (w : World) : MapI P kt (w.alloc (.map #[] 0)) w.heap.size 0 (fun _ => none) :=
  ⟨.map [], World.ownsMap_made w P kt tok, isMap_empty, fun x => ⟨rfl, fun v h => by cases h⟩⟩
theorem MapI.lt (h : MapI P kt w b n f) : b < w.heap.size := by obtain ⟨D, h1, _⟩ := h; exact h1.lt
theorem MapI.fr {w' : World} {Q : Nat → Prop} (h : MapI P kt w b n f) (hf : Fr w w' Q) (hb : ¬ Q b) : MapI P kt w' b n f := by
  have hlt := h.lt
  obtain ⟨D, ⟨es, cl, hh, rest⟩, h2⟩ := h
  exact ⟨D, ⟨es, cl, (hf.block b hlt hb).trans hh, rest⟩, h2⟩
theorem MapI.ext {w' : World} (h : MapI P kt w b n f) (hx : Ext w w') : MapI P kt w' b n f := h.fr (Fr.of_ext hx (fun _ => False)) (fun h => h)
theorem wf64 {x : Int} (h : -9223372036854775808 ≤ x ∧ x ≤ 9223372036854775807) : (Lit.int .i64 x).wf = true := by
  simp [Lit.wf, IntKind.min, IntKind.max, IntKind.signed, IntKind.bits]
  omega
theorem key64 {x : Int} (h : -9223372036854775808 ≤ x ∧ x ≤ 9223372036854775807) : WideAt.IsKeyLit (.int .i64 x) := by
  first
    | exact trivial
    | (unfold WideAt.IsKeyLit; exact trivial)
    | simp [WideAt.IsKeyLit]
theorem MapI.at_ (h : MapI P kt w b n f) (ht : P.underlying t = some (.map kt et)) (hk : P.underlying kt = some (.int .i64)) {z : Value} (hz : (zeroValue et).run P w = .ok z w) {x : Int} (hx : -9223372036854775808 ≤ x ∧ x ≤ 9223372036854775807) :
    (Instr.lookup t (.map (some b)) (.int .i64 x) false).run P w = .ok ((f x).getD z) w := by
  obtain ⟨D, h1, _, h2⟩ := h
  obtain ⟨v, ps, hrun, hv⟩ := h1.lookup (int_keyed hk) ht hz (zd := .held z) rfl (keyOf_int_mk hk (wf64 hx))
  rw [hrun]
  congr 1
  simp only [tok, Option.some.injEq, Prod.mk.injEq] at hv
  obtain ⟨hv, _⟩ := hv
  obtain ⟨g1, g2⟩ := h2 x
  cases hf : f x with
  | some u =>
    rw [g2 u hf] at hv
    injection hv with hv
  | none =>
    rw [hf] at g1
    rw [atKey_of_not_has g1] at hv
    injection hv with hv
theorem MapI.at_ok (h : MapI P kt w b n f) (ht : P.underlying t = some (.map kt et)) (hk : P.underlying kt = some (.int .i64)) {z : Value} (hz : (zeroValue et).run P w = .ok z w) {x : Int} (hx : -9223372036854775808 ≤ x ∧ x ≤ 9223372036854775807) :
    (Instr.lookup t (.map (some b)) (.int .i64 x) true).run P w = .ok (.tuple #[(f x).getD z, .bool (f x).isSome]) w := by
  obtain ⟨D, h1, _, h2⟩ := h
  obtain ⟨v, ps, hrun, hv⟩ := h1.look_ok (int_keyed hk) ht hz (zd := .held z) rfl (keyOf_int_mk hk (wf64 hx))
  rw [hrun]
  obtain ⟨g1, g2⟩ := h2 x
  rw [g1]
  simp only [tok, Option.some.injEq, Prod.mk.injEq] at hv
  obtain ⟨hv, _⟩ := hv
  have e : v = (f x).getD z := by
    cases hf : f x with
    | some u =>
      rw [g2 u hf] at hv
      injection hv with hv
    | none =>
      rw [hf] at g1
      rw [atKey_of_not_has g1] at hv
      injection hv with hv
  rw [e]
theorem MapI.store (h : MapI P kt w b n f) (ht : P.underlying t = some (.map kt et)) (hk : P.underlying kt = some (.int .i64)) (hn : n < 4611686018427387904) {x : Int} (hx : -9223372036854775808 ≤ x ∧ x ≤ 9223372036854775807) (v : Value) :
    ∃ w', (Instr.mapUpdate t (.map (some b)) (.int .i64 x) v).run P w = .ok () w' ∧ MapI P kt w' b (n + 1) (fun y => if y = x then some v else f y) ∧ Fr w w' (· = b) := by
  obtain ⟨D, h1, hi, h2⟩ := h
  obtain ⟨w', hrun, h3, h4⟩ := h1.store (int_keyed hk) ht (by unfold maxLen; omega) (keyOf_int_mk hk (wf64 hx)) (val := v) (d := .held v) (ps := []) rfl
  have hg := h4.grown
  refine ⟨w', hrun, ⟨_, h3, hi.put _ _, fun y => ?_⟩, ⟨hg.os, hg.tape, hg.output, hg.size, fun k hk hb => hg.block k hk (fun e => hb (by injection e))⟩⟩
  dsimp only
  by_cases e : y = x
  · subst e
    rw [if_pos rfl]
    exact ⟨by rw [has_put_same hi (key64 hx)]; rfl, fun u hu z => by injection hu with hu; subst hu; exact atKey_put_same hi (key64 hx) _ _⟩
  · rw [if_neg e]
    have ne : (Lit.int .i64 y) ≠ (Lit.int .i64 x) := fun e2 => e (by injection e2)
    obtain ⟨g1, g2⟩ := h2 y
    exact ⟨by rw [has_put_other ne]; exact g1, fun u hu z => by rw [atKey_put_other ne]; exact g2 u hu z⟩
end
end Go.Proofs.YtocjbllkgbjihaaDoor
