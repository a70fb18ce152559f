/-
  Two writers and what was put on them: what a round of the statement WireWrites keeps.
-/
import Derived.Test.YtelnnlfbfbbnaaaDoorWrGen
namespace Go.Proofs.YtelnnlfbfbbnaaaDoor
open Go.RowKit
set_option linter.unusedVariables false
theorem cell_lt {w : World} {a : Addr} {v : Value} (h : w.cell? a = some v) : a.block < w.heap.size := by
  refine Nat.lt_of_not_le fun hge => ?_
  simp [World.cell?, Array.getElem?_eq_none hge] at h
/-- A writer (block g, bytes, spoilt) and the law's list beside it (bytes ps, a mark q). -/
structure Zs where
  g : Nat
  A : Option Addr
  n : Nat
  c : Nat
  bs : List Nat
  sp : Bool
  B : Option Addr
  m : Nat
  d : Nat
  ps : List Nat
  q : Bool
structure W1 (w : World) (q3 q4 q5 lo k : Nat) (Z : Zs) : Prop where
  ws : WrS w Z.g Z.A Z.n Z.c Z.bs Z.sp
  gq : Z.g < q3
  q34 : q3 < q4
  q45 : q4 < q5
  q5l : q5 < lo
  lw : lo ≤ w.heap.size
  alo : ∀ a, Z.A = some a → lo ≤ a.block
  c3 : w.cell? ⟨q3, k, none⟩ = some (.pointer (some ⟨Z.g, 0, none⟩))
  c4 : w.cell? ⟨q4, k, none⟩ = some (.slice Z.B Z.m Z.d)
  c5 : w.cell? ⟨q5, k, none⟩ = some (.bool Z.q)
  f4 : w.frozen? ⟨q4, k, none⟩ = false
  f5 : w.frozen? ⟨q5, k, none⟩ = false
  put : Own w lo 5 1 Z.B Z.m Z.d (u8s Z.ps)
  ab : ∀ a b, Z.A = some a → Z.B = some b → a.block ≠ b.block
section
variable {w w' : World} {q3 q4 q5 lo k j : Nat} {Z Y : Zs}
theorem W1.blo (h : W1 w q3 q4 q5 lo k Z) : ∀ b, Z.B = some b → lo ≤ b.block := fun b hb => h.put.base_le b.block (by rw [hb]; rfl)
theorem frozen_of {w w' : World} {a : Addr} (h : w'.heap[a.block]? = w.heap[a.block]?) : w'.frozen? a = w.frozen? a := World.frozen?_of_block h
/-- What leaves the writer's and the list's blocks alone keeps both. -/
theorem W1.fr (h : W1 w q3 q4 q5 lo k Z) {P : Nat → Prop} (hf : Fr w w' P) (h3 : ¬ P q3) (h4 : ¬ P q4) (h5 : ¬ P q5) (hg : ¬ P Z.g) (hA : ∀ a, Z.A = some a → ¬ P a.block) (hB : ∀ b, Z.B = some b → ¬ P b.block) : W1 w' q3 q4 q5 lo k Z := by
  have e3 := hf.block q3 (cell_lt h.c3) h3
  have e4 := hf.block q4 (cell_lt h.c4) h4
  have e5 := hf.block q5 (cell_lt h.c5) h5
  exact ⟨h.ws.keep hf hg hA, h.gq, h.q34, h.q45, h.q5l, Nat.le_trans h.lw hf.size, h.alo, (World.cell?_of_block e3).trans h.c3, (World.cell?_of_block e4).trans h.c4, (World.cell?_of_block e5).trans h.c5,
    (frozen_of e4).trans h.f4, (frozen_of e5).trans h.f5, hf.own h.put hB, h.ab⟩
theorem W1.ext (h : W1 w q3 q4 q5 lo k Z) (hx : Ext w w') : W1 w' q3 q4 q5 lo k Z :=
  h.fr (Fr.of_ext hx (fun _ => False)) (fun h => h) (fun h => h) (fun h => h) (fun h => h) (fun _ _ h => h) (fun _ _ h => h)
/-- A store into a cell of another one leaves it. -/
theorem W1.st (h : W1 w q3 q4 q5 lo k Z) {q : Nat} (hq : q = q4 ∨ q = q5) (hj : j ≠ k) (v : Value) : W1 (w.setCell ⟨q, j, none⟩ v) q3 q4 q5 lo k Z := by
  have hlt := h.gq
  have h34 := h.q34
  have h45 := h.q45
  have h5l := h.q5l
  have hq3 : q3 ≠ q := by omega
  have hqg : Z.g ≠ q := by omega
  have hql : q < lo := by omega
  have hf := Fr.store w ⟨q, j, none⟩ v
  have cc : ∀ b, (w.setCell ⟨q, j, none⟩ v).cell? ⟨b, k, none⟩ = w.cell? ⟨b, k, none⟩ := fun b => World.cell?_setCell_other _ _ _ _ (by
    intro e
    injection e with _ e _
    exact hj e)
  exact ⟨h.ws.keep hf hqg (fun a ha e => by have := h.alo a ha; have e : a.block = q := e; omega), hlt, h34, h45, h5l, by rw [World.size_setCell]; exact h.lw, h.alo, (cc _).trans h.c3, (cc _).trans h.c4, (cc _).trans h.c5,
    (World.frozen?_setCell _ _ _ _).trans h.f4, (World.frozen?_setCell _ _ _ _).trans h.f5, hf.own h.put (fun b hb e => by have := h.blo b hb; have e : b.block = q := e; omega), h.ab⟩
end
structure W2 (w : World) (q3 q4 q5 lo k j : Nat) (Z Y : Zs) : Prop where
  a : W1 w q3 q4 q5 lo k Z
  b : W1 w q3 q4 q5 lo j Y
  kj : k ≠ j
  g : Z.g ≠ Y.g
  AA : ∀ a b, Z.A = some a → Y.A = some b → a.block ≠ b.block
  AB : ∀ a b, Z.A = some a → Y.B = some b → a.block ≠ b.block
  BA : ∀ a b, Z.B = some a → Y.A = some b → a.block ≠ b.block
  BB : ∀ a b, Z.B = some a → Y.B = some b → a.block ≠ b.block
section
variable {w w' : World} {q3 q4 q5 lo k j : Nat} {Z Y : Zs}
theorem W2.symm (h : W2 w q3 q4 q5 lo k j Z Y) : W2 w q3 q4 q5 lo j k Y Z :=
  ⟨h.b, h.a, h.kj.symm, h.g.symm, fun a b ha hb => (h.AA b a hb ha).symm, fun a b ha hb => (h.BA b a hb ha).symm, fun a b ha hb => (h.AB b a hb ha).symm, fun a b ha hb => (h.BB b a hb ha).symm⟩
theorem W2.ext (h : W2 w q3 q4 q5 lo k j Z Y) (hx : Ext w w') : W2 w' q3 q4 q5 lo k j Z Y := ⟨h.a.ext hx, h.b.ext hx, h.kj, h.g, h.AA, h.AB, h.BA, h.BB⟩
theorem W1.Alt (h : W1 w q3 q4 q5 lo k Z) : ∀ a, Z.A = some a → a.block < w.heap.size := fun a ha => by
  rcases h.ws.own.2 with ⟨e, _⟩ | ⟨g', _, _, e, _, hgg, _⟩
  · injection e with e; rw [e] at ha; cases ha
  · injection e with e; rw [e] at ha; cases ha; exact (Array.getElem?_eq_some_iff.1 hgg).1
theorem W1.Blt (h : W1 w q3 q4 q5 lo k Z) : ∀ a, Z.B = some a → a.block < w.heap.size := fun a ha => by
  rcases h.put.2 with ⟨e, _⟩ | ⟨g', _, _, e, _, hgg, _⟩
  · injection e with e; rw [e] at ha; cases ha
  · injection e with e; rw [e] at ha; cases ha; exact (Array.getElem?_eq_some_iff.1 hgg).1
/-- A call on writer k. -/
theorem W2.call (h : W2 w q3 q4 q5 lo k j Z Y) {A' : Option Addr} {n' c' : Nat} {bs' : List Nat} {sp' : Bool} (hw : WrS w' Z.g A' n' c' bs' sp') (hf : Fr w w' (fun b => b = Z.g ∨ Z.A.map (·.block) = some b))
    (hA : ∀ a, A' = some a → Z.A.map (·.block) = some a.block ∨ w.heap.size ≤ a.block) : W2 w' q3 q4 q5 lo k j ⟨Z.g, A', n', c', bs', sp', Z.B, Z.m, Z.d, Z.ps, Z.q⟩ Y := by
  have hgq := h.a.gq
  have h34 := h.a.q34
  have h45 := h.a.q45
  have h5l := h.a.q5l
  have hlw := h.a.lw
  have nA : ∀ b : Nat, Z.A.map (·.block) = some b → lo ≤ b := fun b hb => by
    obtain ⟨a, ha, rfl⟩ := Option.map_eq_some_iff.1 hb
    exact h.a.alo a ha
  have n3 : ∀ q, q < lo → q ≠ Z.g → ¬ (q = Z.g ∨ Z.A.map (·.block) = some q) := fun q h1 h2 hh => by
    rcases hh with hh | hh
    · exact h2 hh
    · have := nA _ hh; omega
  have nb : ∀ x, Z.g < x → (∀ a, Z.A = some a → a.block ≠ x) → ¬ (x = Z.g ∨ Z.A.map (·.block) = some x) := fun x h1 h2 hh => by
    rcases hh with hh | hh
    · omega
    · obtain ⟨a, ha, hax⟩ := Option.map_eq_some_iff.1 hh
      exact h2 a ha hax
  have e3 := hf.block q3 (cell_lt h.a.c3) (n3 _ (by omega) (by omega))
  have e4 := hf.block q4 (cell_lt h.a.c4) (n3 _ (by omega) (by omega))
  have e5 := hf.block q5 (cell_lt h.a.c5) (n3 _ (by omega) (by omega))
  have old : ∀ a, A' = some a → (∃ a0, Z.A = some a0 ∧ a0.block = a.block) ∨ w.heap.size ≤ a.block := fun a ha => by
    rcases hA a ha with h | h
    · exact .inl (Option.map_eq_some_iff.1 h)
    · exact .inr h
  have far : ∀ (X : Option Addr), (∀ b, X = some b → b.block < w.heap.size) → (∀ a b, Z.A = some a → X = some b → a.block ≠ b.block) → ∀ a b, A' = some a → X = some b → a.block ≠ b.block := fun X h1 h2 a b ha hb => by
    rcases old a ha with ⟨a0, h3, h4⟩ | h3
    · rw [← h4]; exact h2 a0 b h3 hb
    · have := h1 b hb; omega
  refine ⟨⟨hw, hgq, h34, h45, h5l, Nat.le_trans hlw hf.size, fun a ha => ?_, (World.cell?_of_block e3).trans h.a.c3, (World.cell?_of_block e4).trans h.a.c4, (World.cell?_of_block e5).trans h.a.c5,
    (frozen_of e4).trans h.a.f4, (frozen_of e5).trans h.a.f5, hf.own h.a.put (fun b hb => nb _ (by have := h.a.blo b hb; omega) (fun a ha => h.a.ab a b ha hb)), far _ h.a.Blt h.a.ab⟩,
    h.b.fr hf (n3 _ (by omega) (by omega)) (n3 _ (by omega) (by omega)) (n3 _ (by omega) (by omega)) (n3 _ (by have := h.b.gq; omega) (fun e => h.g e.symm)) (fun a ha => nb _ (by have := h.b.alo a ha; omega) (fun a0 h0 => h.AA a0 a h0 ha))
      (fun b hb => nb _ (by have := h.b.blo b hb; omega) (fun a0 h0 => h.AB a0 b h0 hb)), h.kj, h.g, far _ h.b.Alt h.AA, far _ h.b.Blt h.AB, h.BA, h.BB⟩
  rcases old a ha with ⟨a0, h3, h4⟩ | h3
  · have := h.a.alo a0 h3; omega
  · omega
/-- The list k is appended to and stored. -/
theorem W2.app (h : W2 w q3 q4 q5 lo k j Z Y) {B' : Option Addr} {m' d' : Nat} {ps' : List Nat} (ho : Own w' lo 5 1 B' m' d' (u8s ps')) (hf : Fr w w' (fun b => Z.B.map (·.block) = some b))
    (hB : ∀ a, B' = some a → Z.B.map (·.block) = some a.block ∨ w.heap.size ≤ a.block) :
    W2 (w'.setCell ⟨q4, k, none⟩ (.slice B' m' d')) q3 q4 q5 lo k j ⟨Z.g, Z.A, Z.n, Z.c, Z.bs, Z.sp, B', m', d', ps', Z.q⟩ Y := by
  have hgq := h.a.gq
  have h34 := h.a.q34
  have h45 := h.a.q45
  have h5l := h.a.q5l
  have hlw := h.a.lw
  have n3 : ∀ q, q < lo → ¬ (Z.B.map (·.block) = some q) := fun q h1 hh => by
    obtain ⟨a, ha, hab⟩ := Option.map_eq_some_iff.1 hh
    have := h.a.blo a ha
    omega
  have nb : ∀ x, (∀ a, Z.B = some a → a.block ≠ x) → ¬ (Z.B.map (·.block) = some x) := fun x h2 hh => by
    obtain ⟨a, ha, hax⟩ := Option.map_eq_some_iff.1 hh
    exact h2 a ha hax
  have old : ∀ a, B' = some a → (∃ a0, Z.B = some a0 ∧ a0.block = a.block) ∨ w.heap.size ≤ a.block := fun a ha => by
    rcases hB a ha with h | h
    · exact .inl (Option.map_eq_some_iff.1 h)
    · exact .inr h
  have far : ∀ (X : Option Addr), (∀ b, X = some b → b.block < w.heap.size) → (∀ a b, Z.B = some a → X = some b → a.block ≠ b.block) → ∀ a b, B' = some a → X = some b → a.block ≠ b.block := fun X h1 h2 a b ha hb => by
    rcases old a ha with ⟨a0, h3, h4⟩ | h3
    · rw [← h4]; exact h2 a0 b h3 hb
    · have := h1 b hb; omega
  have e3 := hf.block q3 (cell_lt h.a.c3) (n3 _ (by omega))
  have e4 := hf.block q4 (cell_lt h.a.c4) (n3 _ (by omega))
  have e5 := hf.block q5 (cell_lt h.a.c5) (n3 _ (by omega))
  have d4 := (World.cell?_of_block e4).trans h.a.c4
  have hs := Fr.store w' ⟨q4, k, none⟩ (.slice B' m' d')
  have cf : ∀ q, q ≠ q4 → (w'.setCell ⟨q4, k, none⟩ (.slice B' m' d')).cell? ⟨q, k, none⟩ = w'.cell? ⟨q, k, none⟩ := fun q hq => World.cell?_setCell_other _ _ _ _ (fun e => hq (by injection e with e; exact e.symm))
  refine ⟨⟨(h.a.ws.keep hf (n3 _ (by omega)) (fun a ha => nb _ (fun b hb e => h.a.ab a b ha hb e.symm))).keep hs (by show ¬ Z.g = q4; omega) (fun a ha e => by have := h.a.alo a ha; have e : a.block = q4 := e; omega), hgq, h34, h45, h5l,
    by rw [World.size_setCell]; exact Nat.le_trans hlw hf.size, h.a.alo, (cf _ (by omega)).trans ((World.cell?_of_block e3).trans h.a.c3), World.cell?_setCell_same _ _ _ d4, (cf _ (by omega)).trans ((World.cell?_of_block e5).trans h.a.c5),
    (World.frozen?_setCell _ _ _ _).trans ((frozen_of e4).trans h.a.f4), (World.frozen?_setCell _ _ _ _).trans ((frozen_of e5).trans h.a.f5), hs.own ho (fun b hb e => ?_), fun a b ha hb => (far _ h.a.Alt (fun a b ha hb e => h.a.ab b a hb ha e.symm) b a hb ha).symm⟩,
    (h.b.fr hf (n3 _ (by omega)) (n3 _ (by omega)) (n3 _ (by omega)) (n3 _ (by have := h.b.gq; omega)) (fun a ha => nb _ (fun b hb => h.BA b a hb ha)) (fun a ha => nb _ (fun b hb => h.BB b a hb ha))).st (.inl rfl) h.kj _,
    h.kj, h.g, h.AA, h.AB, far _ h.b.Alt h.BA, far _ h.b.Blt h.BB⟩
  have e : b.block = q4 := e
  have hb : B' = some b := hb
  have := ho.base_le b.block (by rw [hb]; rfl)
  omega
/-- The mark k is set. -/
theorem W2.mark (h : W2 w q3 q4 q5 lo k j Z Y) (b : Bool) : W2 (w.setCell ⟨q5, k, none⟩ (.bool b)) q3 q4 q5 lo k j ⟨Z.g, Z.A, Z.n, Z.c, Z.bs, Z.sp, Z.B, Z.m, Z.d, Z.ps, b⟩ Y := by
  have hgq := h.a.gq
  have h34 := h.a.q34
  have h45 := h.a.q45
  have h5l := h.a.q5l
  have hs := Fr.store w ⟨q5, k, none⟩ (.bool b)
  have cf : ∀ q, q ≠ q5 → (w.setCell ⟨q5, k, none⟩ (.bool b)).cell? ⟨q, k, none⟩ = w.cell? ⟨q, k, none⟩ := fun q hq => World.cell?_setCell_other _ _ _ _ (fun e => hq (by injection e with e; exact e.symm))
  exact ⟨⟨h.a.ws.keep hs (by show ¬ Z.g = q5; omega) (fun a ha e => by have := h.a.alo a ha; have e : a.block = q5 := e; omega), hgq, h34, h45, h5l, by rw [World.size_setCell]; exact h.a.lw, h.a.alo,
    (cf _ (by omega)).trans h.a.c3, (cf _ (by omega)).trans h.a.c4, World.cell?_setCell_same _ _ _ h.a.c5, (World.frozen?_setCell _ _ _ _).trans h.a.f4, (World.frozen?_setCell _ _ _ _).trans h.a.f5,
    hs.own h.a.put (fun b hb e => by have := h.a.blo b hb; have e : b.block = q5 := e; omega), h.a.ab⟩, h.b.st (.inr rfl) h.kj _, h.kj, h.g, h.AA, h.AB, h.BA, h.BB⟩
end
end Go.Proofs.YtelnnlfbfbbnaaaDoor
