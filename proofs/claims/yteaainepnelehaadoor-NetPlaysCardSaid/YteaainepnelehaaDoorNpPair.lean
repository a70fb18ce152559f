/-
  A net and the document's net side by side.
-/
import Derived.Test.YteaainepnelehaaDoorNpDel
namespace Go.Proofs.YteaainepnelehaaDoor
set_option maxRecDepth 100000
open Go.RowKit
set_option linter.unusedVariables false
/-- A net and the document's net with the same letters; U: their blocks. -/
structure Pair (w : World) (g q : Nat) (U : Nat → Prop) (ls : List LetV) (last : Nat) : Prop where
  ex : ∃ F M, GN w g F ls last ∧ MN w q M ls last ∧ (∀ b, F b → ¬ M b) ∧ ∀ b, F b ∨ M b → U b
  lt : ∀ b, U b → b < w.heap.size
/-- What a call on both leaves. -/
structure PNxt (w w' : World) (g q : Nat) (U : Nat → Prop) (top : Nat) : Prop where
  ex : ∃ U' ls' last', last' ≤ top ∧ Pair w' g q U' ls' last' ∧ ∀ b, U' b → U b ∨ w.heap.size ≤ b
  fr : Fr w w' U
/-- On the way from w0: each has its letters. -/
structure PG (w0 w : World) (g q : Nat) (U F M : Nat → Prop) (ls : List LetV) (last : Nat) (ms : List LetV) (mlast : Nat) : Prop where
  gn : GN w g F ls last
  mn : MN w q M ms mlast
  dj : ∀ b, F b → ¬ M b
  cov : ∀ b, F b ∨ M b → U b ∨ w0.heap.size ≤ b
  fr : Fr w0 w U
section
variable {w0 w w' : World} {g q last mlast : Nat} {U F M : Nat → Prop} {ls ms : List LetV}
theorem Pair.start (h : Pair w g q U ls last) : ∃ F M, PG w w g q U F M ls last ls last := by
  obtain ⟨F, M, h1, h2, h3, h4⟩ := h.ex
  exact ⟨F, M, h1, h2, h3, fun b hb => .inl (h4 b hb), Fr.refl w U⟩
theorem PG.ex (h : PG w0 w g q U F M ls last ms mlast) (hx : Ext w w') : PG w0 w' g q U F M ls last ms mlast :=
  ⟨h.gn.ext hx, h.mn.ext hx, h.dj, h.cov, h.fr.trans (Fr.of_ext hx U) (fun _ _ h => h)⟩
theorem PG.step_g (h : PG w0 w g q U F M ls last ms mlast) {F' : Nat → Prop} {ls' : List LetV} {last' : Nat} (n : GNext w w' g F F' ls' last') : PG w0 w' g q U F' M ls' last' ms mlast := by
  have hz := h.fr.size
  refine ⟨n.gn, h.mn.fr n.fr (fun b hb hF => h.dj b hF hb), fun b hb hM => ?_, fun b hb => ?_, h.fr.trans n.fr (fun i hi hF => ?_)⟩
  · rcases n.fo b hb with h1 | h1
    · exact h.dj b h1 hM
    · have := h.mn.lt b hM; omega
  · rcases hb with hb | hb
    · rcases n.fo b hb with h1 | h1
      · exact h.cov b (.inl h1)
      · right; omega
    · exact h.cov b (.inr hb)
  · rcases h.cov i (.inl hF) with h1 | h1
    · exact h1
    · omega
theorem PG.step_m (h : PG w0 w g q U F M ls last ms mlast) {M' : Nat → Prop} {ms' : List LetV} {last' : Nat} (n : MNxt w w' q M M' ms' last') : PG w0 w' g q U F M' ls last ms' last' := by
  have hz := h.fr.size
  refine ⟨h.gn.fr n.fr (fun b hb hM => h.dj b hb hM), n.mn, fun b hb hM => ?_, fun b hb => ?_, h.fr.trans n.fr (fun i hi hF => ?_)⟩
  · rcases n.fo b hM with h1 | h1
    · exact h.dj b hb h1
    · have := h.gn.lt b hb; omega
  · rcases hb with hb | hb
    · exact h.cov b (.inl hb)
    · rcases n.fo b hb with h1 | h1
      · exact h.cov b (.inr h1)
      · right; omega
  · rcases h.cov i (.inr hF) with h1 | h1
    · exact h1
    · omega
/-- Writes to one block that is neither's. -/
theorem PG.wr (h : PG w0 w g q U F M ls last ms mlast) {S : Nat} (hf : Fr w w' (· = S)) (hF : ¬ F S) (hM : ¬ M S) (hU : U S ∨ w0.heap.size ≤ S) : PG w0 w' g q U F M ls last ms mlast :=
  ⟨h.gn.fr hf (fun b hb e => hF (e ▸ hb)), h.mn.fr hf (fun b hb e => hM (e ▸ hb)), h.dj, h.cov, h.fr.trans hf (fun i hi e => by
    subst e
    rcases hU with h1 | h1
    · exact h1
    · omega)⟩
theorem PG.done (h : PG w0 w g q U F M ls last ls last) {top : Nat} (ht : last ≤ top) : PNxt w0 w g q U top :=
  ⟨⟨fun b => F b ∨ M b, ls, last, ht, ⟨⟨F, M, h.gn, h.mn, h.dj, fun b hb => hb⟩, fun b hb => hb.elim (h.gn.lt b) (h.mn.lt b)⟩, h.cov⟩, h.fr⟩
theorem PG.ris (h : PG w0 w g q U F M ls last ms mlast) : Rising ls := by
  obtain ⟨A, m, c, h1, _⟩ := h.gn.ex
  exact h1.ris
theorem Pair.fr (h : Pair w g q U ls last) {P : Nat → Prop} (hf : Fr w w' P) (hne : ∀ b, U b → ¬ P b) : Pair w' g q U ls last := by
  obtain ⟨F, M, h1, h2, h3, h4⟩ := h.ex
  exact ⟨⟨F, M, h1.fr hf (fun b hb => hne b (h4 b (.inl hb))), h2.fr hf (fun b hb => hne b (h4 b (.inr hb))), h3, h4⟩, fun b hb => Nat.lt_of_lt_of_le (h.lt b hb) hf.size⟩
theorem Pair.ext (h : Pair w g q U ls last) (hx : Ext w w') : Pair w' g q U ls last := h.fr (Fr.of_ext hx (fun _ => False)) (fun _ _ h => h)
end
end Go.Proofs.YteaainepnelehaaDoor
