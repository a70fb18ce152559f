/-
  A queue and the document's queue side by side.
-/
import Derived.Test.YtocjbllkgbjihaaDoorQuRefT
import Derived.Test.YtocjbllkgbjihaaDoorQuList
import Derived.Test.YtocjbllkgbjihaaDoorNum
import Derived.Test.YtocjbllkgbjihaaDoorOpenS
namespace Go.Proofs.YtocjbllkgbjihaaDoor
set_option maxRecDepth 100000
open Go.RowKit Go.Maps
set_option linter.unusedVariables false
theorem ext_cell2 {w w' : World} (h : Ext w w') {p : Addr} {u : Value} (hc : w.cell? p = some u) : w'.cell? p = some u := (Below.cell h (block_of_cell (a := p) (k := 0) hc)).trans hc
/-- A queue and the document's queue with the same things; U: their blocks. -/
structure QPair (w : World) (g q : Nat) (U : Nat → Prop) (Z : Nat) : Prop where
  ex : ∃ F M L N, QP w g F L Z ∧ RQ w q M N ∧ L.Perm N ∧ (∀ b, F b → ¬ M b) ∧ ∀ b, F b ∨ M b → U b
  lt : ∀ b, U b → b < w.heap.size
/-- What a call on both leaves. -/
structure QNxt (w w' : World) (g q : Nat) (U : Nat → Prop) (Z : Nat) : Prop where
  ex : ∃ U', QPair w' g q U' Z ∧ ∀ b, U' b → U b ∨ w.heap.size ≤ b
  fr : Fr w w' U
/-- On the way from w0: each has its things. -/
structure QG (w0 w : World) (g q : Nat) (U F M : Nat → Prop) (L N : List Th) (Z : Nat) : Prop where
  qp : QP w g F L Z
  rq : RQ w q M N
  dj : ∀ b, F b → ¬ M b
  cov : ∀ b, F b ∨ M b → U b ∨ w0.heap.size ≤ b
  fr : Fr w0 w U
section
variable {w0 w w' : World} {g q Z Z' : Nat} {U F M : Nat → Prop} {L N : List Th}
theorem QPair.start (h : QPair w g q U Z) : ∃ F M L N, QG w w g q U F M L N Z ∧ L.Perm N := by
  obtain ⟨F, M, L, N, h1, h2, h3, h4, h5⟩ := h.ex
  exact ⟨F, M, L, N, ⟨h1, h2, h4, fun b hb => .inl (h5 b hb), Fr.refl w U⟩, h3⟩
theorem QG.ex (h : QG w0 w g q U F M L N Z) (hx : Ext w w') : QG w0 w' g q U F M L N Z :=
  ⟨h.qp.ext hx, h.rq.ext hx, h.dj, h.cov, h.fr.trans (Fr.of_ext hx U) (fun _ _ h => h)⟩
theorem QG.mono (h : QG w0 w g q U F M L N Z) (hz : Z ≤ Z') : QG w0 w g q U F M L N Z' := ⟨h.qp.mono hz, h.rq, h.dj, h.cov, h.fr⟩
theorem QG.step_g (h : QG w0 w g q U F M L N Z) {F' : Nat → Prop} {L' : List Th} (n : QN w w' g F F' L' Z') : QG w0 w' g q U F' M L' N Z' := by
  have hz := h.fr.size
  refine ⟨n.qp, h.rq.fr n.fr (fun b hb hF => h.dj b hF hb), fun b hb hM => ?_, fun b hb => ?_, h.fr.trans n.fr (fun i hi hF => ?_)⟩
  · rcases n.fo b hb with h1 | h1
    · exact h.dj b h1 hM
    · have := h.rq.lt b hM; omega
  · rcases hb with hb | hb
    · rcases n.fo b hb with h1 | h1
      · exact h.cov b (.inl h1)
      · right; omega
    · exact h.cov b (.inr hb)
  · rcases h.cov i (.inl hF) with h1 | h1
    · exact h1
    · omega
theorem QG.step_m (h : QG w0 w g q U F M L N Z) {M' : Nat → Prop} {N' : List Th} (n : RN w w' q M M' N') : QG w0 w' g q U F M' L N' Z := by
  have hz := h.fr.size
  refine ⟨h.qp.fr n.fr (fun b hb hM => h.dj b hb hM), n.rq, fun b hb hM => ?_, fun b hb => ?_, h.fr.trans n.fr (fun i hi hF => ?_)⟩
  · rcases n.fo b hM with h1 | h1
    · exact h.dj b hb h1
    · have := h.qp.lt b hb; omega
  · rcases hb with hb | hb
    · exact h.cov b (.inl hb)
    · rcases n.fo b hb with h1 | h1
      · exact h.cov b (.inr h1)
      · right; omega
  · rcases h.cov i (.inr hF) with h1 | h1
    · exact h1
    · omega
theorem QG.done (h : QG w0 w g q U F M L N Z) (hp : L.Perm N) : QNxt w0 w g q U Z :=
  ⟨⟨fun b => F b ∨ M b, ⟨⟨F, M, L, N, h.qp, h.rq, hp, h.dj, fun b hb => hb⟩, fun b hb => hb.elim (h.qp.lt b) (h.rq.lt b)⟩, h.cov⟩, h.fr⟩
/-- Writes to blocks of the call's own. -/
theorem QG.wr (h : QG w0 w g q U F M L N Z) {P : Nat → Prop} (hf : Fr w w' P) (hP : ∀ b, P b → ¬ F b ∧ ¬ M b ∧ w0.heap.size ≤ b) : QG w0 w' g q U F M L N Z :=
  ⟨h.qp.fr hf (fun b hb e => (hP b e).1 hb), h.rq.fr hf (fun b hb e => (hP b e).2.1 hb), h.dj, h.cov, h.fr.trans hf (fun i hi e => by have := (hP i e).2.2; omega)⟩
/-- A block that the call has made is neither's. -/
theorem QPair.fr (h : QPair w g q U Z) {P : Nat → Prop} (hf : Fr w w' P) (hne : ∀ b, U b → ¬ P b) : QPair w' g q U Z := by
  obtain ⟨F, M, L, N, h1, h2, h3, h4, h5⟩ := h.ex
  exact ⟨⟨F, M, L, N, h1.fr hf (fun b hb => hne b (h5 b (.inl hb))), h2.fr hf (fun b hb => hne b (h5 b (.inr hb))), h3, h4, h5⟩, fun b hb => Nat.lt_of_lt_of_le (h.lt b hb) hf.size⟩
theorem QPair.ext (h : QPair w g q U Z) (hx : Ext w w') : QPair w' g q U Z := h.fr (Fr.of_ext hx (fun _ => False)) (fun _ _ h => h)
theorem QPair.mono (h : QPair w g q U Z) (hz : Z ≤ Z') : QPair w g q U Z' := by
  obtain ⟨F, M, L, N, h1, h2, h3, h4, h5⟩ := h.ex
  exact ⟨⟨F, M, L, N, h1.mono hz, h2, h3, h4, h5⟩, h.lt⟩
end
/-- The errors of the queue, in their places. -/
theorem num_gone (E : Nat → Addr) (w : World) (hE : Errs w E) : Calls Tryd.prog 39 #[.iface 116 (.pointer (some (E 0)))] w fun e w' => e = .returned (.int .i64 5) ∧ Ext w w' := num_at E 4 _ w hE rfl
theorem num_there (E : Nat → Addr) (w : World) (hE : Errs w E) : Calls Tryd.prog 39 #[.iface 116 (.pointer (some (E 1)))] w fun e w' => e = .returned (.int .i64 6) ∧ Ext w w' := num_at E 5 _ w hE rfl
theorem num_full (E : Nat → Addr) (w : World) (hE : Errs w E) : Calls Tryd.prog 39 #[.iface 116 (.pointer (some (E 2)))] w fun e w' => e = .returned (.int .i64 7) ∧ Ext w w' := num_at E 6 _ w hE rfl
end Go.Proofs.YtocjbllkgbjihaaDoor
