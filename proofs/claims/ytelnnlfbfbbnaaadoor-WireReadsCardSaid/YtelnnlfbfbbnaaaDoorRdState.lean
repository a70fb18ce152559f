/-
  Two readers and the document's beside them: what a round of the statement WireReads keeps.
-/
import Derived.Test.YtelnnlfbfbbnaaaDoorRdModel
namespace Go.Proofs.YtelnnlfbfbbnaaaDoor
open Go.RowKit
set_option linter.unusedVariables false
theorem lt_of_cell {w : World} {a : Addr} {v : Value} (h : w.cell? a = some v) : a.block < w.heap.size := by
  refine Nat.lt_of_not_le fun hge => ?_
  simp [World.cell?, Array.getElem?_eq_none hge] at h
/-- f with another value at k. -/
def upd {α : Type} (f : Nat → α) (k : Nat) (x : α) : Nat → α := fun j => if j = k then x else f j
theorem upd_same {α : Type} (f : Nat → α) (k : Nat) (x : α) : upd f k x k = x := by simp [upd]
theorem upd_other {α : Type} (f : Nat → α) {k j : Nat} (x : α) (h : j ≠ k) : upd f k x j = f j := by simp [upd, h]
structure RD where
  q5 : Nat
  q6 : Nat
  g : Nat → Nat
  h : Nat → Nat
  A : Nat → Option Addr
  c : Nat → Nat
  B : Nat → Option Addr
  n : Nat → Nat
  d : Nat → Nat
  l : Nat → List Nat
structure RInv (w0 w : World) (D : RD) (t : Nat) (s m : Nat → Nat) : Prop where
  ext : Ext w0 w
  rs : ∀ k, k < t → RdS w (D.g k) (D.A k) (D.n k) (D.c k) (s k) (D.l k)
  rm : ∀ k, k < t → RmS w (D.h k) (D.B k) (D.n k) (D.d k) (m k) (D.l k)
  c5 : ∀ k, k < t → w.cell? ⟨D.q5, k, none⟩ = some (.pointer (some ⟨D.g k, 0, none⟩))
  c6 : ∀ k, k < t → w.cell? ⟨D.q6, k, none⟩ = some (.pointer (some ⟨D.h k, 0, none⟩))
  q5 : w0.heap.size ≤ D.q5 ∧ D.q5 < w.heap.size
  q6 : w0.heap.size ≤ D.q6 ∧ D.q6 < w.heap.size
  gq : ∀ k, k < t → w0.heap.size ≤ D.g k ∧ w0.heap.size ≤ D.h k ∧ D.g k ≠ D.q5 ∧ D.g k ≠ D.q6 ∧ D.h k ≠ D.q5 ∧ D.h k ≠ D.q6
  gh : ∀ k j, k < t → j < t → D.g k ≠ D.h j
  gg : ∀ k j, k < t → j < t → k ≠ j → D.g k ≠ D.g j ∧ D.h k ≠ D.h j
  Aq : ∀ k, k < t → 0 < D.n k → ∀ a, D.A k = some a → a.block ≠ D.q5 ∧ a.block ≠ D.q6
  Ah : ∀ k j, k < t → j < t → 0 < D.n k → ∀ a, D.A k = some a → a.block ≠ D.h j ∧ (k ≠ j → a.block ≠ D.g j)
  Bl : ∀ k, k < t → 0 < D.n k → ∀ b, D.B k = some b → b.block < w0.heap.size
section
variable {w0 w w' : World} {D : RD} {t : Nat} {s m : Nat → Nat}
theorem RInv.ex (h : RInv w0 w D t s m) (hx : Ext w w') : RInv w0 w' D t s m :=
  ⟨h.ext.trans hx, fun k hk => (h.rs k hk).ext hx, fun k hk => (h.rm k hk).ext hx, fun k hk => (hx.cell (lt_of_cell (h.c5 k hk))).trans (h.c5 k hk), fun k hk => (hx.cell (lt_of_cell (h.c6 k hk))).trans (h.c6 k hk),
    ⟨h.q5.1, Nat.lt_of_lt_of_le h.q5.2 hx.size⟩, ⟨h.q6.1, Nat.lt_of_lt_of_le h.q6.2 hx.size⟩, h.gq, h.gh, h.gg, h.Aq, h.Ah, h.Bl⟩
/-- A call on reader k. -/
theorem RInv.rcall (h : RInv w0 w D t s m) {k p : Nat} (hk : k < t) (hr : RdS w' (D.g k) (D.A k) (D.n k) (D.c k) p (D.l k)) (hf : Fr w w' (· = D.g k)) : RInv w0 w' D t (upd s k p) m := by
  have hq := h.gq k hk
  refine ⟨Fr.ext h.ext hf (fun i hi => by rw [hi]; exact hq.1), fun j hj => ?_, fun j hj => ?_, fun j hj => ?_, fun j hj => ?_, ⟨h.q5.1, Nat.lt_of_lt_of_le h.q5.2 hf.size⟩, ⟨h.q6.1, Nat.lt_of_lt_of_le h.q6.2 hf.size⟩, h.gq, h.gh, h.gg, h.Aq, h.Ah, h.Bl⟩
  · by_cases e : j = k
    · subst e
      rw [upd_same]
      exact hr
    · rw [upd_other _ _ e]
      exact (h.rs j hj).frm hf (h.gg j k hj hk e).1 (fun h0 a ha => (h.Ah j k hj hk h0 a ha).2 e)
  · refine (h.rm j hj).frm hf (fun e => h.gh k j hk hj e.symm) (fun h0 b hb e => ?_)
    have := h.Bl j hj h0 b hb
    omega
  · exact (World.cell?_of_block (hf.block D.q5 h.q5.2 (fun e => hq.2.2.1 e.symm))).trans (h.c5 j hj)
  · exact (World.cell?_of_block (hf.block D.q6 h.q6.2 (fun e => hq.2.2.2.1 e.symm))).trans (h.c6 j hj)
/-- A call on the document's reader k. -/
theorem RInv.mcall (h : RInv w0 w D t s m) {k p : Nat} (hk : k < t) (hr : RmS w' (D.h k) (D.B k) (D.n k) (D.d k) p (D.l k)) (hf : Fr w w' (· = D.h k)) : RInv w0 w' D t s (upd m k p) := by
  have hq := h.gq k hk
  refine ⟨Fr.ext h.ext hf (fun i hi => by rw [hi]; exact hq.2.1), fun j hj => ?_, fun j hj => ?_, fun j hj => ?_, fun j hj => ?_, ⟨h.q5.1, Nat.lt_of_lt_of_le h.q5.2 hf.size⟩, ⟨h.q6.1, Nat.lt_of_lt_of_le h.q6.2 hf.size⟩, h.gq, h.gh, h.gg, h.Aq, h.Ah, h.Bl⟩
  · exact (h.rs j hj).frm hf (h.gh j k hj hk) (fun h0 a ha => (h.Ah j k hj hk h0 a ha).1)
  · by_cases e : j = k
    · subst e
      rw [upd_same]
      exact hr
    · rw [upd_other _ _ e]
      refine (h.rm j hj).frm hf (h.gg j k hj hk e).2 (fun h0 b hb e => ?_)
      have := h.Bl j hj h0 b hb
      omega
  · exact (World.cell?_of_block (hf.block D.q5 h.q5.2 (fun e => hq.2.2.2.2.1 e.symm))).trans (h.c5 j hj)
  · exact (World.cell?_of_block (hf.block D.q6 h.q6.2 (fun e => hq.2.2.2.2.2 e.symm))).trans (h.c6 j hj)
def RD.more (D : RD) (t g h : Nat) (A : Option Addr) (c : Nat) : RD := ⟨D.q5, D.q6, upd D.g t g, upd D.h t h, upd D.A t A, upd D.c t c, D.B, D.n, D.d, D.l⟩
/-- One pair more. -/
theorem RInv.more (h : RInv w0 w D t s m) {g hh c : Nat} {A : Option Addr} {P : Nat → Prop} (hs : RdS w' g A (D.n t) c 0 (D.l t)) (hm : RmS w' hh (D.B t) (D.n t) (D.d t) 0 (D.l t)) (hf : Fr w w' P) (hP : ∀ i, P i → i = D.q5 ∨ i = D.q6)
    (hc5 : w'.cell? ⟨D.q5, t, none⟩ = some (.pointer (some ⟨g, 0, none⟩))) (hc6 : w'.cell? ⟨D.q6, t, none⟩ = some (.pointer (some ⟨hh, 0, none⟩)))
    (o5 : ∀ k, k < t → w'.cell? ⟨D.q5, k, none⟩ = w.cell? ⟨D.q5, k, none⟩) (o6 : ∀ k, k < t → w'.cell? ⟨D.q6, k, none⟩ = w.cell? ⟨D.q6, k, none⟩)
    (hg : w.heap.size ≤ g) (hhs : w.heap.size ≤ hh) (hgh : g ≠ hh) (hA : 0 < D.n t → ∀ a, A = some a → w.heap.size ≤ a.block ∧ a.block ≠ hh) (hB : 0 < D.n t → ∀ b, D.B t = some b → b.block < w0.heap.size) :
    RInv w0 w' (D.more t g hh A c) (t + 1) (upd s t 0) (upd m t 0) := by
  have q5 := h.q5
  have q6 := h.q6
  have nP : ∀ i, i ≠ D.q5 → i ≠ D.q6 → ¬ P i := fun i h1 h2 hp => by rcases hP i hp with e | e; exact h1 e; exact h2 e
  have old : ∀ k, k < t + 1 → k ≠ t → k < t := fun k h1 h2 => by omega
  have gl : ∀ k, k < t → D.g k < w.heap.size := fun k hk => (h.rs k hk).lt
  have hl : ∀ k, k < t → D.h k < w.heap.size := fun k hk => (h.rm k hk).lt
  have al : ∀ k, k < t → 0 < D.n k → ∀ a, D.A k = some a → a.block < w.heap.size := fun k hk h0 a ha => by
    obtain ⟨ad, e, h2, _⟩ := (h.rs k hk).rd.2 h0
    rw [ha] at e
    injection e with e
    subst e
    exact h2
  have x0 : w0.heap.size ≤ w.heap.size := h.ext.size
  refine ⟨Fr.ext h.ext hf (fun i hi => by rcases hP i hi with e | e <;> omega), fun k hk => ?_, fun k hk => ?_, fun k hk => ?_, fun k hk => ?_, ⟨q5.1, Nat.lt_of_lt_of_le q5.2 hf.size⟩, ⟨q6.1, Nat.lt_of_lt_of_le q6.2 hf.size⟩,
    fun k hk => ?_, fun k j hk hj => ?_, fun k j hk hj hkj => ?_, fun k hk h0 a ha => ?_, fun k j hk hj h0 a ha => ?_, fun k hk h0 b hb => ?_⟩
  · show RdS w' (upd D.g t g k) (upd D.A t A k) (D.n k) (upd D.c t c k) (upd s t 0 k) (D.l k)
    by_cases e : k = t
    · subst e; simp only [upd_same]; exact hs
    · simp only [upd_other _ _ e]
      have hk := old k hk e
      exact (h.rs k hk).frm hf (nP _ (h.gq k hk).2.2.1 (h.gq k hk).2.2.2.1) (fun h0 a ha => nP _ (h.Aq k hk h0 a ha).1 (h.Aq k hk h0 a ha).2)
  · show RmS w' (upd D.h t hh k) (D.B k) (D.n k) (D.d k) (upd m t 0 k) (D.l k)
    by_cases e : k = t
    · subst e; simp only [upd_same]; exact hm
    · simp only [upd_other _ _ e]
      have hk := old k hk e
      exact (h.rm k hk).frm hf (nP _ (h.gq k hk).2.2.2.2.1 (h.gq k hk).2.2.2.2.2) (fun h0 b hb => nP _ (by have := h.Bl k hk h0 b hb; omega) (by have := h.Bl k hk h0 b hb; omega))
  · show w'.cell? ⟨D.q5, k, none⟩ = some (.pointer (some ⟨upd D.g t g k, 0, none⟩))
    by_cases e : k = t
    · subst e; simp only [upd_same]; exact hc5
    · simp only [upd_other _ _ e]
      exact (o5 k (old k hk e)).trans (h.c5 k (old k hk e))
  · show w'.cell? ⟨D.q6, k, none⟩ = some (.pointer (some ⟨upd D.h t hh k, 0, none⟩))
    by_cases e : k = t
    · subst e; simp only [upd_same]; exact hc6
    · simp only [upd_other _ _ e]
      exact (o6 k (old k hk e)).trans (h.c6 k (old k hk e))
  · show w0.heap.size ≤ upd D.g t g k ∧ w0.heap.size ≤ upd D.h t hh k ∧ upd D.g t g k ≠ D.q5 ∧ upd D.g t g k ≠ D.q6 ∧ upd D.h t hh k ≠ D.q5 ∧ upd D.h t hh k ≠ D.q6
    by_cases e : k = t
    · subst e; simp only [upd_same]; omega
    · simp only [upd_other _ _ e]; exact h.gq k (old k hk e)
  · show upd D.g t g k ≠ upd D.h t hh j
    by_cases e : k = t <;> by_cases e2 : j = t
    · subst e; subst e2; simp only [upd_same]; exact hgh
    · subst e; simp only [upd_same, upd_other _ _ e2]; have := hl j (old j hj e2); omega
    · subst e2; simp only [upd_same, upd_other _ _ e]; have := gl k (old k hk e); omega
    · simp only [upd_other _ _ e, upd_other _ _ e2]; exact h.gh k j (old k hk e) (old j hj e2)
  · show upd D.g t g k ≠ upd D.g t g j ∧ upd D.h t hh k ≠ upd D.h t hh j
    by_cases e : k = t <;> by_cases e2 : j = t
    · exact absurd (e.trans e2.symm) hkj
    · subst e; simp only [upd_same, upd_other _ _ e2]; have := hl j (old j hj e2); have := gl j (old j hj e2); omega
    · subst e2; simp only [upd_same, upd_other _ _ e]; have := gl k (old k hk e); have := hl k (old k hk e); omega
    · simp only [upd_other _ _ e, upd_other _ _ e2]; exact h.gg k j (old k hk e) (old j hj e2) hkj
  · have ha : upd D.A t A k = some a := ha
    show a.block ≠ D.q5 ∧ a.block ≠ D.q6
    by_cases e : k = t
    · subst e; simp only [upd_same] at ha; have := (hA h0 a ha).1; omega
    · simp only [upd_other _ _ e] at ha; exact h.Aq k (old k hk e) h0 a ha
  · have ha : upd D.A t A k = some a := ha
    show a.block ≠ upd D.h t hh j ∧ (k ≠ j → a.block ≠ upd D.g t g j)
    by_cases e : k = t <;> by_cases e2 : j = t
    · subst e; subst e2; simp only [upd_same] at ha ⊢; exact ⟨(hA h0 a ha).2, fun h => absurd rfl h⟩
    · subst e; simp only [upd_same, upd_other _ _ e2] at ha ⊢; have := (hA h0 a ha).1; have := hl j (old j hj e2); have := gl j (old j hj e2); omega
    · subst e2; simp only [upd_same, upd_other _ _ e] at ha ⊢; have := al k (old k hk e) h0 a ha; omega
    · simp only [upd_other _ _ e, upd_other _ _ e2] at ha ⊢; exact h.Ah k j (old k hk e) (old j hj e2) h0 a ha
  · by_cases e : k = t
    · subst e; exact hB h0 b hb
    · exact h.Bl k (old k hk e) h0 b hb
end
end Go.Proofs.YtelnnlfbfbbnaaaDoor
