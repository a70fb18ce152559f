/-
  Package almonerlaw07: two queues and the document's two queues in memory.
-/
import Derived.Test.YtocjbllkgbjihaaDoorQuPlayC
namespace Go.Proofs.YtocjbllkgbjihaaDoor
set_option maxRecDepth 100000
open Go.RowKit Go.Maps
set_option linter.unusedVariables false
def updf {α : Type} (f : Nat → α) (i : Nat) (x : α) : Nat → α := fun j => if j = i then x else f j
theorem updf_same {α : Type} (f : Nat → α) (i : Nat) (x : α) : updf f i x i = x := if_pos rfl
theorem updf_other {α : Type} (f : Nat → α) {i j : Nat} (x : α) (h : j ≠ i) : updf f i x j = f j := if_neg h
/-- The queues of the script; X: blocks that are none of theirs. -/
structure PQ (W wr : World) (nb mb : Nat) (gg qq : Nat → Nat) (X : Nat → Prop) (Z : Nat) (U : Nat → Nat → Prop) : Prop where
  pr : ∀ i, i < 2 → QPair wr (gg i) (qq i) (U i) Z
  nbx : wr.heap[nb]? = some (.cells #[.pointer (some ⟨gg 0, 0, none⟩), .pointer (some ⟨gg 1, 0, none⟩)] 52 (0, 0))
  mbx : wr.heap[mb]? = some (.cells #[.pointer (some ⟨qq 0, 0, none⟩), .pointer (some ⟨qq 1, 0, none⟩)] 56 (0, 0))
  ext : Ext W wr
  lo : ∀ i b, i < 2 → U i b → W.heap.size ≤ b ∧ ¬ X b
  dd : ∀ i j b, i < 2 → j < 2 → i ≠ j → U i b → ¬ U j b
  xn : X nb
  xm : X mb
  xl : ∀ b, X b → b < wr.heap.size
def PQB (W wr : World) (nb mb : Nat) (gg qq : Nat → Nat) (X : Nat → Prop) (Z : Nat) : Prop := ∃ U, PQ W wr nb mb gg qq X Z U
/-- A pair's turn. -/
structure QTurn (W wr : World) (nb mb : Nat) (gg qq : Nat → Nat) (X : Nat → Prop) (Z k : Nat) (U : Nat → Prop) : Prop where
  pr : QPair wr (gg k) (qq k) U Z
  lo : ∀ b, U b → W.heap.size ≤ b
  next : ∀ w', QNxt wr w' (gg k) (qq k) U (Z + 20000) → PQB W w' nb mb gg qq X (Z + 20000) ∧ ∀ b, X b → w'.heap[b]? = wr.heap[b]?
section
variable {W wr w' : World} {nb mb Z : Nat} {gg qq : Nat → Nat} {X : Nat → Prop}
theorem PQB.ext (h : PQB W wr nb mb gg qq X Z) (hx : Ext wr w') : PQB W w' nb mb gg qq X Z := by
  obtain ⟨U, h⟩ := h
  exact ⟨U, ⟨fun i hi => (h.pr i hi).ext hx, (hx.block _ (block_lt h.nbx)).trans h.nbx, (hx.block _ (block_lt h.mbx)).trans h.mbx, h.ext.trans hx, h.lo, h.dd, h.xn, h.xm, fun b hb => Nat.lt_of_lt_of_le (h.xl b hb) hx.size⟩⟩
theorem PQB.mono (h : PQB W wr nb mb gg qq X Z) {Z' : Nat} (hz : Z ≤ Z') : PQB W wr nb mb gg qq X Z' := by
  obtain ⟨U, h⟩ := h
  exact ⟨U, ⟨fun i hi => (h.pr i hi).mono hz, h.nbx, h.mbx, h.ext, h.lo, h.dd, h.xn, h.xm, h.xl⟩⟩
theorem PQB.wext (h : PQB W wr nb mb gg qq X Z) : Ext W wr := by
  obtain ⟨U, h⟩ := h
  exact h.ext
/-- One new block is none of theirs either. -/
theorem PQB.add (h : PQB W wr nb mb gg qq X Z) {o : Obj} : PQB W (wr.alloc o) nb mb gg qq (fun b => X b ∨ b = wr.heap.size) Z := by
  obtain ⟨U, h⟩ := h
  have hx := (Ext.refl wr).alloc o
  exact ⟨U, ⟨fun i hi => (h.pr i hi).ext hx, (hx.block _ (block_lt h.nbx)).trans h.nbx, (hx.block _ (block_lt h.mbx)).trans h.mbx, h.ext.trans hx, fun i b hi hb => ⟨(h.lo i b hi hb).1, fun e => by
    rcases e with e | e
    · exact (h.lo i b hi hb).2 e
    · have := (h.pr i hi).lt b hb; omega⟩, h.dd, .inl h.xn, .inl h.xm, fun b hb => by
    rcases hb with hb | hb
    · exact Nat.lt_of_lt_of_le (h.xl b hb) hx.size
    · subst hb; simp⟩⟩
theorem PQB.sub (h : PQB W wr nb mb gg qq X Z) {Y : Nat → Prop} (hY : ∀ b, Y b → X b) (hn : Y nb) (hm : Y mb) : PQB W wr nb mb gg qq Y Z := by
  obtain ⟨U, h⟩ := h
  exact ⟨U, ⟨h.pr, h.nbx, h.mbx, h.ext, fun i b hi hb => ⟨(h.lo i b hi hb).1, fun e => (h.lo i b hi hb).2 (hY b e)⟩, h.dd, hn, hm, fun b hb => h.xl b (hY b hb)⟩⟩
theorem PQB.back {w0 : World} {Z0 ob : Nat} (h : PQB W wr nb mb gg qq (fun b => X b ∨ b = ob) Z) (h0 : PQB W w0 nb mb gg qq X Z0) : PQB W wr nb mb gg qq X Z := by
  obtain ⟨_, h0⟩ := h0
  exact h.sub (fun b hb => .inl hb) h0.xn h0.xm
theorem PQB.gcell (h : PQB W wr nb mb gg qq X Z) {k : Nat} (hk : k < 2) : wr.cell? ⟨nb, k, none⟩ = some (.pointer (some ⟨gg k, 0, none⟩)) := by
  obtain ⟨U, h⟩ := h
  obtain rfl | rfl : k = 0 ∨ k = 1 := by omega
  · exact block_cell h.nbx 0
  · exact block_cell h.nbx 1
theorem PQB.mcell (h : PQB W wr nb mb gg qq X Z) {k : Nat} (hk : k < 2) : wr.cell? ⟨mb, k, none⟩ = some (.pointer (some ⟨qq k, 0, none⟩)) := by
  obtain ⟨U, h⟩ := h
  obtain rfl | rfl : k = 0 ∨ k = 1 := by omega
  · exact block_cell h.mbx 0
  · exact block_cell h.mbx 1
theorem PQB.turn (h : PQB W wr nb mb gg qq X Z) {k : Nat} (hk : k < 2) : ∃ U, QTurn W wr nb mb gg qq X Z k U := by
  obtain ⟨U, h⟩ := h
  refine ⟨U k, h.pr k hk, fun b hb => (h.lo k b hk hb).1, fun w' n => ?_⟩
  obtain ⟨⟨U', hp, fo⟩, ff⟩ := n
  have hz := h.ext.size
  have hX : ∀ b, X b → w'.heap[b]? = wr.heap[b]? := fun b hb => ff.block b (h.xl b hb) (fun e => (h.lo k b hk e).2 hb)
  have out : ∀ j b, j < 2 → updf U k U' j b → (j ≠ k ∧ U j b) ∨ (j = k ∧ (U k b ∨ wr.heap.size ≤ b)) := fun j b hj hb => by
    by_cases ej : j = k
    · subst ej; rw [updf_same] at hb; exact .inr ⟨rfl, fo b hb⟩
    · rw [updf_other _ _ ej] at hb; exact .inl ⟨ej, hb⟩
  refine ⟨⟨updf U k U', ⟨fun i hi => ?_, (hX nb h.xn).trans h.nbx, (hX mb h.xm).trans h.mbx, Fr.ext h.ext ff (fun b hb => (h.lo k b hk hb).1), fun i b hi hb => ?_, fun i j b hi hj hne h1 h2 => ?_, h.xn, h.xm, fun b hb => Nat.lt_of_lt_of_le (h.xl b hb) ff.size⟩⟩, hX⟩
  · by_cases ei : i = k
    · subst ei; rw [updf_same]; exact hp
    · rw [updf_other _ _ ei]
      exact ((h.pr i hi).fr ff (fun b hb => h.dd i k b hi hk ei hb)).mono (by omega)
  · rcases out i b hi hb with ⟨_, h1⟩ | ⟨_, h1 | h1⟩
    · exact h.lo i b hi h1
    · exact h.lo k b hk h1
    · exact ⟨by omega, fun e => by have := h.xl b e; omega⟩
  · rcases out i b hi h1 with ⟨a1, b1⟩ | ⟨a1, b1⟩ <;> rcases out j b hj h2 with ⟨a2, b2⟩ | ⟨a2, b2⟩
    · exact h.dd i j b hi hj hne b1 b2
    · rcases b2 with b2 | b2
      · exact h.dd i k b hi hk a1 b1 b2
      · have := (h.pr i hi).lt b b1; omega
    · rcases b1 with b1 | b1
      · exact h.dd j k b hj hk a2 b2 b1
      · have := (h.pr j hj).lt b b2; omega
    · exact hne (a1.trans a2.symm)
theorem QNxt.pre {w1 w2 : World} {g q : Nat} {U : Nat → Prop} (n : QNxt w1 w2 g q U Z) (hx : Ext wr w1) : QNxt wr w2 g q U Z := by
  obtain ⟨⟨U', hp, fo⟩, ff⟩ := n
  have hz := hx.size
  exact ⟨⟨U', hp, fun b hb => (fo b hb).imp id (fun h => by omega)⟩, (Fr.of_ext hx U).trans ff (fun _ _ h => h)⟩
/-- The document's list at its turn. -/
theorem QPair.mlist {w : World} {g q : Nat} {U : Nat → Prop} (h : QPair w g q U Z) : ∃ A m c, w.cell? ⟨q, 0, none⟩ = some (.slice A m c) ∧ m ≤ 4096 := by
  obtain ⟨F, M, L, N, hQ, hM, hp, _, _⟩ := h.ex
  obtain ⟨A, m, c, h1, h2, _⟩ := hM.ex
  have h3 := rlen_eq h2
  have h4 := hp.length_eq
  have h5 := hQ.few
  exact ⟨A, m, c, block_cell h1 0, by omega⟩
/-- Two fresh pairs. -/
theorem QPair.new {w : World} {g q : Nat} {F : Nat → Prop} (h : QP w g F [] 0) (hq : w.heap[q]? = some (.cells #[.slice none 0 0] 55 (0, 0))) (hFq : ¬ F q) : QPair w g q (fun b => F b ∨ b = q) 0 :=
  ⟨⟨F, (· = q), [], [], h, ⟨⟨none, 0, 0, hq, Own.nil_, fun a e => by cases e⟩, rfl, fun b e => by rw [e]; exact block_lt hq⟩, List.Perm.refl _, fun b e1 e2 => hFq (by have e3 : b = q := e2; rw [← e3]; exact e1), fun b hb => hb⟩, fun b hb => by
    rcases hb with e | e
    · exact h.lt b e
    · rw [e]; exact block_lt hq⟩
def sel {α : Type} (a b : α) : Nat → α := fun i => if i = 0 then a else b
theorem PQB.new {g0 g1 q0 q1 : Nat} {F0 F1 : Nat → Prop} (hW : Ext W wr) (h0 : QP wr g0 F0 [] 0) (h1 : QP wr g1 F1 [] 0) (k0 : wr.heap[q0]? = some (.cells #[.slice none 0 0] 55 (0, 0))) (k1 : wr.heap[q1]? = some (.cells #[.slice none 0 0] 55 (0, 0)))
    (hn : wr.heap[nb]? = some (.cells #[.pointer (some ⟨g0, 0, none⟩), .pointer (some ⟨g1, 0, none⟩)] 52 (0, 0))) (hm : wr.heap[mb]? = some (.cells #[.pointer (some ⟨q0, 0, none⟩), .pointer (some ⟨q1, 0, none⟩)] 56 (0, 0)))
    {s1 : Nat} (f0 : ∀ b, F0 b → W.heap.size ≤ b ∧ b < s1) (f1 : ∀ b, F1 b → s1 ≤ b ∧ b < nb) (ho : W.heap.size ≤ s1 ∧ s1 ≤ nb ∧ nb < q0 ∧ q0 < q1 ∧ q1 < mb) : ∃ gg qq, PQB W wr nb mb gg qq (fun b => b = nb ∨ b = mb) 0 := by
  refine ⟨sel g0 g1, sel q0 q1, fun i b => sel F0 F1 i b ∨ b = sel q0 q1 i, ⟨fun i hi => ?_, hn, hm, hW, fun i b hi hb => ?_, fun i j b hi hj hne e1 e2 => ?_, .inl rfl, .inr rfl, fun b hb => ?_⟩⟩
  · obtain rfl | rfl : i = 0 ∨ i = 1 := by omega
    · exact QPair.new h0 k0 (fun e => by have h9 : F0 q0 := e; have := f0 _ h9; omega)
    · exact QPair.new h1 k1 (fun e => by have h9 : F1 q1 := e; have := f1 _ h9; omega)
  · obtain rfl | rfl : i = 0 ∨ i = 1 := by omega
    · have hb : F0 b ∨ b = q0 := hb
      rcases hb with hb | hb
      · have := f0 b hb; exact ⟨by omega, (show ¬ (b = nb ∨ b = mb) from by omega)⟩
      · exact ⟨by omega, (show ¬ (b = nb ∨ b = mb) from by omega)⟩
    · have hb : F1 b ∨ b = q1 := hb
      rcases hb with hb | hb
      · have := f1 b hb; exact ⟨by omega, (show ¬ (b = nb ∨ b = mb) from by omega)⟩
      · exact ⟨by omega, (show ¬ (b = nb ∨ b = mb) from by omega)⟩
  · have key : ∀ b, F0 b ∨ b = q0 → F1 b ∨ b = q1 → False := fun b e1 e2 => by
      rcases e1 with e1 | e1 <;> rcases e2 with e2 | e2
      · have := f0 b e1; have := f1 b e2; omega
      · have := f0 b e1; omega
      · have := f1 b e2; omega
      · omega
    obtain rfl | rfl : i = 0 ∨ i = 1 := by omega
    · obtain rfl : j = 1 := by omega
      exact key b e1 e2
    · obtain rfl : j = 0 := by omega
      exact key b e2 e1
  · rcases hb with e | e
    · rw [e]; exact block_lt hn
    · rw [e]; exact block_lt hm
end
end Go.Proofs.YtocjbllkgbjihaaDoor
