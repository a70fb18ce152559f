/-
  Package almonerlaw17: two nets and the document's two nets in memory.
-/
import Derived.Test.YteaainepnelehaaDoorNpPlay
import Derived.Test.YteaainepnelehaaDoorNpWaits
namespace Go.Proofs.YteaainepnelehaaDoor
set_option maxRecDepth 100000
open Go.RowKit
set_option linter.unusedVariables false
def updf {α : Type} (f : Nat → α) (i : Nat) (x : α) : Nat → α := fun j => if j = i then x else f j
theorem updf_same {α : Type} (f : Nat → α) (i : Nat) (x : α) : updf f i x i = x := if_pos rfl
theorem updf_other {α : Type} (f : Nat → α) {i j : Nat} (x : α) (h : j ≠ i) : updf f i x j = f j := if_neg h
/-- The nets of the script; X: blocks that are none of theirs; none has given more than M numbers. -/
structure PN (W wr : World) (nb mb : Nat) (gg qq : Nat → Nat) (X : Nat → Prop) (M : Nat) (U : Nat → Nat → Prop) (LS : Nat → List LetV) (la : Nat → Nat) : Prop where
  pr : ∀ i, i < 2 → Pair wr (gg i) (qq i) (U i) (LS i) (la i)
  le : ∀ i, i < 2 → la i ≤ M
  nbx : wr.heap[nb]? = some (.cells #[.pointer (some ⟨gg 0, 0, none⟩), .pointer (some ⟨gg 1, 0, none⟩)] 26 (0, 0))
  mbx : wr.heap[mb]? = some (.cells #[.pointer (some ⟨qq 0, 0, none⟩), .pointer (some ⟨qq 1, 0, none⟩)] 31 (0, 0))
  ext : Ext W wr
  lo : ∀ i b, i < 2 → U i b → W.heap.size ≤ b ∧ ¬ X b
  dd : ∀ i j b, i < 2 → j < 2 → i ≠ j → U i b → ¬ U j b
  xn : X nb
  xm : X mb
  xl : ∀ b, X b → b < wr.heap.size
def PNB (W wr : World) (nb mb : Nat) (gg qq : Nat → Nat) (X : Nat → Prop) (M : Nat) : Prop := ∃ U LS la, PN W wr nb mb gg qq X M U LS la
/-- A pair's turn. -/
structure Turn (W wr : World) (nb mb : Nat) (gg qq : Nat → Nat) (X : Nat → Prop) (M k : Nat) (U : Nat → Prop) (ls : List LetV) (last : Nat) : Prop where
  pr : Pair wr (gg k) (qq k) U ls last
  le : last ≤ M
  lo : ∀ b, U b → W.heap.size ≤ b
  next : ∀ w', PNxt wr w' (gg k) (qq k) U (last + 1) → PNB W w' nb mb gg qq X (M + 1) ∧ ∀ b, X b → w'.heap[b]? = wr.heap[b]?
section
variable {W wr w' : World} {nb mb M : Nat} {gg qq : Nat → Nat} {X : Nat → Prop}
theorem PNB.ext (h : PNB W wr nb mb gg qq X M) (hx : Ext wr w') : PNB W w' nb mb gg qq X M := by
  obtain ⟨U, LS, la, h⟩ := h
  exact ⟨U, LS, la, ⟨fun i hi => (h.pr i hi).ext hx, h.le, (hx.block _ (block_lt h.nbx)).trans h.nbx, (hx.block _ (block_lt h.mbx)).trans h.mbx, h.ext.trans hx, h.lo, h.dd, h.xn, h.xm, fun b hb => Nat.lt_of_lt_of_le (h.xl b hb) hx.size⟩⟩
theorem PNB.mono (h : PNB W wr nb mb gg qq X M) {M' : Nat} (hM : M ≤ M') : PNB W wr nb mb gg qq X M' := by
  obtain ⟨U, LS, la, h⟩ := h
  exact ⟨U, LS, la, ⟨h.pr, fun i hi => Nat.le_trans (h.le i hi) hM, h.nbx, h.mbx, h.ext, h.lo, h.dd, h.xn, h.xm, h.xl⟩⟩
theorem PNB.wext (h : PNB W wr nb mb gg qq X M) : Ext W wr := by
  obtain ⟨U, LS, la, h⟩ := h
  exact h.ext
/-- One new block is none of theirs either. -/
theorem PNB.add (h : PNB W wr nb mb gg qq X M) {o : Obj} : PNB W (wr.alloc o) nb mb gg qq (fun b => X b ∨ b = wr.heap.size) M := by
  obtain ⟨U, LS, la, h⟩ := h
  have hx := (Ext.refl wr).alloc o
  exact ⟨U, LS, la, ⟨fun i hi => (h.pr i hi).ext hx, h.le, (hx.block _ (block_lt h.nbx)).trans h.nbx, (hx.block _ (block_lt h.mbx)).trans h.mbx, h.ext.trans hx, fun i b hi hb => ⟨(h.lo i b hi hb).1, fun e => by
    rcases e with e | e
    · exact (h.lo i b hi hb).2 e
    · have := (h.pr i hi).lt b hb; omega⟩, h.dd, .inl h.xn, .inl h.xm, fun b hb => by
    rcases hb with hb | hb
    · exact Nat.lt_of_lt_of_le (h.xl b hb) hx.size
    · subst hb; simp⟩⟩
theorem PNB.sub (h : PNB W wr nb mb gg qq X M) {Y : Nat → Prop} (hY : ∀ b, Y b → X b) (hn : Y nb) (hm : Y mb) : PNB W wr nb mb gg qq Y M := by
  obtain ⟨U, LS, la, h⟩ := h
  exact ⟨U, LS, la, ⟨h.pr, h.le, h.nbx, h.mbx, h.ext, fun i b hi hb => ⟨(h.lo i b hi hb).1, fun e => (h.lo i b hi hb).2 (hY b e)⟩, h.dd, hn, hm, fun b hb => h.xl b (hY b hb)⟩⟩
theorem PNB.back {w0 : World} {M0 ob : Nat} (h : PNB W wr nb mb gg qq (fun b => X b ∨ b = ob) M) (h0 : PNB W w0 nb mb gg qq X M0) : PNB W wr nb mb gg qq X M := by
  obtain ⟨_, _, _, h0⟩ := h0
  exact h.sub (fun b hb => .inl hb) h0.xn h0.xm
theorem PNB.gcell (h : PNB W wr nb mb gg qq X M) {k : Nat} (hk : k < 2) : wr.cell? ⟨nb, k, none⟩ = some (.pointer (some ⟨gg k, 0, none⟩)) := by
  obtain ⟨U, LS, la, h⟩ := h
  obtain rfl | rfl : k = 0 ∨ k = 1 := by omega
  · exact block_cell h.nbx 0
  · exact block_cell h.nbx 1
theorem PNB.mcell (h : PNB W wr nb mb gg qq X M) {k : Nat} (hk : k < 2) : wr.cell? ⟨mb, k, none⟩ = some (.pointer (some ⟨qq k, 0, none⟩)) := by
  obtain ⟨U, LS, la, h⟩ := h
  obtain rfl | rfl : k = 0 ∨ k = 1 := by omega
  · exact block_cell h.mbx 0
  · exact block_cell h.mbx 1
theorem PNB.turn (h : PNB W wr nb mb gg qq X M) {k : Nat} (hk : k < 2) : ∃ U ls last, Turn W wr nb mb gg qq X M k U ls last := by
  obtain ⟨U, LS, la, h⟩ := h
  refine ⟨U k, LS k, la k, h.pr k hk, h.le k hk, fun b hb => (h.lo k b hk hb).1, fun w' n => ?_⟩
  obtain ⟨⟨U', ls', last', hl, hp, fo⟩, ff⟩ := n
  have hz := h.ext.size
  have hX : ∀ b, X b → w'.heap[b]? = wr.heap[b]? := fun b hb => ff.block b (h.xl b hb) (fun e => (h.lo k b hk e).2 hb)
  have out : ∀ j b, j < 2 → updf U k U' j b → (j ≠ k ∧ U j b) ∨ (j = k ∧ (U k b ∨ wr.heap.size ≤ b)) := fun j b hj hb => by
    by_cases ej : j = k
    · subst ej; rw [updf_same] at hb; exact .inr ⟨rfl, fo b hb⟩
    · rw [updf_other _ _ ej] at hb; exact .inl ⟨ej, hb⟩
  refine ⟨⟨updf U k U', updf LS k ls', updf la k last', ⟨fun i hi => ?_, fun i hi => ?_, (hX nb h.xn).trans h.nbx, (hX mb h.xm).trans h.mbx, Fr.ext h.ext ff (fun b hb => (h.lo k b hk hb).1), fun i b hi hb => ?_, fun i j b hi hj hne h1 h2 => ?_, h.xn, h.xm, fun b hb => Nat.lt_of_lt_of_le (h.xl b hb) ff.size⟩⟩, hX⟩
  · by_cases ei : i = k
    · subst ei; rw [updf_same, updf_same, updf_same]; exact hp
    · rw [updf_other _ _ ei, updf_other _ _ ei, updf_other _ _ ei]
      exact (h.pr i hi).fr ff (fun b hb => h.dd i k b hi hk ei hb)
  · by_cases ei : i = k
    · subst ei; rw [updf_same]; have := h.le i hi; omega
    · rw [updf_other _ _ ei]; have := h.le i hi; omega
  · rcases out i b hi hb with ⟨_, h1⟩ | ⟨_, h1 | h1⟩
    · exact h.lo i b hi h1
    · exact h.lo k b hk h1
    · exact ⟨by omega, fun e => by have := h.xl b e; omega⟩
  · rcases out i b hi h1 with ⟨a1, b1⟩ | ⟨a1, b1⟩ <;> rcases out j b hj h2 with ⟨a2, b2⟩ | ⟨a2, b2⟩
    · exact h.dd i j b hi hj hne b1 b2
    · rcases b2 with b2 | b2
      · exact h.dd i k b hi hk a1 b1 b2
      · have := (h.pr i hi).lt b b1; omega
    · rcases b1 with b1 | b1
      · exact h.dd j k b hj hk a2 b2 b1
      · have := (h.pr j hj).lt b b2; omega
    · exact hne (a1.trans a2.symm)
theorem PNxt.pre {w1 w2 : World} {g q top : Nat} {U : Nat → Prop} (n : PNxt w1 w2 g q U top) (hx : Ext wr w1) : PNxt wr w2 g q U top := by
  obtain ⟨⟨U', ls', last', hl, hp, fo⟩, ff⟩ := n
  have hz := hx.size
  exact ⟨⟨U', ls', last', hl, hp, fun b hb => (fo b hb).imp id (fun h => by omega)⟩, (Fr.of_ext hx U).trans ff (fun _ _ h => h)⟩
/-- What the model's list is at its turn. -/
theorem Pair.mlist {w : World} {g q last : Nat} {U : Nat → Prop} {ls : List LetV} (h : Pair w g q U ls last) : ∃ A m c, w.cell? ⟨q, 0, none⟩ = some (.slice A m c) ∧ m ≤ 4096 ∧ ls.length = m ∧ (0 < m → ∃ S x, A = some ⟨S, 0, none⟩ ∧ ls[0]? = some x ∧ w.cell? ⟨S, 0, none⟩ = some (.int .i64 (x.N : Int))) := by
  obtain ⟨F, M, _, hM, _, _⟩ := h.ex
  obtain ⟨B, A, m, c, h1, _⟩ := hM.ex
  refine ⟨A, m, c, h1.c0, h1.few, h1.len, fun h0 => ?_⟩
  have hl := h1.len
  obtain ⟨S, e, _, _, e0, _⟩ := h1.lcell (k := 0) (List.getElem?_eq_getElem (by omega)) (Nat.zero_mul 4)
  exact ⟨S, _, e, List.getElem?_eq_getElem (by omega), e0⟩
/-- Two fresh pairs. -/
theorem Pair.new {w : World} {g q : Nat} (h : NetS w g none 0 0 [] 0) (hq : w.heap[q]? = some (.cells #[.slice none 0 0, .int .i64 0] 30 (0, 0))) (hgq : g ≠ q) : Pair w g q (fun b => b = g ∨ b = q) [] 0 :=
  ⟨⟨(· = g), (· = q), ⟨⟨none, 0, 0, h, (fun _ e => by cases e)⟩, (fun _ hx => by cases hx), (fun _ hx => by cases hx), (fun i j x y a b _ hx => by simp at hx), rfl, (fun b e => by rw [e]; exact h.lt)⟩, ⟨⟨0, none, 0, 0, ⟨hq, Own.nil_, (fun _ e => by cases e), Nat.zero_le _, by omega, by omega⟩, (fun _ e => by cases e)⟩, rfl, (fun b e => by rw [e]; exact block_lt hq)⟩, (fun b e1 e2 => hgq (e1.symm.trans e2)), fun b hb => hb⟩, fun b hb => by
    rcases hb with e | e
    · rw [e]; exact h.lt
    · rw [e]; exact block_lt hq⟩
def sel (a b : Nat) : Nat → Nat := fun i => if i = 0 then a else b
theorem PNB.new {g0 g1 q0 q1 : Nat} (hW : Ext W wr) (h0 : NetS wr g0 none 0 0 [] 0) (h1 : NetS wr g1 none 0 0 [] 0) (k0 : wr.heap[q0]? = some (.cells #[.slice none 0 0, .int .i64 0] 30 (0, 0))) (k1 : wr.heap[q1]? = some (.cells #[.slice none 0 0, .int .i64 0] 30 (0, 0)))
    (hn : wr.heap[nb]? = some (.cells #[.pointer (some ⟨g0, 0, none⟩), .pointer (some ⟨g1, 0, none⟩)] 26 (0, 0))) (hm : wr.heap[mb]? = some (.cells #[.pointer (some ⟨q0, 0, none⟩), .pointer (some ⟨q1, 0, none⟩)] 31 (0, 0)))
    (ho : W.heap.size ≤ g0 ∧ g0 < g1 ∧ g1 < nb ∧ nb < q0 ∧ q0 < q1 ∧ q1 < mb) : ∃ gg qq, PNB W wr nb mb gg qq (fun b => b = nb ∨ b = mb) 0 := by
  refine ⟨sel g0 g1, sel q0 q1, fun i b => b = sel g0 g1 i ∨ b = sel q0 q1 i, fun _ => [], fun _ => 0, ⟨fun i hi => ?_, fun _ _ => Nat.le_refl _, hn, hm, hW, fun i b hi hb => ?_, fun i j b hi hj hne e1 e2 => ?_, .inl rfl, .inr rfl, fun b hb => ?_⟩⟩
  · obtain rfl | rfl : i = 0 ∨ i = 1 := by omega
    · exact Pair.new h0 k0 (show g0 ≠ q0 from by omega)
    · exact Pair.new h1 k1 (show g1 ≠ q1 from by omega)
  · obtain rfl | rfl : i = 0 ∨ i = 1 := by omega
    · have hb : b = g0 ∨ b = q0 := hb
      exact ⟨by omega, (show ¬ (b = nb ∨ b = mb) from by omega)⟩
    · have hb : b = g1 ∨ b = q1 := hb
      exact ⟨by omega, (show ¬ (b = nb ∨ b = mb) from by omega)⟩
  · obtain rfl | rfl : i = 0 ∨ i = 1 := by omega
    · obtain rfl : j = 1 := by omega
      have e1 : b = g0 ∨ b = q0 := e1
      have e2 : b = g1 ∨ b = q1 := e2
      omega
    · obtain rfl : j = 0 := by omega
      have e1 : b = g1 ∨ b = q1 := e1
      have e2 : b = g0 ∨ b = q0 := e2
      omega
  · rcases hb with e | e
    · rw [e]; exact block_lt hn
    · rw [e]; exact block_lt hm
end
end Go.Proofs.YteaainepnelehaaDoor
