/-
  The document's net with the blocks that it has; what both nets make of a call.
-/
import Derived.Test.YteaainepnelehaaDoorNpState
namespace Go.Proofs.YteaainepnelehaaDoor
set_option maxRecDepth 100000
open Go.RowKit
set_option linter.unusedVariables false
/-- The document's net at block g, whose blocks are among F. -/
structure MN (w : World) (g : Nat) (F : Nat → Prop) (ls : List LetV) (last : Nat) : Prop where
  ex : ∃ B A m c, NMS w B g A m c ls last ∧ ∀ a, A = some a → F a.block
  fg : F g
  lt : ∀ b, F b → b < w.heap.size
structure MNxt (w w' : World) (g : Nat) (F F' : Nat → Prop) (ls' : List LetV) (last' : Nat) : Prop where
  mn : MN w' g F' ls' last'
  fr : Fr w w' F
  fo : ∀ b, F' b → F b ∨ w.heap.size ≤ b
section
variable {w w' : World} {g last : Nat} {F : Nat → Prop} {ls : List LetV}
theorem MN.fr (h : MN w g F ls last) {P : Nat → Prop} (hf : Fr w w' P) (hne : ∀ b, F b → ¬ P b) : MN w' g F ls last := by
  obtain ⟨⟨B, A, m, c, h1, h2⟩, h5, h6⟩ := h
  exact ⟨⟨B, A, m, c, h1.fr hf (hne _ h5) (fun a ha => hne _ (h2 a ha)), h2⟩, h5, fun b hb => Nat.lt_of_lt_of_le (h6 b hb) hf.size⟩
theorem MN.ext (h : MN w g F ls last) (hx : Ext w w') : MN w' g F ls last := h.fr (Fr.of_ext hx (fun _ => False)) (fun _ _ h => h)
theorem MNxt.same (h : MN w g F ls last) (hx : Ext w w') : MNxt w w' g F F ls last := ⟨h.ext hx, Fr.of_ext hx F, fun b hb => .inl hb⟩
theorem MN.put (h : MN w g F ls last) {B m : Nat} {A : Option Addr} {ls' : List LetV} {last' : Nat} (hA : ∀ a, A = some a → F a.block) (hp : MPut w w' B g A m ls' last') : ∃ F', MNxt w w' g F F' ls' last' := by
  obtain ⟨⟨A', c', h1, hA'⟩, f1⟩ := hp
  refine ⟨fun b => F b ∨ A'.map (·.block) = some b, ⟨⟨B, A', _, c', h1, fun a ha => .inr (by rw [ha]; rfl)⟩, .inl h.fg, fun b hb => ?_⟩, f1.mono (fun b _ e => ?_), fun b hb => ?_⟩
  · rcases hb with hb | hb
    · exact Nat.lt_of_lt_of_le (h.lt b hb) f1.size
    · obtain ⟨a, ha, rfl⟩ := Option.map_eq_some_iff.1 hb; exact h1.own.lt_at ha
  · rcases e with rfl | e
    · exact h.fg
    · obtain ⟨a, ha, rfl⟩ := Option.map_eq_some_iff.1 e; exact hA a ha
  · rcases hb with hb | hb
    · exact .inl hb
    · obtain ⟨a, ha, rfl⟩ := Option.map_eq_some_iff.1 hb
      rcases hA' a ha with e | e
      · obtain ⟨a2, ha2, e2⟩ := Option.map_eq_some_iff.1 e
        exact .inl (by rw [← e2]; exact hA a2 ha2)
      · exact .inr e
theorem MN.del (h : MN w g F ls last) {B : Nat} {A : Option Addr} {ls' : List LetV} {last' : Nat} (hp : MDel w w' B g A ls' last') : ∃ F', MNxt w w' g F F' ls' last' := by
  obtain ⟨⟨A', m', c', h1, hA'⟩, f1⟩ := hp
  refine ⟨fun b => F b ∨ A'.map (·.block) = some b, ⟨⟨B, A', _, c', h1, fun a ha => .inr (by rw [ha]; rfl)⟩, .inl h.fg, fun b hb => ?_⟩, f1.mono (fun b _ e => ?_), fun b hb => ?_⟩
  · rcases hb with hb | hb
    · exact Nat.lt_of_lt_of_le (h.lt b hb) f1.size
    · obtain ⟨a, ha, rfl⟩ := Option.map_eq_some_iff.1 hb; exact h1.own.lt_at ha
  · rw [e]; exact h.fg
  · rcases hb with hb | hb
    · exact .inl hb
    · obtain ⟨a, ha, rfl⟩ := Option.map_eq_some_iff.1 hb
      exact .inr (hA' a ha)
/-- A letter less, in the program's net. -/
theorem GN.pop (h : GN w g F ls last) {A : Option Addr} {m m2 c2 c k : Nat} (h2 : NetS w g A m2 c2 ls last) (hA : ∀ a, A = some a → F a.block) (h1 : NetS w' g A m c (ls.eraseIdx k) last) (f1 : Fr w w' (fun b => b = g ∨ A.map (·.block) = some b)) : GNext w w' g F F (ls.eraseIdx k) last :=
  ⟨⟨⟨A, m, c, h1, hA⟩, fun x hx => h.fb x (List.mem_of_mem_eraseIdx hx), fun x hx h0 a ha => by
    obtain ⟨S, e, hU⟩ := h.th x (List.mem_of_mem_eraseIdx hx) h0 a ha
    subst e
    obtain ⟨_, _, _, hb4⟩ := h2.byt x (List.mem_of_mem_eraseIdx hx)
    refine ⟨S, rfl, hU.fr f1 (fun e => ?_)⟩
    rcases e with e | e
    · exact (hb4 h0 _ ha).1 e
    · exact (hb4 h0 _ ha).2 e, h.dis.sub (List.eraseIdx_sublist _ _), h.fg, fun b hb => Nat.lt_of_lt_of_le (h.lt b hb) f1.size⟩, f1.mono (fun b _ e => by
    rcases e with rfl | e
    · exact h.fg
    · obtain ⟨a, ha, rfl⟩ := Option.map_eq_some_iff.1 e; exact hA a ha), fun b hb => .inl hb⟩
theorem GN.lose (h : GN w g F ls last) {A : Option Addr} {m m2 c2 c : Nat} {to : Int} (h2 : NetS w g A m2 c2 ls last) (hA : ∀ a, A = some a → F a.block) (h1 : NetS w' g A m c (keepL ls to) last) (f1 : Fr w w' (fun b => b = g ∨ A.map (·.block) = some b)) : GNext w w' g F F (keepL ls to) last :=
  ⟨⟨⟨A, m, c, h1, hA⟩, fun x hx => h.fb x (keepL_mem hx), fun x hx h0 a ha => by
    obtain ⟨S, e, hU⟩ := h.th x (keepL_mem hx) h0 a ha
    subst e
    obtain ⟨_, _, _, hb4⟩ := h2.byt x (keepL_mem hx)
    refine ⟨S, rfl, hU.fr f1 (fun e => ?_)⟩
    rcases e with e | e
    · exact (hb4 h0 _ ha).1 e
    · exact (hb4 h0 _ ha).2 e, h.dis.sub List.filter_sublist, h.fg, fun b hb => Nat.lt_of_lt_of_le (h.lt b hb) f1.size⟩, f1.mono (fun b _ e => by
    rcases e with rfl | e
    · exact h.fg
    · obtain ⟨a, ha, rfl⟩ := Option.map_eq_some_iff.1 e; exact hA a ha), fun b hb => .inl hb⟩
end
end Go.Proofs.YteaainepnelehaaDoor
