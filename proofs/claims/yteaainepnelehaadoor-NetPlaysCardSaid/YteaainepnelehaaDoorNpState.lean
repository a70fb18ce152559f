/-
  A net with the blocks that it has; no two letters share their bytes.
-/
import Derived.Test.YteaainepnelehaaDoorNtLose2
namespace Go.Proofs.YteaainepnelehaaDoor
set_option maxRecDepth 100000
open Go.RowKit
set_option linter.unusedVariables false
/-- No two letters share a block of bytes. -/
def Dis (ls : List LetV) : Prop := ∀ (i j : Nat) (x y : LetV) (a b : Addr), i < j → ls[i]? = some x → ls[j]? = some y → 0 < x.n → 0 < y.n → x.A = some a → y.A = some b → a.block ≠ b.block
/-- A net at block g, whose blocks are among F. -/
structure GN (w : World) (g : Nat) (F : Nat → Prop) (ls : List LetV) (last : Nat) : Prop where
  ex : ∃ A m c, NetS w g A m c ls last ∧ (∀ a, A = some a → F a.block)
  fb : ∀ x ∈ ls, 0 < x.n → ∀ a, x.A = some a → F a.block
  th : ∀ x ∈ ls, 0 < x.n → ∀ a, x.A = some a → ∃ S, a = ⟨S, 0, none⟩ ∧ U8B w S x.n
  dis : Dis ls
  fg : F g
  lt : ∀ b, F b → b < w.heap.size
/-- What a call leaves. -/
structure GNext (w w' : World) (g : Nat) (F F' : Nat → Prop) (ls' : List LetV) (last' : Nat) : Prop where
  gn : GN w' g F' ls' last'
  fr : Fr w w' F
  fo : ∀ b, F' b → F b ∨ w.heap.size ≤ b
section
variable {w w' : World} {g last : Nat} {F : Nat → Prop} {ls : List LetV}
theorem GN.fr (h : GN w g F ls last) {P : Nat → Prop} (hf : Fr w w' P) (hne : ∀ b, F b → ¬ P b) : GN w' g F ls last := by
  obtain ⟨⟨A, m, c, h1, h2⟩, h3, ht, h4, h5, h6⟩ := h
  exact ⟨⟨A, m, c, h1.fr hf (hne _ h5) (fun a ha => hne _ (h2 a ha)) (fun x hx h0 a ha => hne _ (h3 x hx h0 a ha)), h2⟩, h3, fun x hx h0 a ha => by
    obtain ⟨S, e, hU⟩ := ht x hx h0 a ha
    subst e
    exact ⟨S, rfl, hU.fr hf (hne _ (h3 x hx h0 _ ha))⟩, h4, h5, fun b hb => Nat.lt_of_lt_of_le (h6 b hb) hf.size⟩
theorem GN.ext (h : GN w g F ls last) (hx : Ext w w') : GN w' g F ls last := h.fr (Fr.of_ext hx (fun _ => False)) (fun _ _ h => h)
theorem GNext.same (h : GN w g F ls last) (hx : Ext w w') : GNext w w' g F F ls last := ⟨h.ext hx, Fr.of_ext hx F, fun b hb => .inl hb⟩
theorem Dis.sub {ls ls' : List LetV} (h : Dis ls) (hs : ls'.Sublist ls) : Dis ls' := by
  have key : ∀ l : List LetV, Dis l ↔ l.Pairwise (fun x y => ∀ a b : Addr, 0 < x.n → 0 < y.n → x.A = some a → y.A = some b → a.block ≠ b.block) := fun l => by
    rw [List.pairwise_iff_getElem]
    constructor
    · intro h i j hi hj hij a b h1 h2 h3 h4
      exact h i j _ _ a b hij (List.getElem?_eq_getElem hi) (List.getElem?_eq_getElem hj) h1 h2 h3 h4
    · intro h i j x y a b hij hx hy h1 h2 h3 h4
      obtain ⟨hi, rfl⟩ := List.getElem?_eq_some_iff.1 hx
      obtain ⟨hj, rfl⟩ := List.getElem?_eq_some_iff.1 hy
      exact h i j hi hj hij a b h1 h2 h3 h4
  exact (key ls').2 (((key ls).1 h).sublist hs)
/-- A letter more. -/
theorem GN.put (h : GN w g F ls last) {A : Option Addr} {m c : Nat} {Fr_ T : Int} {n : Nat} {l : List Nat} (h2 : NetS w g A m c ls last) (hA : ∀ a, A = some a → F a.block) (hp : PutS w w' g A m last ls Fr_ T n l) :
    ∃ F' x, GNext w w' g F F' (ls ++ [x]) (last + 1) ∧ x.N = last + 1 ∧ x.F = Fr_ ∧ x.T = T ∧ x.n = n ∧ x.l = l := by
  obtain ⟨⟨A', c', x, h1, hN, hF, hT, hn, hl, hA', hxA, hth⟩, f1⟩ := hp
  have hold : ∀ z ∈ ls, 0 < z.n → ∀ a, z.A = some a → a.block < w.heap.size := fun z hz h0 a ha => h.lt _ (h.fb z hz h0 a ha)
  refine ⟨fun b => F b ∨ A'.map (·.block) = some b ∨ (0 < x.n ∧ x.A.map (·.block) = some b), x, ⟨⟨⟨A', _, c', h1, fun a ha => .inr (.inl (by rw [ha]; rfl))⟩, fun z hz h0 a ha => ?_, fun z hz h0 a ha => ?_, fun i j y z a b hij hy hz h0 h20 ha hb => ?_, .inl h.fg, fun b hb => ?_⟩, f1.mono (fun b _ e => ?_), fun b hb => ?_⟩, hN, hF, hT, hn, hl⟩
  · rcases List.mem_append.1 hz with hz | hz
    · exact .inl (h.fb z hz h0 a ha)
    · simp at hz; subst hz; exact .inr (.inr ⟨h0, by rw [ha]; rfl⟩)
  · rcases List.mem_append.1 hz with hz | hz
    · obtain ⟨S, e, hU⟩ := h.th z hz h0 a ha
      subst e
      obtain ⟨_, _, _, hb4⟩ := h2.byt z hz
      refine ⟨S, rfl, hU.fr f1 (fun e => ?_)⟩
      rcases e with e | e
      · exact (hb4 h0 _ ha).1 e
      · exact (hb4 h0 _ ha).2 e
    · simp at hz; subst hz; exact hth h0 a ha
  · have hil : i < ls.length := by
      have h3 := (List.getElem?_eq_some_iff.1 hz).1
      rw [List.length_append] at h3
      simp at h3
      omega
    rw [List.getElem?_append_left hil] at hy
    rcases Nat.lt_or_ge j ls.length with hj | hj
    · rw [List.getElem?_append_left hj] at hz
      exact h.dis i j y z a b hij hy hz h0 h20 ha hb
    · have hzx : z = x := by
        rw [List.getElem?_append_right hj] at hz
        have h3 := (List.getElem?_eq_some_iff.1 hz).1
        simp at h3
        obtain ⟨q, hq⟩ : ∃ q, j - ls.length = q := ⟨_, rfl⟩
        rw [hq] at hz
        have : q = 0 := by omega
        subst this
        simp at hz
        exact hz.symm
      subst hzx
      have h4 := hold y (List.mem_of_getElem? hy) h0 a ha
      have h5 := hxA b hb
      omega
  · rcases hb with hb | hb | ⟨h0, hb⟩
    · exact Nat.lt_of_lt_of_le (h.lt b hb) f1.size
    · obtain ⟨a, ha, rfl⟩ := Option.map_eq_some_iff.1 hb; exact h1.own.lt_at ha
    · obtain ⟨a, ha, rfl⟩ := Option.map_eq_some_iff.1 hb
      obtain ⟨ad, e, hlt, _⟩ := (h1.byt x (by simp)).1.2 h0
      rw [ha] at e
      injection e with e
      subst e
      exact hlt
  · rcases e with rfl | e
    · exact h.fg
    · obtain ⟨a, ha, rfl⟩ := Option.map_eq_some_iff.1 e; exact hA a ha
  · rcases hb with hb | hb | ⟨_, hb⟩
    · exact .inl hb
    · obtain ⟨a, ha, rfl⟩ := Option.map_eq_some_iff.1 hb
      rcases hA' a ha with e | e
      · obtain ⟨a2, ha2, e2⟩ := Option.map_eq_some_iff.1 e
        exact .inl (by rw [← e2]; exact hA a2 ha2)
      · exact .inr e
    · obtain ⟨a, ha, rfl⟩ := Option.map_eq_some_iff.1 hb
      exact .inr (hxA a ha)
end
end Go.Proofs.YteaainepnelehaaDoor
