/-
  What both nets make of Deliver and Drop: behind Deliver the letter's bytes are none of the net's.
-/
import Derived.Test.YteaainepnelehaaDoorNpBoth
namespace Go.Proofs.YteaainepnelehaaDoor
set_option maxRecDepth 100000
open Go.RowKit
set_option linter.unusedVariables false
/-- The blocks without those of a letter's bytes. -/
def less (F : Nat → Prop) (x : LetV) : Nat → Prop := fun b => F b ∧ ¬ (0 < x.n ∧ x.A.map (·.block) = some b)
section
variable {w w' : World} {g last : Nat} {F : Nat → Prop} {ls : List LetV}
theorem erase_other {k : Nat} {z : LetV} (hz : z ∈ ls.eraseIdx k) : ∃ i, i ≠ k ∧ ls[i]? = some z := by
  obtain ⟨q, hq⟩ := List.getElem?_of_mem hz
  rw [List.getElem?_eraseIdx] at hq
  split at hq
  · exact ⟨q, by omega, hq⟩
  · exact ⟨q + 1, by omega, hq⟩
theorem del_hit (h : GN w g F ls last) {k : Nat} {x : LetV} {y : Int} (hk : ls[k]? = some x) (hy : (x.N : Int) = y) :
    Calls Tryd.prog 10 #[.pointer (some ⟨g, 0, none⟩), .int .i64 y] w fun e w' => e = .returned (.tuple #[x.val, .nilIface]) ∧ GNext w w' g F (less F x) (ls.eraseIdx k) last ∧ Rd w' 1 x.A x.n (u8s x.l) ∧ ∀ a, 0 < x.n → x.A = some a → F a.block ∧ ∃ S, a = ⟨S, 0, none⟩ ∧ U8B w' S x.n := by
  obtain ⟨A, m, c, h1, hA⟩ := h.ex
  refine (deliver_ok h1 hk hy).mono fun e w' ⟨he, hN, hf⟩ => ?_
  have hxm := List.mem_of_getElem? hk
  obtain ⟨b1, b2, b3, b4⟩ := h1.byt x hxm
  have GP := h.pop h1 hA hN hf
  have ne : ∀ b, (0 < x.n → ∀ a, x.A = some a → a.block ≠ b) → F b → less F x b := fun b hb hF => ⟨hF, fun ⟨h0, e⟩ => by
    obtain ⟨a, ha, hab⟩ := Option.map_eq_some_iff.1 e
    exact hb h0 a ha hab⟩
  refine ⟨he, ⟨⟨⟨A, _, c, hN, fun a ha => ne _ (fun h0 ax hx e => (b4 h0 ax hx).2 (by rw [ha, e]; rfl)) (hA a ha)⟩, fun z hz h0 a ha => ne _ (fun hx0 ax hax e => ?_) (h.fb z (List.mem_of_mem_eraseIdx hz) h0 a ha), GP.gn.th, GP.gn.dis, ne _ (fun h0 ax hx e => (b4 h0 ax hx).1 e) h.fg, fun b hb => GP.gn.lt b hb.1⟩, GP.fr, fun b hb => .inl hb.1⟩, rd0 hf b1 (fun h0 a ha e => ?_), fun a h0 ha => ⟨h.fb x hxm h0 a ha, ?_⟩⟩
  · obtain ⟨i, hik, hi⟩ := erase_other hz
    rcases Nat.lt_or_ge i k with hlt | hge
    · exact h.dis i k z x a ax hlt hi hk h0 hx0 ha hax e.symm
    · exact h.dis k i x z ax a (by omega) hk hi hx0 h0 hax ha e
  · rcases e with e | e
    · exact (b4 h0 a ha).1 e
    · exact (b4 h0 a ha).2 e
  · obtain ⟨S, e, hU⟩ := h.th x hxm h0 a ha
    subst e
    exact ⟨S, rfl, hU.fr hf (fun e => by
      rcases e with e | e
      · exact (b4 h0 _ ha).1 e
      · exact (b4 h0 _ ha).2 e)⟩
theorem drop_hit (h : GN w g F ls last) {k : Nat} {x : LetV} {y : Int} (hk : ls[k]? = some x) (hy : (x.N : Int) = y) :
    Calls Tryd.prog 16 #[.pointer (some ⟨g, 0, none⟩), .int .i64 y] w fun e w' => e = .returned .nilIface ∧ GNext w w' g F F (ls.eraseIdx k) last := by
  obtain ⟨A, m, c, h1, hA⟩ := h.ex
  exact (drop_ok h1 hk hy).mono fun e w' ⟨he, hN, hf⟩ => ⟨he, h.pop h1 hA hN hf⟩
theorem mdel_hit (h : MN w g F ls last) (hr : Rising ls) {k : Nat} {x : LetV} {y : Int} (hk : ls[k]? = some x) (hy : (x.N : Int) = y) :
    Calls Tryd.prog 15 #[.pointer (some ⟨g, 0, none⟩), .int .i64 y] w fun e w' => e = .returned (.tuple #[.agg #[.int .i64 (x.N : Int), .int .i64 x.F, .int .i64 x.T, .string (str x.l)], .int .i64 0]) ∧ ∃ F', MNxt w w' g F F' (ls.eraseIdx k) last := by
  obtain ⟨B, A, m, c, h1, hA⟩ := h.ex
  exact mdel_ok h1 hr hk hy (Lib.hid fun w' hd => ⟨rfl, h.del hd⟩)
end
end Go.Proofs.YteaainepnelehaaDoor
