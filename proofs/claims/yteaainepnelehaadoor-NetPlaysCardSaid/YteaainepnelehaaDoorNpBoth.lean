/-
  What both nets make of Send, Copy, Lose, Nth.
-/
import Derived.Test.YteaainepnelehaaDoorNpModel
import Derived.Test.YteaainepnelehaaDoorNum
namespace Go.Proofs.YteaainepnelehaaDoor
set_option maxRecDepth 100000
open Go.RowKit
set_option linter.unusedVariables false
theorem num_of (E : Nat → Addr) (i g : Nat) (n : Int) (hi : gsN[i]? = some g) (hn : (i : Int) + 1 = n) (w : World) (hE : Errs w E) :
    Calls Tryd.prog 13 #[errE (E g)] w fun e w' => e = .returned (.int .i64 n) ∧ Ext w w' := by
  subst hn
  exact num_at E i g w hE hi
/-- Send, by both: r, v from the one, r, n from the other; either both have the letter, or neither. -/
structure BothSend (E : Nat → Addr) (ls : List LetV) (last : Nat) (F T : Int) (l : List Nat) (r n : Int) (v : Value) : Prop where
  g : ∀ (w : World) (g : Nat) (Fs : Nat → Prop) (B : Option Addr) (k d : Nat), GN w g Fs ls last → Errs w E → Rd w 1 B k (u8s l) → (∀ y ∈ l, y < 256) → k ≤ 140737488351232 → (0 < k → ∀ b, B = some b → b.block ≠ g) →
    Calls Tryd.prog 8 #[.pointer (some ⟨g, 0, none⟩), .int .i64 F, .int .i64 T, .slice B k d] w fun e w' => e = .returned (.tuple #[.int .i64 r, v]) ∧
      ∃ F' ls' last', last' ≤ last + 1 ∧ GNext w w' g Fs F' ls' last' ∧ ∀ (w2 : World) (g2 : Nat) (Fm : Nat → Prop) (B2 : Option Addr) (k2 d2 : Nat), MN w2 g2 Fm ls last → Rd w2 1 B2 k2 (u8s l) →
        Calls Tryd.prog 12 #[.pointer (some ⟨g2, 0, none⟩), .int .i64 F, .int .i64 T, .slice B2 k2 d2] w2 fun e w' => e = .returned (.tuple #[.int .i64 r, .int .i64 n]) ∧ ∃ F', MNxt w2 w' g2 Fm F' ls' last'
  num : ∀ w, Errs w E → Calls Tryd.prog 13 #[v] w fun e w' => e = .returned (.int .i64 n) ∧ Ext w w'
theorem both_send (E : Nat → Addr) (ls : List LetV) (last : Nat) (hlast : last < 4611686018427387904) (F T : Int) (l : List Nat) : ∃ r n v, BothSend E ls last F T l r n v := by
  by_cases hFT : (0 ≤ F ∧ F ≤ 6) ∧ 0 ≤ T ∧ T ≤ 6
  · by_cases hm : ls.length = 4096
    · refine ⟨0, 7, errE (E 6), fun w g Fs B k d h hE hr hb hk hB => ?_, num_of E 6 _ 7 rfl rfl⟩
      obtain ⟨A, m, c, h1, _⟩ := h.ex
      refine (send_full h1 (by rw [← h1.len]; exact hm) F T hFT.1 hFT.2 B k d (hE.sen _ (by decide))).mono fun e w' ⟨he, hx⟩ => ⟨he, Fs, ls, last, Nat.le_succ _, GNext.same h hx, fun w2 g2 Fm B2 k2 d2 h2 hr2 => ?_⟩
      obtain ⟨B', A2, m2, c2, h3, _⟩ := h2.ex
      exact (msend_full h3 (by rw [← h3.len]; exact hm) F T hFT.1 hFT.2 B2 k2 d2 l hr2).mono fun e w' ⟨he, hx⟩ => ⟨he, Fm, MNxt.same h2 hx⟩
    · refine ⟨(last : Int) + 1, 0, .nilIface, fun w g Fs B k d h hE hr hb hk hB => ?_, fun w _ => num_nil w⟩
      obtain ⟨A, m, c, h1, hA⟩ := h.ex
      have hmm : m < 4096 := by have h2 := h1.len; have h3 := h1.few; omega
      refine (send_ok h1 hmm hlast F T hFT.1 hFT.2 B k d l hr hb hk hB).mono fun e w' ⟨he, hp⟩ => ?_
      obtain ⟨F', x, hn, hN, hF, hT, _, hl⟩ := h.put h1 hA hp
      refine ⟨he, F', _, _, Nat.le_refl _, hn, fun w2 g2 Fm B2 k2 d2 h2 hr2 => ?_⟩
      obtain ⟨B', A2, m2, c2, h3, hA2⟩ := h2.ex
      exact (msend_ok h3 (by have h4 := h3.len; have h5 := h1.len; omega) hlast F T hFT.1 hFT.2 B2 k2 d2 l hr2 hN hF hT hl).mono fun e w' ⟨he, hp⟩ => ⟨he, h2.put hA2 hp⟩
  · refine ⟨0, 1, errE (E 1), fun w g Fs B k d h hE hr hb hk hB => ?_, num_of E 0 _ 1 rfl rfl⟩
    obtain ⟨A, m, c, h1, _⟩ := h.ex
    refine (send_num h1 F T hFT B k d (hE.sen _ (by decide))).mono fun e w' ⟨he, hx⟩ => ⟨he, Fs, ls, last, Nat.le_succ _, GNext.same h hx, fun w2 g2 Fm B2 k2 d2 h2 hr2 => ?_⟩
    obtain ⟨B', A2, m2, c2, h3, _⟩ := h2.ex
    exact (msend_num h3 F T hFT B2 k2 d2).mono fun e w' ⟨he, hx⟩ => ⟨he, Fm, MNxt.same h2 hx⟩
theorem find_case (ls : List LetV) (y : Int) : (∃ (k : Nat) (x : LetV), ls[k]? = some x ∧ (x.N : Int) = y) ∨ ∀ x ∈ ls, (x.N : Int) ≠ y := by
  by_cases h : ∃ x ∈ ls, (x.N : Int) = y
  · obtain ⟨x, hx, e⟩ := h
    obtain ⟨k, hk⟩ := List.getElem?_of_mem hx
    exact .inl ⟨k, x, hk, e⟩
  · exact .inr fun x hx e => h ⟨x, hx, e⟩
/-- Copy, by both. -/
structure BothCopy (E : Nat → Addr) (ls : List LetV) (last : Nat) (y r n : Int) (v : Value) : Prop where
  g : ∀ (w : World) (g : Nat) (Fs : Nat → Prop), GN w g Fs ls last → Errs w E →
    Calls Tryd.prog 9 #[.pointer (some ⟨g, 0, none⟩), .int .i64 y] w fun e w' => e = .returned (.tuple #[.int .i64 r, v]) ∧
      ∃ F' ls' last', last' ≤ last + 1 ∧ GNext w w' g Fs F' ls' last' ∧ ∀ (w2 : World) (g2 : Nat) (Fm : Nat → Prop), MN w2 g2 Fm ls last →
        Calls Tryd.prog 17 #[.pointer (some ⟨g2, 0, none⟩), .int .i64 y] w2 fun e w' => e = .returned (.tuple #[.int .i64 r, .int .i64 n]) ∧ ∃ F', MNxt w2 w' g2 Fm F' ls' last'
  num : ∀ w, Errs w E → Calls Tryd.prog 13 #[v] w fun e w' => e = .returned (.int .i64 n) ∧ Ext w w'
theorem both_copy (E : Nat → Addr) (ls : List LetV) (last : Nat) (hlast : last < 4611686018427387904) (y : Int) : ∃ r n v, BothCopy E ls last y r n v := by
  rcases find_case ls y with ⟨k, x, hk, hy⟩ | hy
  · by_cases hm : ls.length = 4096
    · refine ⟨0, 7, errE (E 6), fun w g Fs h hE => ?_, num_of E 6 _ 7 rfl rfl⟩
      obtain ⟨A, m, c, h1, _⟩ := h.ex
      refine (copy_full h1 (by rw [← h1.len]; exact hm) hk hy (hE.sen _ (by decide))).mono fun e w' ⟨he, hx⟩ => ⟨he, Fs, ls, last, Nat.le_succ _, GNext.same h hx, fun w2 g2 Fm h2 => ?_⟩
      obtain ⟨B', A2, m2, c2, h3, _⟩ := h2.ex
      exact (mcopy_full h3 h1.ris (by rw [← h3.len]; exact hm) hk hy).mono fun e w' ⟨he, hx⟩ => ⟨he, Fm, MNxt.same h2 hx⟩
    · refine ⟨(last : Int) + 1, 0, .nilIface, fun w g Fs h hE => ?_, fun w _ => num_nil w⟩
      obtain ⟨A, m, c, h1, hA⟩ := h.ex
      have hmm : m < 4096 := by have h2 := h1.len; have h3 := h1.few; omega
      refine (copy_ok h1 hmm hlast hk hy).mono fun e w' ⟨he, hp⟩ => ?_
      obtain ⟨F', z, hn, hN, hF, hT, _, hl⟩ := h.put h1 hA hp
      refine ⟨he, F', _, _, Nat.le_refl _, hn, fun w2 g2 Fm h2 => ?_⟩
      obtain ⟨B', A2, m2, c2, h3, hA2⟩ := h2.ex
      exact (mcopy_ok h3 h1.ris (by have h4 := h3.len; have h5 := h1.len; omega) hlast hk hy hN hF hT hl).mono fun e w' ⟨he, hp⟩ => ⟨he, h2.put hA2 hp⟩
  · refine ⟨0, 5, errE (E 0), fun w g Fs h hE => ?_, num_of E 4 _ 5 rfl rfl⟩
    obtain ⟨A, m, c, h1, _⟩ := h.ex
    refine (copy_gone h1 hy (hE.sen _ (by decide))).mono fun e w' ⟨he, hx⟩ => ⟨he, Fs, ls, last, Nat.le_succ _, GNext.same h hx, fun w2 g2 Fm h2 => ?_⟩
    obtain ⟨B', A2, m2, c2, h3, _⟩ := h2.ex
    exact (mcopy_gone h3 hy).mono fun e w' ⟨he, hx⟩ => ⟨he, Fm, MNxt.same h2 hx⟩
/-- Lose, by both: the same count. -/
theorem both_lose_g {w : World} {g last : Nat} {Fs : Nat → Prop} {ls : List LetV} (h : GN w g Fs ls last) (to : Int) :
    Calls Tryd.prog 19 #[.pointer (some ⟨g, 0, none⟩), .int .i64 to] w fun e w' => e = .returned (.int .i64 ((ls.length : Int) - ((keepL ls to).length : Int))) ∧ GNext w w' g Fs Fs (keepL ls to) last := by
  obtain ⟨A, m, c, h1, hA⟩ := h.ex
  have hl := h1.len
  exact nlose_ h1 to (Lib.hid fun w' q hq hN hf => ⟨by rw [hq, hl], h.lose h1 hA hN hf⟩)
theorem both_lose_m {w : World} {g last : Nat} {Fm : Nat → Prop} {ls : List LetV} (h : MN w g Fm ls last) (to : Int) :
    Calls Tryd.prog 20 #[.pointer (some ⟨g, 0, none⟩), .int .i64 to] w fun e w' => e = .returned (.int .i64 ((ls.length : Int) - ((keepL ls to).length : Int))) ∧ ∃ F', MNxt w w' g Fm F' (keepL ls to) last := by
  obtain ⟨B, A, m, c, h1, hA⟩ := h.ex
  have hl := h1.len
  exact mlose_any h1 to (Lib.hid fun w' hd => ⟨by rw [hl], h.del hd⟩)
end Go.Proofs.YteaainepnelehaaDoor
