/-
  The document's guest with the blocks that it has; what both guests answer alike.
-/
import Derived.Test.YtbpbmelfhgbogaaDoorGmRun
import Derived.Test.YtbpbmelfhgbogaaDoorNum
namespace Go.Proofs.YtbpbmelfhgbogaaDoor
set_option maxRecDepth 100000
open Go.RowKit
set_option linter.unusedVariables false
/-- The document's guest at block g, whose blocks are among F. -/
structure MP (w : World) (g : Nat) (F : Nat → Prop) (p : Int) (ks : List TkV) (js : List JobV) : Prop where
  ex : ∃ B TA tn tc LA lc JA jn jc, MS w B g TA tn tc LA lc JA jn jc p ks js ∧ (∀ a, TA = some a → F a.block) ∧ (∀ a, LA = some a → F a.block) ∧ ∀ a, JA = some a → F a.block
  fg : F g
  lt : ∀ b, F b → b < w.heap.size
/-- What a call leaves: the guest, its blocks, all else as it was. -/
structure MNext (w w' : World) (g : Nat) (F F' : Nat → Prop) (p : Int) (ks' : List TkV) (js' : List JobV) : Prop where
  mp : MP w' g F' p ks' js'
  fr : Fr w w' F
  fo : ∀ b, F' b → F b ∨ w.heap.size ≤ b
section
variable {w w' : World} {g : Nat} {F : Nat → Prop} {p : Int} {ks : List TkV} {js : List JobV}
theorem MP.fr (h : MP w g F p ks js) {P : Nat → Prop} (hf : Fr w w' P) (hne : ∀ b, F b → ¬ P b) : MP w' g F p ks js := by
  obtain ⟨⟨B, TA, tn, tc, LA, lc, JA, jn, jc, h1, h2, h3, h4⟩, h5, h6⟩ := h
  exact ⟨⟨B, TA, tn, tc, LA, lc, JA, jn, jc, h1.fr hf (hne _ h5) (fun a ha => hne _ (h2 a ha)) (fun a ha => hne _ (h3 a ha)) (fun a ha => hne _ (h4 a ha)), h2, h3, h4⟩, h5, fun b hb => Nat.lt_of_lt_of_le (h6 b hb) hf.size⟩
theorem MP.ext (h : MP w g F p ks js) (hx : Ext w w') : MP w' g F p ks js := h.fr (Fr.of_ext hx (fun _ => False)) (fun _ _ h => h)
theorem MNext.same (h : MP w g F p ks js) (hx : Ext w w') : MNext w w' g F F p ks js := ⟨h.ext hx, Fr.of_ext hx F, fun b hb => .inl hb⟩
theorem MNext.blk {F' : Nat → Prop} (h : MNext w w' g F F' p ks js) {b : Nat} {o : Obj} (hb : w.heap[b]? = some o) (hF : ¬ F b) : w'.heap[b]? = some o := (h.fr.block b (block_lt hb) hF).trans hb
theorem MNext.out {F' : Nat → Prop} (h : MNext w w' g F F' p ks js) {b : Nat} (hb : b < w.heap.size) (hF : ¬ F b) : ¬ F' b := fun e => by rcases h.fo b e with h1 | h1; exact hF h1; omega
theorem mnew_any (p : Int) (A : Option Addr) (n c : Nat) (ts : List TaskV) (w : World) (hr : Rd w 4 A n (trows ts).flatten) (h : LG p ts) :
    Calls Tryd.prog 15 #[.int .i64 p, .slice A n c] w fun e w' => ∃ g F, e = .returned (.pointer (some ⟨g, 0, none⟩)) ∧ MP w' g F p (fresh ts) [] ∧ (∀ b, F b → w.heap.size ≤ b) ∧ Ext w w' := by
  refine (rnew_any p A n c ts w hr h).mono fun e w' ⟨g, TA, tc, LA, lc, he, hM, hx⟩ => ⟨g, fun b => b = g ∨ TA.map (·.block) = some b ∨ LA.map (·.block) = some b, he, ⟨⟨_, _, _, _, _, _, _, _, _, hM, fun a ha => .inr (.inl (by rw [ha]; rfl)), fun a ha => .inr (.inr (by rw [ha]; rfl)), fun a ha => by cases ha⟩, .inl rfl, fun b hb => ?_⟩, fun b hb => ?_, hx⟩
  · rcases hb with rfl | hb | hb
    · exact hM.lt
    · obtain ⟨a, ha, rfl⟩ := Option.map_eq_some_iff.1 hb; exact hM.tow.lt_at ha
    · obtain ⟨a, ha, rfl⟩ := Option.map_eq_some_iff.1 hb; exact hM.low.lt_at ha
  · rcases hb with rfl | hb | hb
    · exact hM.bg
    · obtain ⟨a, ha, rfl⟩ := Option.map_eq_some_iff.1 hb; exact hM.tow.base_le a.block (by rw [ha]; rfl)
    · obtain ⟨a, ha, rfl⟩ := Option.map_eq_some_iff.1 hb; exact hM.low.base_le a.block (by rw [ha]; rfl)
theorem mnext_any (h : MP w g F p ks js) : Calls Tryd.prog 27 #[.pointer (some ⟨g, 0, none⟩)] w fun e w' => e = .returned (.int .i64 (nextV p (tsk ks) js)) ∧ Ext w w' := by
  obtain ⟨_, _, _, _, _, _, _, _, _, h1, _⟩ := h.ex
  exact rnext_any h1
theorem mlate_any (h : MP w g F p ks js) (now : Int) : Calls Tryd.prog 30 #[.pointer (some ⟨g, 0, none⟩), .int .i64 now] w fun e w' => e = .returned (.int .i64 (lateN js now js.length : Int)) ∧ Ext w w' := by
  obtain ⟨_, _, _, _, _, _, _, _, _, h1, _⟩ := h.ex
  rw [h1.jlen]
  exact rlate_any h1 now
theorem MP.rel (h : MP w g F p ks js) {ks' : List TkV} {js' : List JobV} {B : Nat} {TA : Option Addr} {tn tc : Nat} {LA : Option Addr} {lc : Nat} {JA : Option Addr} {jn : Nat}
    (hT : ∀ a, TA = some a → F a.block) (hL : ∀ a, LA = some a → F a.block) (hJ : ∀ a, JA = some a → F a.block) (hR : MRel w w' B g TA tn tc LA lc JA jn p ks' js') : ∃ F', MNext w w' g F F' p ks' js' := by
  obtain ⟨⟨JA', jc', hG, hJ'⟩, hfr⟩ := hR
  refine ⟨fun b => F b ∨ JA'.map (·.block) = some b, ⟨⟨_, _, _, _, _, _, _, _, _, hG, fun a ha => .inl (hT a ha), fun a ha => .inl (hL a ha), fun a ha => .inr (by rw [ha]; rfl)⟩, .inl h.fg, fun b hb => ?_⟩, hfr.mono (fun b _ e => ?_), fun b hb => ?_⟩
  · rcases hb with hb | hb
    · exact Nat.lt_of_lt_of_le (h.lt b hb) hfr.size
    · obtain ⟨a, ha, rfl⟩ := Option.map_eq_some_iff.1 hb; exact hG.jow.lt_at ha
  · rcases e with rfl | e | e
    · exact h.fg
    · obtain ⟨a, ha, rfl⟩ := Option.map_eq_some_iff.1 e; exact hL a ha
    · obtain ⟨a, ha, rfl⟩ := Option.map_eq_some_iff.1 e; exact hJ a ha
  · rcases hb with hb | hb
    · exact .inl hb
    · obtain ⟨a, ha, rfl⟩ := Option.map_eq_some_iff.1 hb
      rcases hJ' a ha with e | e
      · obtain ⟨a2, ha2, e2⟩ := Option.map_eq_some_iff.1 e
        exact .inl (by rw [← e2]; exact hJ a2 ha2)
      · exact .inr e
theorem MP.ran (h : MP w g F p ks js) {js' : List JobV} {B : Nat} {TA : Option Addr} {tn tc : Nat} {LA : Option Addr} {lc : Nat} {JA : Option Addr}
    (hT : ∀ a, TA = some a → F a.block) (hL : ∀ a, LA = some a → F a.block) (hJ : ∀ a, JA = some a → F a.block) (hR : MRun w w' B g TA tn tc LA lc JA p ks js') : ∃ F', MNext w w' g F F' p ks js' := by
  obtain ⟨⟨JA', jn', jc', hG, hJ'⟩, hfr⟩ := hR
  refine ⟨fun b => F b ∨ JA'.map (·.block) = some b, ⟨⟨_, _, _, _, _, _, _, _, _, hG, fun a ha => .inl (hT a ha), fun a ha => .inl (hL a ha), fun a ha => .inr (by rw [ha]; rfl)⟩, .inl h.fg, fun b hb => ?_⟩, hfr.mono (fun b _ e => ?_), fun b hb => ?_⟩
  · rcases hb with hb | hb
    · exact Nat.lt_of_lt_of_le (h.lt b hb) hfr.size
    · obtain ⟨a, ha, rfl⟩ := Option.map_eq_some_iff.1 hb; exact hG.jow.lt_at ha
  · rcases e with rfl | e
    · exact h.fg
    · obtain ⟨a, ha, rfl⟩ := Option.map_eq_some_iff.1 e; exact hJ a ha
  · rcases hb with hb | hb
    · exact .inl hb
    · obtain ⟨a, ha, rfl⟩ := Option.map_eq_some_iff.1 hb
      rcases hJ' a ha with e | e
      · obtain ⟨a2, ha2, e2⟩ := Option.map_eq_some_iff.1 e
        exact .inl (by rw [← e2]; exact hJ a2 ha2)
      · exact .inr e
/-- What both guests make of a release. -/
structure BothRel (E : Nat → Addr) (p : Int) (ks : List TkV) (js : List JobV) (i now ticks n : Int) (v : Value) (ks' : List TkV) (js' : List JobV) : Prop where
  g : ∀ w g F, GP w g F p ks js → Errs w E → Calls Tryd.prog 12 #[.pointer (some ⟨g, 0, none⟩), .int .i64 i, .int .i64 now, .int .i64 ticks] w fun e w' => e = .returned v ∧ ∃ F', Next_ w w' g F F' p ks' js'
  m : ∀ w g F, MP w g F p ks js → Calls Tryd.prog 17 #[.pointer (some ⟨g, 0, none⟩), .int .i64 i, .int .i64 now, .int .i64 ticks] w fun e w' => e = .returned (.int .i64 n) ∧ ∃ F', MNext w w' g F F' p ks' js'
  num : ∀ w, Errs w E → Calls Tryd.prog 16 #[v] w fun e w' => e = .returned (.int .i64 n) ∧ Ext w w'
theorem num_of (E : Nat → Addr) (i g : Nat) (n : Int) (hi : gsN[i]? = some g) (hn : (i : Int) + 1 = n) (w : World) (hE : Errs w E) :
    Calls Tryd.prog 16 #[errE (E g)] w fun e w' => e = .returned (.int .i64 n) ∧ Ext w w' := by
  subst hn
  exact num_at E i g w hE hi
theorem both_rel (h : GP w g F p ks js) (E : Nat → Addr) (i now ticks : Int) : ∃ n v ks' js', BothRel E p ks js i now ticks n v ks' js' := by
  have hjs := h.gi.few
  by_cases hc : i < 0 ∨ (ks.length : Int) ≤ i ∨ now < 0 ∨ 1099511627776 < now
  · refine ⟨1, errE (E 0), ks, js, fun w g F h hE => ?_, fun w g F h => ?_, num_of E 0 _ 1 rfl rfl⟩
    · obtain ⟨_, _, _, _, _, _, h1, _⟩ := h.ex
      exact (rel_num h1 i now ticks (by rw [h1.klen] at hc; exact hc) (hE.sen _ (by decide))).mono fun e w' ⟨he, hx⟩ => ⟨he, F, Next_.same h hx⟩
    · obtain ⟨_, _, _, _, _, _, _, _, _, h1, _⟩ := h.ex
      exact (rrel_num h1 i now ticks (by rw [h1.klen] at hc; exact hc)).mono fun e w' ⟨he, hx⟩ => ⟨he, F, MNext.same h hx⟩
  · obtain ⟨k, rfl⟩ := Int.eq_ofNat_of_zero_le (show 0 ≤ i by omega)
    obtain ⟨x, hx⟩ : ∃ x, ks[k]? = some x := ⟨ks[k]'(by omega), List.getElem?_eq_getElem _⟩
    by_cases hb : x.was = true ∧ now < x.last + x.t.P
    · refine ⟨14, errE (E 1), ks, js, fun w g F h hE => ?_, fun w g F h => ?_, num_of E 13 _ 14 rfl rfl⟩
      · obtain ⟨_, _, _, _, _, _, h1, _⟩ := h.ex
        exact (rel_busy h1 ticks hx (by omega) (by omega) hb.1 hb.2 (hE.sen _ (by decide))).mono fun e w' ⟨he, hx⟩ => ⟨he, F, Next_.same h hx⟩
      · obtain ⟨_, _, _, _, _, _, _, _, _, h1, _⟩ := h.ex
        exact (rrel_busy h1 ticks hx (by omega) (by omega) hb.1 hb.2).mono fun e w' ⟨he, hx⟩ => ⟨he, F, MNext.same h hx⟩
    · have hf : x.free now := by
        unfold TkV.free
        cases hw : x.was with
        | false => exact .inl rfl
        | true => exact .inr (by have : ¬ now < x.last + x.t.P := fun e => hb ⟨hw, e⟩; omega)
      by_cases hj : js.length = 64
      · refine ⟨7, errE (E 2), ks, js, fun w g F h hE => ?_, fun w g F h => ?_, num_of E 6 _ 7 rfl rfl⟩
        · obtain ⟨_, _, _, _, _, _, h1, _⟩ := h.ex
          exact (rel_full h1 ticks hx (by omega) (by omega) hf (by rw [← h1.jlen]; exact hj) (hE.sen _ (by decide))).mono fun e w' ⟨he, hx⟩ => ⟨he, F, Next_.same h hx⟩
        · obtain ⟨_, _, _, _, _, _, _, _, _, h1, _⟩ := h.ex
          exact (rrel_full h1 ticks hx (by omega) (by omega) hf (by rw [← h1.jlen]; exact hj)).mono fun e w' ⟨he, hx⟩ => ⟨he, F, MNext.same h hx⟩
      · refine ⟨0, .nilIface, ks.set k ⟨x.t, now, true⟩, js ++ [newJ k now ticks x.t], fun w g F h hE => ?_, fun w g F h => ?_, fun w _ => num_nil w⟩
        · exact release_ok h ticks hx (by omega) (by omega) hf (by omega)
        · obtain ⟨_, _, _, _, _, _, _, _, _, h1, h2, h3, h4⟩ := h.ex
          exact (rrel_ok h1 ticks hx (by omega) (by omega) hf (by have := h1.jlen; omega)).mono fun e w' ⟨he, hr⟩ => ⟨he, h.rel h2 h3 h4 hr⟩
/-- What both guests make of a tick. -/
structure BothRun (E : Nat → Addr) (p : Int) (ks : List TkV) (js : List JobV) (j : JobV) (d : Bool) (n : Int) (v : Value) (js' : List JobV) : Prop where
  g : ∀ w g F, GP w g F p ks js → Errs w E → Calls Tryd.prog 13 #[.pointer (some ⟨g, 0, none⟩)] w fun e w' => e = .returned (.tuple #[.agg #[.int .i64 (j.T : Int), .int .i64 j.R, .int .i64 j.D, .int .i64 j.L, .int .i64 j.N], .bool d, v]) ∧ ∃ F', Next_ w w' g F F' p ks js'
  m : ∀ w g F, MP w g F p ks js → Calls Tryd.prog 18 #[.pointer (some ⟨g, 0, none⟩)] w fun e w' => e = .returned (.tuple #[.agg #[.int .i64 (j.T : Int), .int .i64 j.R, .int .i64 j.D, .int .i64 j.L, .int .i64 j.N], .bool d, .int .i64 n]) ∧ ∃ F', MNext w w' g F F' p ks js'
  num : ∀ w, Errs w E → Calls Tryd.prog 16 #[v] w fun e w' => e = .returned (.int .i64 n) ∧ Ext w w'
theorem both_run (E : Nat → Addr) (p : Int) (ks : List TkV) (js : List JobV) : ∃ j d n v js', BothRun E p ks js j d n v js' := by
  rcases Nat.eq_zero_or_pos js.length with h0 | h0
  · obtain rfl := List.eq_nil_of_length_eq_zero h0
    refine ⟨jz, false, 16, errE (E 4), [], fun w g F h hE => ?_, fun w g F h => ?_, num_of E 15 _ 16 rfl rfl⟩
    · exact (runs_none h (hE.sen _ (by decide))).mono fun e w' ⟨he, hx⟩ => ⟨he, F, Next_.same h hx⟩
    · obtain ⟨_, _, _, _, _, _, _, _, _, h1, _⟩ := h.ex
      exact (rrun_none h1).mono fun e w' ⟨he, hx⟩ => ⟨he, F, MNext.same h hx⟩
  · obtain ⟨x, hx⟩ : ∃ x, js[nextI p (tsk ks) js]? = some x := ⟨_, at_of jz (nextI_lt h0)⟩
    refine ⟨x.tick, decide (x.L = 1), 0, .nilIface, ranJ js (nextI p (tsk ks) js), fun w g F h hE => ?_, fun w g F h => ?_, fun w _ => num_nil w⟩
    · exact (runs_any h hx).mono fun e w' ⟨he, hx⟩ => ⟨he, F, hx⟩
    · obtain ⟨_, _, _, _, _, _, _, _, _, h1, h2, h3, h4⟩ := h.ex
      exact (rrun_ok h1 hx).mono fun e w' ⟨he, hr⟩ => ⟨he, h.ran h2 h3 h4 hr⟩
end
end Go.Proofs.YtbpbmelfhgbogaaDoor
