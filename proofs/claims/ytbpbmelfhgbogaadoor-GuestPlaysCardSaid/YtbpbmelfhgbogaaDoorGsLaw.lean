/-
  Package guest: a guest with the blocks that it has; what its calls do, in the words that the statements use.
-/
import Derived.Test.YtbpbmelfhgbogaaDoorGsNew
import Derived.Test.YtbpbmelfhgbogaaDoorGsLegal2
import Derived.Test.YtbpbmelfhgbogaaDoorGsHoldP
namespace Go.Proofs.YtbpbmelfhgbogaaDoor
set_option maxRecDepth 100000
open Go.RowKit
set_option linter.unusedVariables false
/-- A guest at block g, whose blocks are among F. -/
structure GP (w : World) (g : Nat) (F : Nat → Prop) (p : Int) (ks : List TkV) (js : List JobV) : Prop where
  ex : ∃ TA tn tc JA jn jc, GS w g TA tn tc JA jn jc p ks js ∧ (∀ a, TA = some a → F a.block) ∧ ∀ a, JA = some a → F a.block
  fg : F g
  lt : ∀ b, F b → b < w.heap.size
section
variable {w w' : World} {g : Nat} {F : Nat → Prop} {p : Int} {ks : List TkV} {js : List JobV}
theorem GP.fr (h : GP w g F p ks js) {P : Nat → Prop} (hf : Fr w w' P) (hne : ∀ b, F b → ¬ P b) : GP w' g F p ks js := by
  obtain ⟨⟨TA, tn, tc, JA, jn, jc, h1, h2, h3⟩, h4, h5⟩ := h
  exact ⟨⟨TA, tn, tc, JA, jn, jc, h1.fr hf (hne _ h4) (fun a ha => hne _ (h2 a ha)) (fun a ha => hne _ (h3 a ha)), h2, h3⟩, h4, fun b hb => Nat.lt_of_lt_of_le (h5 b hb) hf.size⟩
theorem GP.ext (h : GP w g F p ks js) (hx : Ext w w') : GP w' g F p ks js := h.fr (Fr.of_ext hx (fun _ => False)) (fun _ _ h => h)
theorem GP.gi (h : GP w g F p ks js) : GI (tsk ks) js := by obtain ⟨_, _, _, _, _, _, h, _⟩ := h.ex; exact h.gi
theorem GP.k8 (h : GP w g F p ks js) : ks.length ≤ 8 := by obtain ⟨_, _, _, _, _, _, h, _⟩ := h.ex; rw [h.klen]; exact h.tn8
/-- What a call leaves: the guest, its blocks, all else as it was. -/
structure Next_ (w w' : World) (g : Nat) (F F' : Nat → Prop) (p : Int) (ks' : List TkV) (js' : List JobV) : Prop where
  gp : GP w' g F' p ks' js'
  fr : Fr w w' F
  fo : ∀ b, F' b → F b ∨ w.heap.size ≤ b
theorem Next_.blk {F' : Nat → Prop} (h : Next_ w w' g F F' p ks js) {b : Nat} {o : Obj} (hb : w.heap[b]? = some o) (hF : ¬ F b) : w'.heap[b]? = some o := (h.fr.block b (block_lt hb) hF).trans hb
theorem Next_.out {F' : Nat → Prop} (h : Next_ w w' g F F' p ks js) {b : Nat} (hb : b < w.heap.size) (hF : ¬ F b) : ¬ F' b := fun e => by rcases h.fo b e with h1 | h1; exact hF h1; omega
theorem Next_.same (h : GP w g F p ks js) (hx : Ext w w') : Next_ w w' g F F p ks js := ⟨h.ext hx, Fr.of_ext hx F, fun b hb => .inl hb⟩
/-- Release, taken or not. -/
def Taken (ks : List TkV) (js : List JobV) (i now ticks : Int) (ks' : List TkV) (js' : List JobV) : Prop := ∃ (k : Nat) (x : TkV), i = (k : Int) ∧ ks[k]? = some x ∧ 0 ≤ now ∧ now ≤ 1099511627776 ∧ x.free now ∧ js.length < 64 ∧ ks' = ks.set k ⟨x.t, now, true⟩ ∧ js' = js ++ [newJ k now ticks x.t]
/-- The three errors of Release. -/
structure RelE (w : World) (pn pb pf : Addr) : Prop where
  num : Sen w 0 pn
  busy : Sen w 1 pb
  full : Sen w 2 pf
theorem RelE.ext {pn pb pf : Addr} (h : RelE w pn pb pf) (hx : Ext w w') : RelE w' pn pb pf := ⟨h.num.ext hx, h.busy.ext hx, h.full.ext hx⟩
theorem release_ok (h : GP w g F p ks js) {k : Nat} {now : Int} (ticks : Int) {x : TkV} (hx : ks[k]? = some x) (h0 : 0 ≤ now) (hn : now ≤ 1099511627776) (hf : x.free now) (hj : js.length < 64) :
    Calls Tryd.prog 12 #[.pointer (some ⟨g, 0, none⟩), .int .i64 (k : Int), .int .i64 now, .int .i64 ticks] w fun e w' => e = .returned .nilIface ∧ ∃ F', Next_ w w' g F F' p (ks.set k ⟨x.t, now, true⟩) (js ++ [newJ k now ticks x.t]) := by
  obtain ⟨⟨TA, tn, tc, JA, jn, jc, h1, h2, h3⟩, h4, h5⟩ := h
  have hlen := h1.jlen
  refine (rel_ok h1 ticks hx h0 hn hf (by omega)).mono fun e w' ⟨he, hR⟩ => ?_
  obtain ⟨⟨JA', jc', hG, hJ⟩, hfr⟩ := hR
  have hz := hfr.size
  refine ⟨he, fun b => F b ∨ JA'.map (·.block) = some b, ⟨⟨⟨TA, tn, tc, JA', jn + 1, jc', hG, fun a ha => .inl (h2 a ha), fun a ha => .inr (by rw [ha]; rfl)⟩, .inl h4, fun b hb => ?_⟩, hfr.mono (fun b _ e => ?_), fun b hb => ?_⟩⟩
  · rcases hb with hb | hb
    · exact Nat.lt_of_lt_of_le (h5 b hb) hz
    · obtain ⟨a, ha, rfl⟩ := Option.map_eq_some_iff.1 hb
      exact hG.jow.lt_at ha
  · rcases e with rfl | e | e
    · exact h4
    · obtain ⟨a, ha, rfl⟩ := Option.map_eq_some_iff.1 e; exact h2 a ha
    · obtain ⟨a, ha, rfl⟩ := Option.map_eq_some_iff.1 e; exact h3 a ha
  · rcases hb with hb | hb
    · exact .inl hb
    · obtain ⟨a, ha, rfl⟩ := Option.map_eq_some_iff.1 hb
      rcases hJ a ha with e | e
      · obtain ⟨a2, ha2, e2⟩ := Option.map_eq_some_iff.1 e
        exact .inl (by rw [← e2]; exact h3 a2 ha2)
      · exact .inr e
theorem release_any (h : GP w g F p ks js) (i now ticks : Int) {pn pb pf : Addr} (hS : RelE w pn pb pf) :
    Calls Tryd.prog 12 #[.pointer (some ⟨g, 0, none⟩), .int .i64 i, .int .i64 now, .int .i64 ticks] w fun e w' => ∃ v F' ks' js', e = .returned v ∧ Next_ w w' g F F' p ks' js' ∧
      ((v = .nilIface ∧ Taken ks js i now ticks ks' js') ∨ (∃ q, v = errE q ∧ (q = pn ∨ q = pb ∨ q = pf) ∧ ks' = ks ∧ js' = js)) := by
  have h0 := h
  obtain ⟨⟨TA, tn, tc, JA, jn, jc, h1, h2, h3⟩, h4, h5⟩ := h
  by_cases hc : i < 0 ∨ (tn : Int) ≤ i ∨ now < 0 ∨ 1099511627776 < now
  · exact (rel_num h1 i now ticks hc hS.num).mono fun e w' ⟨he, hx⟩ => ⟨_, F, ks, js, he, Next_.same h0 hx, .inr ⟨pn, rfl, .inl rfl, rfl, rfl⟩⟩
  · obtain ⟨k, rfl⟩ := Int.eq_ofNat_of_zero_le (show 0 ≤ i by omega)
    obtain ⟨x, hx⟩ : ∃ x, ks[k]? = some x := ⟨ks[k]'(by have := h1.klen; omega), List.getElem?_eq_getElem _⟩
    by_cases hb : x.was = true ∧ now < x.last + x.t.P
    · exact (rel_busy h1 ticks hx (by omega) (by omega) hb.1 hb.2 hS.busy).mono fun e w' ⟨he, hx⟩ => ⟨_, F, ks, js, he, Next_.same h0 hx, .inr ⟨pb, rfl, .inr (.inl rfl), rfl, rfl⟩⟩
    · have hf : x.free now := by
        unfold TkV.free
        cases hw : x.was with
        | false => exact .inl rfl
        | true => exact .inr (by have : ¬ now < x.last + x.t.P := fun e => hb ⟨hw, e⟩; omega)
      by_cases hj : jn = 64
      · exact (rel_full h1 ticks hx (by omega) (by omega) hf hj hS.full).mono fun e w' ⟨he, hx⟩ => ⟨_, F, ks, js, he, Next_.same h0 hx, .inr ⟨pf, rfl, .inr (.inr rfl), rfl, rfl⟩⟩
      · have hlen := h1.jlen
        have h64 := h1.jn64
        exact (release_ok h0 ticks hx (by omega) (by omega) hf (by omega)).mono fun e w' ⟨he, F', hN⟩ => ⟨_, F', _, _, he, hN, .inl ⟨rfl, k, x, rfl, hx, by omega, by omega, hf, by omega, rfl, rfl⟩⟩
theorem runs_any (h : GP w g F p ks js) {x : JobV} (hx : js[nextI p (tsk ks) js]? = some x) :
    Calls Tryd.prog 13 #[.pointer (some ⟨g, 0, none⟩)] w fun e w' => e = .returned (.tuple #[x.tick.val, .bool (decide (x.L = 1)), .nilIface]) ∧ Next_ w w' g F F p ks (ranJ js (nextI p (tsk ks) js)) := by
  obtain ⟨⟨TA, tn, tc, JA, jn, jc, h1, h2, h3⟩, h4, h5⟩ := h
  refine (run_ok h1 hx).mono fun e w' ⟨he, ⟨jn', hG⟩, hfr⟩ => ⟨he, ⟨⟨TA, tn, tc, JA, jn', jc, hG, h2, h3⟩, h4, fun b hb => Nat.lt_of_lt_of_le (h5 b hb) hfr.size⟩, hfr.mono (fun b _ e => ?_), fun b hb => .inl hb⟩
  rcases e with rfl | e
  · exact h4
  · obtain ⟨a, ha, rfl⟩ := Option.map_eq_some_iff.1 e; exact h3 a ha
theorem runs_none (h : GP w g F p ks []) {q : Addr} (hS : Sen w 4 q) :
    Calls Tryd.prog 13 #[.pointer (some ⟨g, 0, none⟩)] w fun e w' => e = .returned (.tuple #[.agg #[.int .i64 0, .int .i64 0, .int .i64 0, .int .i64 0, .int .i64 0], .bool false, errE q]) ∧ Ext w w' := by
  obtain ⟨_, _, _, _, _, _, h1, _⟩ := h.ex
  exact run_none h1 hS
theorem nexts_any (h : GP w g F p ks js) {x : JobV} (hx : js[nextI p (tsk ks) js]? = some x) :
    Calls Tryd.prog 14 #[.pointer (some ⟨g, 0, none⟩)] w fun e w' => e = .returned (.tuple #[x.val, .bool true]) ∧ Ext w w' := by
  obtain ⟨_, _, _, _, _, _, h1, _⟩ := h.ex
  exact Next_has h1 hx
theorem nexts_none (h : GP w g F p ks []) :
    Calls Tryd.prog 14 #[.pointer (some ⟨g, 0, none⟩)] w fun e w' => e = .returned (.tuple #[.agg #[.int .i64 0, .int .i64 0, .int .i64 0, .int .i64 0, .int .i64 0], .bool false]) ∧ Ext w w' := by
  obtain ⟨_, _, _, _, _, _, h1, _⟩ := h.ex
  exact Next_none h1
theorem jobss_any (h : GP w g F p ks js) :
    Calls Tryd.prog 11 #[.pointer (some ⟨g, 0, none⟩)] w fun e w' => ∃ A' c', e = .returned (.slice A' js.length c') ∧ Own w' w.heap.size 46 5 A' js.length c' (jrows js).flatten ∧ Ext w w' := by
  obtain ⟨_, _, _, _, _, _, h1, _⟩ := h.ex
  rw [h1.jlen]
  exact jobs_any h1
theorem lates_any (h : GP w g F p ks js) (now : Int) : Calls Tryd.prog 29 #[.pointer (some ⟨g, 0, none⟩), .int .i64 now] w fun e w' => e = .returned (.int .i64 (lateN js now js.length : Int)) ∧ Ext w w' := by
  obtain ⟨_, _, _, _, _, _, h1, _⟩ := h.ex
  rw [h1.jlen]
  exact late_any h1 now
theorem works_any (h : GP w g F p ks js) (b : Bool) (hb : Hid (b = decide (0 < js.length))) : Calls Tryd.prog 28 #[.pointer (some ⟨g, 0, none⟩)] w fun e w' => e = .returned (.bool b) ∧ Ext w w' := by
  obtain ⟨_, _, _, _, _, _, h1, _⟩ := h.ex
  exact work_any h1 b hb
theorem news_ok (p : Int) (A : Option Addr) (n c : Nat) (ts : List TaskV) (w : World) (hr : Rd w 4 A n (trows ts).flatten) {q : Addr} (hS : Sen w 3 q) (h : LG p ts) :
    Calls Tryd.prog 9 #[.int .i64 p, .slice A n c] w fun e w' => ∃ g F, e = .returned (.tuple #[.pointer (some ⟨g, 0, none⟩), .nilIface]) ∧ GP w' g F p (fresh ts) [] ∧ (∀ b, F b → w.heap.size ≤ b) ∧ Ext w w' := by
  refine (new_ok p A n c ts w hr hS h).mono fun e w' ⟨g, TA, tc, he, hg, hG, hx⟩ => ⟨g, fun b => b = g ∨ TA.map (·.block) = some b, he, ⟨⟨_, _, _, _, _, _, hG, fun a ha => .inr (by rw [ha]; rfl), fun a ha => by cases ha⟩, .inl rfl, fun b hb => ?_⟩, fun b hb => ?_, hx⟩
  · rcases hb with rfl | hb
    · exact hG.lt
    · obtain ⟨a, ha, rfl⟩ := Option.map_eq_some_iff.1 hb; exact hG.tow.lt_at ha
  · rcases hb with rfl | hb
    · exact hg
    · obtain ⟨a, ha, rfl⟩ := Option.map_eq_some_iff.1 hb
      have := hG.tow.base_le a.block (by rw [ha]; rfl)
      omega
end
end Go.Proofs.YtbpbmelfhgbogaaDoor
