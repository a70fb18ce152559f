/-
  A region that draws its order and whose operations keep a fact S of the world: each operation whose value is settled in every world that meets S (a load, a computation, a call that makes memory) is taken in the text's order. T: operations at the end, that need not keep S.
-/
import Derived.Test.YteflnnlihblpgaaDoorOrd
namespace Go.Proofs.YteflnnlihblpgaaDoor
set_option maxRecDepth 100000
open Go.RowKit
set_option linter.unusedVariables false
section
variable {P : Program} {ops : Array Oper} {Q : Exit → Act → World → Prop} {md : Region.Mode} {S : World → Prop} {T : List Nat}
/-- The worlds of which is spoken: all that meet S, as long as none of T has come up; then the one at hand. -/
def Meets (S : World → Prop) (T : List Nat) (listed : Array Bool) (w w1 : World) : Prop := (unlisted_ listed T = true → S w1) ∧ (unlisted_ listed T = false → w1 = w)
def AnyW (P : Program) (md : Region.Mode) (ops : Array Oper) (Q : Exit → Act → World → Prop) (S : World → Prop) (T : List Nat) : Nat → Array Bool → Act → World → Prop
  | 0, listed, a, w => Region.ready md ops listed = [] ∧ ∀ w1, Meets S T listed w w1 → Q .normal a w1
  | fuel + 1, listed, a, w => ∀ w1, Meets S T listed w w1 → (Region.ready md ops listed = [] → Q .normal a w1) ∧ ∀ j ∈ Region.ready md ops listed, wpOp P ops Q j (fun a' w' => (T.contains j = false → unlisted_ listed T = true → S w') ∧ AnyW P md ops Q S T fuel (listed.setIfInBounds j true) a' w') a w1
theorem unlisted_set {listed : Array Bool} {j : Nat} (hj : listed.getD j true = false) (h : unlisted_ (listed.setIfInBounds j true) T = true) : T.contains j = false ∧ unlisted_ listed T = true := by
  have hlt : j < listed.size := by
    rcases Nat.lt_or_ge j listed.size with h1 | h1
    · exact h1
    · simp [Array.getElem?_eq_none h1] at hj
  have hc : T.contains j = false := by
    cases hc : T.contains j with
    | false => rfl
    | true =>
      have h1 := unlisted_at h hc
      simp [hlt] at h1
  refine ⟨hc, List.all_eq_true.2 fun t ht => ?_⟩
  have h1 := unlisted_at h (t := t) (by simpa using ht)
  have hne : j ≠ t := fun e => by
    rw [e] at hc
    have : T.contains t = true := by simpa using ht
    rw [hc] at this
    cases this
  rw [getD_set_ne true hne] at h1
  simpa using h1
theorem any_of_w : ∀ (fuel : Nat) (listed : Array Bool) (a : Act) (w : World), (unlisted_ listed T = true → S w) → AnyW P md ops Q S T fuel listed a w → wpAny P md ops Q fuel listed a w
  | 0, _, _, w, hw, h => ⟨h.1, h.2 w ⟨hw, fun _ => rfl⟩⟩
  | _ + 1, _, _, w, hw, h => ⟨(h w ⟨hw, fun _ => rfl⟩).1, fun j hj => wpOp_mono (fun a' w' q => any_of_w _ _ a' w' (fun hu => by
      obtain ⟨h1, h2⟩ := unlisted_set (mem_ready.1 hj).1 hu
      exact q.1 h1 h2) q.2) ((h w ⟨hw, fun _ => rfl⟩).2 j hj)⟩
/-- In every world that meets S the operation leaves v, and a world that meets S. -/
def YieldsW (P : Program) (ops : Array Oper) (S : World → Prop) (o : Oper) (v : Value) (a : Act) : Prop :=
  (Region.wanted o (yielded ops a.tmps) = true ∧ ∀ w, S w → ((∃ w', (execOp a.eval o).run P w = .ok (.value v) w' ∧ S w') ∨ ∃ f args w', (execOp a.eval o).run P w = .ok (.enter f args) w' ∧ Calls P f args w' (fun e w'' => e = .returned v ∧ S w''))) ∨
  (Region.wanted o (yielded ops a.tmps) = false ∧ v = undef)
theorem YieldsIf.yieldsW {o : Oper} {v : Value} {a : Act} (h : YieldsIf P ops S o v a) : YieldsW P ops S o v a :=
  h.imp (fun ⟨hw, hv⟩ => ⟨hw, fun w hs => .inl ⟨w, hv w hs, hs⟩⟩) id
theorem YieldsW.wpOp {i : Nat} {o : Oper} {v : Value} {a : Act} (hi : ops[i]? = some o) (hy : YieldsW P ops S o v a)
    {K : Act → World → Prop} {w : World} (hS : S w) (h : ∀ w', S w' → K (a.put o.dst v) w') : wpOp P ops Q i K a w := by
  unfold Go.wpOp
  simp only [hi]
  rcases hy with ⟨hw, hv⟩ | ⟨hw, rfl⟩
  · simp only [hw, if_true, Oper.wp]
    refine .inl ?_
    rcases hv w hS with ⟨w', e, s⟩ | ⟨f, args, w', e, c⟩
    · simp only [e, Oper.upon]; exact h w' s
    · simp only [e, Oper.upon]
      exact Calls.mono c (fun e w'' ⟨he, hs⟩ => by subst he; exact h w'' hs)
  · simp only [hw, Bool.false_eq_true, if_false]; exact h w hS
theorem YieldsW.of_same {o : Oper} {v : Value} {a a' : Act} (hy : YieldsW P ops S o v a) (he : execOp a'.eval o = execOp a.eval o)
    (hw : Region.wanted o (yielded ops a'.tmps) = Region.wanted o (yielded ops a.tmps)) : YieldsW P ops S o v a' := by
  unfold YieldsW at *
  rw [he, hw]
  exact hy
theorem wpOp_putW {j : Nat} {oi oj : Oper} {v : Value} (hj : ops[j]? = some oj) (hap : oi.apart ops oj = true)
    (hsi : ∀ cs b, oi.op ≠ .select cs b) (hsj : ∀ cs b, oj.op ≠ .select cs b)
    (hQ : ∀ c a w, Q (.panic c) (a.put oi.dst v) w → Q (.panic c) a w) {K : Act → World → Prop} {a : Act} {w : World}
    (hy : YieldsW P ops S oi v a) (h : wpOp P ops Q j K (a.put oi.dst v) w) :
    wpOp P ops Q j (fun a' w' => YieldsW P ops S oi v a' ∧ K (a'.put oi.dst v) w') a w := by
  obtain ⟨h1, h2, h3⟩ := Oper.apart_spec hap
  have keep : ∀ (a : Act), YieldsW P ops S oi v a → ∀ u, YieldsW P ops S oi v (a.put oj.dst u) := fun a hy u =>
    hy.of_same (execOp_put oi hsi a oj.dst u h3) (wanted_put oi a oj.dst u h3)
  have keepD : ∀ d, YieldsW P ops S oi v { a with defers := d :: a.defers } := fun d => hy.of_same rfl rfl
  unfold Go.wpOp at *
  simp only [hj] at *
  rw [wanted_put oj a oi.dst v h1] at h
  split
  · rename_i hw
    simp only [hw, if_true] at h
    rcases h with h | ⟨hasks, hlets⟩
    case inr => exact .inr ⟨by unfold Oper.asks at *; rw [execOp_put oj hsj a oi.dst v h1] at hasks; exact hasks, hlets⟩
    refine .inl ?_
    unfold Oper.wp at *
    rw [execOp_put oj hsj a oi.dst v h1] at h
    generalize (execOp a.eval oj).run P w = r at *
    cases r with
    | ok n w' =>
      cases n <;> simp only [Oper.upon] at h ⊢
      case value u => exact ⟨keep a hy u, by rw [← Act.put_comm a v u h2]; exact h⟩
      case skip => exact ⟨keep a hy _, by rw [← Act.put_comm a v undef h2]; exact h⟩
      case defer d =>
        refine ⟨keep _ (keepD d) _, ?_⟩
        rw [← Act.put_comm _ v undef h2, ← Act.put_defers]
        exact h
      case enter f args =>
        refine Calls.mono h fun e w'' he => ?_
        cases e with
        | returned u => exact ⟨keep a hy u, by rw [← Act.put_comm a v u h2]; exact he⟩
        | panicked c => exact hQ _ _ _ he
        | outgrown => exact he
      case row row args => exact Rows.mono h fun u w'' he => ⟨keep a hy u, by rw [← Act.put_comm a v u h2]; exact he⟩
    | halt x w' =>
      cases x <;> simp only [Oper.upon] at h ⊢
      case panic u => exact hQ _ _ _ h
  · rename_i hw
    simp only [hw] at h
    exact ⟨keep a hy _, by rw [← Act.put_comm a v undef h2]; exact h⟩
theorem unlisted_sub {listed : Array Bool} {D : List Nat} (hTD : (T.all fun t => D.contains t) = true) (hu : unlisted_ listed D = true) : unlisted_ listed T = true :=
  List.all_eq_true.2 fun t ht => by simpa using unlisted_at hu (List.all_eq_true.1 hTD t ht)
theorem w_first {i : Nat} {oi : Oper} {v : Value} {D : List Nat} (hi : ops[i]? = some oi) (hns : Region.noSelect ops = true) (hQ : ∀ c a w, Q (.panic c) (a.put oi.dst v) w → Q (.panic c) a w)
    (hw : waits_ md ops i D = true) (hTD : (T.all fun t => D.contains t) = true) :
    ∀ (fuel : Nat) (listed : Array Bool) (a : Act) (w : World), unlisted_ listed D = true →
      (∀ j oj, ops[j]? = some oj → j ≠ i → listed.getD j true = false → (∀ e ∈ oj.after, Region.binds md e = true → e.on ≠ i) → oi.apart ops oj = true) →
      i ∈ Region.ready md ops listed → YieldsW P ops S oi v a →
      AnyW P md ops Q S T fuel (listed.setIfInBounds i true) (a.put oi.dst v) w → AnyW P md ops Q S T (fuel + 1) listed a w := by
  have hsel := fun j o cs b => Region.noSelect_spec hns j o cs b
  intro fuel
  induction fuel with
  | zero =>
    intro listed a w hu _ hr hy H w1 hm
    have hS := hm.1 (unlisted_sub hTD hu)
    refine ⟨fun h => absurd hr (by rw [h]; simp), fun j hj => ?_⟩
    rcases Decidable.em (j = i) with e | e
    · subst e
      refine hy.wpOp hi hS fun w' s => ⟨fun _ _ => s, H.1, fun w2 hm2 => H.2 w2 ⟨hm2.1, fun hf => ?_⟩⟩
      have hT : T.contains j = false := by
        cases hc : T.contains j with
        | false => rfl
        | true =>
          have := not_waiting hw hu hr hr
          have h2 := List.all_eq_true.1 hTD j (by simpa using hc)
          rw [this] at h2
          cases h2
      have : unlisted_ (listed.setIfInBounds j true) T = true := List.all_eq_true.2 fun t ht => by
        have hne : j ≠ t := fun e => by
          have : T.contains t = true := by simpa using ht
          rw [← e, hT] at this
          cases this
        rw [getD_set_ne true hne]
        simpa using unlisted_at (unlisted_sub hTD hu) (t := t) (by simpa using ht)
      rw [this] at hf
      cases hf
    · have h0 := ready_mono hj e
      rw [H.1] at h0
      simp at h0
  | succ fuel ih =>
    intro listed a w hu hfree hr hy H w1 hm
    have huT := unlisted_sub hTD hu
    have hS := hm.1 huT
    have notT : ∀ j, j ∈ Region.ready md ops listed → T.contains j = false := fun j hj => by
      cases hc : T.contains j with
      | false => rfl
      | true =>
        have := not_waiting hw hu hr hj
        have h2 := List.all_eq_true.1 hTD j (by simpa using hc)
        rw [this] at h2
        cases h2
    have stay : ∀ j, T.contains j = false → unlisted_ (listed.setIfInBounds j true) T = true := fun j hT => List.all_eq_true.2 fun t ht => by
      have hne : j ≠ t := fun e => by
        have : T.contains t = true := by simpa using ht
        rw [← e, hT] at this
        cases this
      rw [getD_set_ne true hne]
      simpa using unlisted_at huT (t := t) (by simpa using ht)
    have hui := stay i (notT i hr)
    refine ⟨fun h => absurd hr (by rw [h]; simp), fun j hj => ?_⟩
    rcases Decidable.em (j = i) with e | e
    · subst e
      exact hy.wpOp hi hS fun w' s => ⟨fun _ _ => s, fun w2 hm2 => H w2 ⟨hm2.1, fun hf => by rw [hui] at hf; cases hf⟩⟩
    obtain ⟨hjun, oj, hoj, hall⟩ := mem_ready.1 hj
    have hno : ∀ q ∈ oj.after, Region.binds md q = true → q.on ≠ i := fun q hq hb heq => by
      have h1 := hall q hq hb
      have h2 := (mem_ready.1 hr).1
      rw [heq] at h1
      rcases Nat.lt_or_ge i listed.size with hlt | hge
      · simp [hlt] at h1 h2
        rw [h2] at h1
        cases h1
      · simp [Array.getElem?_eq_none hge] at h1
    have h1 := (H w1 ⟨fun _ => hS, fun hf => by rw [hui] at hf; cases hf⟩).2 j (ready_mono hj e)
    have h2 := wpOp_putW hoj (hfree j oj hoj e hjun hno) (fun cs b => hsel i oi cs b hi) (fun cs b => hsel j oj cs b hoj) hQ hy h1
    have hDj : D.contains j = false := not_waiting hw hu hr hj
    refine wpOp_mono (fun a' w' q => ⟨fun ht _ => q.2.1 ht hui, ih (listed.setIfInBounds j true) a' w' ?_ (fun k ok hk hki hun hnk => ?_) (ready_mono hr (Ne.symm e)) q.1 ?_⟩) h2
    · refine List.all_eq_true.2 fun t ht => ?_
      have ht' : D.contains t = true := by simpa using ht
      have hne2 : j ≠ t := fun e => by rw [e, ht'] at hDj; cases hDj
      rw [getD_set_ne true hne2]
      simpa using unlisted_at hu ht'
    · refine hfree k ok hk hki ?_ hnk
      rcases Decidable.em (j = k) with e2 | e2
      · subst e2; exact hjun
      · rwa [getD_set_ne true e2] at hun
    · rw [Array.setIfInBounds_comm _ _ e]
      exact q.2.2
/-- An operation whose value is settled is taken first; all of T wait for it. -/
theorem w_take {i : Nat} (D : List Nat) (dst : Option Nat) {oi : Oper} {v : Value} {fuel : Nat} {listed : Array Bool} {a : Act} {w : World} (hi : ops[i]? = some oi) (hdst : oi.dst = dst) (hns : Region.noSelect ops = true) (hf : Region.free md ops listed i = true) (hr : (Region.ready md ops listed).contains i = true)
    (hw : waits_ md ops i D = true) (hu : unlisted_ listed D = true) (hTD : (T.all fun t => D.contains t) = true)
    (hQ : ∀ c a w, Q (.panic c) (a.put oi.dst v) w → Q (.panic c) a w) (hy : YieldsW P ops S oi v a)
    (h : AnyW P md ops Q S T fuel (listed.setIfInBounds i true) (a.put dst v) w) : AnyW P md ops Q S T (fuel + 1) listed a w := by
  subst hdst
  exact w_first hi hns hQ hw hTD fuel listed a w hu (Region.free_spec hi hf) (by simpa using hr) hy h
/-- One of T alone may come up, none of T has. -/
theorem w_head {i : Nat} {oi : Oper} {fuel : Nat} {listed : Array Bool} {a : Act} {w : World} (hr : Region.ready md ops listed = [i]) (hi : ops[i]? = some oi) (hw : Region.wanted oi (yielded ops a.tmps) = true) (hu : unlisted_ listed T = true) (hu2 : unlisted_ (listed.setIfInBounds i true) T = false)
    (h : ∀ w1, S w1 → ∀ K : Act → World → Prop, Hid (∀ a w, AnyW P md ops Q S T fuel (listed.setIfInBounds i true) a w → K a w) → Oper.wp P oi a w1 K Q) : AnyW P md ops Q S T (fuel + 1) listed a w := fun w1 hm =>
  ⟨fun e => by rw [hr] at e; simp at e, fun j hj => by
    rw [hr] at hj
    obtain rfl := List.mem_singleton.1 hj
    exact wpOp_step hi (fun K hK => by
      rw [if_pos hw]
      have hT : T.contains j = true := by
        cases hc : T.contains j with
        | true => rfl
        | false =>
          have : unlisted_ (listed.setIfInBounds j true) T = true := List.all_eq_true.2 fun t ht => by
            have hne : j ≠ t := fun e => by
              have : T.contains t = true := by simpa using ht
              rw [← e, hc] at this
              cases this
            rw [getD_set_ne true hne]
            simpa using unlisted_at hu (t := t) (by simpa using ht)
          rw [this] at hu2
          cases hu2
      exact h w1 (hm.1 hu) K (Lib.hid fun a w h2 => hK a w ⟨fun h => (by rw [hT] at h; cases h), h2⟩))⟩
/-- One alone may come up, behind one of T. -/
theorem w_tail {i : Nat} {oi : Oper} {fuel : Nat} {listed : Array Bool} {a : Act} {w : World} (hr : Region.ready md ops listed = [i]) (hi : ops[i]? = some oi) (hw : Region.wanted oi (yielded ops a.tmps) = true) (hu : unlisted_ listed T = false)
    (h : ∀ K : Act → World → Prop, Hid (∀ a w, AnyW P md ops Q S T fuel (listed.setIfInBounds i true) a w → K a w) → Oper.wp P oi a w K Q) : AnyW P md ops Q S T (fuel + 1) listed a w := fun w1 hm =>
  ⟨fun e => by rw [hr] at e; simp at e, fun j hj => by
    rw [hr] at hj
    obtain rfl := List.mem_singleton.1 hj
    obtain rfl := hm.2 hu
    exact wpOp_step hi (fun K hK => by
      rw [if_pos hw]
      exact h K (Lib.hid fun a w h2 => hK a w ⟨fun _ h => (by rw [hu] at h; cases h), h2⟩))⟩
/-- All have come up, none of T among them. -/
theorem w_done {listed : Array Bool} {a : Act} {w : World} (hr : Region.ready md ops listed = []) (hu : unlisted_ listed T = true) (h : ∀ w, S w → Q .normal a w) : ∀ fuel, AnyW P md ops Q S T fuel listed a w
  | 0 => ⟨hr, fun w1 hm => h w1 (hm.1 hu)⟩
  | _ + 1 => fun w1 hm => ⟨fun _ => h w1 (hm.1 hu), by rw [hr]; simp⟩
/-- All have come up. -/
theorem w_end {listed : Array Bool} {a : Act} {w : World} (hr : Region.ready md ops listed = []) (hu : unlisted_ listed T = false) (h : Q .normal a w) : ∀ fuel, AnyW P md ops Q S T fuel listed a w
  | 0 => ⟨hr, fun w1 hm => by rw [hm.2 hu]; exact h⟩
  | _ + 1 => fun w1 hm => ⟨fun _ => by rw [hm.2 hu]; exact h, by rw [hr]; simp⟩
/-- The beginning. -/
theorem w_region (S : World → Prop) (T : List Nat) {id : Nat} {a : Act} {w : World} (hm : P.follows .mixedOrders = true) (hS : S w.drew) (h : AnyW P .any ops Q S T ops.size (Array.replicate ops.size false) a w.drew) : (Code.region id ops true).wp P Q a w :=
  wp_region_any hm (any_of_w _ _ _ _ (fun _ => hS) h)
/-- One of two may come up. -/
theorem d_two {i j : Nat} {oi oj : Oper} {fuel : Nat} {listed : Array Bool} {a : Act} {w : World} (hr : Region.ready md ops listed = [i, j]) (hi : ops[i]? = some oi) (hj : ops[j]? = some oj) (hgi : oi.guard = none) (hgj : oj.guard = none)
    (h1 : ∀ K : Act → World → Prop, Hid (∀ a w, (T.contains i = false → S w) → AnyD P md ops Q S T fuel (listed.setIfInBounds i true) a w → K a w) → Oper.wp P oi a w K Q)
    (h2 : ∀ K : Act → World → Prop, Hid (∀ a w, (T.contains j = false → S w) → AnyD P md ops Q S T fuel (listed.setIfInBounds j true) a w → K a w) → Oper.wp P oj a w K Q) : AnyD P md ops Q S T (fuel + 1) listed a w :=
  ⟨fun e => by rw [hr] at e; simp at e, fun k hk => by
    rw [hr] at hk
    rcases List.mem_cons.1 hk with rfl | hk
    · exact wpOp_step hi (fun K hK => by
        rw [if_pos (by simp [Region.wanted, hgi])]
        exact h1 K (Lib.hid fun a w h1 h2 => hK a w ⟨h1, h2⟩))
    · obtain rfl := List.mem_singleton.1 hk
      exact wpOp_step hj (fun K hK => by
        rw [if_pos (by simp [Region.wanted, hgj])]
        exact h2 K (Lib.hid fun a w h1 h2 => hK a w ⟨h1, h2⟩))⟩
end
end Go.Proofs.YteflnnlihblpgaaDoor
