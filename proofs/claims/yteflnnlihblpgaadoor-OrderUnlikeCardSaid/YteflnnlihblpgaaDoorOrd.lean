/-
  A region that draws its order: loads are taken first although an operation behind them writes what they read: what waits for a load cannot come ahead of it.
-/
import Derived.Test.YteflnnlihblpgaaDoorStep
import Derived.OrdersHeld
import Derived.RegionTactic
namespace Go.Proofs.YteflnnlihblpgaaDoor
set_option maxRecDepth 100000
open Go.RowKit
set_option linter.unusedVariables false
section
variable {P : Program} {ops : Array Oper} {Q : Exit → Act → World → Prop} {md : Region.Mode} {S : World → Prop} {T : List Nat}
/-- Whatever comes up; S holds behind each operation that is not among T. -/
def AnyD (P : Program) (md : Region.Mode) (ops : Array Oper) (Q : Exit → Act → World → Prop) (S : World → Prop) (T : List Nat) : Nat → Array Bool → Act → World → Prop
  | 0, listed, a, w => Region.ready md ops listed = [] ∧ Q .normal a w
  | fuel + 1, listed, a, w => (Region.ready md ops listed = [] → Q .normal a w) ∧ ∀ j ∈ Region.ready md ops listed, wpOp P ops Q j (fun a' w' => (T.contains j = false → S w') ∧ AnyD P md ops Q S T fuel (listed.setIfInBounds j true) a' w') a w
theorem any_of_d : ∀ (fuel : Nat) (listed : Array Bool) (a : Act) (w : World), AnyD P md ops Q S T fuel listed a w → wpAny P md ops Q fuel listed a w
  | 0, _, _, _, h => h
  | _ + 1, _, _, _, h => ⟨h.1, fun j hj => wpOp_mono (fun a' w' q => any_of_d _ _ a' w' q.2) (h.2 j hj)⟩
/-- An operation that yields its value in each world that meets G is taken first: G must be kept by all that may come up ahead of it. -/
theorem d_first {i : Nat} {oi : Oper} {v : Value} {G : World → Prop} {Inv : Array Bool → Prop} (hi : ops[i]? = some oi) (hns : Region.noSelect ops = true) (hQ : ∀ c a w, Q (.panic c) (a.put oi.dst v) w → Q (.panic c) a w)
    (hstep : ∀ listed j, Inv listed → i ∈ Region.ready md ops listed → j ∈ Region.ready md ops listed → j ≠ i → Inv (listed.setIfInBounds j true))
    (hGS : ∀ w, G w → T.contains i = false → S w)
    (hkeep : ∀ listed j w', Inv listed → i ∈ Region.ready md ops listed → j ∈ Region.ready md ops listed → j ≠ i → (T.contains j = false → S w') → G w') :
    ∀ (fuel : Nat) (listed : Array Bool) (a : Act) (w : World),
      (∀ j oj, ops[j]? = some oj → j ≠ i → listed.getD j true = false → (∀ e ∈ oj.after, Region.binds md e = true → e.on ≠ i) → oi.apart ops oj = true) →
      i ∈ Region.ready md ops listed → YieldsIf P ops G oi v a → G w → Inv listed →
      AnyD P md ops Q S T fuel (listed.setIfInBounds i true) (a.put oi.dst v) w → AnyD P md ops Q S T (fuel + 1) listed a w := by
  have hsel := fun j o cs b => Region.noSelect_spec hns j o cs b
  intro fuel
  induction fuel with
  | zero =>
    intro listed a w _ hr hy hG hI H
    refine ⟨fun h => absurd hr (by rw [h]; simp), fun j hj => ?_⟩
    rcases Decidable.em (j = i) with e | e
    · subst e
      exact hy.wpOp hi hG ⟨hGS w hG, H⟩
    · have h0 := ready_mono hj e
      rw [H.1] at h0
      simp at h0
  | succ fuel ih =>
    intro listed a w hfree hr hy hG hI H
    refine ⟨fun h => absurd hr (by rw [h]; simp), fun j hj => ?_⟩
    rcases Decidable.em (j = i) with e | e
    · subst e
      exact hy.wpOp hi hG ⟨hGS w hG, H⟩
    obtain ⟨hjun, oj, hoj, hall⟩ := mem_ready.1 hj
    have hno : ∀ q ∈ oj.after, Region.binds md q = true → q.on ≠ i := fun q hq hb heq => by
      have h1 := hall q hq hb
      have h2 := (mem_ready.1 hr).1
      rw [heq] at h1
      rcases Nat.lt_or_ge i listed.size with hlt | hge
      · simp [hlt] at h1 h2
        rw [h2] at h1
        cases h1
      · simp [Array.getElem?_eq_none hge] at h1
    have step := wpOp_putIf hoj (hfree j oj hoj e hjun hno) (fun cs b => hsel i oi cs b hi) (fun cs b => hsel j oj cs b hoj) hQ hy (H.2 j (ready_mono hj e))
    refine wpOp_mono (fun a' w' q => ⟨q.2.1, ih (listed.setIfInBounds j true) a' w' (fun k ok hk hki hun hnk => ?_) (ready_mono hr (Ne.symm e)) q.1 (hkeep listed j w' hI hr hj e q.2.1) (hstep listed j hI hr hj e) ?_⟩) step
    · refine hfree k ok hk hki ?_ hnk
      rcases Decidable.em (j = k) with e2 | e2
      · subst e2; exact hjun
      · rwa [getD_set_ne true e2] at hun
    · rw [Array.setIfInBounds_comm _ _ e]
      exact q.2.2
/-- All of D wait, one behind the other, for number i. -/
def waits_ (md : Region.Mode) (ops : Array Oper) (i : Nat) (D : List Nat) : Bool := D.all fun t => match ops[t]? with
  | some ot => ot.after.toList.any fun q => Region.binds md q && (q.on == i || D.contains q.on)
  | none => false
def unlisted_ (listed : Array Bool) (D : List Nat) : Bool := D.all fun t => listed.getD t true == false
theorem unlisted_at {listed : Array Bool} {D : List Nat} (h : unlisted_ listed D = true) {t : Nat} (ht : D.contains t = true) : listed.getD t true = false := by
  have := List.all_eq_true.1 h t (by simpa using ht)
  simpa using this
/-- Who waits for i cannot come up while i and all of them are open. -/
theorem not_waiting {i : Nat} {D : List Nat} {listed : Array Bool} (hw : waits_ md ops i D = true) (hu : unlisted_ listed D = true) (hr : i ∈ Region.ready md ops listed) {j : Nat} (hj : j ∈ Region.ready md ops listed) : D.contains j = false := by
  cases hc : D.contains j with
  | false => rfl
  | true =>
    exfalso
    obtain ⟨_, oj, hoj, hall⟩ := mem_ready.1 hj
    have h1 := List.all_eq_true.1 hw j (by simpa using hc)
    simp only [hoj, List.any_eq_true, Bool.and_eq_true, Bool.or_eq_true, beq_iff_eq] at h1
    obtain ⟨q, hq, hb, hon⟩ := h1
    have hl := hall q (by simpa using hq) hb
    have open_ : ∀ t, listed.getD t true = false → listed.getD t false = true → False := fun t a b => by
      rcases Nat.lt_or_ge t listed.size with hlt | hge
      · simp [hlt] at a b
        rw [a] at b
        cases b
      · simp [Array.getElem?_eq_none hge] at b
    rcases hon with e | e
    · rw [e] at hl
      exact open_ i (mem_ready.1 hr).1 hl
    · exact open_ q.on (unlisted_at hu e) hl
/-- A load, or whatever yields its value where S holds, is taken first: T are among those that wait for it. -/
theorem d_take {i : Nat} (D : List Nat) (dst : Option Nat) {oi : Oper} {v : Value} {fuel : Nat} {listed : Array Bool} {a : Act} {w : World} (hi : ops[i]? = some oi) (hdst : oi.dst = dst) (hns : Region.noSelect ops = true) (hf : Region.free md ops listed i = true) (hr : (Region.ready md ops listed).contains i = true)
    (hw : waits_ md ops i D = true) (hu : unlisted_ listed D = true) (hTD : (T.all fun t => D.contains t) = true)
    (hQ : ∀ c a w, Q (.panic c) (a.put oi.dst v) w → Q (.panic c) a w) (hy : YieldsIf P ops S oi v a) (hS : S w)
    (h : AnyD P md ops Q S T fuel (listed.setIfInBounds i true) (a.put dst v) w) : AnyD P md ops Q S T (fuel + 1) listed a w := by
  subst hdst
  exact d_first (Inv := fun l => unlisted_ l D = true) hi hns hQ
    (fun l j hl hr' hj hne => by
      have hd := not_waiting hw hl hr' hj
      refine List.all_eq_true.2 fun t ht => ?_
      have ht' : D.contains t = true := by simpa using ht
      have hne2 : j ≠ t := fun e => by rw [e, ht'] at hd; cases hd
      rw [getD_set_ne true hne2]
      simpa using unlisted_at hl ht')
    (fun w hG _ => hG)
    (fun l j w' hl hr' hj hne hq => hq (by
      have hd := not_waiting hw hl hr' hj
      cases hc : T.contains j with
      | false => rfl
      | true =>
        have := List.all_eq_true.1 hTD j (by simpa using hc)
        rw [hd] at this
        cases this))
    fuel listed a w (Region.free_spec hi hf) (by simpa using hr) hy hS hu h
/-- What yields its value in whatever world, among T, is taken first. -/
theorem d_pure {i : Nat} (dst : Option Nat) {oi : Oper} {v : Value} {fuel : Nat} {listed : Array Bool} {a : Act} {w : World} (hi : ops[i]? = some oi) (hdst : oi.dst = dst) (hns : Region.noSelect ops = true) (hf : Region.free md ops listed i = true) (hr : (Region.ready md ops listed).contains i = true) (hT : T.contains i = true)
    (hQ : ∀ c a w, Q (.panic c) (a.put oi.dst v) w → Q (.panic c) a w) (hy : YieldsIf P ops (fun _ => True) oi v a)
    (h : AnyD P md ops Q S T fuel (listed.setIfInBounds i true) (a.put dst v) w) : AnyD P md ops Q S T (fuel + 1) listed a w := by
  subst hdst
  exact d_first (Inv := fun _ => True) hi hns hQ (fun _ _ _ _ _ _ => trivial) (fun w _ hc => by rw [hT] at hc; cases hc) (fun _ _ _ _ _ _ _ _ => trivial) fuel listed a w (Region.free_spec hi hf) (by simpa using hr) hy trivial trivial h
/-- One alone may come up: it comes up. -/
theorem d_one {i : Nat} {oi : Oper} {fuel : Nat} {listed : Array Bool} {a : Act} {w : World} (hr : Region.ready md ops listed = [i]) (hi : ops[i]? = some oi) (hg : oi.guard = none)
    (h : ∀ K : Act → World → Prop, Hid (∀ a w, (T.contains i = false → S w) → AnyD P md ops Q S T fuel (listed.setIfInBounds i true) a w → K a w) → Oper.wp P oi a w K Q) : AnyD P md ops Q S T (fuel + 1) listed a w :=
  ⟨fun e => by rw [hr] at e; simp at e, fun j hj => by
    rw [hr] at hj
    obtain rfl := List.mem_singleton.1 hj
    exact wpOp_step hi (fun K hK => by
      rw [if_pos (by simp [Region.wanted, hg])]
      exact h K (Lib.hid fun a w h1 h2 => hK a w ⟨h1, h2⟩))⟩
theorem d_call {i : Nat} {oi : Oper} {fuel : Nat} {listed : Array Bool} {a : Act} {w : World} (hr : Region.ready md ops listed = [i]) (hi : ops[i]? = some oi) (hw : Region.wanted oi (yielded ops a.tmps) = true)
    (h : ∀ K : Act → World → Prop, Hid (∀ a w, (T.contains i = false → S w) → AnyD P md ops Q S T fuel (listed.setIfInBounds i true) a w → K a w) → Oper.wp P oi a w K Q) : AnyD P md ops Q S T (fuel + 1) listed a w :=
  ⟨fun e => by rw [hr] at e; simp at e, fun j hj => by
    rw [hr] at hj
    obtain rfl := List.mem_singleton.1 hj
    exact wpOp_step hi (fun K hK => by
      rw [if_pos hw]
      exact h K (Lib.hid fun a w h1 h2 => hK a w ⟨h1, h2⟩))⟩
theorem d_done {listed : Array Bool} {a : Act} {w : World} (hr : Region.ready md ops listed = []) (h : Q .normal a w) : ∀ fuel, AnyD P md ops Q S T fuel listed a w
  | 0 => ⟨hr, h⟩
  | _ + 1 => ⟨fun _ => h, by rw [hr]; simp⟩
/-- The beginning. -/
theorem d_region (S : World → Prop) (T : List Nat) {id : Nat} {a : Act} {w : World} (hm : P.follows .mixedOrders = true) (h : AnyD P .any ops Q S T ops.size (Array.replicate ops.size false) a w.drew) : (Code.region id ops true).wp P Q a w :=
  wp_region_any hm (any_of_d _ _ _ _ h)
/-- append, as it comes up. -/
theorem oper_app {w : World} {t e : TypeId} {size bytes : Nat} {z : Value} {o : Oper} {a : Act} {K : Act → World → Prop} (E : Elt P t e size bytes z) {base : Nat} {A : Option Addr} {n c : Nat} {xs : List Value}
    (hown : Own w base e size A n c xs) {B : Option Addr} {m d : Nat} {news : List Value} (hr : Rd w size B m news) (h1 : ∀ u ∈ news, u.oneCell' = true)
    (hm : n + m ≤ 9223372036854775807) (hfit : n + m ≤ c ∨ (n + m) * bytes ≤ 225000000000000 ∧ bytes ≤ 100000) (hbase : base ≤ w.heap.size)
    (s x : Operand) (ho : o.op = .call { callee := .builtin .append, args := #[s, x], argTypes := #[t, t] })
    (hs : a.eval s = .slice A n c) (hx : a.eval x = .slice B m d)
    (hk : ∀ A' c' w', Own w' base e size A' (n + m) c' (xs ++ news) → Grows w w' A → (A' = A ∨ A' = some ⟨w.heap.size, 0, none⟩) → (n + m ≤ c → A' = A ∧ c' = c) → K (a.put o.dst (.slice A' (n + m) c')) w') :
    Oper.wp P o a w K Q := by
  obtain ⟨A', c', w', hrun, h2, h3, h4, h5⟩ := run_app E o.type hown d hr h1 hm hfit hbase
  unfold Oper.wp execOp
  simp only [ho, resolve, invoke, builtin, Sem.run_bind, Sem.run_pure, Result.andThen_ok, List.map_toArray, List.map_cons, List.map_nil, hs, hx, hrun]
  exact hk A' c' w' h2 h3 h4 h5
end
end Go.Proofs.YteflnnlihblpgaaDoor
