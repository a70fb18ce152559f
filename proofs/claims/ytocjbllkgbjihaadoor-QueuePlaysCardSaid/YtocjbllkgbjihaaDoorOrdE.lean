/-
  A region that draws its order, as in Ord; what S says need hold only while none of T is listed: so operations that wait for nothing may be taken first too.
-/
import Derived.Test.YtocjbllkgbjihaaDoorOrd
namespace Go.Proofs.YtocjbllkgbjihaaDoor
set_option maxRecDepth 100000
open Go.RowKit
set_option linter.unusedVariables false
section
variable {P : Program} {ops : Array Oper} {Q : Exit → Act → World → Prop} {md : Region.Mode} {S : World → Prop} {T : List Nat}
/-- Whatever comes up; S holds while none of T is listed. -/
def AnyE (P : Program) (md : Region.Mode) (ops : Array Oper) (Q : Exit → Act → World → Prop) (S : World → Prop) (T : List Nat) : Nat → Array Bool → Act → World → Prop
  | 0, listed, a, w => Region.ready md ops listed = [] ∧ Q .normal a w
  | fuel + 1, listed, a, w => (Region.ready md ops listed = [] → Q .normal a w) ∧ ∀ j ∈ Region.ready md ops listed, wpOp P ops Q j (fun a' w' => (T.contains j = false → unlisted_ listed T = true → S w') ∧ AnyE P md ops Q S T fuel (listed.setIfInBounds j true) a' w') a w
theorem any_of_e : ∀ (fuel : Nat) (listed : Array Bool) (a : Act) (w : World), AnyE P md ops Q S T fuel listed a w → wpAny P md ops Q fuel listed a w
  | 0, _, _, _, h => h
  | _ + 1, _, _, _, h => ⟨h.1, fun j hj => wpOp_mono (fun a' w' q => any_of_e _ _ a' w' q.2) (h.2 j hj)⟩
theorem e_first {i : Nat} {oi : Oper} {v : Value} {Y : World → Prop} {G : Array Bool → World → Prop} {Inv : Array Bool → Prop} (hi : ops[i]? = some oi) (hns : Region.noSelect ops = true) (hQ : ∀ c a w, Q (.panic c) (a.put oi.dst v) w → Q (.panic c) a w)
    (hstep : ∀ listed j, Inv listed → i ∈ Region.ready md ops listed → j ∈ Region.ready md ops listed → j ≠ i → Inv (listed.setIfInBounds j true))
    (hGY : ∀ listed w, G listed w → Y w)
    (hGS : ∀ listed w, G listed w → T.contains i = false → unlisted_ listed T = true → S w)
    (hkeep : ∀ listed j w', Inv listed → i ∈ Region.ready md ops listed → j ∈ Region.ready md ops listed → j ≠ i → (T.contains j = false → unlisted_ listed T = true → S w') → G (listed.setIfInBounds j true) w')
    (hTn : T.contains i = false) :
    ∀ (fuel : Nat) (listed : Array Bool) (a : Act) (w : World),
      (∀ j oj, ops[j]? = some oj → j ≠ i → listed.getD j true = false → (∀ e ∈ oj.after, Region.binds md e = true → e.on ≠ i) → oi.apart ops oj = true) →
      i ∈ Region.ready md ops listed → YieldsIf P ops Y oi v a → G listed w → Inv listed →
      AnyE P md ops Q S T fuel (listed.setIfInBounds i true) (a.put oi.dst v) w → AnyE P md ops Q S T (fuel + 1) listed a w := by
  have hsel := fun j o cs b => Region.noSelect_spec hns j o cs b
  have un : ∀ listed : Array Bool, unlisted_ listed T = true → unlisted_ (listed.setIfInBounds i true) T = true := fun listed hu => by
    refine List.all_eq_true.2 fun t ht => ?_
    have hne : i ≠ t := fun e => by
      rw [e] at hTn
      rw [show T.contains t = true from by simpa using ht] at hTn
      cases hTn
    rw [getD_set_ne true hne]
    exact List.all_eq_true.1 hu t ht
  intro fuel
  induction fuel with
  | zero =>
    intro listed a w _ hr hy hG hI H
    refine ⟨fun h => absurd hr (by rw [h]; simp), fun j hj => ?_⟩
    rcases Decidable.em (j = i) with e | e
    · subst e
      exact hy.wpOp hi (hGY _ _ hG) ⟨hGS _ w hG, H⟩
    · have h0 := ready_mono hj e
      rw [H.1] at h0
      simp at h0
  | succ fuel ih =>
    intro listed a w hfree hr hy hG hI H
    refine ⟨fun h => absurd hr (by rw [h]; simp), fun j hj => ?_⟩
    rcases Decidable.em (j = i) with e | e
    · subst e
      exact hy.wpOp hi (hGY _ _ hG) ⟨hGS _ w hG, H⟩
    obtain ⟨hjun, oj, hoj, hall⟩ := mem_ready.1 hj
    have hno : ∀ q ∈ oj.after, Region.binds md q = true → q.on ≠ i := fun q hq hb heq => by
      have h1 := hall q hq hb
      have h2 := (mem_ready.1 hr).1
      rw [heq] at h1
      rcases Nat.lt_or_ge i listed.size with hlt | hge
      · simp [hlt] at h1 h2
        rw [h2] at h1
        cases h1
      · simp [Array.getElem?_eq_none hge] at h1
    have step := wpOp_putIf hoj (hfree j oj hoj e hjun hno) (fun cs b => hsel i oi cs b hi) (fun cs b => hsel j oj cs b hoj) hQ hy (H.2 j (ready_mono hj e))
    refine wpOp_mono (fun a' w' q => ⟨fun h1 h2 => q.2.1 h1 (un _ h2), ih (listed.setIfInBounds j true) a' w' (fun k ok hk hki hun hnk => ?_) (ready_mono hr (Ne.symm e)) q.1 (hkeep listed j w' hI hr hj e (fun h1 h2 => q.2.1 h1 (un _ h2))) (hstep listed j hI hr hj e) ?_⟩) step
    · refine hfree k ok hk hki ?_ hnk
      rcases Decidable.em (j = k) with e2 | e2
      · subst e2; exact hjun
      · rwa [getD_set_ne true e2] at hun
    · rw [Array.setIfInBounds_comm _ _ e]
      exact q.2.2
/-- A load is taken first: all of T wait for it. -/
theorem e_take {i : Nat} (D : List Nat) (dst : Option Nat) {oi : Oper} {v : Value} {fuel : Nat} {listed : Array Bool} {a : Act} {w : World} (hi : ops[i]? = some oi) (hdst : oi.dst = dst) (hns : Region.noSelect ops = true) (hf : Region.free md ops listed i = true) (hr : (Region.ready md ops listed).contains i = true)
    (hw : waits_ md ops i D = true) (hu : unlisted_ listed D = true) (hTD : (T.all fun t => D.contains t && !(t == i)) = true)
    (hQ : ∀ c a w, Q (.panic c) (a.put oi.dst v) w → Q (.panic c) a w) (hy : YieldsIf P ops S oi v a) (hS : S w)
    (h : AnyE P md ops Q S T fuel (listed.setIfInBounds i true) (a.put dst v) w) : AnyE P md ops Q S T (fuel + 1) listed a w := by
  subst hdst
  have hTn : T.contains i = false := by
    cases hc : T.contains i with
    | false => rfl
    | true =>
      have := List.all_eq_true.1 hTD i (by simpa using hc)
      simp at this
  exact e_first (G := fun _ w => S w) (Inv := fun l => unlisted_ l D = true) hi hns hQ
    (fun l j hl hr' hj hne => by
      have hd := not_waiting hw hl hr' hj
      refine List.all_eq_true.2 fun t ht => ?_
      have ht' : D.contains t = true := by simpa using ht
      have hne2 : j ≠ t := fun e => by rw [e, ht'] at hd; cases hd
      rw [getD_set_ne true hne2]
      simpa using unlisted_at hl ht')
    (fun _ _ h => h) (fun _ w hG _ _ => hG)
    (fun l j w' hl hr' hj hne hq => hq (by
      have hd := not_waiting hw hl hr' hj
      cases hc : T.contains j with
      | false => rfl
      | true =>
        have := List.all_eq_true.1 hTD j (by simpa using hc)
        rw [hd] at this
        simp at this) (List.all_eq_true.2 fun t ht => by
      have := List.all_eq_true.1 hTD t ht
      have hD : D.contains t = true := by
        cases hc : D.contains t with
        | true => rfl
        | false => rw [hc] at this; simp at this
      simpa using unlisted_at hl hD))
    hTn fuel listed a w (Region.free_spec hi hf) (by simpa using hr) hy hS hu h
/-- What yields its value in whatever world is taken first. -/
theorem e_pure {i : Nat} (dst : Option Nat) {oi : Oper} {v : Value} {fuel : Nat} {listed : Array Bool} {a : Act} {w : World} (hi : ops[i]? = some oi) (hdst : oi.dst = dst) (hns : Region.noSelect ops = true) (hf : Region.free md ops listed i = true) (hr : (Region.ready md ops listed).contains i = true) (hTn : T.contains i = false)
    (hQ : ∀ c a w, Q (.panic c) (a.put oi.dst v) w → Q (.panic c) a w) (hy : YieldsIf P ops (fun _ => True) oi v a) (hS : unlisted_ listed T = false ∨ S w)
    (h : AnyE P md ops Q S T fuel (listed.setIfInBounds i true) (a.put dst v) w) : AnyE P md ops Q S T (fuel + 1) listed a w := by
  subst hdst
  exact e_first (Y := fun _ => True) (G := fun l w => unlisted_ l T = true → S w) (Inv := fun _ => True) hi hns hQ (fun _ _ _ _ _ _ => trivial) (fun _ _ _ => trivial) (fun _ w hG _ hu => hG hu)
    (fun l j w' _ hr' hj hne hq hu => by
      have hjl := (mem_ready.1 hj).1
      have hTj : T.contains j = false := by
        cases hc : T.contains j with
        | false => rfl
        | true =>
          have h1 := unlisted_at hu hc
          have hlt : j < l.size := by
            rcases Nat.lt_or_ge j l.size with h2 | h2
            · exact h2
            · simp [h2] at hjl
          simp [hlt] at h1
      refine hq hTj (List.all_eq_true.2 fun t ht => ?_)
      have hne2 : j ≠ t := fun e => by
        rw [e] at hTj
        rw [show T.contains t = true from by simpa using ht] at hTj
        cases hTj
      have := List.all_eq_true.1 hu t ht
      rwa [getD_set_ne true hne2] at this)
    hTn fuel listed a w (Region.free_spec hi hf) (by simpa using hr) hy (fun hu => hS.elim (fun e => by rw [hu] at e; cases e) id) trivial h
theorem e_one {i : Nat} {oi : Oper} {fuel : Nat} {listed : Array Bool} {a : Act} {w : World} (hr : Region.ready md ops listed = [i]) (hi : ops[i]? = some oi) (hw : Region.wanted oi (yielded ops a.tmps) = true)
    (h : ∀ K : Act → World → Prop, Hid (∀ a w, (T.contains i = false → unlisted_ listed T = true → S w) → AnyE P md ops Q S T fuel (listed.setIfInBounds i true) a w → K a w) → Oper.wp P oi a w K Q) : AnyE P md ops Q S T (fuel + 1) listed a w :=
  ⟨fun e => by rw [hr] at e; simp at e, fun j hj => by
    rw [hr] at hj
    obtain rfl := List.mem_singleton.1 hj
    exact wpOp_step hi (fun K hK => by
      rw [if_pos hw]
      exact h K (Lib.hid fun a w h1 h2 => hK a w ⟨h1, h2⟩))⟩
theorem e_done {listed : Array Bool} {a : Act} {w : World} (hr : Region.ready md ops listed = []) (h : Q .normal a w) : ∀ fuel, AnyE P md ops Q S T fuel listed a w
  | 0 => ⟨hr, h⟩
  | _ + 1 => ⟨fun _ => h, by rw [hr]; simp⟩
theorem e_region (S : World → Prop) (T : List Nat) {id : Nat} {a : Act} {w : World} (hm : P.follows .mixedOrders = true) (h : AnyE P .any ops Q S T ops.size (Array.replicate ops.size false) a w.drew) : (Code.region id ops true).wp P Q a w :=
  wp_region_any hm (any_of_e _ _ _ _ h)
end
end Go.Proofs.YtocjbllkgbjihaaDoor
