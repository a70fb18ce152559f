/-
  All frames of a stream, in plain words.
-/
import Derived.Test.YtbinimejjenmlaaDoorCrcRc
namespace Go.Proofs.YtbinimejjenmlaaDoor
open Go.RowKit
set_option linter.unusedVariables false
def spl (l : List Nat) : List (List Nat) × RC :=
  match h : rc l with
  | .ok p => (p :: (spl (l.drop (p.length + 8))).1, (spl (l.drop (p.length + 8))).2)
  | .stop => ([], .stop)
  | .large => ([], .large)
  | .bad => ([], .bad)
termination_by l.length
decreasing_by all_goals (have := rc_ok h; simp only [List.length_drop]; omega)
theorem spl_ok {l p : List Nat} (h : rc l = .ok p) : spl l = (p :: (spl (l.drop (p.length + 8))).1, (spl (l.drop (p.length + 8))).2) := by
  rw [spl]
  split <;> rename_i h2 <;> rw [h] at h2 <;> cases h2
  rfl
theorem spl_end {l : List Nat} (h : ∀ p, rc l ≠ .ok p) : spl l = ([], rc l) := by
  rw [spl]
  split <;> rename_i h2
  · exact absurd h2 (h _)
  all_goals rw [h2]
def tot : List (List Nat) → Nat
  | [] => 0
  | p :: ps => p.length + 8 + tot ps
theorem tot_append (ps qs : List (List Nat)) : tot (ps ++ qs) = tot ps + tot qs := by
  induction ps with
  | nil => simp [tot]
  | cons p ps ih => simp only [List.cons_append, tot, ih]; omega
theorem tot_len (ps : List (List Nat)) : 8 * ps.length ≤ tot ps := by
  induction ps with
  | nil => simp [tot]
  | cons p ps ih => simp only [tot, List.length_cons]; omega
/-- What a Split answers. -/
def splP (l : List Nat) : List (List Nat) := match (spl l).2 with
  | .stop => (spl l).1
  | _ => []
def splN (l : List Nat) : Nat := match (spl l).2 with
  | .stop => tot (spl l).1
  | _ => 0
def splE (l : List Nat) : Nat := (spl l).2.e
theorem spl_no {l : List Nat} (p : List Nat) : (spl l).2 ≠ .ok p := by
  generalize hn : l.length = n
  induction n using Nat.strongRecOn generalizing l with
  | _ n ih =>
    by_cases h : ∃ q, rc l = .ok q
    · obtain ⟨q, h⟩ := h
      rw [spl_ok h]
      have := rc_ok h
      exact ih _ (by rw [← hn, List.length_drop]; omega) rfl
    · rw [spl_end (fun q hq => h ⟨q, hq⟩)]
      exact fun hq => h ⟨p, hq⟩
theorem spl_tot (l : List Nat) : tot (spl l).1 ≤ l.length := by
  generalize hn : l.length = n
  induction n using Nat.strongRecOn generalizing l with
  | _ n ih =>
    by_cases h : ∃ q, rc l = .ok q
    · obtain ⟨q, h⟩ := h
      rw [spl_ok h]
      have := rc_ok h
      have h2 := ih (l.length - (q.length + 8)) (by omega) (l.drop (q.length + 8)) (by rw [List.length_drop])
      simp only [tot]
      omega
    · rw [spl_end (fun q hq => h ⟨q, hq⟩)]
      exact Nat.zero_le _
theorem splP_len (l : List Nat) : 8 * (splP l).length ≤ l.length := by
  have h1 := spl_tot l
  have h2 := tot_len (spl l).1
  unfold splP
  split
  · omega
  · simp
/-- A place of a Split: the payloads so far. -/
def SplAt (l : List Nat) (at_ : Nat) (ps : List (List Nat)) : Prop := at_ = tot ps ∧ at_ ≤ l.length ∧ spl l = (ps ++ (spl (l.drop at_)).1, (spl (l.drop at_)).2)
theorem SplAt.start (l : List Nat) : SplAt l 0 [] := ⟨rfl, Nat.zero_le _, rfl⟩
theorem SplAt.next {l p : List Nat} {a : Nat} {ps : List (List Nat)} (h : SplAt l a ps) (hp : rc (l.drop a) = .ok p) : SplAt l (a + (p.length + 8)) (ps ++ [p]) := by
  obtain ⟨h1, h2, h3⟩ := h
  have h4 := rc_ok hp
  rw [List.length_drop] at h4
  refine ⟨by rw [tot_append, h1]; simp [tot], by omega, ?_⟩
  rw [h3, spl_ok hp, List.drop_drop, List.append_assoc]
  rfl
theorem SplAt.stop {l : List Nat} {a : Nat} {ps : List (List Nat)} (h : SplAt l a ps) (hp : rc (l.drop a) = .stop) : splP l = ps ∧ splN l = a ∧ splE l = 0 := by
  obtain ⟨h1, h2, h3⟩ := h
  rw [spl_end (l := l.drop a) (by rw [hp]; intro p e; cases e), hp] at h3
  unfold splP splN splE
  rw [h3]
  exact ⟨by simp, by simp [h1], rfl⟩
theorem SplAt.large {l : List Nat} {a : Nat} {ps : List (List Nat)} (h : SplAt l a ps) (hp : rc (l.drop a) = .large) : splP l = [] ∧ splN l = 0 ∧ splE l = 8 := by
  obtain ⟨h1, h2, h3⟩ := h
  rw [spl_end (l := l.drop a) (by rw [hp]; intro p e; cases e), hp] at h3
  unfold splP splN splE
  rw [h3]
  exact ⟨rfl, rfl, rfl⟩
theorem SplAt.bad {l : List Nat} {a : Nat} {ps : List (List Nat)} (h : SplAt l a ps) (hp : rc (l.drop a) = .bad) : splP l = [] ∧ splN l = 0 ∧ splE l = 4 := by
  obtain ⟨h1, h2, h3⟩ := h
  rw [spl_end (l := l.drop a) (by rw [hp]; intro p e; cases e), hp] at h3
  unfold splP splN splE
  rw [h3]
  exact ⟨rfl, rfl, rfl⟩
/-- Frames one behind the other. -/
def frms : List (List Nat) → List Nat
  | [] => []
  | p :: ps => frm p ++ frms ps
theorem frms_append (ps qs : List (List Nat)) : frms (ps ++ qs) = frms ps ++ frms qs := by
  induction ps with
  | nil => rfl
  | cons p ps ih => simp only [List.cons_append, frms, ih, List.append_assoc]
theorem frms_len (ps : List (List Nat)) : (frms ps).length = tot ps := by
  induction ps with
  | nil => rfl
  | cons p ps ih => simp only [frms, List.length_append, frm_len, ih, tot]
/-- A payload that fits. -/
def Good (p : List Nat) : Prop := p.length ≤ 32768 ∧ ∀ x ∈ p, x < 256
theorem rc_frm {p lb : List Nat} (hp : Good p) (hb : ∀ x ∈ lb, x < 256) : rc (frm p ++ lb) = .ok p := by
  have hn := hp.1
  obtain ⟨a, b, c, d, l', e0, e1, e2, e3, f1, f2, f3, f4, f5, f6⟩ := frm_read hp.2 hb hp.1
  have hl := congrArg List.length f1
  simp only [List.length_append, frm_len, List.length_cons] at hl
  rw [f1] at f3 f4
  rw [f1, rc_cons, f2, if_neg (by omega), if_neg (by omega), f3, f4, f5]
  exact if_pos rfl
theorem rc_part {p lb X Y : List Nat} (hp : Good p) (hb : ∀ x ∈ lb, x < 256) (h : X ++ Y = frm p ++ lb) (hx : X.length < (frm p).length) : rc X = .stop := by
  by_cases h4 : X.length < 4
  · exact rc_short h4
  · have hn := hp.1
    obtain ⟨a, b, c, d, r, rfl⟩ := four_of (l := X) (by omega)
    obtain ⟨a', b', c', d', l', e0, e1, e2, e3, f1, f2, f3, f4, f5, f6⟩ := frm_read hp.2 hb hp.1
    rw [f1] at h
    simp only [List.cons_append, List.cons.injEq] at h
    obtain ⟨rfl, rfl, rfl, rfl, h⟩ := h
    rw [frm_len] at hx
    simp only [List.length_cons] at hx
    rw [rc_cons, f2, if_neg (by omega), if_pos (by omega)]
/-- What a Split finds in a beginning of frames. -/
theorem spl_part : ∀ (rest : List (List Nat)) (X Y : List Nat), (∀ p ∈ rest, Good p) → X ++ Y = frms rest →
    ∃ p1 p2, rest = p1 ++ p2 ∧ spl X = (p1, .stop) ∧ tot p1 ≤ X.length ∧ X.drop (tot p1) ++ Y = frms p2 ∧ (Y = [] → p2 = []) := by
  have wbg : ∀ p : List Nat, Good p → ∀ x ∈ frm p, x < 256 := fun p hp => by
    obtain ⟨a, b, c, d, l', e0, e1, e2, e3, f1, f2, f3, f4, f5, f6⟩ := frm_read (lb := []) hp.2 (by simp) hp.1
    intro x hx
    exact f6 x (by simpa using hx)
  have wbs : ∀ ps : List (List Nat), (∀ p ∈ ps, Good p) → ∀ x ∈ frms ps, x < 256 := by
    intro ps
    induction ps with
    | nil => intro _ x hx; simp [frms] at hx
    | cons p ps ih =>
      intro h x hx
      rcases List.mem_append.1 hx with h1 | h1
      · exact wbg p (h p (by simp)) x h1
      · exact ih (fun q hq => h q (by simp [hq])) x h1
  intro rest
  induction rest with
  | nil =>
    intro X Y _ h
    simp only [frms, List.append_eq_nil_iff] at h
    obtain ⟨rfl, rfl⟩ := h
    refine ⟨[], [], rfl, ?_, Nat.le_refl _, rfl, fun _ => rfl⟩
    rw [spl_end (by rw [rc_short (by simp)]; intro p e; cases e), rc_short (by simp)]
  | cons p rest ih =>
    intro X Y hg h
    have hp := hg p (by simp)
    have hr : ∀ q ∈ rest, Good q := fun q hq => hg q (by simp [hq])
    have hb := wbs rest hr
    by_cases hx : X.length < (frm p).length
    · have hs := rc_part hp hb h hx
      refine ⟨[], p :: rest, rfl, ?_, Nat.zero_le _, h, fun hy => ?_⟩
      · rw [spl_end (by rw [hs]; intro p e; cases e), hs]
      · subst hy
        have := congrArg List.length h
        simp only [List.append_nil, frms, List.length_append] at this
        omega
    · obtain ⟨X', rfl⟩ : ∃ X', X = frm p ++ X' := by
        refine ⟨X.drop (frm p).length, ?_⟩
        have h1 := congrArg (List.take (frm p).length) h
        rw [List.take_append_of_le_length (by omega)] at h1
        simp only [frms, List.take_left'] at h1
        conv => lhs; rw [← List.take_append_drop (frm p).length X]
        rw [h1]
      simp only [frms, List.append_assoc, List.append_cancel_left_eq] at h
      obtain ⟨p1, p2, e1, e2, e3, e4, e5⟩ := ih X' Y hr h
      have hX : ∀ x ∈ X', x < 256 := fun x hx => hb x (by rw [← h]; exact List.mem_append_left _ hx)
      have hd : (frm p ++ X').drop (p.length + 8) = X' := by rw [← frm_len]; exact List.drop_left' rfl
      refine ⟨p :: p1, p2, by rw [e1]; rfl, ?_, ?_, ?_, e5⟩
      · rw [spl_ok (rc_frm hp hX), hd, e2]
      · simp only [tot, List.length_append, frm_len]; omega
      · simp only [tot]
        rw [← List.drop_drop, hd]
        exact e4
end Go.Proofs.YtbinimejjenmlaaDoor
