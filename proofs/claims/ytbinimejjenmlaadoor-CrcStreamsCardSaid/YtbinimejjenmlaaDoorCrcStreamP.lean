/-
  The statement CrcStreams in plain words: one round of the cutting.
-/
import Derived.Test.YtbinimejjenmlaaDoorCrcSpl
namespace Go.Proofs.YtbinimejjenmlaaDoor
open Go.RowKit
set_option linter.unusedVariables false
theorem tot_good {gs : List (List Nat)} (h : ∀ p ∈ gs, Good p) : tot gs ≤ 32776 * gs.length := by
  induction gs with
  | nil => simp [tot]
  | cons p ps ih =>
    have h1 := (h p (by simp)).1
    have h2 := ih fun q hq => h q (by simp [hq])
    simp only [tot, List.length_cons]
    omega
theorem frms_bytes : ∀ {ps : List (List Nat)}, (∀ p ∈ ps, Good p) → ∀ x ∈ frms ps, x < 256 := by
  intro ps
  induction ps with
  | nil => intro _ x hx; simp [frms] at hx
  | cons p ps ih =>
    intro h x hx
    rcases List.mem_append.1 hx with h1 | h1
    · obtain ⟨a, b, c, d, l', e0, e1, e2, e3, f1, f2, f3, f4, f5, f6⟩ := frm_read (lb := []) (h p (by simp)).2 (by simp) (h p (by simp)).1
      exact f6 x (by simpa using h1)
    · exact ih (fun q hq => h q (by simp [hq])) x h1
/-- The state of the cutting: got so far, waiting bytes, the place. -/
structure St (gs got : List (List Nat)) (X : List Nat) (at_ : Nat) (rest : List (List Nat)) : Prop where
  split : gs = got ++ rest
  frames : frms rest = X ++ (frms gs).drop at_
  le : at_ ≤ tot gs
theorem St.start (gs : List (List Nat)) : St gs [] [] 0 gs := ⟨rfl, rfl, Nat.zero_le _⟩
theorem St.len {gs got rest : List (List Nat)} {X : List Nat} {a : Nat} (h : St gs got X a rest) : X.length ≤ tot gs ∧ got.length ≤ gs.length := by
  have h1 := congrArg List.length h.frames
  have h2 := congrArg List.length h.split
  have h3 := congrArg tot h.split
  rw [tot_append] at h3
  simp only [List.length_append, frms_len, List.length_drop] at h1 h2
  omega
theorem St.step {gs got rest : List (List Nat)} {X : List Nat} {a : Nat} (h : St gs got X a rest) (hg : ∀ p ∈ gs, Good p) (k : Nat) (hk : a + k ≤ tot gs) :
    ∃ p1 rest2, spl (X ++ ((frms gs).drop a).take k) = (p1, .stop) ∧ tot p1 ≤ (X ++ ((frms gs).drop a).take k).length ∧ (X ++ ((frms gs).drop a).take k).length ≤ tot gs ∧ (∀ x ∈ X ++ ((frms gs).drop a).take k, x < 256) ∧
      St gs (got ++ p1) ((X ++ ((frms gs).drop a).take k).drop (tot p1)) (a + k) rest2 ∧ (a + k = tot gs → rest2 = [] ∧ (X ++ ((frms gs).drop a).take k).drop (tot p1) = []) := by
  have hr : ∀ p ∈ rest, Good p := fun p hp => hg p (by rw [h.split]; exact List.mem_append_right _ hp)
  have hX : (X ++ ((frms gs).drop a).take k) ++ (frms gs).drop (a + k) = frms rest := by
    rw [h.frames, List.append_assoc, ← List.drop_drop, List.take_append_drop]
  obtain ⟨Z, hZ⟩ : ∃ Z, X ++ ((frms gs).drop a).take k = Z := ⟨_, rfl⟩
  rw [hZ] at hX ⊢
  obtain ⟨p1, p2, e1, e2, e3, e4, e5⟩ := spl_part rest Z _ hr hX
  have hl := congrArg List.length hX
  have h3 := congrArg tot h.split
  rw [tot_append] at h3
  simp only [List.length_append, frms_len, List.length_drop] at hl
  refine ⟨p1, p2, e2, e3, by omega, fun x hx => frms_bytes hr x (by rw [← hX]; exact List.mem_append_left _ hx), ⟨by rw [h.split, e1, List.append_assoc], e4.symm, hk⟩, fun he => ?_⟩
  have hn : (frms gs).drop (a + k) = [] := List.drop_eq_nil_of_le (by rw [frms_len]; omega)
  have hp2 := e5 hn
  subst hp2
  rw [hn, List.append_nil] at e4
  exact ⟨rfl, e4⟩
theorem splP_stop {l : List Nat} {ps : List (List Nat)} (h : spl l = (ps, .stop)) : splP l = ps ∧ splN l = tot ps ∧ splE l = 0 := by
  unfold splP splN splE
  rw [h]
  exact ⟨rfl, rfl, rfl⟩
end Go.Proofs.YtbinimejjenmlaaDoor
