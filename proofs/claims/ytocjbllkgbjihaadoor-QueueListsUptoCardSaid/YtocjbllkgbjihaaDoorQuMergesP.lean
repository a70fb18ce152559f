/-
  QueueMerges, in plain words: lists that don't fall make one that doesn't, with all their numbers.
-/
import Derived.Test.YtocjbllkgbjihaaDoorQuMergeP
namespace Go.Proofs.YtocjbllkgbjihaaDoor
set_option linter.unusedVariables false
/-- A list without the numbers that fall. -/
def moStep (acc : List Int) (x : Int) : List Int := if acc = [] ∨ acc.getLastD 0 ≤ x then acc ++ [x] else acc
def mo (l : List Int) : List Int := l.foldl moStep []
theorem mo_snoc (l : List Int) (x : Int) : mo (l ++ [x]) = moStep (mo l) x := by simp [mo, List.foldl_append]
theorem le_sum_mem : ∀ {l : List Nat} {x : Nat}, x ∈ l → x ≤ l.sum
  | y :: l, x, h => by
    rcases List.mem_cons.1 h with rfl | h
    · simp
    · have := le_sum_mem h; simp only [List.sum_cons]; omega
/-- No number is less than the one ahead. -/
def Up (l : List Int) : Prop := ∀ k x y, l[k]? = some x → l[k + 1]? = some y → x ≤ y
theorem up_snoc {l : List Int} {v : Int} (h : Up l) (hv : ∀ x, l.getLast? = some x → x ≤ v) : Up (l ++ [v]) := fun k x y hx hy => by
  have hk := (List.getElem?_eq_some_iff.1 hy).1
  simp at hk
  rcases Nat.lt_or_ge (k + 1) l.length with h1 | h1
  · rw [List.getElem?_append_left (by omega)] at hx
    rw [List.getElem?_append_left h1] at hy
    exact h k x y hx hy
  · have e : k + 1 = l.length := by omega
    rw [List.getElem?_append_left (by omega)] at hx
    rw [List.getElem?_append_right (by omega), e, Nat.sub_self] at hy
    simp at hy
    subst hy
    refine hv x ?_
    rw [List.getLast?_eq_getElem?, show l.length - 1 = k by omega]
    exact hx
theorem moStep_up {acc : List Int} (h : Up acc) (x : Int) : Up (moStep acc x) := by
  unfold moStep
  split
  · rename_i hc
    refine up_snoc h (fun y hy => ?_)
    rcases hc with e | e
    · subst e; simp at hy
    · rw [List.getLastD_eq_getLast?, hy] at e; exact e
  · exact h
theorem mo_up : ∀ (l acc : List Int), Up acc → Up (l.foldl moStep acc)
  | [], acc, h => h
  | x :: l, acc, h => mo_up l _ (moStep_up h x)
theorem moStep_len (acc : List Int) (x : Int) : (moStep acc x).length ≤ acc.length + 1 := by
  unfold moStep
  split <;> simp
theorem mo_len : ∀ (l acc : List Int), (l.foldl moStep acc).length ≤ acc.length + l.length
  | [], acc => by simp
  | x :: l, acc => by
    have h1 := mo_len l (moStep acc x)
    have h2 := moStep_len acc x
    simp only [List.foldl_cons, List.length_cons]
    omega
theorem sum_mo : ∀ (L : List (List Int)) (k : Nat), ((((L.take k).map mo).map List.length).sum : Nat) ≤ (L.map List.length).sum
  | [], k => by simp
  | l :: L, 0 => by simp
  | l :: L, k + 1 => by
    have h1 := sum_mo L k
    have h2 := mo_len l []
    have h3 : (mo l).length ≤ 0 + l.length := h2
    simp only [List.take_succ_cons, List.map_cons, List.sum_cons]
    omega
theorem up_nil : Up [] := fun k x y h _ => by simp at h
section
variable {ls : List (List Int)} {cs : List Nat} {out : List Int}
/-- What comes out does not fall. -/
theorem MRun.up (h : MRun ls cs out) (hu : ∀ l ∈ ls, Up l) : Up out ∧ ∀ x, out.getLast? = some x → ∀ j u, hd ls cs j = some u → x ≤ u := by
  induction h with
  | nil => exact ⟨up_nil, fun x hx => by simp at hx⟩
  | @step cs out i v h hf ih =>
    obtain ⟨h1, h2⟩ := ih
    refine ⟨up_snoc h1 (fun x hx => h2 x hx i v hf.1), fun x hx j u hj => ?_⟩
    rw [List.getLast?_append, List.getLast?_singleton] at hx
    simp at hx
    subst hx
    by_cases e : i = j
    · subst e
      obtain ⟨l, hl, hlv⟩ := hd_some hf.1
      rw [hd_of hl, getD_set_eq (by rw [h.len]; exact (List.getElem?_eq_some_iff.1 hl).1)] at hj
      exact hu l (List.mem_of_getElem? hl) _ _ _ hlv hj
    · rw [hd_set_ne e] at hj
      have := hf.2 j u hj
      omega
end
/-- Looking for a list's numbers, one behind the other. -/
def gstep (l : List Int) (a : Nat) (x : Int) : Nat := if l[a]? = some x then a + 1 else a
theorem gstep_le (l : List Int) {a : Nat} (x : Int) (h : a ≤ l.length) : gstep l a x ≤ l.length := by
  unfold gstep
  split
  · rename_i e; have := (List.getElem?_eq_some_iff.1 e).1; omega
  · exact h
theorem greedy {ls : List (List Int)} {cs : List Nat} {out : List Int} (h : MRun ls cs out) : ∀ i l, ls[i]? = some l → cs.getD i 0 ≤ out.foldl (gstep l) 0 := by
  induction h with
  | nil => intro i l hl; have := (List.getElem?_eq_some_iff.1 hl).1; simp [List.getD_eq_getElem?_getD, this]
  | @step cs out i v h hf ih =>
    intro j l hl
    have h1 := ih j l hl
    rw [List.foldl_append]
    show _ ≤ gstep l (out.foldl (gstep l) 0) v
    generalize out.foldl (gstep l) 0 = a at *
    by_cases e : i = j
    · subst e
      obtain ⟨l', hl', hv⟩ := hd_some hf.1
      have hl2 : l' = l := by rw [hl] at hl'; injection hl' with hl'; exact hl'.symm
      rw [hl2] at hv
      rw [getD_set_eq (by rw [h.len]; exact (List.getElem?_eq_some_iff.1 hl).1)]
      unfold gstep
      by_cases e2 : cs.getD i 0 = a
      · rw [if_pos (by rw [← e2]; exact hv)]; omega
      · split <;> omega
    · rw [getD_set_ne e]
      unfold gstep
      split <;> omega
theorem greedy_full {ls : List (List Int)} {cs : List Nat} {out : List Int} (h : MRun ls cs out) (hn : ∀ i, hd ls cs i = none) {i : Nat} {l : List Int} (hl : ls[i]? = some l) : l.length ≤ out.foldl (gstep l) 0 := by
  have h1 := greedy h i l hl
  have h2 := hn i
  rw [hd_of hl, List.getElem?_eq_none_iff] at h2
  omega
end Go.Proofs.YtocjbllkgbjihaaDoor
