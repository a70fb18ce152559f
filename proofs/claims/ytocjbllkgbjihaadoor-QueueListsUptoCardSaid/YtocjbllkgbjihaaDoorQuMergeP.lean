/-
  Package queue, in plain words: lists made one, by the least first number, the first list first.
-/
import Derived.Test.YtocjbllkgbjihaaDoorQuPerm
namespace Go.Proofs.YtocjbllkgbjihaaDoor
set_option linter.unusedVariables false
/-- The number that list i offers, where cs tells how many were taken of each. -/
def hd (ls : List (List Int)) (cs : List Nat) (i : Nat) : Option Int := (ls[i]?).bind fun l => l[cs.getD i 0]?
/-- List i offers v, and no other stands ahead. -/
def Fst (ls : List (List Int)) (cs : List Nat) (i : Nat) (v : Int) : Prop := hd ls cs i = some v ∧ ∀ j u, hd ls cs j = some u → v < u ∨ (v = u ∧ i ≤ j)
inductive MRun (ls : List (List Int)) : List Nat → List Int → Prop
  | nil : MRun ls (List.replicate ls.length 0) []
  | step {cs : List Nat} {out : List Int} {i : Nat} {v : Int} : MRun ls cs out → Fst ls cs i v → MRun ls (cs.set i (cs.getD i 0 + 1)) (out ++ [v])
section
variable {ls : List (List Int)} {cs : List Nat} {out : List Int} {i j : Nat} {u v : Int}
theorem Fst.uniq (h : Fst ls cs i v) (k : Fst ls cs j u) : i = j ∧ v = u := by
  have h1 := h.2 j u k.1
  have h2 := k.2 i v h.1
  have e : i = j := by omega
  exact ⟨e, by omega⟩
theorem hd_some (h : hd ls cs i = some v) : ∃ l, ls[i]? = some l ∧ l[cs.getD i 0]? = some v := by
  unfold hd at h
  exact Option.bind_eq_some_iff.1 h
theorem hd_of {l : List Int} (h : ls[i]? = some l) : hd ls cs i = l[cs.getD i 0]? := by simp [hd, h]
theorem hd_none (h : ls.length ≤ i) : hd ls cs i = none := by simp [hd, List.getElem?_eq_none h]
theorem getD_set_ne {cs : List Nat} {i j k : Nat} (h : i ≠ j) : (cs.set i k).getD j 0 = cs.getD j 0 := by simp [List.getD_eq_getElem?_getD, List.getElem?_set_ne h]
theorem getD_set_eq {cs : List Nat} {i k : Nat} (h : i < cs.length) : (cs.set i k).getD i 0 = k := by simp [List.getD_eq_getElem?_getD, List.getElem?_set_self h]
theorem hd_set_ne {k : Nat} (h : i ≠ j) : hd ls (cs.set i k) j = hd ls cs j := by simp only [hd, getD_set_ne h]
theorem MRun.len (h : MRun ls cs out) : cs.length = ls.length := by
  induction h with
  | nil => simp
  | step _ _ ih => rw [List.length_set]; exact ih
/-- No more is taken of a list than it has. -/
theorem MRun.le (h : MRun ls cs out) : ∀ i l, ls[i]? = some l → cs.getD i 0 ≤ l.length := by
  induction h with
  | nil => intro i l hl; have := (List.getElem?_eq_some_iff.1 hl).1; simp [List.getD_eq_getElem?_getD, this]
  | @step cs out i v h hf ih =>
    intro j l hl
    by_cases e : i = j
    · subst e
      obtain ⟨l', hl', hv⟩ := hd_some hf.1
      rw [hl] at hl'
      injection hl' with hl'
      subst hl'
      have := (List.getElem?_eq_some_iff.1 hv).1
      rw [getD_set_eq (by rw [h.len]; exact (List.getElem?_eq_some_iff.1 hl).1)]
      omega
    · rw [getD_set_ne e]; exact ih j l hl
theorem sum_set : ∀ (cs : List Nat) (i : Nat), i < cs.length → (cs.set i (cs.getD i 0 + 1)).sum = cs.sum + 1
  | [], i, h => absurd h (by simp)
  | c :: cs, 0, h => by simp; omega
  | c :: cs, i + 1, h => by
    have := sum_set cs i (by simpa using h)
    simp only [List.set_cons_succ, List.sum_cons, List.getD_cons_succ]
    omega
theorem MRun.sum (h : MRun ls cs out) : cs.sum = out.length := by
  induction h with
  | nil => simp
  | @step cs out i v h hf ih =>
    obtain ⟨l, hl, _⟩ := hd_some hf.1
    rw [sum_set _ _ (by rw [h.len]; exact (List.getElem?_eq_some_iff.1 hl).1), ih, List.length_append]
    rfl
theorem sum_le_sum : ∀ (cs ds : List Nat), cs.length = ds.length → (∀ i, cs.getD i 0 ≤ ds.getD i 0) → cs.sum ≤ ds.sum
  | [], [], _, _ => Nat.le_refl _
  | c :: cs, d :: ds, h, hl => by
    have h1 := hl 0
    have h2 := sum_le_sum cs ds (by simpa using h) (fun i => by have := hl (i + 1); simpa using this)
    simp only [List.sum_cons, List.getD_cons_zero] at *
    omega
  | [], _ :: _, h, _ => by simp at h
  | _ :: _, [], h, _ => by simp at h
theorem MRun.sum_le (h : MRun ls cs out) : out.length ≤ (ls.map List.length).sum := by
  rw [← h.sum]
  refine sum_le_sum _ _ (by rw [h.len, List.length_map]) (fun i => ?_)
  rcases Nat.lt_or_ge i ls.length with hi | hi
  · have hl : ls[i]? = some ls[i] := List.getElem?_eq_getElem hi
    have h2 := h.le i _ hl
    rw [List.getD_eq_getElem?_getD (l := ls.map List.length), List.getElem?_map, hl]
    exact h2
  · rw [List.getD_eq_getElem?_getD, List.getElem?_eq_none (by rw [h.len]; exact hi)]
    exact Nat.zero_le _
/-- Two runs of one length are one. -/
theorem MRun.det (h : MRun ls cs out) : ∀ {cs' out'}, MRun ls cs' out' → out.length = out'.length → cs = cs' ∧ out = out' := by
  induction h with
  | nil =>
    intro cs' out' k e
    cases k with
    | nil => exact ⟨rfl, rfl⟩
    | step _ _ => simp at e
  | step h hf ih =>
    intro cs' out' k e
    cases k with
    | nil => simp at e
    | step k kf =>
      obtain ⟨rfl, rfl⟩ := ih k (by simpa using e)
      obtain ⟨rfl, rfl⟩ := hf.uniq kf
      exact ⟨rfl, rfl⟩
theorem full_eq (h : MRun ls cs out) (hn : ∀ i, hd ls cs i = none) : cs = ls.map List.length := by
  apply List.ext_getElem?
  intro i
  rcases Nat.lt_or_ge i ls.length with hi | hi
  · have hl : ls[i]? = some ls[i] := List.getElem?_eq_getElem hi
    have h1 := hn i
    rw [hd_of hl, List.getElem?_eq_none_iff] at h1
    have h2 := h.le i _ hl
    have hc : cs[i]? = some (cs[i]'(by rw [h.len]; exact hi)) := List.getElem?_eq_getElem _
    have h3 : cs.getD i 0 = cs[i]'(by rw [h.len]; exact hi) := by simp [List.getD_eq_getElem?_getD, hc]
    rw [hc, List.getElem?_map, hl]
    show some _ = some _
    congr 1
    have h4 : ls[i].length = ls[i].length := rfl
    omega
  · rw [List.getElem?_eq_none (by rw [h.len]; exact hi), List.getElem?_eq_none (by simpa using hi)]
/-- Two runs to the end are one. -/
theorem full_det {cs' : List Nat} {out' : List Int} (h : MRun ls cs out) (hn : ∀ i, hd ls cs i = none) (k : MRun ls cs' out') (kn : ∀ i, hd ls cs' i = none) : out = out' := by
  have e1 := full_eq h hn
  have e2 := full_eq k kn
  exact (h.det k (by rw [← h.sum, ← k.sum, e1, e2])).2
theorem full_len (h : MRun ls cs out) (hn : ∀ i, hd ls cs i = none) : out.length = (ls.map List.length).sum := by rw [← h.sum, full_eq h hn]
end
/-- What the heap holds while it runs: of each list with something left its first number; cs tells what was taken, nx what was put in. -/
structure MH (ls : List (List Int)) (cs nx : List Nat) (L : List Th) (q : Nat → Bool) : Prop where
  mem : ∀ x, x ∈ L ↔ ∃ i : Nat, q i = true ∧ x.id = (i : Int) ∧ hd ls cs i = some x.rank
  nl : nx.length = ls.length
  nxt : ∀ i l, ls[i]? = some l → nx.getD i 0 = if q i = true then min (cs.getD i 0 + 1) l.length else cs.getD i 0
section
variable {ls : List (List Int)} {cs nx : List Nat} {L L' : List Th} {q : Nat → Bool}
/-- The first thing of the heap is the first of the lists. -/
theorem MH.fst (h : MH ls cs nx L q) (hq : ∀ i, q i = true) (hH : HeapN L L.length) (h0 : 0 < L.length) : ∃ i : Nat, (at_ L 0).id = (i : Int) ∧ Fst ls cs i (at_ L 0).rank := by
  obtain ⟨i, _, h1, h2⟩ := (h.mem _).1 (at_mem h0)
  refine ⟨i, h1, h2, fun j u hu => ?_⟩
  have hm := (h.mem ⟨(j : Int), u⟩).2 ⟨j, hq j, rfl, hu⟩
  have hl := heap_least hH _ hm
  rw [ah_false] at hl
  have e1 : (⟨(j : Int), u⟩ : Th).rank = u := rfl
  have e2 : (⟨(j : Int), u⟩ : Th).id = (j : Int) := rfl
  rw [e1, e2, h1] at hl
  omega
/-- The heap is empty: nothing is left. -/
theorem MH.empty (h : MH ls cs nx [] q) (hq : ∀ i, q i = true) : ∀ i, hd ls cs i = none := fun i => by
  cases hc : hd ls cs i with
  | none => rfl
  | some v =>
    have := (h.mem ⟨(i : Int), v⟩).2 ⟨i, hq i, rfl, hc⟩
    cases this
/-- A thing is taken: its list has none in the heap then. -/
theorem MH.pop (h : MH ls cs nx L q) (hI : Ids L) {x : Th} {i : Nat} {l : List Int} (hx : x.id = (i : Int)) (hv : hd ls cs i = some x.rank) (hqi : q i = true) (hl : ls[i]? = some l) (hil : i < cs.length) (hp : (x :: L').Perm L) :
    MH ls (cs.set i (cs.getD i 0 + 1)) nx L' (fun j => q j && !(j == i)) := by
  have hI2 := hI.perm hp.symm
  refine ⟨fun y => ?_, h.nl, fun j m hm => ?_⟩
  · have hm := hp.mem_iff (a := y)
    rw [List.mem_cons, h.mem y] at hm
    constructor
    · intro hy
      obtain ⟨j, h1, h2, h3⟩ := hm.1 (.inr hy)
      have hne : j ≠ i := fun e => hI2.ne y hy (by rw [h2, hx, e])
      exact ⟨j, by simp [h1, hne], h2, by rw [hd_set_ne (Ne.symm hne)]; exact h3⟩
    · rintro ⟨j, h1, h2, h3⟩
      simp only [Bool.and_eq_true, Bool.not_eq_true', beq_eq_false_iff_ne] at h1
      rw [hd_set_ne (Ne.symm h1.2)] at h3
      rcases hm.2 ⟨j, h1.1, h2, h3⟩ with e | e
      · exact absurd (by rw [e, hx] at h2; omega) h1.2
      · exact e
  · have h1 := h.nxt j m hm
    by_cases e : j = i
    · subst e
      have hlt : cs.getD j 0 < m.length := by
        obtain ⟨l', hl', hv'⟩ := hd_some hv
        rw [hm] at hl'
        injection hl' with hl'
        subst hl'
        exact (List.getElem?_eq_some_iff.1 hv').1
      rw [if_pos hqi] at h1
      rw [if_neg (by simp), getD_set_eq hil, h1]
      omega
    · rw [getD_set_ne (Ne.symm e), h1]
      simp [e]
/-- The next number of a list is put in. -/
theorem MH.put (h : MH ls cs nx L q) {i : Nat} {l : List Int} {v : Int} (hl : ls[i]? = some l) (hqi : q i = false) (hv : l[nx.getD i 0]? = some v) (hp : L'.Perm (⟨(i : Int), v⟩ :: L)) :
    MH ls cs (nx.set i (nx.getD i 0 + 1)) L' (fun j => q j || j == i) := by
  have hil : i < nx.length := by rw [h.nl]; exact (List.getElem?_eq_some_iff.1 hl).1
  have hn := h.nxt i l hl
  rw [if_neg (by rw [hqi]; decide)] at hn
  have hlt := (List.getElem?_eq_some_iff.1 hv).1
  refine ⟨fun y => ?_, by rw [List.length_set]; exact h.nl, fun j m hm => ?_⟩
  · rw [hp.mem_iff, List.mem_cons, h.mem y]
    constructor
    · rintro (rfl | ⟨j, h1, h2, h3⟩)
      · exact ⟨i, by simp, rfl, by rw [hd_of hl, ← hn]; exact hv⟩
      · exact ⟨j, by simp [h1], h2, h3⟩
    · rintro ⟨j, h1, h2, h3⟩
      simp only [Bool.or_eq_true, beq_iff_eq] at h1
      rcases h1 with h1 | rfl
      · exact .inr ⟨j, h1, h2, h3⟩
      · rw [hd_of hl, ← hn, hv] at h3
        injection h3 with h3
        exact .inl (th_eq ⟨h2, h3.symm⟩)
  · by_cases e : j = i
    · subst e
      rw [hl] at hm
      injection hm with hm
      subst hm
      rw [getD_set_eq hil, if_pos (by simp)]
      omega
    · rw [getD_set_ne (Ne.symm e), h.nxt j m hm]
      simp [e]
/-- Nothing is left of a list. -/
theorem MH.skip (h : MH ls cs nx L q) {i : Nat} {l : List Int} (hl : ls[i]? = some l) (hqi : q i = false) (hle : cs.getD i 0 ≤ l.length) (hn : l.length ≤ nx.getD i 0) : MH ls cs nx L (fun j => q j || j == i) := by
  have h1 := h.nxt i l hl
  rw [if_neg (by rw [hqi]; decide)] at h1
  refine ⟨fun y => ?_, h.nl, fun j m hm => ?_⟩
  · rw [h.mem y]
    constructor
    · rintro ⟨j, h2, h3, h4⟩
      exact ⟨j, by simp [h2], h3, h4⟩
    · rintro ⟨j, h2, h3, h4⟩
      simp only [Bool.or_eq_true, beq_iff_eq] at h2
      rcases h2 with h2 | rfl
      · exact ⟨j, h2, h3, h4⟩
      · rw [hd_of hl, List.getElem?_eq_none (by omega)] at h4
        cases h4
  · by_cases e : j = i
    · subst e
      rw [hl] at hm
      injection hm with hm
      subst hm
      rw [if_pos (by simp)]
      omega
    · rw [h.nxt j m hm]
      simp [e]
theorem MH.new {i : Nat} (h : MH ls cs nx L q) (hqi : q i = false) : ∀ y ∈ L, y.id ≠ (i : Int) := fun y hy e => by
  obtain ⟨j, h1, h2, _⟩ := (h.mem y).1 hy
  have : j = i := by omega
  subst this
  rw [hqi] at h1
  cases h1
theorem MH.congr {p : Nat → Bool} (h : MH ls cs nx L q) (e : ∀ i, i < ls.length → q i = p i) : MH ls cs nx L p := by
  refine ⟨fun y => ?_, h.nl, fun j m hm => ?_⟩
  · rw [h.mem y]
    constructor
    · rintro ⟨j, h1, h2, h3⟩
      obtain ⟨l, hl, _⟩ := hd_some h3
      exact ⟨j, by rw [← e j (List.getElem?_eq_some_iff.1 hl).1]; exact h1, h2, h3⟩
    · rintro ⟨j, h1, h2, h3⟩
      obtain ⟨l, hl, _⟩ := hd_some h3
      exact ⟨j, by rw [e j (List.getElem?_eq_some_iff.1 hl).1]; exact h1, h2, h3⟩
  · rw [h.nxt j m hm, e j (List.getElem?_eq_some_iff.1 hm).1]
theorem MH.start (ls : List (List Int)) : MH ls (List.replicate ls.length 0) (List.replicate ls.length 0) [] (fun _ => false) :=
  ⟨fun y => ⟨fun h => (by cases h), fun h => (by obtain ⟨_, h, _⟩ := h; cases h)⟩, by simp, fun i l hl => by simp⟩
end
end Go.Proofs.YtocjbllkgbjihaaDoor
