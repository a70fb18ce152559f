/-
  Package guest, in plain words: at most one job holds on; the jobs of one task end in the order of their release.
-/
import Derived.Test.YtbpbmelfhgbogaaDoorGsPlain
namespace Go.Proofs.YtbpbmelfhgbogaaDoor
set_option linter.unusedVariables false
section
variable {p : Int} {ts : List TaskV} {js : List JobV}
theorem at_erase {i m : Nat} {x : JobV} (h : (js.eraseIdx i)[m]? = some x) : (m < i ∧ js[m]? = some x) ∨ (i ≤ m ∧ js[m + 1]? = some x) := by
  rw [List.getElem?_eraseIdx] at h
  split at h
  · exact .inl ⟨by assumption, h⟩
  · exact .inr ⟨by omega, h⟩
theorem at_set {i m : Nat} {x y : JobV} (h : (js.set i y)[m]? = some x) : (m = i ∧ i < js.length ∧ x = y) ∨ (m ≠ i ∧ js[m]? = some x) := by
  rw [List.getElem?_set] at h
  split at h
  · split at h
    · injection h with h; exact .inl ⟨by omega, by assumption, h.symm⟩
    · cases h
  · exact .inr ⟨by omega, h⟩
theorem at_push {m : Nat} {x y : JobV} (h : (js ++ [y])[m]? = some x) : js[m]? = some x ∨ (m = js.length ∧ x = y) := by
  rcases Nat.lt_or_ge m js.length with hm | hm
  · rw [List.getElem?_append_left hm] at h; exact .inl h
  · rw [List.getElem?_append_right hm] at h
    obtain ⟨j, hj⟩ : ∃ j, m - js.length = j := ⟨_, rfl⟩
    rw [hj] at h
    cases j with
    | zero => simp at h; exact .inr ⟨by omega, h.symm⟩
    | succ j => simp at h
/-- At most one job holds on. -/
def OneHeld (ts : List TaskV) (js : List JobV) : Prop := ∀ (i k : Nat) (x y : JobV), js[i]? = some x → js[k]? = some y → hldB ts x = true → hldB ts y = true → i = k
theorem OneHeld.nil_ : OneHeld ts [] := fun i k x y h => by simp at h
theorem OneHeld.push (h : OneHeld ts js) {x : JobV} (hx : x.N = 0) : OneHeld ts (js ++ [x]) := fun i k y z hy hz h1 h2 => by
  have hf : hldB ts x = false := by simp [hldB, hx]
  rcases at_push hy with hy | ⟨_, rfl⟩
  · rcases at_push hz with hz | ⟨_, rfl⟩
    · exact h i k y z hy hz h1 h2
    · rw [hf] at h2; cases h2
  · rw [hf] at h1; cases h1
theorem OneHeld.next (h : OneHeld ts js) {i : Nat} {x : JobV} (hx : js[i]? = some x) (hh : hldB ts x = true) : nextI p ts js = i := by
  have hl : 0 < js.length := by have := (List.getElem?_eq_some_iff.1 hx).1; omega
  rcases nextI_spec (p := p) (ts := ts) hl with h1 | ⟨h1, _⟩
  · exact h _ _ _ _ (at_of jz (nextI_lt hl)) hx h1 hh
  · rw [h1 x (List.mem_of_getElem? hx)] at hh; cases hh
theorem OneHeld.others (h : OneHeld ts js) {k : Nat} {y : JobV} (hk : k ≠ nextI p ts js) (hy : js[k]? = some y) : hldB ts y = false := by
  cases hh : hldB ts y with
  | false => rfl
  | true => exact absurd (h.next (p := p) hy hh).symm hk
theorem OneHeld.tick (h : OneHeld ts js) : OneHeld ts (ranJ js (nextI p ts js)) := fun a b x y hx hy h1 h2 => by
  unfold ranJ at hx hy
  split at hx
  · rename_i hL
    rw [if_pos hL] at hy
    rcases at_erase hx with ⟨_, hx⟩ | ⟨_, hx⟩
    · have := h.next (p := p) hx h1; omega
    · rcases at_erase hy with ⟨_, hy⟩ | ⟨_, hy⟩
      · have := h.next (p := p) hy h2; omega
      · have := h _ _ _ _ hx hy h1 h2; omega
  · rename_i hL
    rw [if_neg hL] at hy
    rcases at_set hx with ⟨rfl, _, _⟩ | ⟨ha, hx⟩
    · rcases at_set hy with ⟨rfl, _, _⟩ | ⟨hb, hy⟩
      · rfl
      · rw [h.others hb hy] at h2; cases h2
    · rw [h.others ha hx] at h1; cases h1
/-- Of two jobs of one task the later was released later, and has not run. -/
def Inorder (js : List JobV) : Prop := ∀ (i k : Nat) (x y : JobV), i < k → js[i]? = some x → js[k]? = some y → x.T = y.T → x.R < y.R ∧ y.N = 0
theorem Inorder.nil_ : Inorder [] := fun i k x y _ h => by simp at h
theorem Inorder.push (h : Inorder js) {x : JobV} (hx : x.N = 0) (hr : ∀ y ∈ js, y.T = x.T → y.R < x.R) : Inorder (js ++ [x]) := fun i k y z hik hy hz e => by
  rcases at_push hz with hz | ⟨rfl, rfl⟩
  · have hk := (List.getElem?_eq_some_iff.1 hz).1
    rcases at_push hy with hy | ⟨h1, _⟩
    · exact h i k y z hik hy hz e
    · omega
  · rcases at_push hy with hy | ⟨h1, _⟩
    · exact ⟨hr y (List.mem_of_getElem? hy) e, hx⟩
    · omega
/-- The next job is the first of its task. -/
theorem Inorder.first (h : Inorder js) (g : GI ts js) {m : Nat} {x y : JobV} (hm : m < nextI p ts js) (hx : js[m]? = some x) (hy : js[nextI p ts js]? = some y) (e : x.T = y.T) : False := by
  have hl : 0 < js.length := by have := (List.getElem?_eq_some_iff.1 hx).1; omega
  obtain ⟨h1, h2⟩ := h _ _ _ _ hm hx hy e
  rcases nextI_spec (p := p) (ts := ts) hl with h3 | ⟨_, _, h3⟩
  · rw [getD_of hy] at h3
    simp [hldB, h2] at h3
  · have h4 := h3 m hm
    rw [getD_of hy, getD_of hx] at h4
    have hxd := (g.ok x (List.mem_of_getElem? hx)).2.2.2.1
    have hyd := (g.ok y (List.mem_of_getElem? hy)).2.2.2.1
    rw [e] at hxd
    unfold ahd at h4
    split at h4
    · split at h4 <;> simp only [decide_eq_true_eq] at h4 <;> omega
    · simp only [decide_eq_true_eq] at h4; omega
theorem Inorder.tick (h : Inorder js) (g : GI ts js) : Inorder (ranJ js (nextI p ts js)) := fun a b x y hab hx hy e => by
  unfold ranJ at hx hy
  split at hx
  · rename_i hL
    rw [if_pos hL] at hy
    rcases at_erase hx with ⟨_, hx⟩ | ⟨_, hx⟩
    · rcases at_erase hy with ⟨_, hy⟩ | ⟨_, hy⟩
      · exact h _ _ _ _ hab hx hy e
      · exact h _ _ _ _ (by omega) hx hy e
    · rcases at_erase hy with ⟨_, hy⟩ | ⟨_, hy⟩
      · omega
      · exact h _ _ _ _ (by omega) hx hy e
  · rename_i hL
    rw [if_neg hL] at hy
    rcases at_set hx with ⟨rfl, hi, rfl⟩ | ⟨ha, hx⟩
    · rcases at_set hy with ⟨rfl, _, _⟩ | ⟨hb, hy⟩
      · omega
      · have := h _ _ (js.getD (nextI p ts js) jz) y hab (at_of jz hi) hy e
        exact this
    · rcases at_set hy with ⟨rfl, hi, rfl⟩ | ⟨hb, hy⟩
      · exact absurd e (fun e => h.first g hab hx (at_of jz hi) e)
      · exact h _ _ _ _ hab hx hy e
/-- The jobs of a task, as they were released; the ticks that the first of them has run. -/
def JobV.orig (j : JobV) : JobV := ⟨j.T, j.R, j.D, j.L + j.N, 0⟩
def ofT (js : List JobV) (t : Nat) : List JobV := js.filter fun j => j.T == t
def wantL (js : List JobV) (t : Nat) : List JobV := (ofT js t).map JobV.orig
def ranL (js : List JobV) (t : Nat) : Int := ((ofT js t).head?.map JobV.N).getD 0
theorem split_at {i : Nat} {j : JobV} (hj : js[i]? = some j) : js = js.take i ++ j :: js.drop (i + 1) := by
  obtain ⟨hl, rfl⟩ := List.getElem?_eq_some_iff.1 hj
  simp
theorem ofT_no {l : List JobV} {t : Nat} (h : ∀ x ∈ l, x.T ≠ t) : ofT l t = [] := by
  rw [ofT, List.filter_eq_nil_iff]
  intro x hx
  simpa using h x hx
theorem ofT_app (a b : List JobV) (t : Nat) : ofT (a ++ b) t = ofT a t ++ ofT b t := by simp [ofT]
theorem ofT_hit (j : JobV) (l : List JobV) : ofT (j :: l) j.T = j :: ofT l j.T := by simp [ofT]
theorem ofT_miss {j : JobV} (l : List JobV) {t : Nat} (h : j.T ≠ t) : ofT (j :: l) t = ofT l t := by simp [ofT, h]
section
variable {j : JobV}
theorem ofT_next (h : Inorder js) (g : GI ts js) (hj : js[nextI p ts js]? = some j) :
    ∃ r, ofT js j.T = j :: r ∧ (∀ x ∈ r, x.N = 0) ∧ ofT (ranJ js (nextI p ts js)) j.T = (if j.L = 1 then r else j.tick :: r) ∧ ∀ t, t ≠ j.T → ofT (ranJ js (nextI p ts js)) t = ofT js t := by
  obtain ⟨i, hi⟩ : ∃ i, nextI p ts js = i := ⟨_, rfl⟩
  have hfirst : ∀ x ∈ js.take i, x.T ≠ j.T := fun x hx e => by
    obtain ⟨m, hm⟩ := List.getElem?_of_mem hx
    rw [List.getElem?_take] at hm
    split at hm
    · exact h.first (p := p) g (by rw [hi]; assumption) hm hj e
    · cases hm
  have hlater : ∀ x ∈ js.drop (i + 1), x.T = j.T → x.N = 0 := fun x hx e => by
    obtain ⟨m, hm⟩ := List.getElem?_of_mem hx
    rw [List.getElem?_drop] at hm
    exact (h i (i + 1 + m) _ _ (by omega) (by rw [← hi]; exact hj) hm e.symm).2
  rw [hi] at hj ⊢
  have hL : (js.getD i jz).L = j.L := by rw [getD_of hj]
  refine ⟨ofT (js.drop (i + 1)) j.T, ?_, fun x hx => ?_, ?_, fun t ht => ?_⟩
  · conv => lhs; rw [split_at hj]
    rw [ofT_app, ofT_no hfirst, ofT_hit]; rfl
  · have := List.mem_filter.1 hx
    exact hlater x this.1 (by simpa using this.2)
  · unfold ranJ
    rw [hL]
    split
    · rw [List.eraseIdx_eq_take_drop_succ, ofT_app, ofT_no hfirst]; rfl
    · rw [List.set_eq_take_append_cons_drop, if_pos (List.getElem?_eq_some_iff.1 hj).1, ofT_app, ofT_no hfirst, getD_of hj]
      show ofT (j.tick :: _) j.tick.T = _
      rw [ofT_hit]
      rfl
  · have hs : ofT js t = ofT (js.take i) t ++ ofT (js.drop (i + 1)) t := by
      conv => lhs; rw [split_at hj]
      rw [ofT_app, ofT_miss _ (fun e => ht e.symm)]
    unfold ranJ
    rw [hL, hs]
    split
    · rw [List.eraseIdx_eq_take_drop_succ, ofT_app]
    · rw [List.set_eq_take_append_cons_drop, if_pos (List.getElem?_eq_some_iff.1 hj).1, ofT_app, getD_of hj, ofT_miss _ (fun e => ht (show j.tick.T = t from e).symm)]
theorem orig_tick (j : JobV) : j.tick.orig = j.orig := by
  unfold JobV.tick JobV.orig
  congr 1
  show j.L - 1 + (j.N + 1) = j.L + j.N
  omega
/-- A tick of the next job, in the words of the statement GuestRuns. -/
theorem runs_next (h : Inorder js) (g : GI ts js) (hj : js[nextI p ts js]? = some j) :
    ∃ r, wantL js j.T = j.orig :: r ∧ ranL js j.T = j.N ∧ wantL (ranJ js (nextI p ts js)) j.T = (if j.L = 1 then r else j.orig :: r) ∧ ranL (ranJ js (nextI p ts js)) j.T = (if j.L = 1 then 0 else j.N + 1) ∧
      ∀ t, t ≠ j.T → wantL (ranJ js (nextI p ts js)) t = wantL js t ∧ ranL (ranJ js (nextI p ts js)) t = ranL js t := by
  obtain ⟨r, h1, h2, h3, h4⟩ := ofT_next h g hj
  refine ⟨r.map JobV.orig, by rw [wantL, h1]; rfl, by rw [ranL, h1]; rfl, ?_, ?_, fun t ht => by rw [wantL, ranL, h4 t ht]; exact ⟨rfl, rfl⟩⟩
  · rw [wantL, h3]
    split
    · rfl
    · rw [List.map_cons, orig_tick]
  · rw [ranL, h3]
    split
    · cases r with
      | nil => rfl
      | cons x r => exact h2 x (by simp)
    · rfl
theorem wantL_push (js : List JobV) (j : JobV) (hN : j.N = 0) (t : Nat) : wantL (js ++ [j]) t = wantL js t ++ (if j.T = t then [j.orig] else []) := by
  rw [wantL, ofT_app, List.map_append]
  congr 1
  split
  · rename_i e; subst e; rw [ofT_hit]; rfl
  · rename_i e; rw [ofT_miss _ e]; rfl
theorem ranL_push (js : List JobV) (j : JobV) (hN : j.N = 0) (t : Nat) : ranL (js ++ [j]) t = ranL js t := by
  rw [ranL, ranL, ofT_app]
  by_cases e : j.T = t
  · subst e
    rw [ofT_hit]
    cases ofT js j.T with
    | nil => exact hN
    | cons x r => rfl
  · rw [ofT_miss _ e]
    show ((ofT js t ++ []).head?.map JobV.N).getD 0 = _
    rw [List.append_nil]
end
end
end Go.Proofs.YtbpbmelfhgbogaaDoor
