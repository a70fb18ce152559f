/-
  Package guest, in plain words: tasks, jobs, which job is next, what a tick and a release leave.
-/
import Derived.Test.YtbpbmelfhgbogaaDoorLib
namespace Go.Proofs.YtbpbmelfhgbogaaDoor
set_option linter.unusedVariables false
/-- A task: C, P, D, S. -/
structure TaskV where
  C : Int
  P : Int
  D : Int
  S : Int
/-- A job: task, release, deadline, ticks left, ticks done. -/
structure JobV where
  T : Nat
  R : Int
  D : Int
  L : Int
  N : Int
def TaskV.legal (t : TaskV) : Prop := 1 ≤ t.C ∧ t.C ≤ t.D ∧ t.D ≤ t.P ∧ t.P ≤ 256 ∧ 0 ≤ t.S ∧ t.S ≤ t.C
def jz : JobV := ⟨0, 0, 0, 0, 0⟩
def tz : TaskV := ⟨0, 0, 0, 0⟩
def hldB (ts : List TaskV) (j : JobV) : Bool := decide (0 < j.N) && decide (j.N < (ts.getD j.T tz).S)
/-- a stands ahead of b. -/
def ahd (p : Int) (a b : JobV) : Bool := if p = 1 then (if a.D = b.D then decide (a.T < b.T) else decide (a.D < b.D)) else decide (a.T < b.T)
theorem ahd_irrefl (p : Int) (a : JobV) : ahd p a a = false := by unfold ahd; split <;> simp
theorem ahd_trans {p : Int} {a b c : JobV} (h : ahd p a b = true) (k : ahd p b c = true) : ahd p a c = true := by
  unfold ahd at *
  by_cases hp : p = 1
  · simp only [hp, if_true] at *
    split at h <;> split at k <;> split <;> simp only [decide_eq_true_eq] at * <;> omega
  · simp only [hp, if_false, decide_eq_true_eq] at *
    omega
theorem ahd_over {p : Int} {a b c : JobV} (h : ahd p a b = true) (k : ahd p c b = false) : ahd p a c = true := by
  unfold ahd at *
  by_cases hp : p = 1
  · simp only [hp, if_true] at *
    split at h <;> split at k <;> split <;> simp only [decide_eq_true_eq, decide_eq_false_iff_not] at * <;> omega
  · simp only [hp, if_false, decide_eq_true_eq, decide_eq_false_iff_not] at *
    omega
/-- The first job that stands ahead of all others, of the first k. -/
def best (p : Int) (js : List JobV) : Nat → Nat
  | 0 => 0
  | k + 1 => if ahd p (js.getD k jz) (js.getD (best p js k) jz) = true then k else best p js k
theorem best_lt (p : Int) (js : List JobV) : ∀ k, 0 < k → best p js k < k
  | 0, h => absurd h (by omega)
  | 1, _ => by unfold best; split <;> simp [best]
  | k + 2, _ => by
    have := best_lt p js (k + 1) (by omega)
    unfold best
    split <;> omega
theorem best_le (p : Int) (js : List JobV) (k : Nat) : best p js k ≤ k := by
  rcases Nat.eq_zero_or_pos k with h | h
  · subst h; exact Nat.le_refl _
  · exact Nat.le_of_lt (best_lt p js k h)
theorem best_min (p : Int) (js : List JobV) : ∀ k m, m < k → ahd p (js.getD m jz) (js.getD (best p js k) jz) = false
  | 0, m, h => absurd h (by omega)
  | k + 1, m, h => by
    unfold best
    split
    · rename_i hk
      rcases Nat.lt_or_ge m k with h1 | h1
      · have h2 := best_min p js k m h1
        cases h3 : ahd p (js.getD m jz) (js.getD k jz) with
        | false => rfl
        | true => rw [ahd_trans h3 hk] at h2; exact h2
      · obtain rfl : m = k := by omega
        exact ahd_irrefl _ _
    · rename_i hk
      rcases Nat.lt_or_ge m k with h1 | h1
      · exact best_min p js k m h1
      · obtain rfl : m = k := by omega
        simpa using hk
theorem best_first (p : Int) (js : List JobV) : ∀ k m, m < best p js k → ahd p (js.getD (best p js k) jz) (js.getD m jz) = true
  | 0, m, h => absurd h (by unfold best; omega)
  | k + 1, m, h => by
    unfold best at *
    split
    · rename_i hk
      rw [if_pos hk] at h
      exact ahd_over hk (best_min p js k m h)
    · rename_i hk
      rw [if_neg hk] at h
      exact best_first p js k m h
/-- The place of the job that is next. -/
def nextI (p : Int) (ts : List TaskV) (js : List JobV) : Nat := match js.findIdx? (hldB ts) with
  | some i => i
  | none => best p js js.length
theorem nextI_lt {p : Int} {ts : List TaskV} {js : List JobV} (h : 0 < js.length) : nextI p ts js < js.length := by
  unfold nextI
  split
  · rename_i i hi
    exact (List.findIdx?_eq_some_iff_getElem.1 hi).1
  · exact best_lt p js _ h
/-- The next job holds on, and none ahead of it in the list does; or none holds on, and it stands ahead of all. -/
theorem nextI_spec {p : Int} {ts : List TaskV} {js : List JobV} (h : 0 < js.length) :
    (hldB ts (js.getD (nextI p ts js) jz) = true) ∨
    ((∀ j ∈ js, hldB ts j = false) ∧ (∀ m, m < js.length → ahd p (js.getD m jz) (js.getD (nextI p ts js) jz) = false) ∧ ∀ m, m < nextI p ts js → ahd p (js.getD (nextI p ts js) jz) (js.getD m jz) = true) := by
  unfold nextI
  split
  · rename_i i hi
    obtain ⟨hl, hh, _⟩ := List.findIdx?_eq_some_iff_getElem.1 hi
    left
    rw [List.getD_eq_getElem?_getD, List.getElem?_eq_getElem hl]
    exact hh
  · rename_i hn
    right
    refine ⟨fun j hj => ?_, fun m hm => best_min p js _ m hm, fun m hm => best_first p js _ m hm⟩
    have := List.findIdx?_eq_none_iff.1 hn j hj
    simpa using this
/-- What a tick makes of a job. -/
def JobV.tick (j : JobV) : JobV := ⟨j.T, j.R, j.D, j.L - 1, j.N + 1⟩
/-- The jobs behind a tick of job i. -/
def ranJ (js : List JobV) (i : Nat) : List JobV := if (js.getD i jz).L = 1 then js.eraseIdx i else js.set i (js.getD i jz).tick
/-- A guest's jobs fit its tasks. -/
structure GI (ts : List TaskV) (js : List JobV) : Prop where
  few : js.length ≤ 64
  leg : ∀ t ∈ ts, t.legal
  ok : ∀ j ∈ js, j.T < ts.length ∧ 0 ≤ j.R ∧ j.R ≤ 1099511627776 ∧ j.D = j.R + (ts.getD j.T tz).D ∧ 1 ≤ j.L ∧ 0 ≤ j.N ∧ j.L + j.N ≤ (ts.getD j.T tz).C
theorem getD_of {α : Type} {l : List α} {k : Nat} {x d : α} (h : l[k]? = some x) : l.getD k d = x := by rw [List.getD_eq_getElem?_getD, h]; rfl
theorem at_of {α : Type} {l : List α} {k : Nat} (d : α) (h : k < l.length) : l[k]? = some (l.getD k d) := by rw [List.getD_eq_getElem?_getD, List.getElem?_eq_getElem h]; rfl
theorem GI.task {ts : List TaskV} {js : List JobV} (h : GI ts js) {j : JobV} (hj : j ∈ js) : (ts.getD j.T tz).legal := h.leg _ (List.mem_of_getElem? (at_of tz (h.ok j hj).1))
theorem GI.bound {ts : List TaskV} {js : List JobV} (h : GI ts js) {j : JobV} (hj : j ∈ js) : 1 ≤ j.L ∧ j.L ≤ 256 ∧ 0 ≤ j.N ∧ j.N ≤ 255 ∧ 0 ≤ j.D ∧ j.D ≤ 1099511628032 := by
  obtain ⟨_, a1, a2, a3, a4, a5, a6⟩ := h.ok j hj
  obtain ⟨b1, b2, b3, b4, b5, b6⟩ := h.task hj
  omega
theorem GI.tick {ts : List TaskV} {js : List JobV} (h : GI ts js) {i : Nat} (hi : i < js.length) : GI ts (ranJ js i) := by
  have hm := List.mem_of_getElem? (at_of jz hi)
  unfold ranJ
  split
  · exact ⟨by rw [List.length_eraseIdx]; have := h.few; split <;> omega, h.leg, fun j hj => h.ok j (List.mem_of_mem_eraseIdx hj)⟩
  · rename_i h1
    refine ⟨by rw [List.length_set]; exact h.few, h.leg, fun j hj => ?_⟩
    rcases List.mem_or_eq_of_mem_set hj with hj | hj
    · exact h.ok j hj
    · subst hj
      obtain ⟨a0, a1, a2, a3, a4, a5, a6⟩ := h.ok _ hm
      exact ⟨a0, a1, a2, a3, by show 1 ≤ (js.getD i jz).L - 1; omega, by show 0 ≤ (js.getD i jz).N + 1; omega, by show (js.getD i jz).L - 1 + ((js.getD i jz).N + 1) ≤ _; show _ ≤ (ts.getD (js.getD i jz).T tz).C; omega⟩
/-- The ticks of a job that is released. -/
def cutT (x c : Int) : Int := min (max x 1) c
def newJ (i : Nat) (now ticks : Int) (t : TaskV) : JobV := ⟨i, now, now + t.D, cutT ticks t.C, 0⟩
theorem GI.push {ts : List TaskV} {js : List JobV} (h : GI ts js) (hf : js.length < 64) {i : Nat} {now ticks : Int} (hi : i < ts.length) (h0 : 0 ≤ now) (h1 : now ≤ 1099511627776) : GI ts (js ++ [newJ i now ticks (ts.getD i tz)]) := by
  refine ⟨by simp; omega, h.leg, fun j hj => ?_⟩
  rcases List.mem_append.1 hj with hj | hj
  · exact h.ok j hj
  · simp at hj
    subst hj
    obtain ⟨b1, b2, b3, b4, b5, b6⟩ := h.leg _ (List.mem_of_getElem? (at_of tz hi))
    refine ⟨hi, h0, h1, rfl, ?_, by show (0 : Int) ≤ 0; omega, ?_⟩
    · show 1 ≤ min (max ticks 1) (ts.getD i tz).C; omega
    · show min (max ticks 1) (ts.getD i tz).C + 0 ≤ (ts.getD i tz).C; omega
end Go.Proofs.YtbpbmelfhgbogaaDoor
