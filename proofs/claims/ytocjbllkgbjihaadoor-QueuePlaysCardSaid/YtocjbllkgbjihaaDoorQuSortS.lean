/-
  QueueSorts: the state of its loops.
-/
import Derived.Test.YtocjbllkgbjihaaDoorQuAlive
import Derived.Test.YtocjbllkgbjihaaDoorOpen
namespace Go.Proofs.YtocjbllkgbjihaaDoor
set_option maxRecDepth 100000
open Go.RowKit Go.Maps
set_option linter.unusedVariables false
def bools (l : List Bool) : List Value := l.map Value.bool
theorem bools_len (l : List Bool) : (bools l).length = l.length := by simp [bools]
theorem bools_at {l : List Bool} {k : Nat} {x : Bool} (h : l[k]? = some x) : (bools l)[k]? = some (.bool x) := by simp [bools, h]
theorem bools_set (l : List Bool) (k : Nat) (x : Bool) : bools (l.set k x) = (bools l).set k (.bool x) := by simp [bools, List.map_set]
theorem ints_set (l : List Int) (k : Nat) (x : Int) : ints (l.set k x) = (ints l).set k (.int .i64 x) := by simp [ints, List.map_set]
theorem ints_at' {l : List Int} {k : Nat} {x : Int} (h : l[k]? = some x) : (ints l)[k]? = some (.int .i64 x) := by simp [ints, h]
theorem eltI : Elt Tryd.prog 22 3 1 8 (.int .i64 0) := ⟨Tryd.underlying22, by kernel_rfl, rfl, by omega⟩
theorem eltB : Elt Tryd.prog 27 4 1 1 (.bool false) := ⟨Tryd.underlying27, by kernel_rfl, rfl, by omega⟩
/-- The queue, the ranks that stand last, who is gone. -/
structure SS (W0 w : World) (g : Nat) (F : Nat → Prop) (Z lb gb n lc : Nat) (last : List Int) (gone : List Bool) (L : List Th) : Prop where
  qp : QP w g F L Z
  lo : Own w W0.heap.size 3 1 (some ⟨lb, 0, none⟩) n lc (ints last)
  go : Own w W0.heap.size 4 1 (some ⟨gb, 0, none⟩) n n (bools gone)
  nl : ¬ F lb
  ng : ¬ F gb
  ne : lb ≠ gb
  bF : ∀ k, F k → W0.heap.size ≤ k
  x : Ext W0 w
section
variable {W0 w w' : World} {g Z lb gb n lc : Nat} {F : Nat → Prop} {last : List Int} {gone : List Bool} {L : List Th}
theorem SS.ext (h : SS W0 w g F Z lb gb n lc last gone L) (hx : Ext w w') : SS W0 w' g F Z lb gb n lc last gone L := ⟨h.qp.ext hx, h.lo.ext hx, h.go.ext hx, h.nl, h.ng, h.ne, h.bF, h.x.trans hx⟩
theorem SS.fr (h : SS W0 w g F Z lb gb n lc last gone L) {P : Nat → Prop} (hf : Fr w w' P) (h1 : ∀ k, P k → W0.heap.size ≤ k) (h2 : ∀ k, F k → ¬ P k) (h3 : ¬ P lb) (h4 : ¬ P gb) : SS W0 w' g F Z lb gb n lc last gone L :=
  ⟨h.qp.fr hf h2, hf.own h.lo (fun a ha e => by injection ha with ha; subst ha; exact h3 e), hf.own h.go (fun a ha e => by injection ha with ha; subst ha; exact h4 e), h.nl, h.ng, h.ne, h.bF, Fr.ext h.x hf h1⟩
theorem SS.q (h : SS W0 w g F Z lb gb n lc last gone L) {F' : Nat → Prop} {L' : List Th} {Z' : Nat} (hq : QN w w' g F F' L' Z') : SS W0 w' g F' Z' lb gb n lc last gone L' := by
  have e := hq.from_ h.x h.bF
  exact ⟨hq.qp, hq.fr.own h.lo (fun a ha e => by injection ha with ha; subst ha; exact h.nl e), hq.fr.own h.go (fun a ha e => by injection ha with ha; subst ha; exact h.ng e), hq.out h.lo.lt h.nl, hq.out h.go.lt h.ng, h.ne, e.2, e.1⟩
theorem SS.putLast (h : SS W0 w g F Z lb gb n lc last gone L) (i : Nat) (r : Int) : SS W0 (w.setCell ⟨lb, i, none⟩ (.int .i64 r)) g F Z lb gb n lc (last.set i r) gone L := by
  have ff := Fr.store w ⟨lb, i, none⟩ (.int .i64 r)
  refine ⟨h.qp.fr ff (fun k hk e => h.nl (by have e2 : k = lb := e; rw [← e2]; exact hk)), ?_, ff.own h.go (fun a ha e => by injection ha with ha; subst ha; exact h.ne e.symm), h.nl, h.ng, h.ne, h.bF, Fr.ext h.x ff (fun k e => by rw [e]; exact h.lo.base_le lb rfl)⟩
  rw [ints_set]; exact h.lo.stored i _
theorem SS.putGone (h : SS W0 w g F Z lb gb n lc last gone L) (i : Nat) (r : Bool) : SS W0 (w.setCell ⟨gb, i, none⟩ (.bool r)) g F Z lb gb n lc last (gone.set i r) L := by
  have ff := Fr.store w ⟨gb, i, none⟩ (.bool r)
  refine ⟨h.qp.fr ff (fun k hk e => h.ng (by have e2 : k = gb := e; rw [← e2]; exact hk)), ff.own h.lo (fun a ha e => by injection ha with ha; subst ha; exact h.ne e), ?_, h.nl, h.ng, h.ne, h.bF, Fr.ext h.x ff (fun k e => by rw [e]; exact h.go.base_le gb rfl)⟩
  rw [bools_set]; exact h.go.stored i _
theorem SS.llen (h : SS W0 w g F Z lb gb n lc last gone L) : last.length = n := by have := h.lo.len; rw [ints_len] at this; omega
theorem SS.glen (h : SS W0 w g F Z lb gb n lc last gone L) : gone.length = n := by have := h.go.len; rw [bools_len] at this; omega
end
/-- The queue's things: those that live, with the ranks that stand last. -/
def Mem (L : List Th) (p : Nat → Bool) (last : List Int) : Prop := ∀ x, x ∈ L ↔ ∃ i : Nat, p i = true ∧ last[i]? = some x.rank ∧ x.id = (i : Int)
theorem Mem.nil_ (last : List Int) : Mem [] (fun _ => false) last := fun x => ⟨fun h => (by cases h), fun h => (by obtain ⟨_, h, _⟩ := h; cases h)⟩
section
variable {L L' R : List Th} {p : Nat → Bool} {last : List Int}
theorem Mem.push (h : Mem L p last) {k : Nat} {r : Int} (hr : last[k]? = some r) (hp : L'.Perm (⟨(k : Int), r⟩ :: L)) : Mem L' (fun i => p i || i == k) last := fun x => by
  rw [hp.mem_iff, List.mem_cons, h x]
  constructor
  · rintro (rfl | ⟨i, h1, h2, h3⟩)
    · exact ⟨k, by simp, hr, rfl⟩
    · exact ⟨i, by simp [h1], h2, h3⟩
  · rintro ⟨i, h1, h2, h3⟩
    simp only [Bool.or_eq_true, beq_iff_eq] at h1
    rcases h1 with h1 | rfl
    · exact .inr ⟨i, h1, h2, h3⟩
    · exact .inl (th_eq ⟨h3, by rw [hr] at h2; injection h2 with h2; exact h2.symm⟩)
theorem Mem.congr {q : Nat → Bool} (h : Mem L p last) (e : ∀ i, i < last.length → p i = q i) : Mem L q last := fun x => by
  rw [h x]
  constructor
  · rintro ⟨i, h1, h2, h3⟩
    exact ⟨i, by rw [← e i (List.getElem?_eq_some_iff.1 h2).1]; exact h1, h2, h3⟩
  · rintro ⟨i, h1, h2, h3⟩
    exact ⟨i, by rw [e i (List.getElem?_eq_some_iff.1 h2).1]; exact h1, h2, h3⟩
/-- A thing is taken out. -/
theorem Mem.out (h : Mem L p last) (hI : Ids L) {x : Th} {k : Nat} (hx : x.id = (k : Int)) (hp : (x :: L').Perm L) : Mem L' (fun i => p i && !(i == k)) last := fun y => by
  have hI2 := hI.perm hp.symm
  have hm := hp.mem_iff (a := y)
  rw [List.mem_cons, h y] at hm
  constructor
  · intro hy
    obtain ⟨i, h1, h2, h3⟩ := hm.1 (.inr hy)
    have hne := hI2.ne y hy
    exact ⟨i, by simp [h1]; intro e; exact hne (by rw [h3, hx, e]), h2, h3⟩
  · rintro ⟨i, h1, h2, h3⟩
    simp only [Bool.and_eq_true, Bool.not_eq_true', beq_eq_false_iff_ne] at h1
    rcases hm.2 ⟨i, h1.1, h2, h3⟩ with e | e
    · exact absurd (by rw [e, hx] at h3; omega) h1.2
    · exact e
/-- A thing has another rank. -/
theorem Mem.turn (h : Mem L p last) (hI : Ids L) {y : Th} {k : Nat} {r : Int} (hy : y.id = (k : Int)) (hk : p k = true) (hkl : k < last.length) (hp : (y :: R).Perm L) (hp2 : L'.Perm (⟨y.id, r⟩ :: R)) : Mem L' p (last.set k r) := fun z => by
  have hI2 := hI.perm hp.symm
  have hm := hp.mem_iff (a := z)
  rw [List.mem_cons, h z] at hm
  rw [hp2.mem_iff, List.mem_cons]
  constructor
  · rintro (rfl | hz)
    · exact ⟨k, hk, List.getElem?_set_self hkl, hy⟩
    · obtain ⟨i, h1, h2, h3⟩ := hm.1 (.inr hz)
      have hne := hI2.ne z hz
      exact ⟨i, h1, by rw [List.getElem?_set_ne (fun e => hne (by rw [h3, hy, e]))]; exact h2, h3⟩
  · rintro ⟨i, h1, h2, h3⟩
    by_cases e : k = i
    · subst e
      rw [List.getElem?_set_self hkl] at h2
      injection h2 with h2
      exact .inl (th_eq ⟨by rw [h3, hy], h2.symm⟩)
    · rw [List.getElem?_set_ne e] at h2
      rcases hm.2 ⟨i, h1, h2, h3⟩ with e2 | e2
      · exact absurd (by rw [e2, hy] at h3; omega) e
      · exact .inr e2
theorem Mem.find (h : Mem L p last) {k : Nat} {r : Int} (hk : p k = true) (hr : last[k]? = some r) : ∃ y ∈ L, y.id = (k : Int) := ⟨⟨(k : Int), r⟩, (h _).2 ⟨k, hk, hr, rfl⟩, rfl⟩
theorem Mem.none_ (h : Mem L p last) {a : Int} (ha : ∀ i : Nat, a = (i : Int) → p i = true → last.length ≤ i) : ∀ y ∈ L, y.id ≠ a := fun y hy e => by
  obtain ⟨i, h1, h2, h3⟩ := (h y).1 hy
  have := ha i (by rw [← e, h3]) h1
  have := (List.getElem?_eq_some_iff.1 h2).1
  omega
end
def alive_ (gone : List Bool) (i : Nat) : Bool := gone[i]? == some false
end Go.Proofs.YtocjbllkgbjihaaDoor
