/-
  A script of calls as a list; the script with calls appended; a list of bytes with marks behind it.
-/
import Derived.Test.YtelnnlfbfbbnaaaDoorROps
import Derived.Test.YtelnnlfbfbbnaaaDoorFr
import Derived.Deep.AppendLies
namespace Go.Proofs.YtelnnlfbfbbnaaaDoor
open Go.RowKit
set_option linter.unusedVariables false
/-- A call: its fields. -/
structure OpV where
  K : Int
  Q : Int
  N : Int
  A : Option Addr
  n : Nat
  c : Nat
  l : List Nat
def OpV.cells (o : OpV) : List Value := [.int .i64 o.K, .int .i64 o.Q, .int .i64 o.N, .slice o.A o.n o.c]
structure OpV.ok (w : World) (o : OpV) : Prop where
  iN : -9223372036854775808 ≤ o.N ∧ o.N ≤ 9223372036854775807
  le : o.n ≤ o.c
  small : o.c ≤ 1048576
  rd : Rd w 1 o.A o.n (u8s o.l)
  byte : ∀ x ∈ o.l, x < 256
theorem OpV.ok.ext {w w' : World} {o : OpV} (h : o.ok w) (hx : Ext w w') : o.ok w' := ⟨h.iN, h.le, h.small, h.rd.ext hx, h.byte⟩
theorem OpV.ok.len {w : World} {o : OpV} (h : o.ok w) : o.l.length = o.n := by have := h.rd.len; rwa [u8s_len] at this
def opCells (os : List OpV) : List Value := os.flatMap OpV.cells
theorem opCells_len (os : List OpV) : (opCells os).length = os.length * 4 := by
  induction os with
  | nil => rfl
  | cons o os ih =>
    show (o.cells ++ opCells os).length = _
    rw [List.length_append, ih, List.length_cons]
    show 4 + _ = _
    omega
theorem opCells_append (a b : List OpV) : opCells (a ++ b) = opCells a ++ opCells b := by simp [opCells]
theorem opCells_at : ∀ (os : List OpV) (k i : Nat) (o : OpV), os[k]? = some o → i < 4 → (opCells os)[k * 4 + i]? = o.cells[i]? := by
  intro os
  induction os with
  | nil => intro k i o h; simp at h
  | cons x os ih =>
    intro k i o h hi
    show (x.cells ++ opCells os)[k * 4 + i]? = _
    cases k with
    | zero =>
      simp at h
      subst h
      rw [List.getElem?_append_left (by show 0 * 4 + i < 4; omega)]
      congr 1
      omega
    | succ k =>
      rw [List.getElem?_append_right (by show 4 ≤ _; omega)]
      have := ih k i o (by simpa using h) hi
      rw [← this]
      congr 1
      show (k + 1) * 4 + i - 4 = _
      omega
theorem opCells_one (os : List OpV) : ∀ u ∈ opCells os, u.oneCell' = true := by
  intro u hu
  obtain ⟨o, _, hu⟩ := List.mem_flatMap.1 hu
  simp only [OpV.cells, List.mem_cons, List.not_mem_nil, or_false] at hu
  rcases hu with rfl | rfl | rfl | rfl <;> rfl
theorem all_opv {Q : Nat → OpV → Prop} (n : Nat) (h : ∀ i, i < n → ∃ x, Q i x) : ∃ l : List OpV, l.length = n ∧ ∀ i x, l[i]? = some x → Q i x := by
  induction n with
  | zero => exact ⟨[], rfl, fun i x h => by simp at h⟩
  | succ n ih =>
    obtain ⟨l, hl, hq⟩ := ih (fun i hi => h i (by omega))
    obtain ⟨y, hy⟩ := h n (by omega)
    refine ⟨l ++ [y], by simp [hl], fun i x hx => ?_⟩
    rcases Nat.lt_or_ge i n with hi | hi
    · rw [List.getElem?_append_left (by omega)] at hx
      exact hq i x hx
    · rw [List.getElem?_append_right (by omega), hl] at hx
      obtain ⟨j, hj⟩ : ∃ j, i - n = j := ⟨_, rfl⟩
      rw [hj] at hx
      cases j with
      | zero =>
        simp at hx
        subst hx
        obtain rfl : i = n := by omega
        exact hy
      | succ j => simp at hx
/-- A script that reads is a list of calls. -/
theorem script_opv {w : World} {A : Option Addr} {n : Nat} (h : Script w A n) : ∃ os : List OpV, os.length = n ∧ Rd w 4 A n (opCells os) ∧ ∀ o ∈ os, o.ok w := by
  obtain ⟨os, hl, hq⟩ := all_opv (Q := fun i o => ∃ ad, A = some ad ∧ OpAt w ad i o.K o.Q o.N o.A o.n o.c o.l) n (fun i hi => by
    obtain ⟨ad, K, Q, N, B, nb, cb, l, e, ho⟩ := h i hi
    exact ⟨⟨K, Q, N, B, nb, cb, l⟩, ad, e, ho⟩)
  refine ⟨os, hl, ⟨by rw [opCells_len, hl], fun hn => ?_⟩, fun o ho => ?_⟩
  · obtain ⟨ad, e, ho⟩ := hq 0 (os[0]'(by omega)) (List.getElem?_eq_getElem _)
    refine ⟨ad, e, block_of_cell ho.k1, fun j u hu => ?_⟩
    have hj : j < n * 4 := by
      have := (List.getElem?_eq_some_iff.1 hu).1
      rw [opCells_len, hl] at this
      exact this
    obtain ⟨k, i, hk, hi, rfl⟩ : ∃ k i, k < n ∧ i < 4 ∧ j = k * 4 + i := ⟨j / 4, j % 4, by omega, by omega, by omega⟩
    have hok : os[k]? = some (os[k]'(by omega)) := List.getElem?_eq_getElem _
    obtain ⟨ad', e', ha⟩ := hq k _ hok
    rw [e] at e'
    injection e' with e'
    subst e'
    rw [opCells_at os k i _ hok hi] at hu
    obtain rfl | rfl | rfl | rfl : i = 0 ∨ i = 1 ∨ i = 2 ∨ i = 3 := by omega
    · injection hu with hu; rw [← hu]; exact ha.k0
    · injection hu with hu; rw [← hu]; exact ha.k1
    · injection hu with hu; rw [← hu]; exact ha.k2
    · injection hu with hu; rw [← hu]; exact ha.k3
  · obtain ⟨i, hi⟩ := List.getElem?_of_mem ho
    obtain ⟨ad, _, ha⟩ := hq i o hi
    exact ⟨ha.iN, ha.le, ha.small, ha.rd, ha.byte⟩
theorem eltOp : Elt Tryd.prog 33 38 4 48 (.agg #[.int .i64 0, .int .i64 0, .int .i64 0, .slice none 0 0]) := ⟨Tryd.underlying33, by kernel_rfl, rfl, by omega⟩
/-- A call of constants. -/
def opK (K Q N : Int) : OpV := ⟨K, Q, N, none, 0, 0, []⟩
theorem opK_ok (w : World) (K Q N : Int) (hN : -9223372036854775808 ≤ N ∧ N ≤ 9223372036854775807) : (opK K Q N).ok w := ⟨hN, Nat.le_refl _, by show (0 : Nat) ≤ _; omega, Rd.nil_, fun x hx => by cases hx⟩
theorem Rd.newN {w : World} {cs : Array Value} {e : TypeId} {size n : Nat} {xs : List Value} (hx : cs.toList = xs) (hl : xs.length = n * size) : Rd (w.alloc (.cells cs e)) size (some ⟨w.heap.size, 0, none⟩) n xs := by
  subst hx
  exact ⟨hl, fun _ => ⟨_, rfl, by rw [World.size_alloc]; exact Nat.lt_succ_self _, World.news_of_block (heap_alloc_new w _)⟩⟩
/-- The fields of call k of a list of calls that the law owns. -/
theorem ops_at {w : World} {base S M cap k : Nat} {os : List OpV} {o : OpV} (h : Own w base 38 4 (some ⟨S, 0, none⟩) M cap (opCells os)) (hk : os[k]? = some o) {i0 : Nat} (hi0 : k * 4 = i0) :
    w.cell? ⟨S, i0, none⟩ = some (.int .i64 o.K) ∧ w.cell? ⟨S, i0 + 1, none⟩ = some (.int .i64 o.Q) ∧ w.cell? ⟨S, i0 + 2, none⟩ = some (.int .i64 o.N) ∧ w.cell? ⟨S, i0 + 3, none⟩ = some (.slice o.A o.n o.c) := by
  have c := World.ownsRow.cells h (g := S) rfl
  have e : ∀ i, i < 4 → ∀ u, o.cells[i]? = some u → w.cell? ⟨S, i0 + i, none⟩ = some u := fun i hi u hu => by
    have := c (k * 4 + i) u (by rw [opCells_at os k i o hk hi]; exact hu)
    rw [hi0] at this
    rwa [show (⟨S, 0, none⟩ : Addr).add (i0 + i) = ⟨S, i0 + i, none⟩ by unfold Addr.add; split <;> simp_all] at this
  exact ⟨e 0 (by omega) _ rfl, e 1 (by omega) _ rfl, e 2 (by omega) _ rfl, e 3 (by omega) _ rfl⟩
set_option maxHeartbeats 400000 in
/-- almonernum.Bytes: the copy with its marks, owned. -/
theorem bytesO_any (A : Option Addr) (n c : Nat) (l : List Nat) (w : World) (hn : n ≤ 140737488351232) (hr : Rd w 1 A n (u8s l)) :
    Calls Tryd.prog 18 #[.slice A n c] w fun e w' => ∃ g, e = .returned (.slice (some ⟨g, 0, none⟩) n (n + 6)) ∧ g = w.heap.size ∧ Own w' w.heap.size 5 1 (some ⟨g, 0, none⟩) (n + 6) (n + 6) (u8s (l ++ marks6)) ∧ Ext w w' := by
  go_enter Tryd.func18, Tryd.ntmps18
  go_wp2_with fail
  obtain ⟨w1, hrun, hown, hx, hsz⟩ := run_mk (w := w) eltU8 w.heap.size .i64 .i64 ((n : Int) + 6) (by omega) (by omega) (by omega) (Nat.le_refl _)
  refine upon_ok hrun ?_
  clear hrun
  rw [show ((n : Int) + 6).toNat = n + 6 by omega] at hown ⊢
  go_wp2_with (at_builtin; refine held ?_)
  refine Held.go (wp_app eltU8 hown (hr.ext hx) (u8s_one l) (by omega) (.inl (by omega)) (by omega) _ _ rfl rfl rfl rfl ?_)
  intro A2 c2 w2 hown2 hg2 _ hfit
  simp only [Nat.zero_add, List.nil_append] at hown2 hfit
  obtain ⟨rfl, rfl⟩ := hfit (by omega)
  clear hfit
  go_wp2_with (at_builtin; refine held ?_)
  have hs2 : w.heap.size + 1 ≤ w2.heap.size := by have := hg2.size; omega
  refine Held.go (wp_app (m := 6) (news := u8s marks6) eltU8 (hown2.alloc _) (Rd.new _ _ _ _) (u8s_one marks6) (by omega) (.inl (by omega)) (by simp; omega) _ _ rfl rfl rfl rfl ?_)
  intro A3 c3 w3 hown3 hg3 _ hfit
  obtain ⟨rfl, rfl⟩ := hfit (by omega)
  clear hfit
  have hx2 : Ext w w2 := hg2.ext hx (by simp)
  have hx3 : Ext w w3 := hg3.ext (hx2.alloc _) (by simp)
  clear hown2 hg2 hown hg3
  go_wp2_with fail
  go_ret
  refine ⟨_, rfl, rfl, ?_, hx3⟩
  rw [u8s_append]
  exact hown3
end Go.Proofs.YtelnnlfbfbbnaaaDoor
