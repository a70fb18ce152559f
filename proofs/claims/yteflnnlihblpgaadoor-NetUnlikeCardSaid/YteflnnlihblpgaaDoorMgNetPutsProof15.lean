/-
  Package order: Get, walked.
-/
import Derived.Test.YteflnnlihblpgaaDoorMgNetPutsProof14
namespace Go.Proofs.YteflnnlihblpgaaDoor
set_option maxRecDepth 100000
open Go.RowKit
set_option linter.unusedVariables false
/-- What Get answers: the entry whose bytes they are, or an error. -/
def GetOut (l : List Nat) (base : Nat) (bad good : Value) (x : Ending) (w' : World) : Prop :=
  (∃ s : EnS, s.e.form = true ∧ l = s.e.put ∧ x = .returned (.tuple #[.agg #[.int .i64 s.e.cl, .int .i64 s.e.nu, .int .i64 s.e.kd, .int .i64 s.e.id, .int .i64 s.e.sk, .int .i64 s.e.sq, .int .i64 s.e.st, .int .i64 s.e.pol, .slice s.A s.n s.c, .int .i64 s.e.at_], good]) ∧ s.Lies w' ∧ s.Mine base w') ∨
  ((∀ e : En, e.form = true → l ≠ e.put) ∧ x = .returned (.tuple #[.agg #[.int .i64 0, .int .i64 0, .int .i64 0, .int .i64 0, .int .i64 0, .int .i64 0, .int .i64 0, .int .i64 0, .slice none 0 0, .int .i64 0], bad]))
/-- A number of an array is put in its place. -/
theorem pad_set (ns : List Int) (v : Int) (k : Nat) (h : ns.length = k) (hk : k < 10) : (ns ++ List.replicate (10 - k) 0).set k v = (ns ++ [v]) ++ List.replicate (10 - (k + 1)) 0 := by
  subst h
  rw [List.set_append_right _ _ (Nat.le_refl _), Nat.sub_self, show 10 - ns.length = (10 - (ns.length + 1)) + 1 by omega, List.replicate_succ, List.set_cons_zero, List.append_assoc]
  rfl
theorem pad_at (ns : List Int) (k : Nat) (h : ns.length = k) (hk : k < 10) : (ints (ns ++ List.replicate (10 - ns.length) 0))[k]? = some (.int .i64 0) := by
  subst h
  unfold ints
  rw [List.getElem?_map, List.getElem?_append_right (Nat.le_refl _), Nat.sub_self, show 10 - ns.length = (10 - (ns.length + 1)) + 1 by omega, List.replicate_succ]
  rfl
theorem heap_drew {w : World} {b : Nat} {o : Obj} (h : w.heap[b]? = some o) : w.drew.heap[b]? = some o := h
theorem st10 {W : World} {rb : Nat} {c0 c1 c2 c3 c4 c5 c6 c7 c8 c9 : Value} {t : TypeId} (h : W.heap[rb]? = some (.cells #[c0, c1, c2, c3, c4, c5, c6, c7, c8, c9] t (0, 0))) (v0 v1 v2 v3 v4 v5 v6 v7 v8 v9 : Value) :
    ((((((((((W.setCell ⟨rb, 0, none⟩ v0).setCell ⟨rb, 1, none⟩ v1).setCell ⟨rb, 2, none⟩ v2).setCell ⟨rb, 3, none⟩ v3).setCell ⟨rb, 4, none⟩ v4).setCell ⟨rb, 5, none⟩ v5).setCell ⟨rb, 6, none⟩ v6).setCell ⟨rb, 7, none⟩ v7).setCell ⟨rb, 8, none⟩ v8).setCell ⟨rb, 9, none⟩ v9).heap[rb]? = some (.cells #[v0, v1, v2, v3, v4, v5, v6, v7, v8, v9] t (0, 0)) ∧ Fr W ((((((((((W.setCell ⟨rb, 0, none⟩ v0).setCell ⟨rb, 1, none⟩ v1).setCell ⟨rb, 2, none⟩ v2).setCell ⟨rb, 3, none⟩ v3).setCell ⟨rb, 4, none⟩ v4).setCell ⟨rb, 5, none⟩ v5).setCell ⟨rb, 6, none⟩ v6).setCell ⟨rb, 7, none⟩ v7).setCell ⟨rb, 8, none⟩ v8).setCell ⟨rb, 9, none⟩ v9) (· = rb) := by
  have h0 : (W.setCell ⟨rb, 0, none⟩ v0).heap[rb]? = some (.cells #[v0, c1, c2, c3, c4, c5, c6, c7, c8, c9] t (0, 0)) := heap_setCell_same W rb 0 _ _ v0 h
  have f0 : Fr W (W.setCell ⟨rb, 0, none⟩ v0) (· = rb) := Fr.store W ⟨rb, 0, none⟩ v0
  have h1 : ((W.setCell ⟨rb, 0, none⟩ v0).setCell ⟨rb, 1, none⟩ v1).heap[rb]? = some (.cells #[v0, v1, c2, c3, c4, c5, c6, c7, c8, c9] t (0, 0)) := heap_setCell_same (W.setCell ⟨rb, 0, none⟩ v0) rb 1 _ _ v1 h0
  have f1 : Fr W ((W.setCell ⟨rb, 0, none⟩ v0).setCell ⟨rb, 1, none⟩ v1) (· = rb) := (f0).trans (Fr.store (W.setCell ⟨rb, 0, none⟩ v0) ⟨rb, 1, none⟩ v1) (fun _ _ h => h)
  have h2 : (((W.setCell ⟨rb, 0, none⟩ v0).setCell ⟨rb, 1, none⟩ v1).setCell ⟨rb, 2, none⟩ v2).heap[rb]? = some (.cells #[v0, v1, v2, c3, c4, c5, c6, c7, c8, c9] t (0, 0)) := heap_setCell_same ((W.setCell ⟨rb, 0, none⟩ v0).setCell ⟨rb, 1, none⟩ v1) rb 2 _ _ v2 h1
  have f2 : Fr W (((W.setCell ⟨rb, 0, none⟩ v0).setCell ⟨rb, 1, none⟩ v1).setCell ⟨rb, 2, none⟩ v2) (· = rb) := (f1).trans (Fr.store ((W.setCell ⟨rb, 0, none⟩ v0).setCell ⟨rb, 1, none⟩ v1) ⟨rb, 2, none⟩ v2) (fun _ _ h => h)
  have h3 : ((((W.setCell ⟨rb, 0, none⟩ v0).setCell ⟨rb, 1, none⟩ v1).setCell ⟨rb, 2, none⟩ v2).setCell ⟨rb, 3, none⟩ v3).heap[rb]? = some (.cells #[v0, v1, v2, v3, c4, c5, c6, c7, c8, c9] t (0, 0)) := heap_setCell_same (((W.setCell ⟨rb, 0, none⟩ v0).setCell ⟨rb, 1, none⟩ v1).setCell ⟨rb, 2, none⟩ v2) rb 3 _ _ v3 h2
  have f3 : Fr W ((((W.setCell ⟨rb, 0, none⟩ v0).setCell ⟨rb, 1, none⟩ v1).setCell ⟨rb, 2, none⟩ v2).setCell ⟨rb, 3, none⟩ v3) (· = rb) := (f2).trans (Fr.store (((W.setCell ⟨rb, 0, none⟩ v0).setCell ⟨rb, 1, none⟩ v1).setCell ⟨rb, 2, none⟩ v2) ⟨rb, 3, none⟩ v3) (fun _ _ h => h)
  have h4 : (((((W.setCell ⟨rb, 0, none⟩ v0).setCell ⟨rb, 1, none⟩ v1).setCell ⟨rb, 2, none⟩ v2).setCell ⟨rb, 3, none⟩ v3).setCell ⟨rb, 4, none⟩ v4).heap[rb]? = some (.cells #[v0, v1, v2, v3, v4, c5, c6, c7, c8, c9] t (0, 0)) := heap_setCell_same ((((W.setCell ⟨rb, 0, none⟩ v0).setCell ⟨rb, 1, none⟩ v1).setCell ⟨rb, 2, none⟩ v2).setCell ⟨rb, 3, none⟩ v3) rb 4 _ _ v4 h3
  have f4 : Fr W (((((W.setCell ⟨rb, 0, none⟩ v0).setCell ⟨rb, 1, none⟩ v1).setCell ⟨rb, 2, none⟩ v2).setCell ⟨rb, 3, none⟩ v3).setCell ⟨rb, 4, none⟩ v4) (· = rb) := (f3).trans (Fr.store ((((W.setCell ⟨rb, 0, none⟩ v0).setCell ⟨rb, 1, none⟩ v1).setCell ⟨rb, 2, none⟩ v2).setCell ⟨rb, 3, none⟩ v3) ⟨rb, 4, none⟩ v4) (fun _ _ h => h)
  have h5 : ((((((W.setCell ⟨rb, 0, none⟩ v0).setCell ⟨rb, 1, none⟩ v1).setCell ⟨rb, 2, none⟩ v2).setCell ⟨rb, 3, none⟩ v3).setCell ⟨rb, 4, none⟩ v4).setCell ⟨rb, 5, none⟩ v5).heap[rb]? = some (.cells #[v0, v1, v2, v3, v4, v5, c6, c7, c8, c9] t (0, 0)) := heap_setCell_same (((((W.setCell ⟨rb, 0, none⟩ v0).setCell ⟨rb, 1, none⟩ v1).setCell ⟨rb, 2, none⟩ v2).setCell ⟨rb, 3, none⟩ v3).setCell ⟨rb, 4, none⟩ v4) rb 5 _ _ v5 h4
  have f5 : Fr W ((((((W.setCell ⟨rb, 0, none⟩ v0).setCell ⟨rb, 1, none⟩ v1).setCell ⟨rb, 2, none⟩ v2).setCell ⟨rb, 3, none⟩ v3).setCell ⟨rb, 4, none⟩ v4).setCell ⟨rb, 5, none⟩ v5) (· = rb) := (f4).trans (Fr.store (((((W.setCell ⟨rb, 0, none⟩ v0).setCell ⟨rb, 1, none⟩ v1).setCell ⟨rb, 2, none⟩ v2).setCell ⟨rb, 3, none⟩ v3).setCell ⟨rb, 4, none⟩ v4) ⟨rb, 5, none⟩ v5) (fun _ _ h => h)
  have h6 : (((((((W.setCell ⟨rb, 0, none⟩ v0).setCell ⟨rb, 1, none⟩ v1).setCell ⟨rb, 2, none⟩ v2).setCell ⟨rb, 3, none⟩ v3).setCell ⟨rb, 4, none⟩ v4).setCell ⟨rb, 5, none⟩ v5).setCell ⟨rb, 6, none⟩ v6).heap[rb]? = some (.cells #[v0, v1, v2, v3, v4, v5, v6, c7, c8, c9] t (0, 0)) := heap_setCell_same ((((((W.setCell ⟨rb, 0, none⟩ v0).setCell ⟨rb, 1, none⟩ v1).setCell ⟨rb, 2, none⟩ v2).setCell ⟨rb, 3, none⟩ v3).setCell ⟨rb, 4, none⟩ v4).setCell ⟨rb, 5, none⟩ v5) rb 6 _ _ v6 h5
  have f6 : Fr W (((((((W.setCell ⟨rb, 0, none⟩ v0).setCell ⟨rb, 1, none⟩ v1).setCell ⟨rb, 2, none⟩ v2).setCell ⟨rb, 3, none⟩ v3).setCell ⟨rb, 4, none⟩ v4).setCell ⟨rb, 5, none⟩ v5).setCell ⟨rb, 6, none⟩ v6) (· = rb) := (f5).trans (Fr.store ((((((W.setCell ⟨rb, 0, none⟩ v0).setCell ⟨rb, 1, none⟩ v1).setCell ⟨rb, 2, none⟩ v2).setCell ⟨rb, 3, none⟩ v3).setCell ⟨rb, 4, none⟩ v4).setCell ⟨rb, 5, none⟩ v5) ⟨rb, 6, none⟩ v6) (fun _ _ h => h)
  have h7 : ((((((((W.setCell ⟨rb, 0, none⟩ v0).setCell ⟨rb, 1, none⟩ v1).setCell ⟨rb, 2, none⟩ v2).setCell ⟨rb, 3, none⟩ v3).setCell ⟨rb, 4, none⟩ v4).setCell ⟨rb, 5, none⟩ v5).setCell ⟨rb, 6, none⟩ v6).setCell ⟨rb, 7, none⟩ v7).heap[rb]? = some (.cells #[v0, v1, v2, v3, v4, v5, v6, v7, c8, c9] t (0, 0)) := heap_setCell_same (((((((W.setCell ⟨rb, 0, none⟩ v0).setCell ⟨rb, 1, none⟩ v1).setCell ⟨rb, 2, none⟩ v2).setCell ⟨rb, 3, none⟩ v3).setCell ⟨rb, 4, none⟩ v4).setCell ⟨rb, 5, none⟩ v5).setCell ⟨rb, 6, none⟩ v6) rb 7 _ _ v7 h6
  have f7 : Fr W ((((((((W.setCell ⟨rb, 0, none⟩ v0).setCell ⟨rb, 1, none⟩ v1).setCell ⟨rb, 2, none⟩ v2).setCell ⟨rb, 3, none⟩ v3).setCell ⟨rb, 4, none⟩ v4).setCell ⟨rb, 5, none⟩ v5).setCell ⟨rb, 6, none⟩ v6).setCell ⟨rb, 7, none⟩ v7) (· = rb) := (f6).trans (Fr.store (((((((W.setCell ⟨rb, 0, none⟩ v0).setCell ⟨rb, 1, none⟩ v1).setCell ⟨rb, 2, none⟩ v2).setCell ⟨rb, 3, none⟩ v3).setCell ⟨rb, 4, none⟩ v4).setCell ⟨rb, 5, none⟩ v5).setCell ⟨rb, 6, none⟩ v6) ⟨rb, 7, none⟩ v7) (fun _ _ h => h)
  have h8 : (((((((((W.setCell ⟨rb, 0, none⟩ v0).setCell ⟨rb, 1, none⟩ v1).setCell ⟨rb, 2, none⟩ v2).setCell ⟨rb, 3, none⟩ v3).setCell ⟨rb, 4, none⟩ v4).setCell ⟨rb, 5, none⟩ v5).setCell ⟨rb, 6, none⟩ v6).setCell ⟨rb, 7, none⟩ v7).setCell ⟨rb, 8, none⟩ v8).heap[rb]? = some (.cells #[v0, v1, v2, v3, v4, v5, v6, v7, v8, c9] t (0, 0)) := heap_setCell_same ((((((((W.setCell ⟨rb, 0, none⟩ v0).setCell ⟨rb, 1, none⟩ v1).setCell ⟨rb, 2, none⟩ v2).setCell ⟨rb, 3, none⟩ v3).setCell ⟨rb, 4, none⟩ v4).setCell ⟨rb, 5, none⟩ v5).setCell ⟨rb, 6, none⟩ v6).setCell ⟨rb, 7, none⟩ v7) rb 8 _ _ v8 h7
  have f8 : Fr W (((((((((W.setCell ⟨rb, 0, none⟩ v0).setCell ⟨rb, 1, none⟩ v1).setCell ⟨rb, 2, none⟩ v2).setCell ⟨rb, 3, none⟩ v3).setCell ⟨rb, 4, none⟩ v4).setCell ⟨rb, 5, none⟩ v5).setCell ⟨rb, 6, none⟩ v6).setCell ⟨rb, 7, none⟩ v7).setCell ⟨rb, 8, none⟩ v8) (· = rb) := (f7).trans (Fr.store ((((((((W.setCell ⟨rb, 0, none⟩ v0).setCell ⟨rb, 1, none⟩ v1).setCell ⟨rb, 2, none⟩ v2).setCell ⟨rb, 3, none⟩ v3).setCell ⟨rb, 4, none⟩ v4).setCell ⟨rb, 5, none⟩ v5).setCell ⟨rb, 6, none⟩ v6).setCell ⟨rb, 7, none⟩ v7) ⟨rb, 8, none⟩ v8) (fun _ _ h => h)
  have h9 : ((((((((((W.setCell ⟨rb, 0, none⟩ v0).setCell ⟨rb, 1, none⟩ v1).setCell ⟨rb, 2, none⟩ v2).setCell ⟨rb, 3, none⟩ v3).setCell ⟨rb, 4, none⟩ v4).setCell ⟨rb, 5, none⟩ v5).setCell ⟨rb, 6, none⟩ v6).setCell ⟨rb, 7, none⟩ v7).setCell ⟨rb, 8, none⟩ v8).setCell ⟨rb, 9, none⟩ v9).heap[rb]? = some (.cells #[v0, v1, v2, v3, v4, v5, v6, v7, v8, v9] t (0, 0)) := heap_setCell_same (((((((((W.setCell ⟨rb, 0, none⟩ v0).setCell ⟨rb, 1, none⟩ v1).setCell ⟨rb, 2, none⟩ v2).setCell ⟨rb, 3, none⟩ v3).setCell ⟨rb, 4, none⟩ v4).setCell ⟨rb, 5, none⟩ v5).setCell ⟨rb, 6, none⟩ v6).setCell ⟨rb, 7, none⟩ v7).setCell ⟨rb, 8, none⟩ v8) rb 9 _ _ v9 h8
  have f9 : Fr W ((((((((((W.setCell ⟨rb, 0, none⟩ v0).setCell ⟨rb, 1, none⟩ v1).setCell ⟨rb, 2, none⟩ v2).setCell ⟨rb, 3, none⟩ v3).setCell ⟨rb, 4, none⟩ v4).setCell ⟨rb, 5, none⟩ v5).setCell ⟨rb, 6, none⟩ v6).setCell ⟨rb, 7, none⟩ v7).setCell ⟨rb, 8, none⟩ v8).setCell ⟨rb, 9, none⟩ v9) (· = rb) := (f8).trans (Fr.store (((((((((W.setCell ⟨rb, 0, none⟩ v0).setCell ⟨rb, 1, none⟩ v1).setCell ⟨rb, 2, none⟩ v2).setCell ⟨rb, 3, none⟩ v3).setCell ⟨rb, 4, none⟩ v4).setCell ⟨rb, 5, none⟩ v5).setCell ⟨rb, 6, none⟩ v6).setCell ⟨rb, 7, none⟩ v7).setCell ⟨rb, 8, none⟩ v8) ⟨rb, 9, none⟩ v9) (fun _ _ h => h)
  exact ⟨h9, f9⟩
/-- The reader on its way, the array, the result's place. -/
structure GS (w wr : World) (g ab rb : Nat) (A : Option Addr) (n c at_ : Nat) (l : List Nat) (ns : List Int) : Prop where
  rs : RdS wr g A n c at_ l
  arr : wr.heap[ab]? = some (.cells (ints (ns ++ List.replicate (10 - ns.length) 0)).toArray 100 (0, 0))
  res : wr.heap[rb]? = some (.cells #[.int .i64 0, .int .i64 0, .int .i64 0, .int .i64 0, .int .i64 0, .int .i64 0, .int .i64 0, .int .i64 0, .slice none 0 0, .int .i64 0] 29 (0, 0))
  x : Ext w wr
  lt : w.heap.size ≤ g ∧ w.heap.size ≤ ab ∧ w.heap.size ≤ rb ∧ g ≠ ab ∧ g ≠ rb ∧ ab ≠ rb
  nA : 0 < n → ∀ a, A = some a → w.heap.size ≤ a.block ∧ a.block ≠ ab
  p : Part l at_ ns
theorem ints_set (m : List Int) (k : Nat) (v : Int) : (ints m).toArray.setIfInBounds k (.int .i64 v) = (ints (m.set k v)).toArray := by
  simp [ints, List.map_set]
section
variable {w wr w' : World} {g ab rb n c at_ : Nat} {A : Option Addr} {l : List Nat} {ns : List Int}
theorem GS.read (h : GS w wr g ab rb A n c at_ l ns) {x k : Nat} (hr : Wr.rd (l.drop at_) = some (x, k)) (hx : x ≤ 1099511627776) (hl : ns.length < 10) :
    GS w ((wr.setCell ⟨g, 1, none⟩ (.int .i64 ((at_ + k : Nat) : Int))).setCell ⟨ab, ns.length, none⟩ (.int .i64 (x : Int))) g ab rb A n c (at_ + k) l (ns ++ [(x : Int)]) := by
  have f1 := Fr.store wr ⟨g, 1, none⟩ (.int .i64 ((at_ + k : Nat) : Int))
  have f2 := Fr.store (wr.setCell ⟨g, 1, none⟩ (.int .i64 ((at_ + k : Nat) : Int))) ⟨ab, ns.length, none⟩ (.int .i64 (x : Int))
  obtain ⟨l1, l2, l3, l4, l5, l6⟩ := h.lt
  have hkb := Wr.rd_count hr
  have hn := h.rs.len
  have hle := h.rs.le
  rw [List.length_drop] at hkb
  have h1 := h.rs.put (at_ + k) (by omega)
  have ba : (wr.setCell ⟨g, 1, none⟩ (.int .i64 ((at_ + k : Nat) : Int))).heap[ab]? = _ := (f1.block ab (block_lt h.arr) (fun e => l4 e.symm)).trans h.arr
  refine ⟨h1.frm f2 (fun e => l4 e) (fun h0 a ha e => (h.nA h0 a ha).2 e), ?_, ?_, ?_, ⟨l1, l2, l3, l4, l5, l6⟩, h.nA, h.p.next h.rs.byte hr hx⟩
  · have b2 := heap_setCell_same _ ab ns.length _ _ (.int .i64 (x : Int)) ba
    rw [ints_set, pad_set ns _ ns.length rfl hl] at b2
    rw [List.length_append, List.length_singleton]
    exact b2
  · exact (f2.block rb (by have := f1.size; have := block_lt h.res; omega) (fun e => l6 e.symm)).trans ((f1.block rb (block_lt h.res) (fun e => l5 e.symm)).trans h.res)
  · exact Fr.ext (Fr.ext h.x f1 (fun i e => by have e : i = g := e; omega)) f2 (fun i e => by have e : i = ab := e; omega)
theorem GS.ext (h : GS w wr g ab rb A n c at_ l ns) (hx : Ext wr w') : GS w w' g ab rb A n c at_ l ns :=
  ⟨h.rs.ext hx, (hx.block _ (block_lt h.arr)).trans h.arr, (hx.block _ (block_lt h.res)).trans h.res, h.x.trans hx, h.lt, h.nA, h.p⟩
end
theorem Own.away_t {w : World} {b n c z g : Nat} {e t : TypeId} {A : Option Addr} {xs : List Value} {cs : Array Value} {fr : Nat × Nat} (h : Own w b e z A n c xs) (hg : w.heap[g]? = some (.cells cs t fr)) (hne : e ≠ t) : ∀ a, A = some a → a.block ≠ g := by
  intro a ha he
  rcases h.2 with ⟨h1, _⟩ | ⟨g', cap, cur, h1, _, hgg, _⟩
  · injection h1 with h1
    rw [ha] at h1
    cases h1
  · injection h1 with h1
    rw [ha] at h1
    injection h1 with h1
    subst h1
    have he : g' = g := he
    rw [he, hg] at hgg
    simp only [Option.some.injEq, Obj.cells.injEq] at hgg
    exact hne hgg.2.1.symm
/-- The reader on its way, the entry that grows, the result's place. -/
structure GC (w wr : World) (g eb rb : Nat) (A : Option Addr) (n c at_ : Nat) (l : List Nat) (a0 a1 a2 a3 a4 a5 a6 a7 a8 : Int) (B : Option Addr) (j d : Nat) (ts : List Tk) (ns : List Int) : Prop where
  rs : RdS wr g A n c at_ l
  ent : wr.heap[eb]? = some (.cells #[.int .i64 a0, .int .i64 a1, .int .i64 a2, .int .i64 a4, .int .i64 a5, .int .i64 a6, .int .i64 a7, .int .i64 a8, .slice B j d, .int .i64 a3] 29 (0, 0))
  own : Own wr w.heap.size 47 4 B j d (trows ts).flatten
  res : wr.heap[rb]? = some (.cells #[.int .i64 0, .int .i64 0, .int .i64 0, .int .i64 0, .int .i64 0, .int .i64 0, .int .i64 0, .int .i64 0, .slice none 0 0, .int .i64 0] 29 (0, 0))
  x : Ext w wr
  lt : w.heap.size ≤ g ∧ w.heap.size ≤ eb ∧ w.heap.size ≤ rb ∧ g ≠ eb ∧ g ≠ rb ∧ eb ≠ rb
  nA : 0 < n → ∀ a, A = some a → w.heap.size ≤ a.block ∧ a.block ≠ eb
  nB : 0 < n → ∀ a b, A = some a → B = some b → a.block ≠ b.block
  p : Part l at_ ns
section
variable {w wr w' : World} {g eb rb n c at_ j d : Nat} {A B : Option Addr} {l : List Nat} {ns : List Int} {ts : List Tk} {a0 a1 a2 a3 a4 a5 a6 a7 a8 : Int}
theorem GC.fr (h : GC w wr g eb rb A n c at_ l a0 a1 a2 a3 a4 a5 a6 a7 a8 B j d ts ns) {q : Nat} (hf : Fr wr w' (· = q)) (h1 : q ≠ g) (h2 : q ≠ eb) (h3 : q ≠ rb) (h4 : 0 < n → ∀ a, A = some a → a.block ≠ q) (h5 : ∀ a, B = some a → a.block ≠ q) (h6 : w.heap.size ≤ q) : GC w w' g eb rb A n c at_ l a0 a1 a2 a3 a4 a5 a6 a7 a8 B j d ts ns :=
  ⟨h.rs.frm hf (fun e => h1 e.symm) (fun h0 a ha e => h4 h0 a ha e), (hf.block _ (block_lt h.ent) (fun e => h2 e.symm)).trans h.ent, hf.own h.own (fun a ha e => h5 a ha e), (hf.block _ (block_lt h.res) (fun e => h3 e.symm)).trans h.res, Fr.ext h.x hf (fun i e => by have e : i = q := e; omega), h.lt, h.nA, h.nB, h.p⟩
theorem GC.ext (h : GC w wr g eb rb A n c at_ l a0 a1 a2 a3 a4 a5 a6 a7 a8 B j d ts ns) (hx : Ext wr w') : GC w w' g eb rb A n c at_ l a0 a1 a2 a3 a4 a5 a6 a7 a8 B j d ts ns :=
  ⟨h.rs.ext hx, (hx.block _ (block_lt h.ent)).trans h.ent, h.own.ext hx, (hx.block _ (block_lt h.res)).trans h.res, h.x.trans hx, h.lt, h.nA, h.nB, h.p⟩
theorem GC.read (h : GC w wr g eb rb A n c at_ l a0 a1 a2 a3 a4 a5 a6 a7 a8 B j d ts ns) {x k : Nat} (hr : Wr.rd (l.drop at_) = some (x, k)) (hx : x ≤ 1099511627776) :
    GC w (wr.setCell ⟨g, 1, none⟩ (.int .i64 ((at_ + k : Nat) : Int))) g eb rb A n c (at_ + k) l a0 a1 a2 a3 a4 a5 a6 a7 a8 B j d ts (ns ++ [(x : Int)]) := by
  have f1 := Fr.store wr ⟨g, 1, none⟩ (.int .i64 ((at_ + k : Nat) : Int))
  obtain ⟨l1, l2, l3, l4, l5, l6⟩ := h.lt
  have hkb := Wr.rd_count hr
  have hn := h.rs.len
  have hle := h.rs.le
  rw [List.length_drop] at hkb
  exact ⟨h.rs.put (at_ + k) (by omega), (f1.block _ (block_lt h.ent) (fun e => l4 e.symm)).trans h.ent, f1.own h.own (fun a ha e => h.own.away_t h.rs.blk (by decide) a ha e), (f1.block _ (block_lt h.res) (fun e => l5 e.symm)).trans h.res, Fr.ext h.x f1 (fun i e => by have e : i = g := e; omega), h.lt, h.nA, h.nB, h.p.next h.rs.byte hr hx⟩
/-- A task more. -/
theorem GC.app (h : GC w wr g eb rb A n c at_ l a0 a1 a2 a3 a4 a5 a6 a7 a8 B j d ts ns) (hg : Grows wr w' B) {B' : Option Addr} {d' : Nat} {tk : Tk} (ho : Own w' w.heap.size 47 4 B' (j + 1) d' ((trows ts).flatten ++ trow tk)) (hB : B' = B ∨ B' = some ⟨wr.heap.size, 0, none⟩) :
    GC w (w'.setCell ⟨eb, 8, none⟩ (.slice B' (j + 1) d')) g eb rb A n c at_ l a0 a1 a2 a3 a4 a5 a6 a7 a8 B' (j + 1) d' (ts ++ [tk]) ns := by
  have f1 := Fr.grows hg
  have f2 := Fr.store w' ⟨eb, 8, none⟩ (.slice B' (j + 1) d')
  obtain ⟨l1, l2, l3, l4, l5, l6⟩ := h.lt
  have nof : ∀ {q : Nat}, (∀ b, B = some b → b.block ≠ q) → ¬ B.map (·.block) = some q := fun hq e => by
    cases B with
    | none => cases e
    | some b => exact hq b rfl (by simpa using e)
  have hrs := h.rs.frm f1 (nof (h.own.away_t h.rs.blk (by decide))) (fun h0 a ha => nof (fun b hb e => h.nB h0 a b ha hb e.symm))
  have hent := (f1.block _ (block_lt h.ent) (nof (h.own.away_t h.ent (by decide)))).trans h.ent
  have hres := (f1.block _ (block_lt h.res) (nof (h.own.away_t h.res (by decide)))).trans h.res
  have hx : Ext w w' := Fr.ext h.x f1 (fun i e => h.own.base_le i e)
  have hnB : 0 < n → ∀ a b, A = some a → B' = some b → a.block ≠ b.block := fun h0 a b ha hb => by
    rcases hB with e | e
    · rw [e] at hb; exact h.nB h0 a b ha hb
    · rw [e] at hb
      injection hb with hb
      subst hb
      obtain ⟨a', ha', hlt, _⟩ := h.rs.rd.2 h0
      rw [ha] at ha'
      injection ha' with ha'
      subst ha'
      show a.block ≠ wr.heap.size
      omega
  refine ⟨hrs.frm f2 (fun e => l4 e) (fun h0 a ha e => (h.nA h0 a ha).2 e), ?_, ?_, (f2.block _ (block_lt hres) (fun e => l6 e.symm)).trans hres, Fr.ext hx f2 (fun i e => by have e : i = eb := e; omega), h.lt, h.nA, hnB, h.p⟩
  · exact heap_setCell_same w' eb 8 _ _ _ hent
  · have e1 : (trows (ts ++ [tk])).flatten = (trows ts).flatten ++ trow tk := by simp [trows]
    rw [e1]
    exact f2.own ho (fun a ha e => ho.away_t hent (by decide) a ha e)
end
theorem tksOf_snoc : ∀ (k : Nat) (m : List Int) (a b c d : Int), m.length = 4 * k → tksOf (m ++ [a, b, c, d]) = tksOf m ++ [⟨a, b, c, d⟩]
  | 0, m, a, b, c, d, h => by
    have : m = [] := List.eq_nil_of_length_eq_zero (by omega)
    subst this
    rfl
  | k + 1, x :: y :: z :: v :: m, a, b, c, d, h => by
    have h1 := tksOf_snoc k m a b c d (by simp at h; omega)
    show tksOf (x :: y :: z :: v :: (m ++ [a, b, c, d])) = _
    rw [tksOf, h1]
    rfl
  | k + 1, [], _, _, _, _, h => by simp at h
  | k + 1, [_], _, _, _, _, h => by simp at h; omega
  | k + 1, [_, _], _, _, _, _, h => by simp at h; omega
  | k + 1, [_, _, _], _, _, _, _, h => by simp at h; omega
theorem pad4_set (ns : List Int) (v : Int) (k : Nat) (h : ns.length = k) (hk : k < 4) : (ns ++ List.replicate (4 - k) 0).set k v = (ns ++ [v]) ++ List.replicate (4 - (k + 1)) 0 := by
  subst h
  rw [List.set_append_right _ _ (Nat.le_refl _), Nat.sub_self, show 4 - ns.length = (4 - (ns.length + 1)) + 1 by omega, List.replicate_succ, List.set_cons_zero, List.append_assoc]
  rfl
theorem pad4_at (ns : List Int) (k : Nat) (h : ns.length = k) (hk : k < 4) : (ints (ns ++ List.replicate (4 - ns.length) 0))[k]? = some (.int .i64 0) := by
  subst h
  unfold ints
  rw [List.getElem?_map, List.getElem?_append_right (Nat.le_refl _), Nat.sub_self, show 4 - ns.length = (4 - (ns.length + 1)) + 1 by omega, List.replicate_succ]
  rfl
theorem idx4_0 (tb : Nat) (W : World) : (Instr.index 109 (.agg #[.pointer (some ⟨tb, 0, none⟩), .pointer (some ⟨tb, 1, none⟩), .pointer (some ⟨tb, 2, none⟩), .pointer (some ⟨tb, 3, none⟩)]) (.int .i64 0)).run Tryd.prog W = .ok (.pointer (some ⟨tb, 0, none⟩)) W := by kernel_rfl
theorem idx4_1 (tb : Nat) (W : World) : (Instr.index 109 (.agg #[.pointer (some ⟨tb, 0, none⟩), .pointer (some ⟨tb, 1, none⟩), .pointer (some ⟨tb, 2, none⟩), .pointer (some ⟨tb, 3, none⟩)]) (.int .i64 1)).run Tryd.prog W = .ok (.pointer (some ⟨tb, 1, none⟩)) W := by kernel_rfl
theorem idx4_2 (tb : Nat) (W : World) : (Instr.index 109 (.agg #[.pointer (some ⟨tb, 0, none⟩), .pointer (some ⟨tb, 1, none⟩), .pointer (some ⟨tb, 2, none⟩), .pointer (some ⟨tb, 3, none⟩)]) (.int .i64 2)).run Tryd.prog W = .ok (.pointer (some ⟨tb, 2, none⟩)) W := by kernel_rfl
theorem idx4_3 (tb : Nat) (W : World) : (Instr.index 109 (.agg #[.pointer (some ⟨tb, 0, none⟩), .pointer (some ⟨tb, 1, none⟩), .pointer (some ⟨tb, 2, none⟩), .pointer (some ⟨tb, 3, none⟩)]) (.int .i64 3)).run Tryd.prog W = .ok (.pointer (some ⟨tb, 3, none⟩)) W := by kernel_rfl
theorem idx4 (tb i : Nat) (hi : i < 4) (W : World) : (Instr.index 109 (.agg #[.pointer (some ⟨tb, 0, none⟩), .pointer (some ⟨tb, 1, none⟩), .pointer (some ⟨tb, 2, none⟩), .pointer (some ⟨tb, 3, none⟩)]) (.int .i64 (i : Int))).run Tryd.prog W = .ok (.pointer (some ⟨tb, i, none⟩)) W := by
  have h : i = 0 ∨ i = 1 ∨ i = 2 ∨ i = 3 := by omega
  rcases h with rfl | rfl | rfl | rfl
  · exact idx4_0 tb W
  · exact idx4_1 tb W
  · exact idx4_2 tb W
  · exact idx4_3 tb W
theorem four_of {ns : List Int} (h : ns.length = 4) : ∃ a0 a1 a2 a3, ns = [a0, a1, a2, a3] := by
  match ns, h with
  | [a0, a1, a2, a3], _ => exact ⟨a0, a1, a2, a3, rfl⟩
theorem rd_task (t : Tk) (w : World) : Rd (w.alloc (.cells #[.int .i64 t.C, .int .i64 t.P, .int .i64 t.D, .int .i64 t.S] 47)) 4 (some ⟨w.heap.size, 0, none⟩) 1 (trow t) :=
  ⟨rfl, fun _ => ⟨_, rfl, by rw [World.size_alloc]; exact Nat.lt_succ_self _, World.news_of_block (heap_alloc_new w _)⟩⟩

theorem ten_of {ns : List Int} (h : ns.length = 10) : ∃ a0 a1 a2 a3 a4 a5 a6 a7 a8 a9, ns = [a0, a1, a2, a3, a4, a5, a6, a7, a8, a9] := by
  match ns, h with
  | [a0, a1, a2, a3, a4, a5, a6, a7, a8, a9], _ => exact ⟨a0, a1, a2, a3, a4, a5, a6, a7, a8, a9, rfl⟩
set_option maxHeartbeats 6400000 in
theorem get_any (A : Option Addr) (n c : Nat) (l : List Nat) (w : World) (hr : Rd w 1 A n (u8s l)) (hl : ∀ x ∈ l, x < 256) (hn : n ≤ 140737488351232) {pb ps : Addr} (hB : Sen w 2 pb) (hS : Sen w 1 ps) : Calls Tryd.prog 28 #[.slice A n c] w fun x w' => GetOut l w.heap.size (.iface 149 (.pointer (some pb))) .nilIface x w' ∧ Ext w w' := by
  have HSen := Lib.hid (And.intro hB hS)
  have hnl := hr.len
  rw [u8s_len] at hnl
  have X0 := (Ext.refl w).alloc (.cells #[.int .i64 0, .int .i64 0, .int .i64 0, .int .i64 0, .int .i64 0, .int .i64 0, .int .i64 0, .int .i64 0, .slice none 0 0, .int .i64 0] 29)
  have HV := Lib.hid (And.intro (heap_alloc_new w (.cells #[.int .i64 0, .int .i64 0, .int .i64 0, .int .i64 0, .int .i64 0, .int .i64 0, .int .i64 0, .int .i64 0, .slice none 0 0, .int .i64 0] 29)) X0)
  have CR := Lib.hid (newr_any A n c l _ (hr.ext X0) hl hn)
  clear X0 hr hB hS hl
  go_enter Tryd.func28, Tryd.ntmps28
  go_upto_region 1 with (fail)
  generalize w.alloc (.cells #[.int .i64 0, .int .i64 0, .int .i64 0, .int .i64 0, .int .i64 0, .int .i64 0, .int .i64 0, .int .i64 0, .slice none 0 0, .int .i64 0] 29) = V at *
  generalize hrb : w.heap.size = rb at *
  have HRB := Lib.hid hrb
  clear hrb
  go_upto_region 2 with (go_at_call 57; refine CR.out.mono ?_; rintro e w1 ⟨g, A1, c1, rfl, hg1, rs1, nA1, x1⟩)
  have X2 := (Ext.refl w1).alloc (.cells #[.int .i64 0, .int .i64 0, .int .i64 0, .int .i64 0, .int .i64 0, .int .i64 0, .int .i64 0, .int .i64 0, .int .i64 0, .int .i64 0] 100)
  have HG : Hid (GS w (w1.alloc (.cells #[.int .i64 0, .int .i64 0, .int .i64 0, .int .i64 0, .int .i64 0, .int .i64 0, .int .i64 0, .int .i64 0, .int .i64 0, .int .i64 0] 100)) g w1.heap.size rb A1 n c1 0 l []) := Lib.hid (by
    have hs := HV.out.2.size
    have hlt := block_lt HV.out.1
    have hs1 := x1.size
    have hrb := HRB.out
    have hgl := rs1.lt
    exact ⟨rs1.ext X2, heap_alloc_new w1 _, (X2.block rb (by omega)).trans ((x1.block rb hlt).trans HV.out.1), (HV.out.2.trans x1).trans X2, ⟨by omega, by omega, by omega, by omega, by omega, by omega⟩, fun h0 a ha => by
      have h1 := nA1 a ha
      refine ⟨by omega, fun e => ?_⟩
      obtain ⟨a', ha', hlt', _⟩ := rs1.rd.2 h0
      rw [ha] at ha'
      injection ha' with ha'
      rw [ha'] at e
      omega, Part.nil⟩)
  have HSE := Lib.hid (fun W (hx : Ext w W) => And.intro (HSen.out.1.ext hx) (HSen.out.2.ext hx))
  clear CR X2 rs1 nA1 hg1 x1
  go_upto_region 3 with (fail)
  generalize w1.alloc (.cells #[.int .i64 0, .int .i64 0, .int .i64 0, .int .i64 0, .int .i64 0, .int .i64 0, .int .i64 0, .int .i64 0, .int .i64 0, .int .i64 0] 100) = W0 at *
  generalize w1.heap.size = ab at *
  go_upto_region 4 with (fail)
  go_loopw [6, 7, 8, 17] (fun _ _ _ v17 wr => ∃ (k at_ : Nat) (ns : List Int), v17 = .int .i64 (k : Int) ∧ k ≤ 10 ∧ Hid (ns.length = k ∧ GS w wr g ab rb A1 n c1 at_ l ns)) (fun _ _ _ v17 _ => 10 - (intOf v17).toNat)
  case atStart => exact ⟨0, 0, [], rfl, by omega, rfl, HG.out⟩
  case round =>
    obtain ⟨k, at_, ns, rfl, hk, HI⟩ := hrel
    clear HG
    by_cases hlt : k < 10
    · by_cases hok : ∃ x k', Wr.rd (l.drop at_) = some (x, k') ∧ x ≤ 1099511627776
      · obtain ⟨x, k', hrd, hx⟩ := hok
        have CN := Lib.hid (rnum_ok HI.out.2.rs hrd 1099511627776 (by omega))
        have HN := Lib.hid (HI.out.2.read hrd hx (by rw [HI.out.1]; exact hlt))
        have bA : (wr.setCell ⟨g, 1, none⟩ (.int .i64 ((at_ + k' : Nat) : Int))).heap[ab]? = _ := ((Fr.store wr ⟨g, 1, none⟩ (.int .i64 ((at_ + k' : Nat) : Int))).block ab (block_lt HI.out.2.arr) (fun e => HI.out.2.lt.2.2.2.1 e.symm)).trans HI.out.2.arr
        rw [HI.out.1] at HN
        have HLN := Lib.hid HI.out.1
        clear hrd
        obtain ⟨p, hp⟩ : ∃ p, at_ + k' = p := ⟨_, rfl⟩
        rw [hp] at CN HN bA
        clear hp
        have k0 : (0 : Int) ≤ k := by omega
        have k1 : (k : Int) < 10 := by omega
        go_upto_region 9 with (go_at_call 58; refine CN.out.mono ?_; rintro e w4 ⟨rfl, rfl⟩)
        generalize wr.setCell ⟨g, 1, none⟩ (.int .i64 (p : Int)) = W1 at *
        have yk : W1.cell? ⟨ab, k, none⟩ = some (.int .i64 0) := by
          rw [block_cell bA, List.getElem?_toArray]
          exact pad_at ns k HLN.out hlt
        have fk := block_fz bA k
        have HBA := Lib.hid bA
        clear bA CN
        go_wp2_with fail
        clear yk fk
        go_roundw
        case rel => exact ⟨k + 1, p, ns ++ [(x : Int)], by go_num, by omega, by rw [List.length_append, HLN.out]; rfl, HN.out⟩
        case measure => simp [intOf]; omega
      · have hno : ∀ x k', Wr.rd (l.drop at_) = some (x, k') → (1099511627776 : Int) < (x : Int) := fun x k' hr => by
          rcases Nat.lt_or_ge 1099511627776 x with h | h
          · omega
          · exact absurd ⟨x, k', hr, h⟩ hok
        have CN := Lib.hid (rnum_no HI.out.2.rs 1099511627776 hno (HSE.out wr HI.out.2.x).1)
        have HNO := Lib.hid (fun (e : En) (he : e.form = true) => HI.out.2.p.no_next hno he (by rw [HI.out.1, nums_len]; omega))
        have HXR := Lib.hid (And.intro HI.out.2.res HI.out.2.x)
        clear hok hno
        unfold BytesNo at CN
        have r0 : wr.cell? ⟨rb, 0, none⟩ = some (.int .i64 0) := block_cell (HXR.out.1) 0
        have r1 : wr.cell? ⟨rb, 1, none⟩ = some (.int .i64 0) := block_cell (HXR.out.1) 1
        have r2 : wr.cell? ⟨rb, 2, none⟩ = some (.int .i64 0) := block_cell (HXR.out.1) 2
        have r3 : wr.cell? ⟨rb, 3, none⟩ = some (.int .i64 0) := block_cell (HXR.out.1) 3
        have r4 : wr.cell? ⟨rb, 4, none⟩ = some (.int .i64 0) := block_cell (HXR.out.1) 4
        have r5 : wr.cell? ⟨rb, 5, none⟩ = some (.int .i64 0) := block_cell (HXR.out.1) 5
        have r6 : wr.cell? ⟨rb, 6, none⟩ = some (.int .i64 0) := block_cell (HXR.out.1) 6
        have r7 : wr.cell? ⟨rb, 7, none⟩ = some (.int .i64 0) := block_cell (HXR.out.1) 7
        have r8 : wr.cell? ⟨rb, 8, none⟩ = some (.slice none 0 0) := block_cell (HXR.out.1) 8
        have r9 : wr.cell? ⟨rb, 9, none⟩ = some (.int .i64 0) := block_cell (HXR.out.1) 9
        have q0 := block_fz (HXR.out.1) 0
        have q1 := block_fz (HXR.out.1) 1
        have q2 := block_fz (HXR.out.1) 2
        have q3 := block_fz (HXR.out.1) 3
        have q4 := block_fz (HXR.out.1) 4
        have q5 := block_fz (HXR.out.1) 5
        have q6 := block_fz (HXR.out.1) 6
        have q7 := block_fz (HXR.out.1) 7
        have q8 := block_fz (HXR.out.1) 8
        have q9 := block_fz (HXR.out.1) 9
        go_upto_region 8 with (go_at_call 58; refine CN.out.mono ?_; rintro e w4 ⟨rfl, j, rfl⟩)
        have HX5 := Lib.hid (HXR.out.2.drewN j)
        clear CN HI
        go_wp2_with fail
        have hz := st10 (W := (wr.drewN j)) (HXR.out.1) (.int .i64 0) (.int .i64 0) (.int .i64 0) (.int .i64 0) (.int .i64 0) (.int .i64 0) (.int .i64 0) (.int .i64 0) (.slice none 0 0) (.int .i64 0)
        have HZ := Lib.hid (And.intro hz.1 (Fr.ext (HX5.out) hz.2 (fun i e => by have e : i = rb := e; have := HRB.out; omega)))
        clear hz r0 q0 r1 q1 r2 q2 r3 q3 r4 q4 r5 q5 r6 q6 r7 q7 r8 q8 r9 q9
        generalize (((((((((((wr.drewN j).setCell ⟨rb, 0, none⟩ (.int .i64 0)).setCell ⟨rb, 1, none⟩ (.int .i64 0)).setCell ⟨rb, 2, none⟩ (.int .i64 0)).setCell ⟨rb, 3, none⟩ (.int .i64 0)).setCell ⟨rb, 4, none⟩ (.int .i64 0)).setCell ⟨rb, 5, none⟩ (.int .i64 0)).setCell ⟨rb, 6, none⟩ (.int .i64 0)).setCell ⟨rb, 7, none⟩ (.int .i64 0)).setCell ⟨rb, 8, none⟩ (.slice none 0 0)).setCell ⟨rb, 9, none⟩ (.int .i64 0)) = Z at *
        have z0 : Z.cell? ⟨rb, 0, none⟩ = some (.int .i64 0) := block_cell (HZ.out.1) 0
        have z1 : Z.cell? ⟨rb, 1, none⟩ = some (.int .i64 0) := block_cell (HZ.out.1) 1
        have z2 : Z.cell? ⟨rb, 2, none⟩ = some (.int .i64 0) := block_cell (HZ.out.1) 2
        have z3 : Z.cell? ⟨rb, 3, none⟩ = some (.int .i64 0) := block_cell (HZ.out.1) 3
        have z4 : Z.cell? ⟨rb, 4, none⟩ = some (.int .i64 0) := block_cell (HZ.out.1) 4
        have z5 : Z.cell? ⟨rb, 5, none⟩ = some (.int .i64 0) := block_cell (HZ.out.1) 5
        have z6 : Z.cell? ⟨rb, 6, none⟩ = some (.int .i64 0) := block_cell (HZ.out.1) 6
        have z7 : Z.cell? ⟨rb, 7, none⟩ = some (.int .i64 0) := block_cell (HZ.out.1) 7
        have z8 : Z.cell? ⟨rb, 8, none⟩ = some (.slice none 0 0) := block_cell (HZ.out.1) 8
        have z9 : Z.cell? ⟨rb, 9, none⟩ = some (.int .i64 0) := block_cell (HZ.out.1) 9
        refine bodyPost_ret (v := .tuple #[.agg #[.int .i64 0, .int .i64 0, .int .i64 0, .int .i64 0, .int .i64 0, .int .i64 0, .int .i64 0, .int .i64 0, .slice none 0 0, .int .i64 0], .iface 149 (.pointer (some pb))]) (by simp [results, Tryd.results28, go_sem, z0, z1, z2, z3, z4, z5, z6, z7, z8, z9]) rfl ?_
        exact ⟨.inr ⟨HNO.out, rfl⟩, HZ.out.2⟩
    · obtain ⟨a0, a1, a2, a3, a4, a5, a6, a7, a8, a9, rfl⟩ := ten_of (HI.out.1.trans (by omega))
      have hA : wr.heap[ab]? = some (.cells #[.int .i64 a0, .int .i64 a1, .int .i64 a2, .int .i64 a3, .int .i64 a4, .int .i64 a5, .int .i64 a6, .int .i64 a7, .int .i64 a8, .int .i64 a9] 100 (0, 0)) := HI.out.2.arr
      have HA := Lib.hid hA
      clear hA
      have y0 : wr.cell? ⟨ab, 0, none⟩ = some (.int .i64 a0) := block_cell (HA.out) 0
      have y1 : wr.cell? ⟨ab, 1, none⟩ = some (.int .i64 a1) := block_cell (HA.out) 1
      have y2 : wr.cell? ⟨ab, 2, none⟩ = some (.int .i64 a2) := block_cell (HA.out) 2
      have y3 : wr.cell? ⟨ab, 3, none⟩ = some (.int .i64 a3) := block_cell (HA.out) 3
      have y4 : wr.cell? ⟨ab, 4, none⟩ = some (.int .i64 a4) := block_cell (HA.out) 4
      have y5 : wr.cell? ⟨ab, 5, none⟩ = some (.int .i64 a5) := block_cell (HA.out) 5
      have y6 : wr.cell? ⟨ab, 6, none⟩ = some (.int .i64 a6) := block_cell (HA.out) 6
      have y7 : wr.cell? ⟨ab, 7, none⟩ = some (.int .i64 a7) := block_cell (HA.out) 7
      have y8 : wr.cell? ⟨ab, 8, none⟩ = some (.int .i64 a8) := block_cell (HA.out) 8
      have y9 : wr.cell? ⟨ab, 9, none⟩ = some (.int .i64 a9) := block_cell (HA.out) 9
      have X9 := (Ext.refl wr).alloc (.cells #[.int .i64 a0, .int .i64 a1, .int .i64 a2, .int .i64 a4, .int .i64 a5, .int .i64 a6, .int .i64 a7, .int .i64 a8, .slice none 0 0, .int .i64 a3] 29)
      have H9 := Lib.hid (And.intro (heap_alloc_new wr (.cells #[.int .i64 a0, .int .i64 a1, .int .i64 a2, .int .i64 a4, .int .i64 a5, .int .i64 a6, .int .i64 a7, .int .i64 a8, .slice none 0 0, .int .i64 a3] 29)) (And.intro (HI.out.2.ext X9) (And.intro (block_lt HI.out.2.rs.blk) (And.intro (block_lt HI.out.2.arr) (And.intro (block_lt HI.out.2.res) (And.intro HI.out.2.x.size (And.intro (show 0 < n → ∀ a, A1 = some a → a.block < wr.heap.size from fun h0 a ha => by
        obtain ⟨a', ha', hlt, _⟩ := HI.out.2.rs.rd.2 h0
        rw [ha] at ha'
        injection ha' with ha'
        rw [ha']
        exact hlt) X9)))))))
      clear X9
      go_upto_region 12 with (fail)
      generalize wr.alloc (.cells #[.int .i64 a0, .int .i64 a1, .int .i64 a2, .int .i64 a4, .int .i64 a5, .int .i64 a6, .int .i64 a7, .int .i64 a8, .slice none 0 0, .int .i64 a3] 29) = V9 at *
      generalize wr.heap.size = eb at *
      clear y0 y1 y2 y3 y4 y5 y6 y7 y8 y9 HA
      have hA9 : V9.heap[ab]? = some (.cells #[.int .i64 a0, .int .i64 a1, .int .i64 a2, .int .i64 a3, .int .i64 a4, .int .i64 a5, .int .i64 a6, .int .i64 a7, .int .i64 a8, .int .i64 a9] 100 (0, 0)) := H9.out.2.1.arr
      have y9 : V9.cell? ⟨ab, 9, none⟩ = some (.int .i64 a9) := block_cell hA9 9
      clear hA9 HI
      by_cases h9 : 8 < a9
      · have HNO := Lib.hid (fun (e : En) (he : e.form = true) => H9.out.2.1.p.no_big (by show 10 ≤ 10; omega) h9 he)
        have sB := fun W hW => (HSE.out W hW).1.2.1
        have HXV := Lib.hid H9.out.2.1.x
        have HRS := Lib.hid H9.out.2.1.res
        have r0 : V9.cell? ⟨rb, 0, none⟩ = some (.int .i64 0) := block_cell (H9.out.2.1.res) 0
        have r1 : V9.cell? ⟨rb, 1, none⟩ = some (.int .i64 0) := block_cell (H9.out.2.1.res) 1
        have r2 : V9.cell? ⟨rb, 2, none⟩ = some (.int .i64 0) := block_cell (H9.out.2.1.res) 2
        have r3 : V9.cell? ⟨rb, 3, none⟩ = some (.int .i64 0) := block_cell (H9.out.2.1.res) 3
        have r4 : V9.cell? ⟨rb, 4, none⟩ = some (.int .i64 0) := block_cell (H9.out.2.1.res) 4
        have r5 : V9.cell? ⟨rb, 5, none⟩ = some (.int .i64 0) := block_cell (H9.out.2.1.res) 5
        have r6 : V9.cell? ⟨rb, 6, none⟩ = some (.int .i64 0) := block_cell (H9.out.2.1.res) 6
        have r7 : V9.cell? ⟨rb, 7, none⟩ = some (.int .i64 0) := block_cell (H9.out.2.1.res) 7
        have r8 : V9.cell? ⟨rb, 8, none⟩ = some (.slice none 0 0) := block_cell (H9.out.2.1.res) 8
        have r9 : V9.cell? ⟨rb, 9, none⟩ = some (.int .i64 0) := block_cell (H9.out.2.1.res) 9
        have q0 := block_fz (H9.out.2.1.res) 0
        have q1 := block_fz (H9.out.2.1.res) 1
        have q2 := block_fz (H9.out.2.1.res) 2
        have q3 := block_fz (H9.out.2.1.res) 3
        have q4 := block_fz (H9.out.2.1.res) 4
        have q5 := block_fz (H9.out.2.1.res) 5
        have q6 := block_fz (H9.out.2.1.res) 6
        have q7 := block_fz (H9.out.2.1.res) 7
        have q8 := block_fz (H9.out.2.1.res) 8
        have q9 := block_fz (H9.out.2.1.res) 9
        go_upto_region 13 with (fail)
        have HS0 : Ext w V9.drew := HXV.out.drew
        have hz := st10 (W := V9) (HRS.out) (.int .i64 0) (.int .i64 0) (.int .i64 0) (.int .i64 0) (.int .i64 0) (.int .i64 0) (.int .i64 0) (.int .i64 0) (.slice none 0 0) (.int .i64 0)
        have hz1 := heap_drew hz.1
        have HZ := Lib.hid (And.intro hz1 ((Fr.ext HXV.out hz.2 (fun i e => by have e : i = rb := e; have := HRB.out; omega)).drew))
        clear hz hz1
        refine d_region (fun W => Ext w W) [] (by kernel_rfl) ?_
        refine d_take (i := 0) (v := ?_) [] (some 57) rfl (by rfl) (by kernel_rfl) (by kernel_rfl) (by kernel_rfl) (by kernel_rfl) (by kernel_rfl) (by kernel_rfl) (fun _ _ _ h => h) (.inl ⟨by rfl, ?_⟩) HS0 ?_
        rotate_left 1
        · (intro W hW; (try dsimp only at hW); go_simp; try with_reducible rfl)
        try simp only [Act.put, List.setIfInBounds_toArray, List.set_cons_zero, List.set_cons_succ]
        refine d_take (i := 1) (v := ?_) [] (some 58) rfl (by rfl) (by kernel_rfl) (by kernel_rfl) (by kernel_rfl) (by kernel_rfl) (by kernel_rfl) (by kernel_rfl) (fun _ _ _ h => h) (.inl ⟨by rfl, ?_⟩) HS0 ?_
        rotate_left 1
        · (intro W hW; (try dsimp only at hW); go_simp; try with_reducible rfl)
        try simp only [Act.put, List.setIfInBounds_toArray, List.set_cons_zero, List.set_cons_succ]
        refine d_one (i := 2) (by kernel_rfl) rfl rfl (fun K hK => ?_)
        simp only [List.getElem_toArray, List.getElem_cons_succ, List.getElem_cons_zero]
        go_simp
        refine hK.out _ _ (fun _ => HZ.out.2) ?_
        clear hK K
        try simp only [Act.put, List.setIfInBounds_toArray, List.set_cons_zero, List.set_cons_succ]
        refine d_one (i := 3) (by kernel_rfl) rfl rfl (fun K hK => ?_)
        simp only [List.getElem_toArray, List.getElem_cons_succ, List.getElem_cons_zero]
        go_simp
        refine hK.out _ _ (fun _ => HZ.out.2) ?_
        clear hK K 
        try simp only [Act.put, List.setIfInBounds_toArray, List.set_cons_zero, List.set_cons_succ]
        refine d_done (by kernel_rfl) ?_ _
        clear r0 q0 r1 q1 r2 q2 r3 q3 r4 q4 r5 q5 r6 q6 r7 q7 r8 q8 r9 q9
        have hzc := HZ.out.1
        generalize ((((((((((V9.setCell ⟨rb, 0, none⟩ (.int .i64 0)).setCell ⟨rb, 1, none⟩ (.int .i64 0)).setCell ⟨rb, 2, none⟩ (.int .i64 0)).setCell ⟨rb, 3, none⟩ (.int .i64 0)).setCell ⟨rb, 4, none⟩ (.int .i64 0)).setCell ⟨rb, 5, none⟩ (.int .i64 0)).setCell ⟨rb, 6, none⟩ (.int .i64 0)).setCell ⟨rb, 7, none⟩ (.int .i64 0)).setCell ⟨rb, 8, none⟩ (.slice none 0 0)).setCell ⟨rb, 9, none⟩ (.int .i64 0)).drew = Z at *
        clear hzc
        have z0 : Z.cell? ⟨rb, 0, none⟩ = some (.int .i64 0) := block_cell (HZ.out.1) 0
        have z1 : Z.cell? ⟨rb, 1, none⟩ = some (.int .i64 0) := block_cell (HZ.out.1) 1
        have z2 : Z.cell? ⟨rb, 2, none⟩ = some (.int .i64 0) := block_cell (HZ.out.1) 2
        have z3 : Z.cell? ⟨rb, 3, none⟩ = some (.int .i64 0) := block_cell (HZ.out.1) 3
        have z4 : Z.cell? ⟨rb, 4, none⟩ = some (.int .i64 0) := block_cell (HZ.out.1) 4
        have z5 : Z.cell? ⟨rb, 5, none⟩ = some (.int .i64 0) := block_cell (HZ.out.1) 5
        have z6 : Z.cell? ⟨rb, 6, none⟩ = some (.int .i64 0) := block_cell (HZ.out.1) 6
        have z7 : Z.cell? ⟨rb, 7, none⟩ = some (.int .i64 0) := block_cell (HZ.out.1) 7
        have z8 : Z.cell? ⟨rb, 8, none⟩ = some (.slice none 0 0) := block_cell (HZ.out.1) 8
        have z9 : Z.cell? ⟨rb, 9, none⟩ = some (.int .i64 0) := block_cell (HZ.out.1) 9
        go_wp2_with fail
        refine bodyPost_ret (v := .tuple #[.agg #[.int .i64 0, .int .i64 0, .int .i64 0, .int .i64 0, .int .i64 0, .int .i64 0, .int .i64 0, .int .i64 0, .slice none 0 0, .int .i64 0], .iface 149 (.pointer (some pb))]) (by simp [results, Tryd.results28, go_sem, z0, z1, z2, z3, z4, z5, z6, z7, z8, z9]) rfl ?_
        exact ⟨.inr ⟨HNO.out, rfl⟩, HZ.out.2⟩
      · have hp9 := H9.out.2.1.p.ok a9 (by simp)
        obtain ⟨m, rfl⟩ : ∃ m : Nat, a9 = (m : Int) := ⟨a9.toNat, by omega⟩
        have hm8 : m ≤ 8 := by omega
        have hm0 : (0 : Int) ≤ m := by omega
        have HGC : Hid (GC w V9 g eb rb A1 n c1 at_ l a0 a1 a2 a3 a4 a5 a6 a7 a8 none 0 0 [] [a0, a1, a2, a3, a4, a5, a6, a7, a8, (m : Int)]) := Lib.hid (by
          have h := H9.out.2.1
          obtain ⟨hb, _, l1, l2, l3, l4, lr, _⟩ := H9.out
          obtain ⟨q1, q2, q3, q4, q5, q6⟩ := h.lt
          exact ⟨h.rs, hb, Own.nil_, h.res, h.x, ⟨q1, by omega, q3, by omega, q5, by omega⟩, fun h0 a ha => ⟨(h.nA h0 a ha).1, fun e => by
            have := lr h0 a ha
            omega⟩, fun _ _ _ _ hb => (by cases hb), h.p⟩)
        have H9X := Lib.hid H9.out.2.1.arr
        clear H9 hp9
        go_upto_region 15 with (fail)
        clear y9
        go_loopw [10, 12, 13, 14, 61] (fun _ _ _ _ v61 wr => ∃ (j d at_ : Nat) (B : Option Addr) (ms : List Int), v61 = .int .i64 (j : Int) ∧ j ≤ m ∧ Hid (ms.length = 4 * j ∧ GC w wr g eb rb A1 n c1 at_ l a0 a1 a2 a3 a4 a5 a6 a7 a8 B j d (tksOf ms) ([a0, a1, a2, a3, a4, a5, a6, a7, a8, (m : Int)] ++ ms))) (fun _ _ _ _ v61 _ => m - (intOf v61).toNat)
        case atStart => exact ⟨0, 0, at_, none, [], rfl, by omega, rfl, HGC.out⟩
        case round =>
          obtain ⟨j, d, at2, B, ms, rfl, hj, HJ⟩ := hrel
          clear HGC
          by_cases hjm : j < m
          · have XT := (Ext.refl wr).alloc (.cells #[.int .i64 0, .int .i64 0, .int .i64 0, .int .i64 0] 47)
            have HT := Lib.hid (And.intro (heap_alloc_new wr (.cells #[.int .i64 0, .int .i64 0, .int .i64 0, .int .i64 0] 47)) (And.intro (HJ.out.2.ext XT) (And.intro HJ.out.2 HJ.out.2.x.size)))
            clear XT
            go_upto_region 18 with (fail)
            generalize wr.alloc (.cells #[.int .i64 0, .int .i64 0, .int .i64 0, .int .i64 0] 47) = W1 at *
            have HTB : Hid (g < wr.heap.size ∧ eb < wr.heap.size ∧ rb < wr.heap.size ∧ w.heap.size ≤ wr.heap.size ∧ (0 < n → ∀ a, A1 = some a → a.block < wr.heap.size) ∧ (∀ a, B = some a → a.block < wr.heap.size)) := Lib.hid (by
              have h := HT.out.2.2.1
              exact ⟨h.rs.lt, block_lt h.ent, block_lt h.res, HT.out.2.2.2, fun h0 a ha => by
                obtain ⟨a', ha', hlt, _⟩ := h.rs.rd.2 h0
                rw [ha] at ha'
                injection ha' with ha'
                subst ha'
                exact hlt, fun a ha => h.own.lt_at ha⟩)
            have HT1 := Lib.hid (And.intro HT.out.1 HT.out.2.1)
            clear HT
            generalize wr.heap.size = tb at *
            go_loopw [12, 13, 14, 68] (fun _ _ _ v68 wi => ∃ (i at3 : Nat) (ks : List Int), v68 = .int .i64 (i : Int) ∧ i ≤ 4 ∧ Hid (ks.length = i ∧ GC w wi g eb rb A1 n c1 at3 l a0 a1 a2 a3 a4 a5 a6 a7 a8 B j d (tksOf ms) (([a0, a1, a2, a3, a4, a5, a6, a7, a8, (m : Int)] ++ ms) ++ ks) ∧ wi.heap[tb]? = some (.cells (ints (ks ++ List.replicate (4 - ks.length) 0)).toArray 47 (0, 0)))) (fun _ _ _ v68 _ => 4 - (intOf v68).toNat)
            case atStart => exact ⟨0, at2, [], rfl, by omega, rfl, by rw [List.append_nil]; exact HT1.out.2, HT1.out.1⟩
            case round =>
              obtain ⟨i, at3, ks, rfl, hi, HI⟩ := hrel
              clear HT1
              by_cases hi4 : i < 4
              · have ri := fun W => idx4 tb i hi4 W
                by_cases hok : ∃ x k', Wr.rd (l.drop at3) = some (x, k') ∧ x ≤ 1099511627776
                · obtain ⟨x, k', hrd, hx⟩ := hok
                  have CN := Lib.hid (rnum_ok HI.out.2.1.rs hrd 1099511627776 (by omega))
                  have HN := Lib.hid (HI.out.2.1.read hrd hx)
                  have bA : (wr.setCell ⟨g, 1, none⟩ (.int .i64 ((at3 + k' : Nat) : Int))).heap[tb]? = _ := ((Fr.store wr ⟨g, 1, none⟩ (.int .i64 ((at3 + k' : Nat) : Int))).block tb (block_lt HI.out.2.2) (fun e => by have h1 := HTB.out.1; have e : tb = g := e; omega)).trans HI.out.2.2
                  have HLN := Lib.hid HI.out.1
                  clear hrd
                  obtain ⟨p, hp⟩ : ∃ p, at3 + k' = p := ⟨_, rfl⟩
                  rw [hp] at CN HN bA
                  clear hp
                  have k0 : (0 : Int) ≤ i := by omega
                  have k1 : (i : Int) < 4 := by omega
                  go_upto_region 23 with (go_at_call 58; refine CN.out.mono ?_; rintro e w4 ⟨rfl, rfl⟩)
                  generalize wr.setCell ⟨g, 1, none⟩ (.int .i64 (p : Int)) = W2 at *
                  have yk : W2.cell? ⟨tb, i, none⟩ = some (.int .i64 0) := by
                    rw [block_cell bA, List.getElem?_toArray]
                    exact pad4_at ks i HLN.out hi4
                  have fk := block_fz bA i
                  have b3 := heap_setCell_same _ tb i _ _ (.int .i64 (x : Int)) bA
                  rw [ints_set, HLN.out, pad4_set ks _ i HLN.out hi4] at b3
                  have H3 := Lib.hid (And.intro (HN.out.fr (Fr.store W2 ⟨tb, i, none⟩ (.int .i64 (x : Int))) (fun e => by have h1 := HTB.out.1; have e : tb = g := e; omega) (fun e => by have h1 := HTB.out.2.1; have e : tb = eb := e; omega) (fun e => by have h1 := HTB.out.2.2.1; have e : tb = rb := e; omega) (fun h0 a ha e => by have h1 := HTB.out.2.2.2.2.1 h0 a ha; have e : a.block = tb := e; omega) (fun a ha e => by have h1 := HTB.out.2.2.2.2.2 a ha; have e : a.block = tb := e; omega) HTB.out.2.2.2.1) b3)
                  clear bA CN b3 HN ri
                  go_wp2_with fail
                  clear yk fk
                  go_roundw
                  case rel => exact ⟨i + 1, p, ks ++ [(x : Int)], by go_num, by omega, by rw [List.length_append, HLN.out]; rfl, by rw [← List.append_assoc]; exact H3.out.1, by rw [List.length_append, HLN.out]; exact H3.out.2⟩
                  case measure => simp [intOf]; omega
                · have hno : ∀ x k', Wr.rd (l.drop at3) = some (x, k') → (1099511627776 : Int) < (x : Int) := fun x k' hr => by
                    rcases Nat.lt_or_ge 1099511627776 x with h | h
                    · omega
                    · exact absurd ⟨x, k', hr, h⟩ hok
                  have CN := Lib.hid (rnum_no HI.out.2.1.rs 1099511627776 hno (HSE.out wr HI.out.2.1.x).1)
                  have HNO := Lib.hid (fun (e : En) (he : e.form = true) (hle : l = e.put) => HI.out.2.1.p.no_next hno he (by
                    have h1 : (m : Int) = (e.ts.length : Int) := HI.out.2.1.p.nine (by simp) he hle
                    have h2 := HI.out.1
                    have h3 := HJ.out.1
                    rw [nums_len, List.length_append, List.length_append, h2, h3]
                    show 10 + 4 * j + i < _
                    omega) hle)
                  have HXR := Lib.hid (And.intro HI.out.2.1.res HI.out.2.1.x)
                  clear hok hno
                  unfold BytesNo at CN
                  have r0 : wr.cell? ⟨rb, 0, none⟩ = some (.int .i64 0) := block_cell (HXR.out.1) 0
                  have r1 : wr.cell? ⟨rb, 1, none⟩ = some (.int .i64 0) := block_cell (HXR.out.1) 1
                  have r2 : wr.cell? ⟨rb, 2, none⟩ = some (.int .i64 0) := block_cell (HXR.out.1) 2
                  have r3 : wr.cell? ⟨rb, 3, none⟩ = some (.int .i64 0) := block_cell (HXR.out.1) 3
                  have r4 : wr.cell? ⟨rb, 4, none⟩ = some (.int .i64 0) := block_cell (HXR.out.1) 4
                  have r5 : wr.cell? ⟨rb, 5, none⟩ = some (.int .i64 0) := block_cell (HXR.out.1) 5
                  have r6 : wr.cell? ⟨rb, 6, none⟩ = some (.int .i64 0) := block_cell (HXR.out.1) 6
                  have r7 : wr.cell? ⟨rb, 7, none⟩ = some (.int .i64 0) := block_cell (HXR.out.1) 7
                  have r8 : wr.cell? ⟨rb, 8, none⟩ = some (.slice none 0 0) := block_cell (HXR.out.1) 8
                  have r9 : wr.cell? ⟨rb, 9, none⟩ = some (.int .i64 0) := block_cell (HXR.out.1) 9
                  have q0 := block_fz (HXR.out.1) 0
                  have q1 := block_fz (HXR.out.1) 1
                  have q2 := block_fz (HXR.out.1) 2
                  have q3 := block_fz (HXR.out.1) 3
                  have q4 := block_fz (HXR.out.1) 4
                  have q5 := block_fz (HXR.out.1) 5
                  have q6 := block_fz (HXR.out.1) 6
                  have q7 := block_fz (HXR.out.1) 7
                  have q8 := block_fz (HXR.out.1) 8
                  have q9 := block_fz (HXR.out.1) 9
                  go_upto_region 22 with (go_at_call 58; refine CN.out.mono ?_; rintro e w4 ⟨rfl, jj, rfl⟩)
                  have HX5 := Lib.hid (HXR.out.2.drewN jj)
                  clear CN HI HJ ri
                  go_wp2_with fail
                  have hz := st10 (W := (wr.drewN jj)) (HXR.out.1) (.int .i64 0) (.int .i64 0) (.int .i64 0) (.int .i64 0) (.int .i64 0) (.int .i64 0) (.int .i64 0) (.int .i64 0) (.slice none 0 0) (.int .i64 0)
                  have HZ := Lib.hid (And.intro hz.1 (Fr.ext (HX5.out) hz.2 (fun i e => by have e : i = rb := e; have := HRB.out; omega)))
                  clear hz r0 q0 r1 q1 r2 q2 r3 q3 r4 q4 r5 q5 r6 q6 r7 q7 r8 q8 r9 q9
                  generalize (((((((((((wr.drewN jj).setCell ⟨rb, 0, none⟩ (.int .i64 0)).setCell ⟨rb, 1, none⟩ (.int .i64 0)).setCell ⟨rb, 2, none⟩ (.int .i64 0)).setCell ⟨rb, 3, none⟩ (.int .i64 0)).setCell ⟨rb, 4, none⟩ (.int .i64 0)).setCell ⟨rb, 5, none⟩ (.int .i64 0)).setCell ⟨rb, 6, none⟩ (.int .i64 0)).setCell ⟨rb, 7, none⟩ (.int .i64 0)).setCell ⟨rb, 8, none⟩ (.slice none 0 0)).setCell ⟨rb, 9, none⟩ (.int .i64 0)) = Z at *
                  have z0 : Z.cell? ⟨rb, 0, none⟩ = some (.int .i64 0) := block_cell (HZ.out.1) 0
                  have z1 : Z.cell? ⟨rb, 1, none⟩ = some (.int .i64 0) := block_cell (HZ.out.1) 1
                  have z2 : Z.cell? ⟨rb, 2, none⟩ = some (.int .i64 0) := block_cell (HZ.out.1) 2
                  have z3 : Z.cell? ⟨rb, 3, none⟩ = some (.int .i64 0) := block_cell (HZ.out.1) 3
                  have z4 : Z.cell? ⟨rb, 4, none⟩ = some (.int .i64 0) := block_cell (HZ.out.1) 4
                  have z5 : Z.cell? ⟨rb, 5, none⟩ = some (.int .i64 0) := block_cell (HZ.out.1) 5
                  have z6 : Z.cell? ⟨rb, 6, none⟩ = some (.int .i64 0) := block_cell (HZ.out.1) 6
                  have z7 : Z.cell? ⟨rb, 7, none⟩ = some (.int .i64 0) := block_cell (HZ.out.1) 7
                  have z8 : Z.cell? ⟨rb, 8, none⟩ = some (.slice none 0 0) := block_cell (HZ.out.1) 8
                  have z9 : Z.cell? ⟨rb, 9, none⟩ = some (.int .i64 0) := block_cell (HZ.out.1) 9
                  refine bodyPost_ret (v := .tuple #[.agg #[.int .i64 0, .int .i64 0, .int .i64 0, .int .i64 0, .int .i64 0, .int .i64 0, .int .i64 0, .int .i64 0, .slice none 0 0, .int .i64 0], .iface 149 (.pointer (some pb))]) (by simp [results, Tryd.results28, go_sem, z0, z1, z2, z3, z4, z5, z6, z7, z8, z9]) rfl ?_
                  exact ⟨.inr ⟨HNO.out, rfl⟩, HZ.out.2⟩
              · obtain ⟨q0, q1, q2, q3, rfl⟩ := four_of (HI.out.1.trans (by omega))
                have bT : wr.heap[tb]? = some (.cells #[.int .i64 q0, .int .i64 q1, .int .i64 q2, .int .i64 q3] 47 (0, 0)) := HI.out.2.2
                have t0 : wr.cell? ⟨tb, 0, none⟩ = some (.int .i64 q0) := block_cell bT 0
                have t1 : wr.cell? ⟨tb, 1, none⟩ = some (.int .i64 q1) := block_cell bT 1
                have t2 : wr.cell? ⟨tb, 2, none⟩ = some (.int .i64 q2) := block_cell bT 2
                have t3 : wr.cell? ⟨tb, 3, none⟩ = some (.int .i64 q3) := block_cell bT 3
                have e8 : wr.cell? ⟨eb, 8, none⟩ = some (.slice B j d) := block_cell HI.out.2.1.ent 8
                clear bT
                have XA := (Ext.refl wr).alloc (.cells #[.int .i64 q0, .int .i64 q1, .int .i64 q2, .int .i64 q3] 47)
                have RT := rd_task ⟨q0, q1, q2, q3⟩ wr
                have HGA := Lib.hid (HI.out.2.1.ext XA)
                go_wp2_with (at_builtin; refine held ?_)
                refine Held.go (wp_app (m := 1) (news := trow ⟨q0, q1, q2, q3⟩) eltTk HGA.out.own RT (trow_one _) (by omega) (.inr ⟨by omega, by omega⟩) HGA.out.x.size _ _ rfl rfl rfl rfl ?_)
                intro A3 c3 w3 o3 g3 hA3 _
                have HN := Lib.hid (HGA.out.app g3 o3 hA3)
                have hx3 : Ext w w3 := g3.ext HGA.out.x (fun q hq => HGA.out.own.base_le q hq)
                have b3 : w3.heap[eb]? = some (.cells #[.int .i64 a0, .int .i64 a1, .int .i64 a2, .int .i64 a4, .int .i64 a5, .int .i64 a6, .int .i64 a7, .int .i64 a8, .slice B j d, .int .i64 a3] 29 (0, 0)) := ((Fr.grows g3).block _ (block_lt HGA.out.ent) (fun e => by
                  cases B with
                  | none => cases e
                  | some b => exact HGA.out.own.away_t HGA.out.ent (by decide) b rfl (by simpa using e))).trans HGA.out.ent
                have y8 : w3.cell? ⟨eb, 8, none⟩ = some (.slice B j d) := block_cell b3 8
                have f8 := block_fz b3 8
                have HL := Lib.hid HJ.out.1
                clear o3 g3 hA3 hx3 b3 XA RT HGA HI HJ t0 t1 t2 t3 e8
                go_wp2_with fail
                clear y8 f8
                go_roundw
                case rel => exact ⟨j + 1, c3, at3, A3, ms ++ [q0, q1, q2, q3], by go_num, by omega, by rw [List.length_append, HL.out]; rfl, by rw [tksOf_snoc j ms q0 q1 q2 q3 HL.out, ← List.append_assoc]; exact HN.out⟩
                case measure => simp [intOf]; omega
          · obtain rfl : m = j := by omega
            have hml := HJ.out.1
            have hnl2 : ([a0, a1, a2, a3, a4, a5, a6, a7, a8, (m : Int)] ++ ms).length = 10 + 4 * m := by rw [List.length_append, hml]; rfl
            have HNL := Lib.hid hnl2
            have HMK := Lib.hid (fun (q : En) (h : q = enOf ([a0, a1, a2, a3, a4, a5, a6, a7, a8, (m : Int)] ++ ms)) => (show q.cl = a0 ∧ q.nu = a1 ∧ q.kd = a2 ∧ q.at_ = a3 ∧ q.id = a4 ∧ q.sk = a5 ∧ q.sq = a6 ∧ q.st = a7 ∧ q.pol = a8 ∧ q.ts = tksOf ms by subst h; exact ⟨rfl, rfl, rfl, rfl, rfl, rfl, rfl, rfl, rfl, rfl⟩))
            have hle2 := HJ.out.2.rs.le
            clear hnl2 hml
            have HCH := Lib.hid (fun W (hx : Ext wr W) => (show Rd W 4 B m (trows (enOf ([a0, a1, a2, a3, a4, a5, a6, a7, a8, (m : Int)] ++ ms)).ts).flatten from (HJ.out.2.own.ext hx).rd))
            by_cases hat : at2 < n
            · have CE := Lib.hid (rend_no HJ.out.2.rs hat (HSE.out wr HJ.out.2.x).1)
              have HNO := Lib.hid (fun (e : En) (he : e.form = true) => HJ.out.2.p.none_of HNL.out rfl (.inl (by rw [hnl]; exact hat)) he)
              go_upto_region 28 with (go_at_call 59; refine CE.out.mono ?_; rintro e w4 ⟨rfl, jj, rfl⟩)
              have HXV := Lib.hid (HJ.out.2.x.drewN jj)
              have HRS : Hid ((wr.drewN jj).heap[rb]? = some (.cells #[.int .i64 0, .int .i64 0, .int .i64 0, .int .i64 0, .int .i64 0, .int .i64 0, .int .i64 0, .int .i64 0, .slice none 0 0, .int .i64 0] 29 (0, 0))) := Lib.hid HJ.out.2.res
              clear CE HJ HCH
              generalize wr.drewN jj = V5 at *
              have sB := fun W hW => (HSE.out W hW).1.2.1
              have r0 : V5.cell? ⟨rb, 0, none⟩ = some (.int .i64 0) := block_cell (HRS.out) 0
              have r1 : V5.cell? ⟨rb, 1, none⟩ = some (.int .i64 0) := block_cell (HRS.out) 1
              have r2 : V5.cell? ⟨rb, 2, none⟩ = some (.int .i64 0) := block_cell (HRS.out) 2
              have r3 : V5.cell? ⟨rb, 3, none⟩ = some (.int .i64 0) := block_cell (HRS.out) 3
              have r4 : V5.cell? ⟨rb, 4, none⟩ = some (.int .i64 0) := block_cell (HRS.out) 4
              have r5 : V5.cell? ⟨rb, 5, none⟩ = some (.int .i64 0) := block_cell (HRS.out) 5
              have r6 : V5.cell? ⟨rb, 6, none⟩ = some (.int .i64 0) := block_cell (HRS.out) 6
              have r7 : V5.cell? ⟨rb, 7, none⟩ = some (.int .i64 0) := block_cell (HRS.out) 7
              have r8 : V5.cell? ⟨rb, 8, none⟩ = some (.slice none 0 0) := block_cell (HRS.out) 8
              have r9 : V5.cell? ⟨rb, 9, none⟩ = some (.int .i64 0) := block_cell (HRS.out) 9
              have q0 := block_fz (HRS.out) 0
              have q1 := block_fz (HRS.out) 1
              have q2 := block_fz (HRS.out) 2
              have q3 := block_fz (HRS.out) 3
              have q4 := block_fz (HRS.out) 4
              have q5 := block_fz (HRS.out) 5
              have q6 := block_fz (HRS.out) 6
              have q7 := block_fz (HRS.out) 7
              have q8 := block_fz (HRS.out) 8
              have q9 := block_fz (HRS.out) 9
              have HS0 : Ext w V5.drew := HXV.out.drew
              have hz := st10 (W := V5) (HRS.out) (.int .i64 0) (.int .i64 0) (.int .i64 0) (.int .i64 0) (.int .i64 0) (.int .i64 0) (.int .i64 0) (.int .i64 0) (.slice none 0 0) (.int .i64 0)
              have hz1 := heap_drew hz.1
              have HZ := Lib.hid (And.intro hz1 ((Fr.ext HXV.out hz.2 (fun i e => by have e : i = rb := e; have := HRB.out; omega)).drew))
              clear hz hz1
              refine d_region (fun W => Ext w W) [] (by kernel_rfl) ?_
              refine d_take (i := 0) (v := ?_) [] (some 101) rfl (by rfl) (by kernel_rfl) (by kernel_rfl) (by kernel_rfl) (by kernel_rfl) (by kernel_rfl) (by kernel_rfl) (fun _ _ _ h => h) (.inl ⟨by rfl, ?_⟩) HS0 ?_
              rotate_left 1
              · (intro W hW; (try dsimp only at hW); go_simp; try with_reducible rfl)
              try simp only [Act.put, List.setIfInBounds_toArray, List.set_cons_zero, List.set_cons_succ]
              refine d_take (i := 1) (v := ?_) [] (some 102) rfl (by rfl) (by kernel_rfl) (by kernel_rfl) (by kernel_rfl) (by kernel_rfl) (by kernel_rfl) (by kernel_rfl) (fun _ _ _ h => h) (.inl ⟨by rfl, ?_⟩) HS0 ?_
              rotate_left 1
              · (intro W hW; (try dsimp only at hW); go_simp; try with_reducible rfl)
              try simp only [Act.put, List.setIfInBounds_toArray, List.set_cons_zero, List.set_cons_succ]
              refine d_one (i := 2) (by kernel_rfl) rfl rfl (fun K hK => ?_)
              simp only [List.getElem_toArray, List.getElem_cons_succ, List.getElem_cons_zero]
              go_simp
              refine hK.out _ _ (fun _ => HZ.out.2) ?_
              clear hK K
              try simp only [Act.put, List.setIfInBounds_toArray, List.set_cons_zero, List.set_cons_succ]
              refine d_one (i := 3) (by kernel_rfl) rfl rfl (fun K hK => ?_)
              simp only [List.getElem_toArray, List.getElem_cons_succ, List.getElem_cons_zero]
              go_simp
              refine hK.out _ _ (fun _ => HZ.out.2) ?_
              clear hK K 
              try simp only [Act.put, List.setIfInBounds_toArray, List.set_cons_zero, List.set_cons_succ]
              refine d_done (by kernel_rfl) ?_ _
              clear r0 q0 r1 q1 r2 q2 r3 q3 r4 q4 r5 q5 r6 q6 r7 q7 r8 q8 r9 q9
              have hzc := HZ.out.1
              generalize ((((((((((V5.setCell ⟨rb, 0, none⟩ (.int .i64 0)).setCell ⟨rb, 1, none⟩ (.int .i64 0)).setCell ⟨rb, 2, none⟩ (.int .i64 0)).setCell ⟨rb, 3, none⟩ (.int .i64 0)).setCell ⟨rb, 4, none⟩ (.int .i64 0)).setCell ⟨rb, 5, none⟩ (.int .i64 0)).setCell ⟨rb, 6, none⟩ (.int .i64 0)).setCell ⟨rb, 7, none⟩ (.int .i64 0)).setCell ⟨rb, 8, none⟩ (.slice none 0 0)).setCell ⟨rb, 9, none⟩ (.int .i64 0)).drew = Z at *
              clear hzc
              have z0 : Z.cell? ⟨rb, 0, none⟩ = some (.int .i64 0) := block_cell (HZ.out.1) 0
              have z1 : Z.cell? ⟨rb, 1, none⟩ = some (.int .i64 0) := block_cell (HZ.out.1) 1
              have z2 : Z.cell? ⟨rb, 2, none⟩ = some (.int .i64 0) := block_cell (HZ.out.1) 2
              have z3 : Z.cell? ⟨rb, 3, none⟩ = some (.int .i64 0) := block_cell (HZ.out.1) 3
              have z4 : Z.cell? ⟨rb, 4, none⟩ = some (.int .i64 0) := block_cell (HZ.out.1) 4
              have z5 : Z.cell? ⟨rb, 5, none⟩ = some (.int .i64 0) := block_cell (HZ.out.1) 5
              have z6 : Z.cell? ⟨rb, 6, none⟩ = some (.int .i64 0) := block_cell (HZ.out.1) 6
              have z7 : Z.cell? ⟨rb, 7, none⟩ = some (.int .i64 0) := block_cell (HZ.out.1) 7
              have z8 : Z.cell? ⟨rb, 8, none⟩ = some (.slice none 0 0) := block_cell (HZ.out.1) 8
              have z9 : Z.cell? ⟨rb, 9, none⟩ = some (.int .i64 0) := block_cell (HZ.out.1) 9
              go_wp2_with fail
              refine bodyPost_ret (v := .tuple #[.agg #[.int .i64 0, .int .i64 0, .int .i64 0, .int .i64 0, .int .i64 0, .int .i64 0, .int .i64 0, .int .i64 0, .slice none 0 0, .int .i64 0], .iface 149 (.pointer (some pb))]) (by simp [results, Tryd.results28, go_sem, z0, z1, z2, z3, z4, z5, z6, z7, z8, z9]) rfl ?_
              exact ⟨.inr ⟨HNO.out, rfl⟩, HZ.out.2⟩
            · obtain rfl : n = at2 := by omega
              have CE := Lib.hid (rend_ok HJ.out.2.rs)
              obtain ⟨en, hen⟩ : ∃ en, enOf ([a0, a1, a2, a3, a4, a5, a6, a7, a8, (m : Int)] ++ ms) = en := ⟨_, rfl⟩
              have HEN := Lib.hid hen
              have HLP := Lib.hid (HJ.out.2.p.done HNL.out rfl (by rw [hnl]; exact Nat.le_refl _))
              rw [hen] at HCH HLP
              obtain ⟨f0, f1, f2, f3, f4, f5, f6, f7, f8, f9⟩ := HMK.out en hen.symm
              have HF9 := Lib.hid f9
              clear f9 hen
              subst f0 f1 f2 f3 f4 f5 f6 f7 f8
              have e0 : wr.cell? ⟨eb, 0, none⟩ = some (.int .i64 en.cl) := block_cell (HJ.out.2.ent) 0
              have e1 : wr.cell? ⟨eb, 1, none⟩ = some (.int .i64 en.nu) := block_cell (HJ.out.2.ent) 1
              have e2 : wr.cell? ⟨eb, 2, none⟩ = some (.int .i64 en.kd) := block_cell (HJ.out.2.ent) 2
              have e3 : wr.cell? ⟨eb, 3, none⟩ = some (.int .i64 en.id) := block_cell (HJ.out.2.ent) 3
              have e4 : wr.cell? ⟨eb, 4, none⟩ = some (.int .i64 en.sk) := block_cell (HJ.out.2.ent) 4
              have e5 : wr.cell? ⟨eb, 5, none⟩ = some (.int .i64 en.sq) := block_cell (HJ.out.2.ent) 5
              have e6 : wr.cell? ⟨eb, 6, none⟩ = some (.int .i64 en.st) := block_cell (HJ.out.2.ent) 6
              have e7 : wr.cell? ⟨eb, 7, none⟩ = some (.int .i64 en.pol) := block_cell (HJ.out.2.ent) 7
              have e8 : wr.cell? ⟨eb, 8, none⟩ = some (.slice B m d) := block_cell (HJ.out.2.ent) 8
              have e9 : wr.cell? ⟨eb, 9, none⟩ = some (.int .i64 en.at_) := block_cell (HJ.out.2.ent) 9
              by_cases hf : en.form = true
              · have CC := Lib.hid (fun W (hx : Ext wr W) => check_ok (c := d) (HCH.out W hx) (by omega) hf)
                have HF := Lib.hid hf
                clear hf
                go_upto_region 29 with (first | (go_at_call 59; refine CE.out.mono ?_; rintro e w4 ⟨rfl, jj, rfl⟩) | (go_at_call 25; refine (CC.out _ ((Ext.refl _).drewN _)).mono ?_; rintro e w5 ⟨rfl, x5⟩))
                have X5 := Lib.hid (((Ext.refl wr).drewN jj).trans x5)
                have HG5 := Lib.hid (HJ.out.2.ext X5.out)
                clear CE CC HJ x5 e0 e1 e2 e3 e4 e5 e6 e7 e8 e9
                have e0 : w5.cell? ⟨eb, 0, none⟩ = some (.int .i64 en.cl) := block_cell (HG5.out.ent) 0
                have e1 : w5.cell? ⟨eb, 1, none⟩ = some (.int .i64 en.nu) := block_cell (HG5.out.ent) 1
                have e2 : w5.cell? ⟨eb, 2, none⟩ = some (.int .i64 en.kd) := block_cell (HG5.out.ent) 2
                have e3 : w5.cell? ⟨eb, 3, none⟩ = some (.int .i64 en.id) := block_cell (HG5.out.ent) 3
                have e4 : w5.cell? ⟨eb, 4, none⟩ = some (.int .i64 en.sk) := block_cell (HG5.out.ent) 4
                have e5 : w5.cell? ⟨eb, 5, none⟩ = some (.int .i64 en.sq) := block_cell (HG5.out.ent) 5
                have e6 : w5.cell? ⟨eb, 6, none⟩ = some (.int .i64 en.st) := block_cell (HG5.out.ent) 6
                have e7 : w5.cell? ⟨eb, 7, none⟩ = some (.int .i64 en.pol) := block_cell (HG5.out.ent) 7
                have e8 : w5.cell? ⟨eb, 8, none⟩ = some (.slice B m d) := block_cell (HG5.out.ent) 8
                have e9 : w5.cell? ⟨eb, 9, none⟩ = some (.int .i64 en.at_) := block_cell (HG5.out.ent) 9
                have r0 : w5.cell? ⟨rb, 0, none⟩ = some (.int .i64 0) := block_cell (HG5.out.res) 0
                have r1 : w5.cell? ⟨rb, 1, none⟩ = some (.int .i64 0) := block_cell (HG5.out.res) 1
                have r2 : w5.cell? ⟨rb, 2, none⟩ = some (.int .i64 0) := block_cell (HG5.out.res) 2
                have r3 : w5.cell? ⟨rb, 3, none⟩ = some (.int .i64 0) := block_cell (HG5.out.res) 3
                have r4 : w5.cell? ⟨rb, 4, none⟩ = some (.int .i64 0) := block_cell (HG5.out.res) 4
                have r5 : w5.cell? ⟨rb, 5, none⟩ = some (.int .i64 0) := block_cell (HG5.out.res) 5
                have r6 : w5.cell? ⟨rb, 6, none⟩ = some (.int .i64 0) := block_cell (HG5.out.res) 6
                have r7 : w5.cell? ⟨rb, 7, none⟩ = some (.int .i64 0) := block_cell (HG5.out.res) 7
                have r8 : w5.cell? ⟨rb, 8, none⟩ = some (.slice none 0 0) := block_cell (HG5.out.res) 8
                have r9 : w5.cell? ⟨rb, 9, none⟩ = some (.int .i64 0) := block_cell (HG5.out.res) 9
                have q0 := block_fz (HG5.out.res) 0
                have q1 := block_fz (HG5.out.res) 1
                have q2 := block_fz (HG5.out.res) 2
                have q3 := block_fz (HG5.out.res) 3
                have q4 := block_fz (HG5.out.res) 4
                have q5 := block_fz (HG5.out.res) 5
                have q6 := block_fz (HG5.out.res) 6
                have q7 := block_fz (HG5.out.res) 7
                have q8 := block_fz (HG5.out.res) 8
                have q9 := block_fz (HG5.out.res) 9
                go_wp2_with fail
                have hz0 := st10 (W := w5) (HG5.out.res) (.int .i64 en.cl) (.int .i64 en.nu) (.int .i64 en.kd) (.int .i64 en.id) (.int .i64 en.sk) (.int .i64 en.sq) (.int .i64 en.st) (.int .i64 en.pol) (.slice B m d) (.int .i64 en.at_)
                have HO := Lib.hid (hz0.2.own HG5.out.own (fun a ha e => HG5.out.own.away_t HG5.out.res (by decide) a ha e))
                clear hz0
                have hz := st10 (W := w5) (HG5.out.res) (.int .i64 en.cl) (.int .i64 en.nu) (.int .i64 en.kd) (.int .i64 en.id) (.int .i64 en.sk) (.int .i64 en.sq) (.int .i64 en.st) (.int .i64 en.pol) (.slice B m d) (.int .i64 en.at_)
                have HZ := Lib.hid (And.intro hz.1 (Fr.ext (HG5.out.x) hz.2 (fun i e => by have e : i = rb := e; have := HRB.out; omega)))
                clear hz r0 q0 r1 q1 r2 q2 r3 q3 r4 q4 r5 q5 r6 q6 r7 q7 r8 q8 r9 q9
                generalize ((((((((((w5.setCell ⟨rb, 0, none⟩ (.int .i64 en.cl)).setCell ⟨rb, 1, none⟩ (.int .i64 en.nu)).setCell ⟨rb, 2, none⟩ (.int .i64 en.kd)).setCell ⟨rb, 3, none⟩ (.int .i64 en.id)).setCell ⟨rb, 4, none⟩ (.int .i64 en.sk)).setCell ⟨rb, 5, none⟩ (.int .i64 en.sq)).setCell ⟨rb, 6, none⟩ (.int .i64 en.st)).setCell ⟨rb, 7, none⟩ (.int .i64 en.pol)).setCell ⟨rb, 8, none⟩ (.slice B m d)).setCell ⟨rb, 9, none⟩ (.int .i64 en.at_)) = Z at *
                have z0 : Z.cell? ⟨rb, 0, none⟩ = some (.int .i64 en.cl) := block_cell (HZ.out.1) 0
                have z1 : Z.cell? ⟨rb, 1, none⟩ = some (.int .i64 en.nu) := block_cell (HZ.out.1) 1
                have z2 : Z.cell? ⟨rb, 2, none⟩ = some (.int .i64 en.kd) := block_cell (HZ.out.1) 2
                have z3 : Z.cell? ⟨rb, 3, none⟩ = some (.int .i64 en.id) := block_cell (HZ.out.1) 3
                have z4 : Z.cell? ⟨rb, 4, none⟩ = some (.int .i64 en.sk) := block_cell (HZ.out.1) 4
                have z5 : Z.cell? ⟨rb, 5, none⟩ = some (.int .i64 en.sq) := block_cell (HZ.out.1) 5
                have z6 : Z.cell? ⟨rb, 6, none⟩ = some (.int .i64 en.st) := block_cell (HZ.out.1) 6
                have z7 : Z.cell? ⟨rb, 7, none⟩ = some (.int .i64 en.pol) := block_cell (HZ.out.1) 7
                have z8 : Z.cell? ⟨rb, 8, none⟩ = some (.slice B m d) := block_cell (HZ.out.1) 8
                have z9 : Z.cell? ⟨rb, 9, none⟩ = some (.int .i64 en.at_) := block_cell (HZ.out.1) 9
                refine bodyPost_ret (v := .tuple #[.agg #[.int .i64 en.cl, .int .i64 en.nu, .int .i64 en.kd, .int .i64 en.id, .int .i64 en.sk, .int .i64 en.sq, .int .i64 en.st, .int .i64 en.pol, .slice B m d, .int .i64 en.at_], .nilIface]) (by simp [results, Tryd.results28, go_sem, z0, z1, z2, z3, z4, z5, z6, z7, z8, z9]) rfl ?_
                refine ⟨.inl ⟨⟨en, B, m, d⟩, HF.out, HLP.out, rfl, ⟨?_, ?_, HO.out.cap_le⟩, ?_⟩, HZ.out.2⟩
                · have h := HO.out.rd
                  rw [← HF9.out] at h
                  exact h
                · show m ≤ _
                  omega
                · have h := HO.out
                  rw [← HF9.out] at h
                  exact h
              · have hf2 : en.form = false := by simpa using hf
                have CC := Lib.hid (fun W (hx : Ext wr W) => check_no (c := d) (HCH.out W hx) (by omega) hf2 ((HSE.out wr HJ.out.2.x).2.ext hx))
                have HNO := Lib.hid (fun (e : En) (he : e.form = true) => HJ.out.2.p.none_of HNL.out rfl (.inr (by rw [HEN.out]; exact hf2)) he)
                clear hf hf2
                go_upto_region 28 with (first | (go_at_call 59; refine CE.out.mono ?_; rintro e w4 ⟨rfl, jj, rfl⟩) | (go_at_call 25; refine (CC.out _ ((Ext.refl _).drewN _)).mono ?_; rintro e w5 ⟨rfl, x5⟩))
                have X5 := Lib.hid (((Ext.refl wr).drewN jj).trans x5)
                have HXV := Lib.hid (HJ.out.2.x.trans X5.out)
                have HRS := Lib.hid ((X5.out.block _ (block_lt HJ.out.2.res)).trans HJ.out.2.res)
                clear CE CC HJ x5 e0 e1 e2 e3 e4 e5 e6 e7 e8 e9
                have sB := fun W hW => (HSE.out W hW).1.2.1
                have r0 : w5.cell? ⟨rb, 0, none⟩ = some (.int .i64 0) := block_cell (HRS.out) 0
                have r1 : w5.cell? ⟨rb, 1, none⟩ = some (.int .i64 0) := block_cell (HRS.out) 1
                have r2 : w5.cell? ⟨rb, 2, none⟩ = some (.int .i64 0) := block_cell (HRS.out) 2
                have r3 : w5.cell? ⟨rb, 3, none⟩ = some (.int .i64 0) := block_cell (HRS.out) 3
                have r4 : w5.cell? ⟨rb, 4, none⟩ = some (.int .i64 0) := block_cell (HRS.out) 4
                have r5 : w5.cell? ⟨rb, 5, none⟩ = some (.int .i64 0) := block_cell (HRS.out) 5
                have r6 : w5.cell? ⟨rb, 6, none⟩ = some (.int .i64 0) := block_cell (HRS.out) 6
                have r7 : w5.cell? ⟨rb, 7, none⟩ = some (.int .i64 0) := block_cell (HRS.out) 7
                have r8 : w5.cell? ⟨rb, 8, none⟩ = some (.slice none 0 0) := block_cell (HRS.out) 8
                have r9 : w5.cell? ⟨rb, 9, none⟩ = some (.int .i64 0) := block_cell (HRS.out) 9
                have q0 := block_fz (HRS.out) 0
                have q1 := block_fz (HRS.out) 1
                have q2 := block_fz (HRS.out) 2
                have q3 := block_fz (HRS.out) 3
                have q4 := block_fz (HRS.out) 4
                have q5 := block_fz (HRS.out) 5
                have q6 := block_fz (HRS.out) 6
                have q7 := block_fz (HRS.out) 7
                have q8 := block_fz (HRS.out) 8
                have q9 := block_fz (HRS.out) 9
                have HS0 : Ext w w5.drew := HXV.out.drew
                have hz := st10 (W := w5) (HRS.out) (.int .i64 0) (.int .i64 0) (.int .i64 0) (.int .i64 0) (.int .i64 0) (.int .i64 0) (.int .i64 0) (.int .i64 0) (.slice none 0 0) (.int .i64 0)
                have hz1 := heap_drew hz.1
                have HZ := Lib.hid (And.intro hz1 ((Fr.ext HXV.out hz.2 (fun i e => by have e : i = rb := e; have := HRB.out; omega)).drew))
                clear hz hz1
                refine d_region (fun W => Ext w W) [] (by kernel_rfl) ?_
                refine d_take (i := 0) (v := ?_) [] (some 101) rfl (by rfl) (by kernel_rfl) (by kernel_rfl) (by kernel_rfl) (by kernel_rfl) (by kernel_rfl) (by kernel_rfl) (fun _ _ _ h => h) (.inl ⟨by rfl, ?_⟩) HS0 ?_
                rotate_left 1
                · (intro W hW; (try dsimp only at hW); go_simp; try with_reducible rfl)
                try simp only [Act.put, List.setIfInBounds_toArray, List.set_cons_zero, List.set_cons_succ]
                refine d_take (i := 1) (v := ?_) [] (some 102) rfl (by rfl) (by kernel_rfl) (by kernel_rfl) (by kernel_rfl) (by kernel_rfl) (by kernel_rfl) (by kernel_rfl) (fun _ _ _ h => h) (.inl ⟨by rfl, ?_⟩) HS0 ?_
                rotate_left 1
                · (intro W hW; (try dsimp only at hW); go_simp; try with_reducible rfl)
                try simp only [Act.put, List.setIfInBounds_toArray, List.set_cons_zero, List.set_cons_succ]
                refine d_one (i := 2) (by kernel_rfl) rfl rfl (fun K hK => ?_)
                simp only [List.getElem_toArray, List.getElem_cons_succ, List.getElem_cons_zero]
                go_simp
                refine hK.out _ _ (fun _ => HZ.out.2) ?_
                clear hK K
                try simp only [Act.put, List.setIfInBounds_toArray, List.set_cons_zero, List.set_cons_succ]
                refine d_one (i := 3) (by kernel_rfl) rfl rfl (fun K hK => ?_)
                simp only [List.getElem_toArray, List.getElem_cons_succ, List.getElem_cons_zero]
                go_simp
                refine hK.out _ _ (fun _ => HZ.out.2) ?_
                clear hK K 
                try simp only [Act.put, List.setIfInBounds_toArray, List.set_cons_zero, List.set_cons_succ]
                refine d_done (by kernel_rfl) ?_ _
                clear r0 q0 r1 q1 r2 q2 r3 q3 r4 q4 r5 q5 r6 q6 r7 q7 r8 q8 r9 q9
                have hzc := HZ.out.1
                generalize ((((((((((w5.setCell ⟨rb, 0, none⟩ (.int .i64 0)).setCell ⟨rb, 1, none⟩ (.int .i64 0)).setCell ⟨rb, 2, none⟩ (.int .i64 0)).setCell ⟨rb, 3, none⟩ (.int .i64 0)).setCell ⟨rb, 4, none⟩ (.int .i64 0)).setCell ⟨rb, 5, none⟩ (.int .i64 0)).setCell ⟨rb, 6, none⟩ (.int .i64 0)).setCell ⟨rb, 7, none⟩ (.int .i64 0)).setCell ⟨rb, 8, none⟩ (.slice none 0 0)).setCell ⟨rb, 9, none⟩ (.int .i64 0)).drew = Z at *
                clear hzc
                have z0 : Z.cell? ⟨rb, 0, none⟩ = some (.int .i64 0) := block_cell (HZ.out.1) 0
                have z1 : Z.cell? ⟨rb, 1, none⟩ = some (.int .i64 0) := block_cell (HZ.out.1) 1
                have z2 : Z.cell? ⟨rb, 2, none⟩ = some (.int .i64 0) := block_cell (HZ.out.1) 2
                have z3 : Z.cell? ⟨rb, 3, none⟩ = some (.int .i64 0) := block_cell (HZ.out.1) 3
                have z4 : Z.cell? ⟨rb, 4, none⟩ = some (.int .i64 0) := block_cell (HZ.out.1) 4
                have z5 : Z.cell? ⟨rb, 5, none⟩ = some (.int .i64 0) := block_cell (HZ.out.1) 5
                have z6 : Z.cell? ⟨rb, 6, none⟩ = some (.int .i64 0) := block_cell (HZ.out.1) 6
                have z7 : Z.cell? ⟨rb, 7, none⟩ = some (.int .i64 0) := block_cell (HZ.out.1) 7
                have z8 : Z.cell? ⟨rb, 8, none⟩ = some (.slice none 0 0) := block_cell (HZ.out.1) 8
                have z9 : Z.cell? ⟨rb, 9, none⟩ = some (.int .i64 0) := block_cell (HZ.out.1) 9
                go_wp2_with fail
                refine bodyPost_ret (v := .tuple #[.agg #[.int .i64 0, .int .i64 0, .int .i64 0, .int .i64 0, .int .i64 0, .int .i64 0, .int .i64 0, .int .i64 0, .slice none 0 0, .int .i64 0], .iface 149 (.pointer (some pb))]) (by simp [results, Tryd.results28, go_sem, z0, z1, z2, z3, z4, z5, z6, z7, z8, z9]) rfl ?_
                exact ⟨.inr ⟨HNO.out, rfl⟩, HZ.out.2⟩
end Go.Proofs.YteflnnlihblpgaaDoor
