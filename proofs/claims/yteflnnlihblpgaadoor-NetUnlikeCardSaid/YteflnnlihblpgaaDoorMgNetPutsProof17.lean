/-
  Package net: Get, walked.
-/
import Derived.Test.YteflnnlihblpgaaDoorMgNetPutsProof16
namespace Go.Proofs.YteflnnlihblpgaaDoor
set_option maxRecDepth 100000
open Go.RowKit
set_option linter.unusedVariables false
theorem st9 {W : World} {rb : Nat} {c0 c1 c2 c3 c4 c5 c6 c7 c8 : Value} {t : TypeId} (h : W.heap[rb]? = some (.cells #[c0, c1, c2, c3, c4, c5, c6, c7, c8] t (0, 0))) (v0 v1 v2 v3 v4 v5 v6 v7 v8 : Value) :
    (((((((((W.setCell ⟨rb, 0, none⟩ v0).setCell ⟨rb, 1, none⟩ v1).setCell ⟨rb, 2, none⟩ v2).setCell ⟨rb, 3, none⟩ v3).setCell ⟨rb, 4, none⟩ v4).setCell ⟨rb, 5, none⟩ v5).setCell ⟨rb, 6, none⟩ v6).setCell ⟨rb, 7, none⟩ v7).setCell ⟨rb, 8, none⟩ v8).heap[rb]? = some (.cells #[v0, v1, v2, v3, v4, v5, v6, v7, v8] t (0, 0)) ∧ Fr W (((((((((W.setCell ⟨rb, 0, none⟩ v0).setCell ⟨rb, 1, none⟩ v1).setCell ⟨rb, 2, none⟩ v2).setCell ⟨rb, 3, none⟩ v3).setCell ⟨rb, 4, none⟩ v4).setCell ⟨rb, 5, none⟩ v5).setCell ⟨rb, 6, none⟩ v6).setCell ⟨rb, 7, none⟩ v7).setCell ⟨rb, 8, none⟩ v8) (· = rb) := by
  have h0 : (W.setCell ⟨rb, 0, none⟩ v0).heap[rb]? = some (.cells #[v0, c1, c2, c3, c4, c5, c6, c7, c8] t (0, 0)) := heap_setCell_same W rb 0 _ _ v0 h
  have f0 : Fr W (W.setCell ⟨rb, 0, none⟩ v0) (· = rb) := Fr.store W ⟨rb, 0, none⟩ v0
  have h1 : ((W.setCell ⟨rb, 0, none⟩ v0).setCell ⟨rb, 1, none⟩ v1).heap[rb]? = some (.cells #[v0, v1, c2, c3, c4, c5, c6, c7, c8] t (0, 0)) := heap_setCell_same (W.setCell ⟨rb, 0, none⟩ v0) rb 1 _ _ v1 h0
  have f1 : Fr W ((W.setCell ⟨rb, 0, none⟩ v0).setCell ⟨rb, 1, none⟩ v1) (· = rb) := (f0).trans (Fr.store (W.setCell ⟨rb, 0, none⟩ v0) ⟨rb, 1, none⟩ v1) (fun _ _ h => h)
  have h2 : (((W.setCell ⟨rb, 0, none⟩ v0).setCell ⟨rb, 1, none⟩ v1).setCell ⟨rb, 2, none⟩ v2).heap[rb]? = some (.cells #[v0, v1, v2, c3, c4, c5, c6, c7, c8] t (0, 0)) := heap_setCell_same ((W.setCell ⟨rb, 0, none⟩ v0).setCell ⟨rb, 1, none⟩ v1) rb 2 _ _ v2 h1
  have f2 : Fr W (((W.setCell ⟨rb, 0, none⟩ v0).setCell ⟨rb, 1, none⟩ v1).setCell ⟨rb, 2, none⟩ v2) (· = rb) := (f1).trans (Fr.store ((W.setCell ⟨rb, 0, none⟩ v0).setCell ⟨rb, 1, none⟩ v1) ⟨rb, 2, none⟩ v2) (fun _ _ h => h)
  have h3 : ((((W.setCell ⟨rb, 0, none⟩ v0).setCell ⟨rb, 1, none⟩ v1).setCell ⟨rb, 2, none⟩ v2).setCell ⟨rb, 3, none⟩ v3).heap[rb]? = some (.cells #[v0, v1, v2, v3, c4, c5, c6, c7, c8] t (0, 0)) := heap_setCell_same (((W.setCell ⟨rb, 0, none⟩ v0).setCell ⟨rb, 1, none⟩ v1).setCell ⟨rb, 2, none⟩ v2) rb 3 _ _ v3 h2
  have f3 : Fr W ((((W.setCell ⟨rb, 0, none⟩ v0).setCell ⟨rb, 1, none⟩ v1).setCell ⟨rb, 2, none⟩ v2).setCell ⟨rb, 3, none⟩ v3) (· = rb) := (f2).trans (Fr.store (((W.setCell ⟨rb, 0, none⟩ v0).setCell ⟨rb, 1, none⟩ v1).setCell ⟨rb, 2, none⟩ v2) ⟨rb, 3, none⟩ v3) (fun _ _ h => h)
  have h4 : (((((W.setCell ⟨rb, 0, none⟩ v0).setCell ⟨rb, 1, none⟩ v1).setCell ⟨rb, 2, none⟩ v2).setCell ⟨rb, 3, none⟩ v3).setCell ⟨rb, 4, none⟩ v4).heap[rb]? = some (.cells #[v0, v1, v2, v3, v4, c5, c6, c7, c8] t (0, 0)) := heap_setCell_same ((((W.setCell ⟨rb, 0, none⟩ v0).setCell ⟨rb, 1, none⟩ v1).setCell ⟨rb, 2, none⟩ v2).setCell ⟨rb, 3, none⟩ v3) rb 4 _ _ v4 h3
  have f4 : Fr W (((((W.setCell ⟨rb, 0, none⟩ v0).setCell ⟨rb, 1, none⟩ v1).setCell ⟨rb, 2, none⟩ v2).setCell ⟨rb, 3, none⟩ v3).setCell ⟨rb, 4, none⟩ v4) (· = rb) := (f3).trans (Fr.store ((((W.setCell ⟨rb, 0, none⟩ v0).setCell ⟨rb, 1, none⟩ v1).setCell ⟨rb, 2, none⟩ v2).setCell ⟨rb, 3, none⟩ v3) ⟨rb, 4, none⟩ v4) (fun _ _ h => h)
  have h5 : ((((((W.setCell ⟨rb, 0, none⟩ v0).setCell ⟨rb, 1, none⟩ v1).setCell ⟨rb, 2, none⟩ v2).setCell ⟨rb, 3, none⟩ v3).setCell ⟨rb, 4, none⟩ v4).setCell ⟨rb, 5, none⟩ v5).heap[rb]? = some (.cells #[v0, v1, v2, v3, v4, v5, c6, c7, c8] t (0, 0)) := heap_setCell_same (((((W.setCell ⟨rb, 0, none⟩ v0).setCell ⟨rb, 1, none⟩ v1).setCell ⟨rb, 2, none⟩ v2).setCell ⟨rb, 3, none⟩ v3).setCell ⟨rb, 4, none⟩ v4) rb 5 _ _ v5 h4
  have f5 : Fr W ((((((W.setCell ⟨rb, 0, none⟩ v0).setCell ⟨rb, 1, none⟩ v1).setCell ⟨rb, 2, none⟩ v2).setCell ⟨rb, 3, none⟩ v3).setCell ⟨rb, 4, none⟩ v4).setCell ⟨rb, 5, none⟩ v5) (· = rb) := (f4).trans (Fr.store (((((W.setCell ⟨rb, 0, none⟩ v0).setCell ⟨rb, 1, none⟩ v1).setCell ⟨rb, 2, none⟩ v2).setCell ⟨rb, 3, none⟩ v3).setCell ⟨rb, 4, none⟩ v4) ⟨rb, 5, none⟩ v5) (fun _ _ h => h)
  have h6 : (((((((W.setCell ⟨rb, 0, none⟩ v0).setCell ⟨rb, 1, none⟩ v1).setCell ⟨rb, 2, none⟩ v2).setCell ⟨rb, 3, none⟩ v3).setCell ⟨rb, 4, none⟩ v4).setCell ⟨rb, 5, none⟩ v5).setCell ⟨rb, 6, none⟩ v6).heap[rb]? = some (.cells #[v0, v1, v2, v3, v4, v5, v6, c7, c8] t (0, 0)) := heap_setCell_same ((((((W.setCell ⟨rb, 0, none⟩ v0).setCell ⟨rb, 1, none⟩ v1).setCell ⟨rb, 2, none⟩ v2).setCell ⟨rb, 3, none⟩ v3).setCell ⟨rb, 4, none⟩ v4).setCell ⟨rb, 5, none⟩ v5) rb 6 _ _ v6 h5
  have f6 : Fr W (((((((W.setCell ⟨rb, 0, none⟩ v0).setCell ⟨rb, 1, none⟩ v1).setCell ⟨rb, 2, none⟩ v2).setCell ⟨rb, 3, none⟩ v3).setCell ⟨rb, 4, none⟩ v4).setCell ⟨rb, 5, none⟩ v5).setCell ⟨rb, 6, none⟩ v6) (· = rb) := (f5).trans (Fr.store ((((((W.setCell ⟨rb, 0, none⟩ v0).setCell ⟨rb, 1, none⟩ v1).setCell ⟨rb, 2, none⟩ v2).setCell ⟨rb, 3, none⟩ v3).setCell ⟨rb, 4, none⟩ v4).setCell ⟨rb, 5, none⟩ v5) ⟨rb, 6, none⟩ v6) (fun _ _ h => h)
  have h7 : ((((((((W.setCell ⟨rb, 0, none⟩ v0).setCell ⟨rb, 1, none⟩ v1).setCell ⟨rb, 2, none⟩ v2).setCell ⟨rb, 3, none⟩ v3).setCell ⟨rb, 4, none⟩ v4).setCell ⟨rb, 5, none⟩ v5).setCell ⟨rb, 6, none⟩ v6).setCell ⟨rb, 7, none⟩ v7).heap[rb]? = some (.cells #[v0, v1, v2, v3, v4, v5, v6, v7, c8] t (0, 0)) := heap_setCell_same (((((((W.setCell ⟨rb, 0, none⟩ v0).setCell ⟨rb, 1, none⟩ v1).setCell ⟨rb, 2, none⟩ v2).setCell ⟨rb, 3, none⟩ v3).setCell ⟨rb, 4, none⟩ v4).setCell ⟨rb, 5, none⟩ v5).setCell ⟨rb, 6, none⟩ v6) rb 7 _ _ v7 h6
  have f7 : Fr W ((((((((W.setCell ⟨rb, 0, none⟩ v0).setCell ⟨rb, 1, none⟩ v1).setCell ⟨rb, 2, none⟩ v2).setCell ⟨rb, 3, none⟩ v3).setCell ⟨rb, 4, none⟩ v4).setCell ⟨rb, 5, none⟩ v5).setCell ⟨rb, 6, none⟩ v6).setCell ⟨rb, 7, none⟩ v7) (· = rb) := (f6).trans (Fr.store (((((((W.setCell ⟨rb, 0, none⟩ v0).setCell ⟨rb, 1, none⟩ v1).setCell ⟨rb, 2, none⟩ v2).setCell ⟨rb, 3, none⟩ v3).setCell ⟨rb, 4, none⟩ v4).setCell ⟨rb, 5, none⟩ v5).setCell ⟨rb, 6, none⟩ v6) ⟨rb, 7, none⟩ v7) (fun _ _ h => h)
  have h8 : (((((((((W.setCell ⟨rb, 0, none⟩ v0).setCell ⟨rb, 1, none⟩ v1).setCell ⟨rb, 2, none⟩ v2).setCell ⟨rb, 3, none⟩ v3).setCell ⟨rb, 4, none⟩ v4).setCell ⟨rb, 5, none⟩ v5).setCell ⟨rb, 6, none⟩ v6).setCell ⟨rb, 7, none⟩ v7).setCell ⟨rb, 8, none⟩ v8).heap[rb]? = some (.cells #[v0, v1, v2, v3, v4, v5, v6, v7, v8] t (0, 0)) := heap_setCell_same ((((((((W.setCell ⟨rb, 0, none⟩ v0).setCell ⟨rb, 1, none⟩ v1).setCell ⟨rb, 2, none⟩ v2).setCell ⟨rb, 3, none⟩ v3).setCell ⟨rb, 4, none⟩ v4).setCell ⟨rb, 5, none⟩ v5).setCell ⟨rb, 6, none⟩ v6).setCell ⟨rb, 7, none⟩ v7) rb 8 _ _ v8 h7
  have f8 : Fr W (((((((((W.setCell ⟨rb, 0, none⟩ v0).setCell ⟨rb, 1, none⟩ v1).setCell ⟨rb, 2, none⟩ v2).setCell ⟨rb, 3, none⟩ v3).setCell ⟨rb, 4, none⟩ v4).setCell ⟨rb, 5, none⟩ v5).setCell ⟨rb, 6, none⟩ v6).setCell ⟨rb, 7, none⟩ v7).setCell ⟨rb, 8, none⟩ v8) (· = rb) := (f7).trans (Fr.store ((((((((W.setCell ⟨rb, 0, none⟩ v0).setCell ⟨rb, 1, none⟩ v1).setCell ⟨rb, 2, none⟩ v2).setCell ⟨rb, 3, none⟩ v3).setCell ⟨rb, 4, none⟩ v4).setCell ⟨rb, 5, none⟩ v5).setCell ⟨rb, 6, none⟩ v6).setCell ⟨rb, 7, none⟩ v7) ⟨rb, 8, none⟩ v8) (fun _ _ h => h)
  exact ⟨h8, f8⟩
theorem pad8_set (ns : List Int) (v : Int) (k : Nat) (h : ns.length = k) (hk : k < 8) : (ns ++ List.replicate (8 - k) 0).set k v = (ns ++ [v]) ++ List.replicate (8 - (k + 1)) 0 := by
  subst h
  rw [List.set_append_right _ _ (Nat.le_refl _), Nat.sub_self, show 8 - ns.length = (8 - (ns.length + 1)) + 1 by omega, List.replicate_succ, List.set_cons_zero, List.append_assoc]
  rfl
theorem pad8_at (ns : List Int) (k : Nat) (h : ns.length = k) (hk : k < 8) : (ints (ns ++ List.replicate (8 - ns.length) 0))[k]? = some (.int .i64 0) := by
  subst h
  unfold ints
  rw [List.getElem?_map, List.getElem?_append_right (Nat.le_refl _), Nat.sub_self, show 8 - ns.length = (8 - (ns.length + 1)) + 1 by omega, List.replicate_succ]
  rfl
/-- The error that goes with its number. -/
def errM (pb pu : Addr) (k : Nat) : Value := .iface 149 (.pointer (some (if k = 3 then pb else pu)))
/-- The reader on its way, the array, the result's place. -/
structure GM (w wr : World) (g ab rb : Nat) (A : Option Addr) (n c at_ : Nat) (l : List Nat) (ns : List Int) : Prop where
  rs : RdS wr g A n c at_ l
  arr : wr.heap[ab]? = some (.cells (ints (ns ++ List.replicate (8 - ns.length) 0)).toArray 126 (0, 0))
  res : wr.heap[rb]? = some (.cells #[.int .i64 0, .int .i64 0, .int .i64 0, .int .i64 0, .int .i64 0, .int .i64 0, .int .i64 0, .int .i64 0, .slice none 0 0] 76 (0, 0))
  x : Ext w wr
  lt : w.heap.size ≤ g ∧ w.heap.size ≤ ab ∧ w.heap.size ≤ rb ∧ g ≠ ab ∧ g ≠ rb ∧ ab ≠ rb
  nA : 0 < n → ∀ a, A = some a → w.heap.size ≤ a.block ∧ a.block ≠ ab
  p : Part l at_ ns
section
variable {w wr w' : World} {g ab rb n c at_ : Nat} {A : Option Addr} {l : List Nat} {ns : List Int}
theorem GM.read (h : GM w wr g ab rb A n c at_ l ns) {x k : Nat} (hr : Wr.rd (l.drop at_) = some (x, k)) (hx : x ≤ 1099511627776) (hl : ns.length < 8) :
    GM w ((wr.setCell ⟨g, 1, none⟩ (.int .i64 ((at_ + k : Nat) : Int))).setCell ⟨ab, ns.length, none⟩ (.int .i64 (x : Int))) g ab rb A n c (at_ + k) l (ns ++ [(x : Int)]) := by
  have f1 := Fr.store wr ⟨g, 1, none⟩ (.int .i64 ((at_ + k : Nat) : Int))
  have f2 := Fr.store (wr.setCell ⟨g, 1, none⟩ (.int .i64 ((at_ + k : Nat) : Int))) ⟨ab, ns.length, none⟩ (.int .i64 (x : Int))
  obtain ⟨l1, l2, l3, l4, l5, l6⟩ := h.lt
  have hkb := Wr.rd_count hr
  have hn := h.rs.len
  have hle := h.rs.le
  rw [List.length_drop] at hkb
  have h1 := h.rs.put (at_ + k) (by omega)
  have ba : (wr.setCell ⟨g, 1, none⟩ (.int .i64 ((at_ + k : Nat) : Int))).heap[ab]? = _ := (f1.block ab (block_lt h.arr) (fun e => l4 e.symm)).trans h.arr
  refine ⟨h1.frm f2 (fun e => l4 e) (fun h0 a ha e => (h.nA h0 a ha).2 e), ?_, ?_, ?_, ⟨l1, l2, l3, l4, l5, l6⟩, h.nA, h.p.next h.rs.byte hr hx⟩
  · have b2 := heap_setCell_same _ ab ns.length _ _ (.int .i64 (x : Int)) ba
    rw [ints_set, pad8_set ns _ ns.length rfl hl] at b2
    rw [List.length_append, List.length_singleton]
    exact b2
  · exact (f2.block rb (by have := f1.size; have := block_lt h.res; omega) (fun e => l6 e.symm)).trans ((f1.block rb (block_lt h.res) (fun e => l5 e.symm)).trans h.res)
  · exact Fr.ext (Fr.ext h.x f1 (fun i e => by have e : i = g := e; omega)) f2 (fun i e => by have e : i = ab := e; omega)
theorem GM.num (h : GM w wr g ab rb A n c at_ l ns) {x k : Nat} (hr : Wr.rd (l.drop at_) = some (x, k)) (hx : x ≤ 1099511627776) {j : Nat} (hj : ns.length = j) (hl : j < 8) :
    Calls Tryd.prog 58 #[.pointer (some ⟨g, 0, none⟩), .int .i64 1099511627776] wr fun e w' => e = .returned (.tuple #[.int .i64 (x : Int), .nilIface]) ∧ w'.cell? ⟨ab, j, none⟩ = some (.int .i64 0) ∧ w'.frozen? ⟨ab, j, none⟩ = false ∧ Hid (GM w (w'.setCell ⟨ab, j, none⟩ (.int .i64 (x : Int))) g ab rb A n c (at_ + k) l (ns ++ [(x : Int)])) := by
  subst hj
  refine (rnum_ok h.rs hr 1099511627776 (by omega)).mono ?_
  rintro e w' ⟨rfl, rfl⟩
  have bA : (wr.setCell ⟨g, 1, none⟩ (.int .i64 ((at_ + k : Nat) : Int))).heap[ab]? = _ := ((Fr.store wr ⟨g, 1, none⟩ (.int .i64 ((at_ + k : Nat) : Int))).block ab (block_lt h.arr) (fun e => h.lt.2.2.2.1 e.symm)).trans h.arr
  exact ⟨rfl, by rw [block_cell bA, List.getElem?_toArray]; exact pad8_at ns _ rfl hl, block_fz bA _, Lib.hid (h.read hr hx hl)⟩
theorem GM.num_no (h : GM w wr g ab rb A n c at_ l ns) (hno : ∀ x k, Wr.rd (l.drop at_) = some (x, k) → (1099511627776 : Int) < (x : Int)) {j : Nat} (hj : ns.length = j) (hl : j < 8) {pb : Addr} (hS : Sen wr 2 pb) :
    Calls Tryd.prog 58 #[.pointer (some ⟨g, 0, none⟩), .int .i64 1099511627776] wr fun e w' => e = .returned (.tuple #[.int .i64 0, .iface 149 (.pointer (some pb))]) ∧ w'.cell? ⟨ab, j, none⟩ = some (.int .i64 0) ∧ w'.frozen? ⟨ab, j, none⟩ = false ∧ Hid ((w'.setCell ⟨ab, j, none⟩ (.int .i64 0)).heap[rb]? = some (.cells #[.int .i64 0, .int .i64 0, .int .i64 0, .int .i64 0, .int .i64 0, .int .i64 0, .int .i64 0, .int .i64 0, .slice none 0 0] 76 (0, 0)) ∧ Ext w (w'.setCell ⟨ab, j, none⟩ (.int .i64 0))) := by
  subst hj
  refine (rnum_no h.rs 1099511627776 hno hS).mono ?_
  rintro e w' ⟨rfl, i, rfl⟩
  have bA : (wr.drewN i).heap[ab]? = _ := h.arr
  have bR : (wr.drewN i).heap[rb]? = _ := h.res
  have f2 := Fr.store (wr.drewN i) ⟨ab, ns.length, none⟩ (.int .i64 0)
  obtain ⟨l1, l2, l3, l4, l5, l6⟩ := h.lt
  exact ⟨rfl, by rw [block_cell bA, List.getElem?_toArray]; exact pad8_at ns _ rfl hl, block_fz bA _, Lib.hid ⟨(f2.block rb (block_lt bR) (fun e => l6 e.symm)).trans bR, Fr.ext (h.x.drewN i) f2 (fun i e => by have e : i = ab := e; omega)⟩⟩
end
set_option maxHeartbeats 12800000 in
theorem mget_any (A : Option Addr) (n c : Nat) (l : List Nat) (w : World) (hr : Rd w 1 A n (u8s l)) (hl : ∀ x ∈ l, x < 256) (hn : n ≤ 140737488351232) (hnc : n ≤ c) {pb ps pu : Addr} (hB : Sen w 2 pb) (hS : Sen w 1 ps) (hU : Sen w 3 pu) : Calls Tryd.prog 42 #[.slice A n c] w fun x w' => MsgOut l w.heap.size (errM pb pu (getErr l)) .nilIface x w' ∧ Ext w w' := by
  have hlen : l.length = n := by have h := hr.len; rw [u8s_len] at h; omega
  have HSE := Lib.hid (fun W (hx : Ext w W) => And.intro (hB.ext hx) (And.intro (hS.ext hx) (hU.ext hx)))
  have X0 := (Ext.refl w).alloc (.cells #[.int .i64 0, .int .i64 0, .int .i64 0, .int .i64 0, .int .i64 0, .int .i64 0, .int .i64 0, .int .i64 0, .slice none 0 0] 76)
  have HV := Lib.hid (And.intro (heap_alloc_new w (.cells #[.int .i64 0, .int .i64 0, .int .i64 0, .int .i64 0, .int .i64 0, .int .i64 0, .int .i64 0, .int .i64 0, .slice none 0 0] 76)) (And.intro X0 (hr.ext X0)))
  have HL := Lib.hid hl
  clear X0 hr hB hS hU hl
  go_enter Tryd.func42, Tryd.ntmps42
  go_upto_region 1 with (fail)
  generalize w.alloc (.cells #[.int .i64 0, .int .i64 0, .int .i64 0, .int .i64 0, .int .i64 0, .int .i64 0, .int .i64 0, .int .i64 0, .slice none 0 0] 76) = V at *
  obtain ⟨rb, hrb⟩ : ∃ rb, w.heap.size = rb := ⟨_, rfl⟩
  simp only [hrb]
  have HRB := Lib.hid hrb
  have HV0 := HV
  rw [hrb] at HV
  have HVb := Lib.hid HV.out.1
  clear HV0
  clear hrb
  have HS1 := HSE.out V HV.out.2.1
  by_cases h4 : n < 4
  · have CO := Lib.hid ((open_few A n c V h4 HS1.1).mono (fun e w' (h : _ ∧ ∃ k, w' = V.drewN k) => And.intro h.1 (by obtain ⟨k, hk⟩ := h.2; rw [hk]; exact (Ext.refl V).drewN k)))
    have HNO : Hid ((∀ (m : Ms) (es : List En), m.form es = true → l ≠ m.put es) ∧ getErr l = 3) := Lib.hid (by
      have ho : (opened l).2 = 3 := by
        unfold opened
        rw [if_pos (by omega)]
      refine ⟨fun m es hf hle => ?_, by unfold getErr; rw [ho]; rfl⟩
      have h2 := (opened_put hle).1
      rw [ho] at h2
      cases h2)
    clear HS1
    go_upto_region 2 with (go_at_call 73; refine CO.out.mono ?_; rintro _ w1 ⟨rfl, x1⟩)
    have HRS := Lib.hid ((x1.block rb (block_lt HVb.out)).trans HVb.out)
    have HXV := Lib.hid (HV.out.2.1.trans x1)
    clear x1 CO
    have r0 : w1.cell? ⟨rb, 0, none⟩ = some (.int .i64 0) := block_cell (HRS.out) 0
    have r1 : w1.cell? ⟨rb, 1, none⟩ = some (.int .i64 0) := block_cell (HRS.out) 1
    have r2 : w1.cell? ⟨rb, 2, none⟩ = some (.int .i64 0) := block_cell (HRS.out) 2
    have r3 : w1.cell? ⟨rb, 3, none⟩ = some (.int .i64 0) := block_cell (HRS.out) 3
    have r4 : w1.cell? ⟨rb, 4, none⟩ = some (.int .i64 0) := block_cell (HRS.out) 4
    have r5 : w1.cell? ⟨rb, 5, none⟩ = some (.int .i64 0) := block_cell (HRS.out) 5
    have r6 : w1.cell? ⟨rb, 6, none⟩ = some (.int .i64 0) := block_cell (HRS.out) 6
    have r7 : w1.cell? ⟨rb, 7, none⟩ = some (.int .i64 0) := block_cell (HRS.out) 7
    have r8 : w1.cell? ⟨rb, 8, none⟩ = some (.slice none 0 0) := block_cell (HRS.out) 8
    have q0 := block_fz (HRS.out) 0
    have q1 := block_fz (HRS.out) 1
    have q2 := block_fz (HRS.out) 2
    have q3 := block_fz (HRS.out) 3
    have q4 := block_fz (HRS.out) 4
    have q5 := block_fz (HRS.out) 5
    have q6 := block_fz (HRS.out) 6
    have q7 := block_fz (HRS.out) 7
    have q8 := block_fz (HRS.out) 8
    go_wp2_with fail
    have hz := st9 (W := w1) (HRS.out) (.int .i64 0) (.int .i64 0) (.int .i64 0) (.int .i64 0) (.int .i64 0) (.int .i64 0) (.int .i64 0) (.int .i64 0) (.slice none 0 0)
    have HZ := Lib.hid (And.intro hz.1 (Fr.ext (HXV.out) hz.2 (fun i e => by have e : i = rb := e; have := HRB.out; omega)))
    clear hz r0 q0 r1 q1 r2 q2 r3 q3 r4 q4 r5 q5 r6 q6 r7 q7 r8 q8
    generalize (((((((((w1.setCell ⟨rb, 0, none⟩ (.int .i64 0)).setCell ⟨rb, 1, none⟩ (.int .i64 0)).setCell ⟨rb, 2, none⟩ (.int .i64 0)).setCell ⟨rb, 3, none⟩ (.int .i64 0)).setCell ⟨rb, 4, none⟩ (.int .i64 0)).setCell ⟨rb, 5, none⟩ (.int .i64 0)).setCell ⟨rb, 6, none⟩ (.int .i64 0)).setCell ⟨rb, 7, none⟩ (.int .i64 0)).setCell ⟨rb, 8, none⟩ (.slice none 0 0)) = Z at *
    have z0 : Z.cell? ⟨rb, 0, none⟩ = some (.int .i64 0) := block_cell (HZ.out.1) 0
    have z1 : Z.cell? ⟨rb, 1, none⟩ = some (.int .i64 0) := block_cell (HZ.out.1) 1
    have z2 : Z.cell? ⟨rb, 2, none⟩ = some (.int .i64 0) := block_cell (HZ.out.1) 2
    have z3 : Z.cell? ⟨rb, 3, none⟩ = some (.int .i64 0) := block_cell (HZ.out.1) 3
    have z4 : Z.cell? ⟨rb, 4, none⟩ = some (.int .i64 0) := block_cell (HZ.out.1) 4
    have z5 : Z.cell? ⟨rb, 5, none⟩ = some (.int .i64 0) := block_cell (HZ.out.1) 5
    have z6 : Z.cell? ⟨rb, 6, none⟩ = some (.int .i64 0) := block_cell (HZ.out.1) 6
    have z7 : Z.cell? ⟨rb, 7, none⟩ = some (.int .i64 0) := block_cell (HZ.out.1) 7
    have z8 : Z.cell? ⟨rb, 8, none⟩ = some (.slice none 0 0) := block_cell (HZ.out.1) 8
    refine bodyPost_ret (v := .tuple #[.agg #[.int .i64 0, .int .i64 0, .int .i64 0, .int .i64 0, .int .i64 0, .int .i64 0, .int .i64 0, .int .i64 0, .slice none 0 0], .iface 149 (.pointer (some pb))]) (by simp [results, Tryd.results42, go_sem, z0, z1, z2, z3, z4, z5, z6, z7, z8]) rfl ?_
    exact ⟨.inr ⟨HNO.out.1, by rw [HNO.out.2]; rfl⟩, HZ.out.2⟩
  · obtain ⟨n0, hn0⟩ : ∃ n0, n = n0 + 4 := ⟨n - 4, by omega⟩
    subst hn0
    by_cases hs : sealed (l.take n0) = l
    · have CO := Lib.hid (open_good A n0 c l V (by omega) hnc HV.out.2.2 HL.out hs)
      have HO : Hid ((opened l).2 = 0 ∧ (opened l).1 = l.take n0) := Lib.hid (by
        unfold opened
        rw [if_neg (by omega), hlen, show n0 + 4 - 4 = n0 by omega, if_pos hs]
        exact ⟨rfl, rfl⟩)
      have HL0 := Lib.hid (fun x (hx : x ∈ l.take n0) => HL.out x (List.mem_of_mem_take hx))
      have hl0 : (l.take n0).length = n0 := by rw [List.length_take]; omega
      obtain ⟨l0, hl0e⟩ : ∃ l0, l.take n0 = l0 := ⟨_, rfl⟩
      rw [hl0e] at CO HO HL0 hl0
      clear hs hl0e HS1
      go_upto_region 4 with (go_at_call 73; refine CO.out.mono ?_; rintro _ w1 ⟨A1, c1, rfl, o1, x1⟩)
      have HX1 := Lib.hid (And.intro (HV.out.2.1.trans x1) ((x1.block rb (block_lt HVb.out)).trans HVb.out))
      have CR := Lib.hid (newr_any A1 n0 c1 l0 w1 o1.rd HL0.out (by omega))
      clear o1 x1 CO
      go_upto_region 5 with (go_at_call 57; refine CR.out.mono ?_; rintro _ w2 ⟨g, A2, c2, rfl, hg2, rs2, nA2, x2⟩)
      have X3 := (Ext.refl w2).alloc (.cells #[.int .i64 0, .int .i64 0, .int .i64 0, .int .i64 0, .int .i64 0, .int .i64 0, .int .i64 0, .int .i64 0] 126)
      have HG : Hid (GM w (w2.alloc (.cells #[.int .i64 0, .int .i64 0, .int .i64 0, .int .i64 0, .int .i64 0, .int .i64 0, .int .i64 0, .int .i64 0] 126)) g w2.heap.size rb A2 n0 c2 0 l0 []) := Lib.hid (by
        have hs := HX1.out.1.size
        have hlt := block_lt HX1.out.2
        have hs1 := x2.size
        have hrb := HRB.out
        have hgl := rs2.lt
        exact ⟨rs2.ext X3, heap_alloc_new w2 _, (X3.block rb (by omega)).trans ((x2.block rb hlt).trans HX1.out.2), (HX1.out.1.trans x2).trans X3, ⟨by omega, by omega, by omega, by omega, by omega, by omega⟩, fun h0 a ha => by
          have h1 := nA2 a ha
          refine ⟨by omega, fun e => ?_⟩
          obtain ⟨a', ha', hlt', _⟩ := rs2.rd.2 h0
          rw [ha] at ha'
          injection ha' with ha'
          rw [ha'] at e
          omega, Part.nil⟩)
      clear CR X3 rs2 nA2 hg2 x2 HX1
      go_upto_region 6 with (fail)
      generalize w2.alloc (.cells #[.int .i64 0, .int .i64 0, .int .i64 0, .int .i64 0, .int .i64 0, .int .i64 0, .int .i64 0, .int .i64 0] 126) = W0 at *
      generalize w2.heap.size = ab at *
      go_upto_region 7 with (fail)
      go_loopw [5, 8, 23] (fun _ _ v23 wr => ∃ (k at_ : Nat) (ns : List Int), v23 = .int .i64 (k : Int) ∧ k ≤ 8 ∧ Hid (ns.length = k ∧ GM w wr g ab rb A2 n0 c2 at_ l0 ns)) (fun _ _ v23 _ => 8 - (intOf v23).toNat)
      case atStart => exact ⟨0, 0, [], rfl, by omega, rfl, HG.out⟩
      case round =>
        obtain ⟨k, at_, ns, rfl, hk, HI⟩ := hrel
        clear HG
        by_cases hlt : k < 8
        · by_cases hok : ∃ x k', Wr.rd (l0.drop at_) = some (x, k') ∧ x ≤ 1099511627776
          · obtain ⟨x, k', hrd, hx⟩ := hok
            have CN := Lib.hid (HI.out.2.num hrd hx HI.out.1 hlt)
            have HLN := Lib.hid HI.out.1
            clear hrd
            have k0 : (0 : Int) ≤ k := by omega
            have k1 : (k : Int) < 8 := by omega
            go_upto_region 10 with (go_at_call 58; refine CN.out.mono ?_; rintro _ w4 ⟨rfl, yk, fk, HN⟩)
            clear CN yk fk
            go_wp2_with fail
            go_roundw
            case rel => exact ⟨k + 1, _, ns ++ [(x : Int)], by go_num, by omega, by rw [List.length_append, HLN.out]; rfl, HN.out⟩
            case measure => simp [intOf]; omega
          · have hno : ∀ x k', Wr.rd (l0.drop at_) = some (x, k') → (1099511627776 : Int) < (x : Int) := fun x k' hr => by
              rcases Nat.lt_or_ge 1099511627776 x with h | h
              · omega
              · exact absurd ⟨x, k', hr, h⟩ hok
            have CN := Lib.hid (HI.out.2.num_no hno HI.out.1 hlt (HSE.out wr HI.out.2.x).1)
            have HNO := Lib.hid (fun (m : Ms) (es : List En) (hf : m.form es = true) (hle : l = m.put es) => raw_no_next HI.out.2.p (by rw [HI.out.1]; exact hlt) hno hf (HO.out.2.symm.trans (opened_put hle).2))
            clear hok hno
            have k0 : (0 : Int) ≤ k := by omega
            have k1 : (k : Int) < 8 := by omega
            go_upto_region 10 with (go_at_call 58; refine CN.out.mono ?_; rintro _ w4 ⟨rfl, yk, fk, HN⟩)
            clear CN yk fk HI
            generalize w4.setCell ⟨ab, k, none⟩ (.int .i64 0) = W5 at *
            have r0 : W5.cell? ⟨rb, 0, none⟩ = some (.int .i64 0) := block_cell (HN.out.1) 0
            have r1 : W5.cell? ⟨rb, 1, none⟩ = some (.int .i64 0) := block_cell (HN.out.1) 1
            have r2 : W5.cell? ⟨rb, 2, none⟩ = some (.int .i64 0) := block_cell (HN.out.1) 2
            have r3 : W5.cell? ⟨rb, 3, none⟩ = some (.int .i64 0) := block_cell (HN.out.1) 3
            have r4 : W5.cell? ⟨rb, 4, none⟩ = some (.int .i64 0) := block_cell (HN.out.1) 4
            have r5 : W5.cell? ⟨rb, 5, none⟩ = some (.int .i64 0) := block_cell (HN.out.1) 5
            have r6 : W5.cell? ⟨rb, 6, none⟩ = some (.int .i64 0) := block_cell (HN.out.1) 6
            have r7 : W5.cell? ⟨rb, 7, none⟩ = some (.int .i64 0) := block_cell (HN.out.1) 7
            have r8 : W5.cell? ⟨rb, 8, none⟩ = some (.slice none 0 0) := block_cell (HN.out.1) 8
            have q0 := block_fz (HN.out.1) 0
            have q1 := block_fz (HN.out.1) 1
            have q2 := block_fz (HN.out.1) 2
            have q3 := block_fz (HN.out.1) 3
            have q4 := block_fz (HN.out.1) 4
            have q5 := block_fz (HN.out.1) 5
            have q6 := block_fz (HN.out.1) 6
            have q7 := block_fz (HN.out.1) 7
            have q8 := block_fz (HN.out.1) 8
            go_wp2_with fail
            have hz := st9 (W := W5) (HN.out.1) (.int .i64 0) (.int .i64 0) (.int .i64 0) (.int .i64 0) (.int .i64 0) (.int .i64 0) (.int .i64 0) (.int .i64 0) (.slice none 0 0)
            have HZ := Lib.hid (And.intro hz.1 (Fr.ext (HN.out.2) hz.2 (fun i e => by have e : i = rb := e; have := HRB.out; omega)))
            clear hz r0 q0 r1 q1 r2 q2 r3 q3 r4 q4 r5 q5 r6 q6 r7 q7 r8 q8
            generalize (((((((((W5.setCell ⟨rb, 0, none⟩ (.int .i64 0)).setCell ⟨rb, 1, none⟩ (.int .i64 0)).setCell ⟨rb, 2, none⟩ (.int .i64 0)).setCell ⟨rb, 3, none⟩ (.int .i64 0)).setCell ⟨rb, 4, none⟩ (.int .i64 0)).setCell ⟨rb, 5, none⟩ (.int .i64 0)).setCell ⟨rb, 6, none⟩ (.int .i64 0)).setCell ⟨rb, 7, none⟩ (.int .i64 0)).setCell ⟨rb, 8, none⟩ (.slice none 0 0)) = Z at *
            have z0 : Z.cell? ⟨rb, 0, none⟩ = some (.int .i64 0) := block_cell (HZ.out.1) 0
            have z1 : Z.cell? ⟨rb, 1, none⟩ = some (.int .i64 0) := block_cell (HZ.out.1) 1
            have z2 : Z.cell? ⟨rb, 2, none⟩ = some (.int .i64 0) := block_cell (HZ.out.1) 2
            have z3 : Z.cell? ⟨rb, 3, none⟩ = some (.int .i64 0) := block_cell (HZ.out.1) 3
            have z4 : Z.cell? ⟨rb, 4, none⟩ = some (.int .i64 0) := block_cell (HZ.out.1) 4
            have z5 : Z.cell? ⟨rb, 5, none⟩ = some (.int .i64 0) := block_cell (HZ.out.1) 5
            have z6 : Z.cell? ⟨rb, 6, none⟩ = some (.int .i64 0) := block_cell (HZ.out.1) 6
            have z7 : Z.cell? ⟨rb, 7, none⟩ = some (.int .i64 0) := block_cell (HZ.out.1) 7
            have z8 : Z.cell? ⟨rb, 8, none⟩ = some (.slice none 0 0) := block_cell (HZ.out.1) 8
            refine bodyPost_ret (v := .tuple #[.agg #[.int .i64 0, .int .i64 0, .int .i64 0, .int .i64 0, .int .i64 0, .int .i64 0, .int .i64 0, .int .i64 0, .slice none 0 0], .iface 149 (.pointer (some pb))]) (by simp [results, Tryd.results42, go_sem, z0, z1, z2, z3, z4, z5, z6, z7, z8]) rfl ?_
            exact ⟨.inr ⟨HNO.out, by unfold getErr; rw [HO.out.1]; rfl⟩, HZ.out.2⟩
        · obtain rfl : k = 8 := by omega
          obtain ⟨a0, a1, a2, a3, a4, a5, a6, a7, rfl⟩ := eight_of HI.out.1
          have HA : Hid (wr.heap[ab]? = some (.cells #[.int .i64 a0, .int .i64 a1, .int .i64 a2, .int .i64 a3, .int .i64 a4, .int .i64 a5, .int .i64 a6, .int .i64 a7] 126 (0, 0))) := Lib.hid HI.out.2.arr
          have HG := Lib.hid HI.out.2
          clear HI hlt hk
          by_cases hok : ∃ x k', Wr.rd (l0.drop at_) = some (x, k') ∧ x ≤ n0 ∧ at_ + k' + x ≤ n0
          · obtain ⟨x, k', hrd, hx, hfit⟩ := hok
            have CB := Lib.hid (rbytes_ok HG.out.rs hrd (n0 : Int) (by omega) hfit)
            have HRD := Lib.hid hrd
            clear hrd
            go_upto_region 14 with (go_at_call 62; refine CB.out.mono ?_; rintro _ w4 ⟨A4, c4, rfl, o4, rs4, f4⟩)
            have H4 := Lib.hid (And.intro o4 (And.intro rs4 (And.intro ((f4.block rb (block_lt HG.out.res) (fun e => HG.out.lt.2.2.2.2.1 e.symm)).trans HG.out.res) (And.intro ((f4.block ab (block_lt HA.out) (fun e => HG.out.lt.2.2.2.1 e.symm)).trans HA.out) (Fr.ext HG.out.x f4 (fun i e => by have e : i = g := e; have := HG.out.lt.1; omega))))))
            have HP := Lib.hid HG.out.p
            have HBY := Lib.hid HG.out.rs.byte
            have HSZ := Lib.hid HG.out.x.size
            clear CB o4 rs4 f4 HG HA
            by_cases hend : at_ + k' + x = n0
            · have CE := Lib.hid (rend_ok (by have h := H4.out.2.1; rwa [hend] at h))
              have HEND := Lib.hid hend
              clear hend
              go_upto_region 16 with (go_at_call 59; refine CE.out.mono ?_; rintro _ w5 ⟨rfl, j, rfl⟩)
              have H5 : Hid (Own (w4.drewN j) wr.heap.size 5 1 A4 x c4 (u8s ((l0.drop (at_ + k')).take x)) ∧ (w4.drewN j).heap[rb]? = some (.cells #[.int .i64 0, .int .i64 0, .int .i64 0, .int .i64 0, .int .i64 0, .int .i64 0, .int .i64 0, .int .i64 0, .slice none 0 0] 76 (0, 0)) ∧ (w4.drewN j).heap[ab]? = some (.cells #[.int .i64 a0, .int .i64 a1, .int .i64 a2, .int .i64 a3, .int .i64 a4, .int .i64 a5, .int .i64 a6, .int .i64 a7] 126 (0, 0)) ∧ Ext w (w4.drewN j)) := Lib.hid ⟨H4.out.1.drewN j, H4.out.2.2.1, H4.out.2.2.2.1, H4.out.2.2.2.2.drewN j⟩
              generalize w4.drewN j = V5 at *
              clear CE H4
              have CL := Lib.hid (readl_any A4 x c4 ((l0.drop (at_ + k')).take x) V5 H5.out.1.rd (fun y hy => HBY.out y (List.mem_of_mem_drop (List.mem_of_mem_take hy))) (by omega) (HSE.out V5 H5.out.2.2.2).1 (HSE.out V5 H5.out.2.2.2).2.1)
              go_upto_region 17 with (go_at_call 32; refine CL.out.mono ?_; rintro _ w6 ⟨hro, x6⟩; rcases hro with ⟨ss, B, q, d, hql, hgl, hle, rfl, ol⟩ | ⟨hnl, rfl⟩)
              · have H6 := Lib.hid (And.intro ((x6.block rb (block_lt H5.out.2.1)).trans H5.out.2.1) (And.intro ((x6.block ab (block_lt H5.out.2.2.1)).trans H5.out.2.2.1) (H5.out.2.2.2.trans x6)))
                have HOL := Lib.hid (And.intro hql (And.intro hgl (And.intro hle (ol.base_mono H5.out.2.2.2.size))))
                have hq : q ≤ 64 := by have h1 := hgl.1; rw [ents_len] at h1; omega
                clear hql hgl hle ol CL x6 H5
                go_upto_region 19 with (fail)
                have y0 : w6.cell? ⟨ab, 0, none⟩ = some (.int .i64 a0) := block_cell (H6.out.2.1) 0
                have y1 : w6.cell? ⟨ab, 1, none⟩ = some (.int .i64 a1) := block_cell (H6.out.2.1) 1
                have y2 : w6.cell? ⟨ab, 2, none⟩ = some (.int .i64 a2) := block_cell (H6.out.2.1) 2
                have y3 : w6.cell? ⟨ab, 3, none⟩ = some (.int .i64 a3) := block_cell (H6.out.2.1) 3
                have y4 : w6.cell? ⟨ab, 4, none⟩ = some (.int .i64 a4) := block_cell (H6.out.2.1) 4
                have y5 : w6.cell? ⟨ab, 5, none⟩ = some (.int .i64 a5) := block_cell (H6.out.2.1) 5
                have y6 : w6.cell? ⟨ab, 6, none⟩ = some (.int .i64 a6) := block_cell (H6.out.2.1) 6
                have y7 : w6.cell? ⟨ab, 7, none⟩ = some (.int .i64 a7) := block_cell (H6.out.2.1) 7
                have X7 := (Ext.refl w6).alloc (.cells #[.int .i64 a0, .int .i64 a1, .int .i64 a2, .int .i64 a3, .int .i64 a4, .int .i64 a5, .int .i64 a6, .int .i64 a7, .slice B q d] 76)
                have H7 := Lib.hid (And.intro (heap_alloc_new w6 (.cells #[.int .i64 a0, .int .i64 a1, .int .i64 a2, .int .i64 a3, .int .i64 a4, .int .i64 a5, .int .i64 a6, .int .i64 a7, .slice B q d] 76)) (And.intro ((X7.block rb (block_lt H6.out.1)).trans H6.out.1) (And.intro (H6.out.2.2.trans X7) (And.intro (HOL.out.2.2.2.ext X7) (show rb ≠ w6.heap.size from fun e => by have := block_lt H6.out.1; omega)))))
                clear X7
                go_upto_region 20 with (fail)
                clear y0 y1 y2 y3 y4 y5 y6 y7
                generalize w6.alloc (.cells #[.int .i64 a0, .int .i64 a1, .int .i64 a2, .int .i64 a3, .int .i64 a4, .int .i64 a5, .int .i64 a6, .int .i64 a7, .slice B q d] 76) = V7 at *
                generalize w6.heap.size = mb at *
                clear H6
                have m0 : V7.cell? ⟨mb, 0, none⟩ = some (.int .i64 a0) := block_cell (H7.out.1) 0
                have m1 : V7.cell? ⟨mb, 1, none⟩ = some (.int .i64 a1) := block_cell (H7.out.1) 1
                have m2 : V7.cell? ⟨mb, 2, none⟩ = some (.int .i64 a2) := block_cell (H7.out.1) 2
                have m3 : V7.cell? ⟨mb, 3, none⟩ = some (.int .i64 a3) := block_cell (H7.out.1) 3
                have m4 : V7.cell? ⟨mb, 4, none⟩ = some (.int .i64 a4) := block_cell (H7.out.1) 4
                have m5 : V7.cell? ⟨mb, 5, none⟩ = some (.int .i64 a5) := block_cell (H7.out.1) 5
                have m6 : V7.cell? ⟨mb, 6, none⟩ = some (.int .i64 a6) := block_cell (H7.out.1) 6
                have m7 : V7.cell? ⟨mb, 7, none⟩ = some (.int .i64 a7) := block_cell (H7.out.1) 7
                have m8 : V7.cell? ⟨mb, 8, none⟩ = some (.slice B q d) := block_cell (H7.out.1) 8
                have CC := fun b hb => Lib.hid (mcheck_any ⟨a0, a1, a2, a3, a4, a5, a6, a7⟩ B q d ss V7 H7.out.2.2.2.1.led (by omega) b (Lib.hid hb) (HSE.out V7 H7.out.2.2.1).2.1)
                by_cases hform : Ms.form ⟨a0, a1, a2, a3, a4, a5, a6, a7⟩ (ents ss) = true
                · have C7 := CC true hform
                  have HF : Hid (l = Ms.put ⟨a0, a1, a2, a3, a4, a5, a6, a7⟩ (ents ss)) := Lib.hid (by
                    rw [opened_good HO.out.1, HO.out.2]
                    have h := raw_done HP.out rfl HBY.out HRD.out (by rw [hl0]; exact HEND.out) HOL.out.2.2.1
                    rw [h]
                    rfl)
                  have HFO := Lib.hid hform
                  clear CC hform m0 m1 m2 m3 m4 m5 m6 m7 m8
                  have m0 : V7.cell? ⟨mb, 0, none⟩ = some (.int .i64 a0) := block_cell (H7.out.1) 0
                  have m1 : V7.cell? ⟨mb, 1, none⟩ = some (.int .i64 a1) := block_cell (H7.out.1) 1
                  have m2 : V7.cell? ⟨mb, 2, none⟩ = some (.int .i64 a2) := block_cell (H7.out.1) 2
                  have m3 : V7.cell? ⟨mb, 3, none⟩ = some (.int .i64 a3) := block_cell (H7.out.1) 3
                  have m4 : V7.cell? ⟨mb, 4, none⟩ = some (.int .i64 a4) := block_cell (H7.out.1) 4
                  have m5 : V7.cell? ⟨mb, 5, none⟩ = some (.int .i64 a5) := block_cell (H7.out.1) 5
                  have m6 : V7.cell? ⟨mb, 6, none⟩ = some (.int .i64 a6) := block_cell (H7.out.1) 6
                  have m7 : V7.cell? ⟨mb, 7, none⟩ = some (.int .i64 a7) := block_cell (H7.out.1) 7
                  have m8 : V7.cell? ⟨mb, 8, none⟩ = some (.slice B q d) := block_cell (H7.out.1) 8
                  go_upto_region 22 with (go_at_call 38; refine C7.out.mono ?_; rintro _ w8 ⟨rfl, x8⟩; rw [if_pos (by rfl)])
                  have HXV := Lib.hid (H7.out.2.2.1.trans x8)
                  have HRS := Lib.hid ((x8.block rb (block_lt H7.out.2.1)).trans H7.out.2.1)
                  have HMB := Lib.hid ((x8.block mb (block_lt H7.out.1)).trans H7.out.1)
                  have HO8 := Lib.hid (H7.out.2.2.2.1.ext x8)
                  clear x8 C7 H7 m0 m1 m2 m3 m4 m5 m6 m7 m8
                  have r0 : w8.cell? ⟨rb, 0, none⟩ = some (.int .i64 0) := block_cell (HRS.out) 0
                  have r1 : w8.cell? ⟨rb, 1, none⟩ = some (.int .i64 0) := block_cell (HRS.out) 1
                  have r2 : w8.cell? ⟨rb, 2, none⟩ = some (.int .i64 0) := block_cell (HRS.out) 2
                  have r3 : w8.cell? ⟨rb, 3, none⟩ = some (.int .i64 0) := block_cell (HRS.out) 3
                  have r4 : w8.cell? ⟨rb, 4, none⟩ = some (.int .i64 0) := block_cell (HRS.out) 4
                  have r5 : w8.cell? ⟨rb, 5, none⟩ = some (.int .i64 0) := block_cell (HRS.out) 5
                  have r6 : w8.cell? ⟨rb, 6, none⟩ = some (.int .i64 0) := block_cell (HRS.out) 6
                  have r7 : w8.cell? ⟨rb, 7, none⟩ = some (.int .i64 0) := block_cell (HRS.out) 7
                  have r8 : w8.cell? ⟨rb, 8, none⟩ = some (.slice none 0 0) := block_cell (HRS.out) 8
                  have q0 := block_fz (HRS.out) 0
                  have q1 := block_fz (HRS.out) 1
                  have q2 := block_fz (HRS.out) 2
                  have q3 := block_fz (HRS.out) 3
                  have q4 := block_fz (HRS.out) 4
                  have q5 := block_fz (HRS.out) 5
                  have q6 := block_fz (HRS.out) 6
                  have q7 := block_fz (HRS.out) 7
                  have q8 := block_fz (HRS.out) 8
                  have e0 : w8.cell? ⟨mb, 0, none⟩ = some (.int .i64 a0) := block_cell (HMB.out) 0
                  have e1 : w8.cell? ⟨mb, 1, none⟩ = some (.int .i64 a1) := block_cell (HMB.out) 1
                  have e2 : w8.cell? ⟨mb, 2, none⟩ = some (.int .i64 a2) := block_cell (HMB.out) 2
                  have e3 : w8.cell? ⟨mb, 3, none⟩ = some (.int .i64 a3) := block_cell (HMB.out) 3
                  have e4 : w8.cell? ⟨mb, 4, none⟩ = some (.int .i64 a4) := block_cell (HMB.out) 4
                  have e5 : w8.cell? ⟨mb, 5, none⟩ = some (.int .i64 a5) := block_cell (HMB.out) 5
                  have e6 : w8.cell? ⟨mb, 6, none⟩ = some (.int .i64 a6) := block_cell (HMB.out) 6
                  have e7 : w8.cell? ⟨mb, 7, none⟩ = some (.int .i64 a7) := block_cell (HMB.out) 7
                  have e8 : w8.cell? ⟨mb, 8, none⟩ = some (.slice B q d) := block_cell (HMB.out) 8
                  go_wp2_with fail
                  have hz := st9 (W := w8) (HRS.out) (.int .i64 a0) (.int .i64 a1) (.int .i64 a2) (.int .i64 a3) (.int .i64 a4) (.int .i64 a5) (.int .i64 a6) (.int .i64 a7) (.slice B q d)
                  have HOZ := Lib.hid (HO8.out.fr hz.2 HRS.out (by decide) (by decide))
                  have HZ := Lib.hid (And.intro hz.1 (Fr.ext (HXV.out) hz.2 (fun i e => by have e : i = rb := e; have := HRB.out; omega)))
                  clear hz r0 q0 r1 q1 r2 q2 r3 q3 r4 q4 r5 q5 r6 q6 r7 q7 r8 q8
                  generalize (((((((((w8.setCell ⟨rb, 0, none⟩ (.int .i64 a0)).setCell ⟨rb, 1, none⟩ (.int .i64 a1)).setCell ⟨rb, 2, none⟩ (.int .i64 a2)).setCell ⟨rb, 3, none⟩ (.int .i64 a3)).setCell ⟨rb, 4, none⟩ (.int .i64 a4)).setCell ⟨rb, 5, none⟩ (.int .i64 a5)).setCell ⟨rb, 6, none⟩ (.int .i64 a6)).setCell ⟨rb, 7, none⟩ (.int .i64 a7)).setCell ⟨rb, 8, none⟩ (.slice B q d)) = Z at *
                  have z0 : Z.cell? ⟨rb, 0, none⟩ = some (.int .i64 a0) := block_cell (HZ.out.1) 0
                  have z1 : Z.cell? ⟨rb, 1, none⟩ = some (.int .i64 a1) := block_cell (HZ.out.1) 1
                  have z2 : Z.cell? ⟨rb, 2, none⟩ = some (.int .i64 a2) := block_cell (HZ.out.1) 2
                  have z3 : Z.cell? ⟨rb, 3, none⟩ = some (.int .i64 a3) := block_cell (HZ.out.1) 3
                  have z4 : Z.cell? ⟨rb, 4, none⟩ = some (.int .i64 a4) := block_cell (HZ.out.1) 4
                  have z5 : Z.cell? ⟨rb, 5, none⟩ = some (.int .i64 a5) := block_cell (HZ.out.1) 5
                  have z6 : Z.cell? ⟨rb, 6, none⟩ = some (.int .i64 a6) := block_cell (HZ.out.1) 6
                  have z7 : Z.cell? ⟨rb, 7, none⟩ = some (.int .i64 a7) := block_cell (HZ.out.1) 7
                  have z8 : Z.cell? ⟨rb, 8, none⟩ = some (.slice B q d) := block_cell (HZ.out.1) 8
                  refine bodyPost_ret (v := .tuple #[.agg #[.int .i64 a0, .int .i64 a1, .int .i64 a2, .int .i64 a3, .int .i64 a4, .int .i64 a5, .int .i64 a6, .int .i64 a7, .slice B q d], .nilIface]) (by simp [results, Tryd.results42, go_sem, z0, z1, z2, z3, z4, z5, z6, z7, z8]) rfl ?_
                  skip
                  exact ⟨.inl ⟨⟨a0, a1, a2, a3, a4, a5, a6, a7⟩, ss, B, q, d, HOL.out.1, HFO.out, HF.out, rfl, HOZ.out⟩, HZ.out.2⟩
                · have hform0 : Ms.form ⟨a0, a1, a2, a3, a4, a5, a6, a7⟩ (ents ss) = false := Bool.eq_false_iff.2 hform
                  have C7 := CC false hform0
                  have HNO := Lib.hid (fun (m : Ms) (es : List En) (hf : m.form es = true) (hle : l = m.put es) => (fun hle2 => by have h1 := raw_eight HP.out rfl hf hle2; have h2 := (raw_rest HP.out rfl HRD.out hf hle2).2; rw [HOL.out.2.2.1] at h2; have h3 := putL_inj HOL.out.2.1 (form_good hf) h2; rw [h1.1, ← h3] at hf; exact hform hf) (HO.out.2.symm.trans (opened_put hle).2))
                  clear CC hform hform0
                  go_upto_region 21 with (go_at_call 38; refine C7.out.mono ?_; rintro _ w8 ⟨rfl, x8⟩; rw [if_neg (by decide)])
                  have HXV := Lib.hid (H7.out.2.2.1.trans x8)
                  have HRS := Lib.hid ((x8.block rb (block_lt H7.out.2.1)).trans H7.out.2.1)
                  clear x8 C7 H7 m0 m1 m2 m3 m4 m5 m6 m7 m8
                  have sB := fun W hW => (HSE.out W hW).1.2.1
                  have r0 : w8.cell? ⟨rb, 0, none⟩ = some (.int .i64 0) := block_cell (HRS.out) 0
                  have r1 : w8.cell? ⟨rb, 1, none⟩ = some (.int .i64 0) := block_cell (HRS.out) 1
                  have r2 : w8.cell? ⟨rb, 2, none⟩ = some (.int .i64 0) := block_cell (HRS.out) 2
                  have r3 : w8.cell? ⟨rb, 3, none⟩ = some (.int .i64 0) := block_cell (HRS.out) 3
                  have r4 : w8.cell? ⟨rb, 4, none⟩ = some (.int .i64 0) := block_cell (HRS.out) 4
                  have r5 : w8.cell? ⟨rb, 5, none⟩ = some (.int .i64 0) := block_cell (HRS.out) 5
                  have r6 : w8.cell? ⟨rb, 6, none⟩ = some (.int .i64 0) := block_cell (HRS.out) 6
                  have r7 : w8.cell? ⟨rb, 7, none⟩ = some (.int .i64 0) := block_cell (HRS.out) 7
                  have r8 : w8.cell? ⟨rb, 8, none⟩ = some (.slice none 0 0) := block_cell (HRS.out) 8
                  have q0 := block_fz (HRS.out) 0
                  have q1 := block_fz (HRS.out) 1
                  have q2 := block_fz (HRS.out) 2
                  have q3 := block_fz (HRS.out) 3
                  have q4 := block_fz (HRS.out) 4
                  have q5 := block_fz (HRS.out) 5
                  have q6 := block_fz (HRS.out) 6
                  have q7 := block_fz (HRS.out) 7
                  have q8 := block_fz (HRS.out) 8
                  have HS0 : Ext w w8.drew := HXV.out.drew
                  have hz := st9 (W := w8) (HRS.out) (.int .i64 0) (.int .i64 0) (.int .i64 0) (.int .i64 0) (.int .i64 0) (.int .i64 0) (.int .i64 0) (.int .i64 0) (.slice none 0 0)
                  have hz1 := heap_drew hz.1
                  have HZ := Lib.hid (And.intro hz1 ((Fr.ext HXV.out hz.2 (fun i e => by have e : i = rb := e; have := HRB.out; omega)).drew))
                  clear hz hz1
                  refine d_region (fun W => Ext w W) [] (by kernel_rfl) ?_
                  refine d_take (i := 0) (v := ?_) [] (some 86) rfl (by rfl) (by kernel_rfl) (by kernel_rfl) (by kernel_rfl) (by kernel_rfl) (by kernel_rfl) (by kernel_rfl) (fun _ _ _ h => h) (.inl ⟨by rfl, ?_⟩) HS0 ?_
                  rotate_left 1
                  · (intro W hW; (try dsimp only at hW); go_simp; try with_reducible rfl)
                  try simp only [Act.put, List.setIfInBounds_toArray, List.set_cons_zero, List.set_cons_succ]
                  refine d_take (i := 1) (v := ?_) [] (some 87) rfl (by rfl) (by kernel_rfl) (by kernel_rfl) (by kernel_rfl) (by kernel_rfl) (by kernel_rfl) (by kernel_rfl) (fun _ _ _ h => h) (.inl ⟨by rfl, ?_⟩) HS0 ?_
                  rotate_left 1
                  · (intro W hW; (try dsimp only at hW); go_simp; try with_reducible rfl)
                  try simp only [Act.put, List.setIfInBounds_toArray, List.set_cons_zero, List.set_cons_succ]
                  refine d_one (i := 2) (by kernel_rfl) rfl rfl (fun K hK => ?_)
                  simp only [List.getElem_toArray, List.getElem_cons_succ, List.getElem_cons_zero]
                  go_simp
                  refine hK.out _ _ (fun _ => HZ.out.2) ?_
                  clear hK K
                  try simp only [Act.put, List.setIfInBounds_toArray, List.set_cons_zero, List.set_cons_succ]
                  refine d_one (i := 3) (by kernel_rfl) rfl rfl (fun K hK => ?_)
                  simp only [List.getElem_toArray, List.getElem_cons_succ, List.getElem_cons_zero]
                  go_simp
                  refine hK.out _ _ (fun _ => HZ.out.2) ?_
                  clear hK K 
                  try simp only [Act.put, List.setIfInBounds_toArray, List.set_cons_zero, List.set_cons_succ]
                  refine d_done (by kernel_rfl) ?_ _
                  clear r0 q0 r1 q1 r2 q2 r3 q3 r4 q4 r5 q5 r6 q6 r7 q7 r8 q8
                  have hzc := HZ.out.1
                  generalize (((((((((w8.setCell ⟨rb, 0, none⟩ (.int .i64 0)).setCell ⟨rb, 1, none⟩ (.int .i64 0)).setCell ⟨rb, 2, none⟩ (.int .i64 0)).setCell ⟨rb, 3, none⟩ (.int .i64 0)).setCell ⟨rb, 4, none⟩ (.int .i64 0)).setCell ⟨rb, 5, none⟩ (.int .i64 0)).setCell ⟨rb, 6, none⟩ (.int .i64 0)).setCell ⟨rb, 7, none⟩ (.int .i64 0)).setCell ⟨rb, 8, none⟩ (.slice none 0 0)).drew = Z at *
                  clear hzc
                  have z0 : Z.cell? ⟨rb, 0, none⟩ = some (.int .i64 0) := block_cell (HZ.out.1) 0
                  have z1 : Z.cell? ⟨rb, 1, none⟩ = some (.int .i64 0) := block_cell (HZ.out.1) 1
                  have z2 : Z.cell? ⟨rb, 2, none⟩ = some (.int .i64 0) := block_cell (HZ.out.1) 2
                  have z3 : Z.cell? ⟨rb, 3, none⟩ = some (.int .i64 0) := block_cell (HZ.out.1) 3
                  have z4 : Z.cell? ⟨rb, 4, none⟩ = some (.int .i64 0) := block_cell (HZ.out.1) 4
                  have z5 : Z.cell? ⟨rb, 5, none⟩ = some (.int .i64 0) := block_cell (HZ.out.1) 5
                  have z6 : Z.cell? ⟨rb, 6, none⟩ = some (.int .i64 0) := block_cell (HZ.out.1) 6
                  have z7 : Z.cell? ⟨rb, 7, none⟩ = some (.int .i64 0) := block_cell (HZ.out.1) 7
                  have z8 : Z.cell? ⟨rb, 8, none⟩ = some (.slice none 0 0) := block_cell (HZ.out.1) 8
                  go_wp2_with fail
                  refine bodyPost_ret (v := .tuple #[.agg #[.int .i64 0, .int .i64 0, .int .i64 0, .int .i64 0, .int .i64 0, .int .i64 0, .int .i64 0, .int .i64 0, .slice none 0 0], .iface 149 (.pointer (some pb))]) (by simp [results, Tryd.results42, go_sem, z0, z1, z2, z3, z4, z5, z6, z7, z8]) rfl ?_
                  exact ⟨.inr ⟨HNO.out, by unfold getErr; rw [HO.out.1]; rfl⟩, HZ.out.2⟩
              · have H6 := Lib.hid (And.intro ((x6.block rb (block_lt H5.out.2.1)).trans H5.out.2.1) (And.intro ((x6.block ab (block_lt H5.out.2.2.1)).trans H5.out.2.2.1) (H5.out.2.2.2.trans x6)))
                have HNO := Lib.hid (fun (m : Ms) (es : List En) (hf : m.form es = true) (hle : l = m.put es) => (fun hle2 => hnl es (form_good hf) (raw_rest HP.out rfl HRD.out hf hle2).2) (HO.out.2.symm.trans (opened_put hle).2))
                clear hnl CL x6 H5
                go_upto_region 18 with (fail)
                have HXV := Lib.hid H6.out.2.2
                have HRS := Lib.hid H6.out.1
                clear H6
                have sB := fun W hW => (HSE.out W hW).1.2.1
                have r0 : w6.cell? ⟨rb, 0, none⟩ = some (.int .i64 0) := block_cell (HRS.out) 0
                have r1 : w6.cell? ⟨rb, 1, none⟩ = some (.int .i64 0) := block_cell (HRS.out) 1
                have r2 : w6.cell? ⟨rb, 2, none⟩ = some (.int .i64 0) := block_cell (HRS.out) 2
                have r3 : w6.cell? ⟨rb, 3, none⟩ = some (.int .i64 0) := block_cell (HRS.out) 3
                have r4 : w6.cell? ⟨rb, 4, none⟩ = some (.int .i64 0) := block_cell (HRS.out) 4
                have r5 : w6.cell? ⟨rb, 5, none⟩ = some (.int .i64 0) := block_cell (HRS.out) 5
                have r6 : w6.cell? ⟨rb, 6, none⟩ = some (.int .i64 0) := block_cell (HRS.out) 6
                have r7 : w6.cell? ⟨rb, 7, none⟩ = some (.int .i64 0) := block_cell (HRS.out) 7
                have r8 : w6.cell? ⟨rb, 8, none⟩ = some (.slice none 0 0) := block_cell (HRS.out) 8
                have q0 := block_fz (HRS.out) 0
                have q1 := block_fz (HRS.out) 1
                have q2 := block_fz (HRS.out) 2
                have q3 := block_fz (HRS.out) 3
                have q4 := block_fz (HRS.out) 4
                have q5 := block_fz (HRS.out) 5
                have q6 := block_fz (HRS.out) 6
                have q7 := block_fz (HRS.out) 7
                have q8 := block_fz (HRS.out) 8
                have HS0 : Ext w w6.drew := HXV.out.drew
                have hz := st9 (W := w6) (HRS.out) (.int .i64 0) (.int .i64 0) (.int .i64 0) (.int .i64 0) (.int .i64 0) (.int .i64 0) (.int .i64 0) (.int .i64 0) (.slice none 0 0)
                have hz1 := heap_drew hz.1
                have HZ := Lib.hid (And.intro hz1 ((Fr.ext HXV.out hz.2 (fun i e => by have e : i = rb := e; have := HRB.out; omega)).drew))
                clear hz hz1
                refine d_region (fun W => Ext w W) [] (by kernel_rfl) ?_
                refine d_take (i := 0) (v := ?_) [] (some 61) rfl (by rfl) (by kernel_rfl) (by kernel_rfl) (by kernel_rfl) (by kernel_rfl) (by kernel_rfl) (by kernel_rfl) (fun _ _ _ h => h) (.inl ⟨by rfl, ?_⟩) HS0 ?_
                rotate_left 1
                · (intro W hW; (try dsimp only at hW); go_simp; try with_reducible rfl)
                try simp only [Act.put, List.setIfInBounds_toArray, List.set_cons_zero, List.set_cons_succ]
                refine d_take (i := 1) (v := ?_) [] (some 62) rfl (by rfl) (by kernel_rfl) (by kernel_rfl) (by kernel_rfl) (by kernel_rfl) (by kernel_rfl) (by kernel_rfl) (fun _ _ _ h => h) (.inl ⟨by rfl, ?_⟩) HS0 ?_
                rotate_left 1
                · (intro W hW; (try dsimp only at hW); go_simp; try with_reducible rfl)
                try simp only [Act.put, List.setIfInBounds_toArray, List.set_cons_zero, List.set_cons_succ]
                refine d_one (i := 2) (by kernel_rfl) rfl rfl (fun K hK => ?_)
                simp only [List.getElem_toArray, List.getElem_cons_succ, List.getElem_cons_zero]
                go_simp
                refine hK.out _ _ (fun _ => HZ.out.2) ?_
                clear hK K
                try simp only [Act.put, List.setIfInBounds_toArray, List.set_cons_zero, List.set_cons_succ]
                refine d_one (i := 3) (by kernel_rfl) rfl rfl (fun K hK => ?_)
                simp only [List.getElem_toArray, List.getElem_cons_succ, List.getElem_cons_zero]
                go_simp
                refine hK.out _ _ (fun _ => HZ.out.2) ?_
                clear hK K 
                try simp only [Act.put, List.setIfInBounds_toArray, List.set_cons_zero, List.set_cons_succ]
                refine d_done (by kernel_rfl) ?_ _
                clear r0 q0 r1 q1 r2 q2 r3 q3 r4 q4 r5 q5 r6 q6 r7 q7 r8 q8
                have hzc := HZ.out.1
                generalize (((((((((w6.setCell ⟨rb, 0, none⟩ (.int .i64 0)).setCell ⟨rb, 1, none⟩ (.int .i64 0)).setCell ⟨rb, 2, none⟩ (.int .i64 0)).setCell ⟨rb, 3, none⟩ (.int .i64 0)).setCell ⟨rb, 4, none⟩ (.int .i64 0)).setCell ⟨rb, 5, none⟩ (.int .i64 0)).setCell ⟨rb, 6, none⟩ (.int .i64 0)).setCell ⟨rb, 7, none⟩ (.int .i64 0)).setCell ⟨rb, 8, none⟩ (.slice none 0 0)).drew = Z at *
                clear hzc
                have z0 : Z.cell? ⟨rb, 0, none⟩ = some (.int .i64 0) := block_cell (HZ.out.1) 0
                have z1 : Z.cell? ⟨rb, 1, none⟩ = some (.int .i64 0) := block_cell (HZ.out.1) 1
                have z2 : Z.cell? ⟨rb, 2, none⟩ = some (.int .i64 0) := block_cell (HZ.out.1) 2
                have z3 : Z.cell? ⟨rb, 3, none⟩ = some (.int .i64 0) := block_cell (HZ.out.1) 3
                have z4 : Z.cell? ⟨rb, 4, none⟩ = some (.int .i64 0) := block_cell (HZ.out.1) 4
                have z5 : Z.cell? ⟨rb, 5, none⟩ = some (.int .i64 0) := block_cell (HZ.out.1) 5
                have z6 : Z.cell? ⟨rb, 6, none⟩ = some (.int .i64 0) := block_cell (HZ.out.1) 6
                have z7 : Z.cell? ⟨rb, 7, none⟩ = some (.int .i64 0) := block_cell (HZ.out.1) 7
                have z8 : Z.cell? ⟨rb, 8, none⟩ = some (.slice none 0 0) := block_cell (HZ.out.1) 8
                go_wp2_with fail
                refine bodyPost_ret (v := .tuple #[.agg #[.int .i64 0, .int .i64 0, .int .i64 0, .int .i64 0, .int .i64 0, .int .i64 0, .int .i64 0, .int .i64 0, .slice none 0 0], .iface 149 (.pointer (some pb))]) (by simp [results, Tryd.results42, go_sem, z0, z1, z2, z3, z4, z5, z6, z7, z8]) rfl ?_
                exact ⟨.inr ⟨HNO.out, by unfold getErr; rw [HO.out.1]; rfl⟩, HZ.out.2⟩
            · have CE := Lib.hid (rend_no H4.out.2.1 (by omega) (HSE.out w4 H4.out.2.2.2.2).1)
              have HNO := Lib.hid (fun (m : Ms) (es : List En) (hf : m.form es = true) (hle : l = m.put es) => (fun hle2 => by have h := (raw_rest HP.out rfl HRD.out hf hle2).1; rw [hl0] at h; exact hend h) (HO.out.2.symm.trans (opened_put hle).2))
              clear hend
              go_upto_region 15 with (go_at_call 59; refine CE.out.mono ?_; rintro _ w5 ⟨rfl, j, rfl⟩)
              have HXV := Lib.hid (H4.out.2.2.2.2.drewN j)
              have HRS : Hid ((w4.drewN j).heap[rb]? = _) := Lib.hid H4.out.2.2.1
              generalize w4.drewN j = V5 at *
              clear CE H4
              have sB := fun W hW => (HSE.out W hW).1.2.1
              have r0 : V5.cell? ⟨rb, 0, none⟩ = some (.int .i64 0) := block_cell (HRS.out) 0
              have r1 : V5.cell? ⟨rb, 1, none⟩ = some (.int .i64 0) := block_cell (HRS.out) 1
              have r2 : V5.cell? ⟨rb, 2, none⟩ = some (.int .i64 0) := block_cell (HRS.out) 2
              have r3 : V5.cell? ⟨rb, 3, none⟩ = some (.int .i64 0) := block_cell (HRS.out) 3
              have r4 : V5.cell? ⟨rb, 4, none⟩ = some (.int .i64 0) := block_cell (HRS.out) 4
              have r5 : V5.cell? ⟨rb, 5, none⟩ = some (.int .i64 0) := block_cell (HRS.out) 5
              have r6 : V5.cell? ⟨rb, 6, none⟩ = some (.int .i64 0) := block_cell (HRS.out) 6
              have r7 : V5.cell? ⟨rb, 7, none⟩ = some (.int .i64 0) := block_cell (HRS.out) 7
              have r8 : V5.cell? ⟨rb, 8, none⟩ = some (.slice none 0 0) := block_cell (HRS.out) 8
              have q0 := block_fz (HRS.out) 0
              have q1 := block_fz (HRS.out) 1
              have q2 := block_fz (HRS.out) 2
              have q3 := block_fz (HRS.out) 3
              have q4 := block_fz (HRS.out) 4
              have q5 := block_fz (HRS.out) 5
              have q6 := block_fz (HRS.out) 6
              have q7 := block_fz (HRS.out) 7
              have q8 := block_fz (HRS.out) 8
              have HS0 : Ext w V5.drew := HXV.out.drew
              have hz := st9 (W := V5) (HRS.out) (.int .i64 0) (.int .i64 0) (.int .i64 0) (.int .i64 0) (.int .i64 0) (.int .i64 0) (.int .i64 0) (.int .i64 0) (.slice none 0 0)
              have hz1 := heap_drew hz.1
              have HZ := Lib.hid (And.intro hz1 ((Fr.ext HXV.out hz.2 (fun i e => by have e : i = rb := e; have := HRB.out; omega)).drew))
              clear hz hz1
              refine d_region (fun W => Ext w W) [] (by kernel_rfl) ?_
              refine d_take (i := 0) (v := ?_) [] (some 52) rfl (by rfl) (by kernel_rfl) (by kernel_rfl) (by kernel_rfl) (by kernel_rfl) (by kernel_rfl) (by kernel_rfl) (fun _ _ _ h => h) (.inl ⟨by rfl, ?_⟩) HS0 ?_
              rotate_left 1
              · (intro W hW; (try dsimp only at hW); go_simp; try with_reducible rfl)
              try simp only [Act.put, List.setIfInBounds_toArray, List.set_cons_zero, List.set_cons_succ]
              refine d_take (i := 1) (v := ?_) [] (some 53) rfl (by rfl) (by kernel_rfl) (by kernel_rfl) (by kernel_rfl) (by kernel_rfl) (by kernel_rfl) (by kernel_rfl) (fun _ _ _ h => h) (.inl ⟨by rfl, ?_⟩) HS0 ?_
              rotate_left 1
              · (intro W hW; (try dsimp only at hW); go_simp; try with_reducible rfl)
              try simp only [Act.put, List.setIfInBounds_toArray, List.set_cons_zero, List.set_cons_succ]
              refine d_one (i := 2) (by kernel_rfl) rfl rfl (fun K hK => ?_)
              simp only [List.getElem_toArray, List.getElem_cons_succ, List.getElem_cons_zero]
              go_simp
              refine hK.out _ _ (fun _ => HZ.out.2) ?_
              clear hK K
              try simp only [Act.put, List.setIfInBounds_toArray, List.set_cons_zero, List.set_cons_succ]
              refine d_one (i := 3) (by kernel_rfl) rfl rfl (fun K hK => ?_)
              simp only [List.getElem_toArray, List.getElem_cons_succ, List.getElem_cons_zero]
              go_simp
              refine hK.out _ _ (fun _ => HZ.out.2) ?_
              clear hK K 
              try simp only [Act.put, List.setIfInBounds_toArray, List.set_cons_zero, List.set_cons_succ]
              refine d_done (by kernel_rfl) ?_ _
              clear r0 q0 r1 q1 r2 q2 r3 q3 r4 q4 r5 q5 r6 q6 r7 q7 r8 q8
              have hzc := HZ.out.1
              generalize (((((((((V5.setCell ⟨rb, 0, none⟩ (.int .i64 0)).setCell ⟨rb, 1, none⟩ (.int .i64 0)).setCell ⟨rb, 2, none⟩ (.int .i64 0)).setCell ⟨rb, 3, none⟩ (.int .i64 0)).setCell ⟨rb, 4, none⟩ (.int .i64 0)).setCell ⟨rb, 5, none⟩ (.int .i64 0)).setCell ⟨rb, 6, none⟩ (.int .i64 0)).setCell ⟨rb, 7, none⟩ (.int .i64 0)).setCell ⟨rb, 8, none⟩ (.slice none 0 0)).drew = Z at *
              clear hzc
              have z0 : Z.cell? ⟨rb, 0, none⟩ = some (.int .i64 0) := block_cell (HZ.out.1) 0
              have z1 : Z.cell? ⟨rb, 1, none⟩ = some (.int .i64 0) := block_cell (HZ.out.1) 1
              have z2 : Z.cell? ⟨rb, 2, none⟩ = some (.int .i64 0) := block_cell (HZ.out.1) 2
              have z3 : Z.cell? ⟨rb, 3, none⟩ = some (.int .i64 0) := block_cell (HZ.out.1) 3
              have z4 : Z.cell? ⟨rb, 4, none⟩ = some (.int .i64 0) := block_cell (HZ.out.1) 4
              have z5 : Z.cell? ⟨rb, 5, none⟩ = some (.int .i64 0) := block_cell (HZ.out.1) 5
              have z6 : Z.cell? ⟨rb, 6, none⟩ = some (.int .i64 0) := block_cell (HZ.out.1) 6
              have z7 : Z.cell? ⟨rb, 7, none⟩ = some (.int .i64 0) := block_cell (HZ.out.1) 7
              have z8 : Z.cell? ⟨rb, 8, none⟩ = some (.slice none 0 0) := block_cell (HZ.out.1) 8
              go_wp2_with fail
              refine bodyPost_ret (v := .tuple #[.agg #[.int .i64 0, .int .i64 0, .int .i64 0, .int .i64 0, .int .i64 0, .int .i64 0, .int .i64 0, .int .i64 0, .slice none 0 0], .iface 149 (.pointer (some pb))]) (by simp [results, Tryd.results42, go_sem, z0, z1, z2, z3, z4, z5, z6, z7, z8]) rfl ?_
              exact ⟨.inr ⟨HNO.out, by unfold getErr; rw [HO.out.1]; rfl⟩, HZ.out.2⟩
          · have hno : ∀ x k', Wr.rd (l0.drop at_) = some (x, k') → (n0 : Int) < (x : Int) ∨ n0 < at_ + k' + x := fun x k' hr => by
              rcases Nat.lt_or_ge n0 x with h | h
              · exact .inl (by omega)
              · rcases Nat.lt_or_ge n0 (at_ + k' + x) with h2 | h2
                · exact .inr h2
                · exact absurd ⟨x, k', hr, h, h2⟩ hok
            have CB := Lib.hid (rbytes_no HG.out.rs (n0 : Int) hno (HSE.out wr HG.out.x).1)
            have HNO := Lib.hid (fun (m : Ms) (es : List En) (hf : m.form es = true) (hle : l = m.put es) => raw_no_bytes HG.out.p rfl (by rw [hl0]; exact hno) hf (HO.out.2.symm.trans (opened_put hle).2))
            clear hok hno
            unfold BytesNo at CB
            go_upto_region 15 with (go_at_call 62; refine CB.out.mono ?_; rintro _ w4 ⟨rfl, j, rfl⟩)
            have HXV := Lib.hid (HG.out.x.drewN j)
            have HRS : Hid ((wr.drewN j).heap[rb]? = _) := Lib.hid HG.out.res
            generalize wr.drewN j = V5 at *
            clear CB HG HA
            have sB := fun W hW => (HSE.out W hW).1.2.1
            have r0 : V5.cell? ⟨rb, 0, none⟩ = some (.int .i64 0) := block_cell (HRS.out) 0
            have r1 : V5.cell? ⟨rb, 1, none⟩ = some (.int .i64 0) := block_cell (HRS.out) 1
            have r2 : V5.cell? ⟨rb, 2, none⟩ = some (.int .i64 0) := block_cell (HRS.out) 2
            have r3 : V5.cell? ⟨rb, 3, none⟩ = some (.int .i64 0) := block_cell (HRS.out) 3
            have r4 : V5.cell? ⟨rb, 4, none⟩ = some (.int .i64 0) := block_cell (HRS.out) 4
            have r5 : V5.cell? ⟨rb, 5, none⟩ = some (.int .i64 0) := block_cell (HRS.out) 5
            have r6 : V5.cell? ⟨rb, 6, none⟩ = some (.int .i64 0) := block_cell (HRS.out) 6
            have r7 : V5.cell? ⟨rb, 7, none⟩ = some (.int .i64 0) := block_cell (HRS.out) 7
            have r8 : V5.cell? ⟨rb, 8, none⟩ = some (.slice none 0 0) := block_cell (HRS.out) 8
            have q0 := block_fz (HRS.out) 0
            have q1 := block_fz (HRS.out) 1
            have q2 := block_fz (HRS.out) 2
            have q3 := block_fz (HRS.out) 3
            have q4 := block_fz (HRS.out) 4
            have q5 := block_fz (HRS.out) 5
            have q6 := block_fz (HRS.out) 6
            have q7 := block_fz (HRS.out) 7
            have q8 := block_fz (HRS.out) 8
            have HS0 : Ext w V5.drew := HXV.out.drew
            have hz := st9 (W := V5) (HRS.out) (.int .i64 0) (.int .i64 0) (.int .i64 0) (.int .i64 0) (.int .i64 0) (.int .i64 0) (.int .i64 0) (.int .i64 0) (.slice none 0 0)
            have hz1 := heap_drew hz.1
            have HZ := Lib.hid (And.intro hz1 ((Fr.ext HXV.out hz.2 (fun i e => by have e : i = rb := e; have := HRB.out; omega)).drew))
            clear hz hz1
            refine d_region (fun W => Ext w W) [] (by kernel_rfl) ?_
            refine d_take (i := 0) (v := ?_) [] (some 52) rfl (by rfl) (by kernel_rfl) (by kernel_rfl) (by kernel_rfl) (by kernel_rfl) (by kernel_rfl) (by kernel_rfl) (fun _ _ _ h => h) (.inl ⟨by rfl, ?_⟩) HS0 ?_
            rotate_left 1
            · (intro W hW; (try dsimp only at hW); go_simp; try with_reducible rfl)
            try simp only [Act.put, List.setIfInBounds_toArray, List.set_cons_zero, List.set_cons_succ]
            refine d_take (i := 1) (v := ?_) [] (some 53) rfl (by rfl) (by kernel_rfl) (by kernel_rfl) (by kernel_rfl) (by kernel_rfl) (by kernel_rfl) (by kernel_rfl) (fun _ _ _ h => h) (.inl ⟨by rfl, ?_⟩) HS0 ?_
            rotate_left 1
            · (intro W hW; (try dsimp only at hW); go_simp; try with_reducible rfl)
            try simp only [Act.put, List.setIfInBounds_toArray, List.set_cons_zero, List.set_cons_succ]
            refine d_one (i := 2) (by kernel_rfl) rfl rfl (fun K hK => ?_)
            simp only [List.getElem_toArray, List.getElem_cons_succ, List.getElem_cons_zero]
            go_simp
            refine hK.out _ _ (fun _ => HZ.out.2) ?_
            clear hK K
            try simp only [Act.put, List.setIfInBounds_toArray, List.set_cons_zero, List.set_cons_succ]
            refine d_one (i := 3) (by kernel_rfl) rfl rfl (fun K hK => ?_)
            simp only [List.getElem_toArray, List.getElem_cons_succ, List.getElem_cons_zero]
            go_simp
            refine hK.out _ _ (fun _ => HZ.out.2) ?_
            clear hK K 
            try simp only [Act.put, List.setIfInBounds_toArray, List.set_cons_zero, List.set_cons_succ]
            refine d_done (by kernel_rfl) ?_ _
            clear r0 q0 r1 q1 r2 q2 r3 q3 r4 q4 r5 q5 r6 q6 r7 q7 r8 q8
            have hzc := HZ.out.1
            generalize (((((((((V5.setCell ⟨rb, 0, none⟩ (.int .i64 0)).setCell ⟨rb, 1, none⟩ (.int .i64 0)).setCell ⟨rb, 2, none⟩ (.int .i64 0)).setCell ⟨rb, 3, none⟩ (.int .i64 0)).setCell ⟨rb, 4, none⟩ (.int .i64 0)).setCell ⟨rb, 5, none⟩ (.int .i64 0)).setCell ⟨rb, 6, none⟩ (.int .i64 0)).setCell ⟨rb, 7, none⟩ (.int .i64 0)).setCell ⟨rb, 8, none⟩ (.slice none 0 0)).drew = Z at *
            clear hzc
            have z0 : Z.cell? ⟨rb, 0, none⟩ = some (.int .i64 0) := block_cell (HZ.out.1) 0
            have z1 : Z.cell? ⟨rb, 1, none⟩ = some (.int .i64 0) := block_cell (HZ.out.1) 1
            have z2 : Z.cell? ⟨rb, 2, none⟩ = some (.int .i64 0) := block_cell (HZ.out.1) 2
            have z3 : Z.cell? ⟨rb, 3, none⟩ = some (.int .i64 0) := block_cell (HZ.out.1) 3
            have z4 : Z.cell? ⟨rb, 4, none⟩ = some (.int .i64 0) := block_cell (HZ.out.1) 4
            have z5 : Z.cell? ⟨rb, 5, none⟩ = some (.int .i64 0) := block_cell (HZ.out.1) 5
            have z6 : Z.cell? ⟨rb, 6, none⟩ = some (.int .i64 0) := block_cell (HZ.out.1) 6
            have z7 : Z.cell? ⟨rb, 7, none⟩ = some (.int .i64 0) := block_cell (HZ.out.1) 7
            have z8 : Z.cell? ⟨rb, 8, none⟩ = some (.slice none 0 0) := block_cell (HZ.out.1) 8
            go_wp2_with fail
            refine bodyPost_ret (v := .tuple #[.agg #[.int .i64 0, .int .i64 0, .int .i64 0, .int .i64 0, .int .i64 0, .int .i64 0, .int .i64 0, .int .i64 0, .slice none 0 0], .iface 149 (.pointer (some pb))]) (by simp [results, Tryd.results42, go_sem, z0, z1, z2, z3, z4, z5, z6, z7, z8]) rfl ?_
            exact ⟨.inr ⟨HNO.out, by unfold getErr; rw [HO.out.1]; rfl⟩, HZ.out.2⟩
    · have CO := Lib.hid (open_slip A n0 c l V (by omega) hnc HV.out.2.2 HL.out hs HS1.2.2)
      have HNO : Hid ((∀ (m : Ms) (es : List En), m.form es = true → l ≠ m.put es) ∧ getErr l = 4) := Lib.hid (by
        have ho : (opened l).2 = 4 := by
          unfold opened
          rw [if_neg (by omega), hlen, show n0 + 4 - 4 = n0 by omega, if_neg hs]
        refine ⟨fun m es hf hle => ?_, by unfold getErr; rw [ho]; rfl⟩
        have h2 := (opened_put hle).1
        rw [ho] at h2
        cases h2)
      clear HS1 hs
      go_upto_region 2 with (go_at_call 73; refine CO.out.mono ?_; rintro _ w1 ⟨rfl, x1⟩)
      have HRS := Lib.hid ((x1.block rb (block_lt HVb.out)).trans HVb.out)
      have HXV := Lib.hid (HV.out.2.1.trans x1)
      clear x1 CO
      have r0 : w1.cell? ⟨rb, 0, none⟩ = some (.int .i64 0) := block_cell (HRS.out) 0
      have r1 : w1.cell? ⟨rb, 1, none⟩ = some (.int .i64 0) := block_cell (HRS.out) 1
      have r2 : w1.cell? ⟨rb, 2, none⟩ = some (.int .i64 0) := block_cell (HRS.out) 2
      have r3 : w1.cell? ⟨rb, 3, none⟩ = some (.int .i64 0) := block_cell (HRS.out) 3
      have r4 : w1.cell? ⟨rb, 4, none⟩ = some (.int .i64 0) := block_cell (HRS.out) 4
      have r5 : w1.cell? ⟨rb, 5, none⟩ = some (.int .i64 0) := block_cell (HRS.out) 5
      have r6 : w1.cell? ⟨rb, 6, none⟩ = some (.int .i64 0) := block_cell (HRS.out) 6
      have r7 : w1.cell? ⟨rb, 7, none⟩ = some (.int .i64 0) := block_cell (HRS.out) 7
      have r8 : w1.cell? ⟨rb, 8, none⟩ = some (.slice none 0 0) := block_cell (HRS.out) 8
      have q0 := block_fz (HRS.out) 0
      have q1 := block_fz (HRS.out) 1
      have q2 := block_fz (HRS.out) 2
      have q3 := block_fz (HRS.out) 3
      have q4 := block_fz (HRS.out) 4
      have q5 := block_fz (HRS.out) 5
      have q6 := block_fz (HRS.out) 6
      have q7 := block_fz (HRS.out) 7
      have q8 := block_fz (HRS.out) 8
      go_wp2_with fail
      have hz := st9 (W := w1) (HRS.out) (.int .i64 0) (.int .i64 0) (.int .i64 0) (.int .i64 0) (.int .i64 0) (.int .i64 0) (.int .i64 0) (.int .i64 0) (.slice none 0 0)
      have HZ := Lib.hid (And.intro hz.1 (Fr.ext (HXV.out) hz.2 (fun i e => by have e : i = rb := e; have := HRB.out; omega)))
      clear hz r0 q0 r1 q1 r2 q2 r3 q3 r4 q4 r5 q5 r6 q6 r7 q7 r8 q8
      generalize (((((((((w1.setCell ⟨rb, 0, none⟩ (.int .i64 0)).setCell ⟨rb, 1, none⟩ (.int .i64 0)).setCell ⟨rb, 2, none⟩ (.int .i64 0)).setCell ⟨rb, 3, none⟩ (.int .i64 0)).setCell ⟨rb, 4, none⟩ (.int .i64 0)).setCell ⟨rb, 5, none⟩ (.int .i64 0)).setCell ⟨rb, 6, none⟩ (.int .i64 0)).setCell ⟨rb, 7, none⟩ (.int .i64 0)).setCell ⟨rb, 8, none⟩ (.slice none 0 0)) = Z at *
      have z0 : Z.cell? ⟨rb, 0, none⟩ = some (.int .i64 0) := block_cell (HZ.out.1) 0
      have z1 : Z.cell? ⟨rb, 1, none⟩ = some (.int .i64 0) := block_cell (HZ.out.1) 1
      have z2 : Z.cell? ⟨rb, 2, none⟩ = some (.int .i64 0) := block_cell (HZ.out.1) 2
      have z3 : Z.cell? ⟨rb, 3, none⟩ = some (.int .i64 0) := block_cell (HZ.out.1) 3
      have z4 : Z.cell? ⟨rb, 4, none⟩ = some (.int .i64 0) := block_cell (HZ.out.1) 4
      have z5 : Z.cell? ⟨rb, 5, none⟩ = some (.int .i64 0) := block_cell (HZ.out.1) 5
      have z6 : Z.cell? ⟨rb, 6, none⟩ = some (.int .i64 0) := block_cell (HZ.out.1) 6
      have z7 : Z.cell? ⟨rb, 7, none⟩ = some (.int .i64 0) := block_cell (HZ.out.1) 7
      have z8 : Z.cell? ⟨rb, 8, none⟩ = some (.slice none 0 0) := block_cell (HZ.out.1) 8
      refine bodyPost_ret (v := .tuple #[.agg #[.int .i64 0, .int .i64 0, .int .i64 0, .int .i64 0, .int .i64 0, .int .i64 0, .int .i64 0, .int .i64 0, .slice none 0 0], .iface 149 (.pointer (some pu))]) (by simp [results, Tryd.results42, go_sem, z0, z1, z2, z3, z4, z5, z6, z7, z8]) rfl ?_
      exact ⟨.inr ⟨HNO.out.1, by rw [HNO.out.2]; rfl⟩, HZ.out.2⟩
end Go.Proofs.YteflnnlihblpgaaDoor
