/-
  Words for memory that the proofs of this seat share: a slice that reads as a list of values, kept by worlds that only grow.
-/
import Derived.Test.YteflnnlihblpgaaDoorRows
import Derived.WalkKit
import Derived.WalkSpells
import Derived.WalkLawsBesides
import Derived.Lib.Hide
namespace Go.Proofs.YteflnnlihblpgaaDoor
open Go.RowKit

/-- The world w' has grown out of w: what was there is as it was. -/
abbrev Ext (w w' : World) : Prop := Below w.heap.size w w'

theorem add_block (a : Addr) (n : Nat) : (a.add n).block = a.block := by unfold Addr.add; split <;> rfl
theorem add_add' (a : Addr) (i j : Nat) : (a.add i).add j = a.add (i + j) := by
  unfold Addr.add
  by_cases hi : i = 0 <;> by_cases hj : j = 0 <;> simp [hi, hj, Nat.add_assoc]

/-- The slice '.slice A n _' holds the cells xs ('size' cells an element), all in blocks that are there. -/
def Rd (w : World) (size : Nat) (A : Option Addr) (n : Nat) (xs : List Value) : Prop :=
  xs.length = n * size ∧ (0 < n → ∃ ad, A = some ad ∧ ad.block < w.heap.size ∧ ∀ j u, xs[j]? = some u → w.cell? (ad.add j) = some u)

section
variable {w w' : World} {size n : Nat} {A : Option Addr} {xs : List Value}
theorem Rd.nil_ : Rd w size A 0 [] := ⟨by simp, fun h => absurd h (by omega)⟩
theorem Rd.len (h : Rd w 1 A n xs) : xs.length = n := by have := h.1; omega
theorem Rd.at_ {k : Nat} (h : Rd w 1 A n xs) (hk : k < n) : ∃ ad, A = some ad ∧ ad.block < w.heap.size ∧ ∀ j u, xs[j]? = some u → w.cell? (ad.add j) = some u := h.2 (by omega)
theorem Rd.ext (h : Rd w size A n xs) (hb : Ext w w') : Rd w' size A n xs :=
  ⟨h.1, fun hn => by
    obtain ⟨ad, e, hlt, hc⟩ := h.2 hn
    exact ⟨ad, e, Nat.lt_of_lt_of_le hlt hb.size, fun j u hu => (hb.cell (by rw [add_block]; exact hlt)).trans (hc j u hu)⟩⟩
theorem Rd.cut (h : Rd w size A n xs) {k cap : Nat} (hk : k ≤ n) (hc : n ≤ cap) :
    Rd w size (if cap = k then A else A.map (·.add (k * size))) (n - k) (xs.drop (k * size)) := by
  refine ⟨by rw [List.length_drop, h.1, Nat.sub_mul], fun hn => ?_⟩
  obtain ⟨ad, rfl, hb, hcell⟩ := h.2 (by omega)
  rw [if_neg (by omega)]
  refine ⟨ad.add (k * size), rfl, by rw [add_block]; exact hb, fun j u hu => ?_⟩
  rw [add_add']
  exact hcell _ u (by rw [← hu, List.getElem?_drop])
theorem Rd.take_ (h : Rd w size A n xs) {k : Nat} (hk : k ≤ n) : Rd w size A k (xs.take (k * size)) := by
  refine ⟨by rw [List.length_take, h.1]; exact Nat.min_eq_left (Nat.mul_le_mul_right _ hk), fun hn => ?_⟩
  obtain ⟨ad, e, hb, hc⟩ := h.2 (by omega)
  refine ⟨ad, e, hb, fun j u hu => hc j u ?_⟩
  rw [List.getElem?_take] at hu
  split at hu
  · exact hu
  · cases hu
end

theorem Ext.refl (w : World) : Ext w w := Below.refl _ _
theorem Ext.trans {a b c : World} (h : Ext a b) (k : Ext b c) : Ext a c := Below.trans h (Below.mono k h.size)
theorem Ext.drew {a w : World} (h : Ext a w) : Ext a w.drew := Below.drew h
theorem Ext.drewN {a w : World} (h : Ext a w) (n : Nat) : Ext a (w.drewN n) := ⟨h.os, h.tape, h.output, h.size, h.block⟩
theorem Ext.alloc {a w : World} (h : Ext a w) (o : Obj) : Ext a (w.alloc o) := Below.alloc h h.size o

/-- A list of bytes as cells. -/
def u8s (l : List Nat) : List Value := l.map fun (n : Nat) => Value.int .u8 (n : Int)
theorem u8s_len (l : List Nat) : (u8s l).length = l.length := by simp [u8s]
theorem u8s_at (l : List Nat) (k : Nat) (h : k < l.length) : (u8s l)[k]? = some (.int .u8 (l[k] : Int)) := by simp [u8s, h]
/-- One byte of a slice that reads as a list of bytes. -/
theorem Rd.byte {w : World} {A : Option Addr} {n k : Nat} {l : List Nat} (h : Rd w 1 A n (u8s l)) (hk : k < n) :
    ∃ ad x, A = some ad ∧ Hid (l[k]? = some x) ∧ w.cell? (ad.add k) = some (.int .u8 (x : Int)) := by
  obtain ⟨ad, e, _, hc⟩ := h.at_ hk
  have hl : k < l.length := by have := h.len; rw [u8s_len] at this; omega
  exact ⟨ad, l[k], e, List.getElem?_eq_getElem hl, hc k _ (u8s_at l k hl)⟩
/-- A block that is known. -/
theorem Rd.block {w : World} {g : Nat} {cs : Array Value} {e : TypeId} {fr : Nat × Nat} (h : w.heap[g]? = some (.cells cs e fr)) {n : Nat} {xs : List Value} (hx : xs.length = n) (hp : xs <+: cs.toList) : Rd w 1 (some ⟨g, 0, none⟩) n xs := by
  refine ⟨by omega, fun _ => ⟨_, rfl, (Array.getElem?_eq_some_iff.1 h).1, fun j u hu => ?_⟩⟩
  have hadd : (⟨g, 0, none⟩ : Addr).add j = ⟨g, j, none⟩ := by unfold Addr.add; split <;> simp_all
  rw [hadd, cell_of_row w g j cs e fr h]
  have hj : j < xs.length := (List.getElem?_eq_some_iff.1 hu).1
  have := List.prefix_iff_getElem?.1 hp j hj
  rw [Array.getElem?_toList] at this
  rw [this]
  rw [List.getElem?_eq_getElem hj] at hu
  exact hu
theorem Rd.new (w : World) (cs : Array Value) (e : TypeId) (fr : Nat × Nat) : Rd (w.alloc (.cells cs e fr)) 1 (some ⟨w.heap.size, 0, none⟩) cs.size cs.toList :=
  Rd.block (g := w.heap.size) (heap_alloc_new w _) (by simp) (List.prefix_refl _)
theorem take_succ' {α : Type} {l : List α} {k : Nat} {x : α} (h : l[k]? = some x) : l.take (k + 1) = l.take k ++ [x] := by
  rw [List.take_add_one, h]; rfl
theorem mem_of_at {α : Type} {l : List α} {k : Nat} {x : α} (h : l[k]? = some x) : x ∈ l := List.mem_of_getElem? h
/-- A list of numbers of a kind as cells. -/
def ns (k : IntKind) (l : List Nat) : List Value := l.map fun (n : Nat) => Value.int k (n : Int)
theorem ns_len (k : IntKind) (l : List Nat) : (ns k l).length = l.length := by simp [ns]
theorem ns_append (k : IntKind) (l m : List Nat) : ns k (l ++ m) = ns k l ++ ns k m := by simp [ns]
theorem ns_one (k : IntKind) (l : List Nat) : ∀ u ∈ ns k l, u.oneCell' = true := by
  intro u hu; simp [ns] at hu; obtain ⟨n, _, rfl⟩ := hu; rfl
theorem Rd.num {w : World} {A : Option Addr} {n i : Nat} {k : IntKind} {l : List Nat} (h : Rd w 1 A n (ns k l)) (hi : i < n) :
    ∃ ad x, A = some ad ∧ Hid (l[i]? = some x) ∧ w.cell? (ad.add i) = some (.int k (x : Int)) := by
  obtain ⟨ad, e, _, hc⟩ := h.at_ hi
  have hl : i < l.length := by have := h.len; rw [ns_len] at this; omega
  refine ⟨ad, l[i], e, List.getElem?_eq_getElem hl, hc i _ ?_⟩
  simp [ns, hl]
theorem getD_at {l : List Nat} {i x : Nat} (h : l[i]? = some x) : l.getD i 0 = x := by rw [List.getD, h]; rfl
theorem getD_past {l : List Nat} {i : Nat} (h : l.length ≤ i) : l.getD i 0 = 0 := by rw [List.getD, List.getElem?_eq_none h]; rfl

/-- A callee that leaves the world alone, inside a region that only reads. -/
theorem qz {P : Program} {f : FuncId} {args : Array Value} {w : World} {n : Nat} {v : Value}
    (h : Calls P f args (w.drewN n) fun e w' => e = .returned v ∧ w.drewN n = w') : Calls P f args (w.drewN n) fun e w'' => e = .returned v ∧ ∃ m, w'' = w.drewN m :=
  h.mono fun _ _ ⟨he, hm⟩ => ⟨he, n, hm.symm⟩
theorem Rd.drewN {w : World} {size n : Nat} {A : Option Addr} {xs : List Value} (h : Rd w size A n xs) (k : Nat) : Rd (w.drewN k) size A n xs := h
end Go.Proofs.YteflnnlihblpgaaDoor
