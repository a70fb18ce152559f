/-
  A region that draws its order: loads are taken first although an operation behind them writes what they read: what waits for a load cannot come ahead of it.
-/
import Derived.Test.YteflnnlihblpgaaDoorRows
import Derived.WalkKit
import Derived.WalkSpells
import Derived.WalkLawsBesides
import Derived.Lib.Hide
import Derived.ProofKit
import Derived.OpenShut
import Derived.SizedLaws
import Derived.ChangeOld
import Derived.Maps.AppendAt
import Derived.Laws.Cover1
import Derived.Laws.IdiomCopy
import Derived.Deep.AppendLies
import Derived.OrdersHeld
import Derived.RegionTactic
/-
  Package order, in plain words: an entry; its form.
-/
namespace Go.Proofs.YteflnnlihblpgaaDoor
set_option linter.unusedVariables false
structure Tk where
  C : Int
  P : Int
  D : Int
  S : Int
deriving DecidableEq
/-- An entry: who, which, and the order. -/
structure En where
  cl : Int
  nu : Int
  kd : Int
  id : Int
  sk : Int
  sq : Int
  st : Int
  pol : Int
  at_ : Int
  ts : List Tk
deriving DecidableEq
/-- 0 to MaxTime. -/
def fitI (x : Int) : Bool := decide (0 ≤ x ∧ x ≤ 1099511627776)
def fitL (l : List Int) : Bool := l.all fitI
def Tk.ns (t : Tk) : List Int := [t.C, t.P, t.D, t.S]
def Tk.fit (t : Tk) : Bool := fitL t.ns
def En.noServer (e : En) : Bool := decide (e.sk = 0 ∧ e.sq = 0 ∧ e.st = 0)
def En.noGuest (e : En) : Bool := decide (e.pol = 0) && decide (e.ts.length = 0)
/-- An order's form. -/
def En.ord (e : En) : Bool :=
  fitL [e.at_, e.id] &&
    if e.kd = 1 ∨ e.kd = 2 then e.noGuest && fitL [e.sk, e.sq, e.st]
    else if e.kd = 3 then e.noGuest && e.noServer
    else if e.kd = 4 then e.noServer && fitL [e.pol] && decide (e.ts.length ≤ 8) && e.ts.all Tk.fit
    else false
def En.form (e : En) : Bool := decide (0 ≤ e.cl ∧ e.cl < 16 ∧ 1 ≤ e.nu ∧ e.nu ≤ 1099511627776) && e.ord
end Go.Proofs.YteflnnlihblpgaaDoor
namespace Go.Proofs.YteflnnlihblpgaaDoor
open Go.RowKit

/-- The world w' has grown out of w: what was there is as it was. -/
abbrev Ext (w w' : World) : Prop := Below w.heap.size w w'

theorem add_block (a : Addr) (n : Nat) : (a.add n).block = a.block := by unfold Addr.add; split <;> rfl
theorem add_add' (a : Addr) (i j : Nat) : (a.add i).add j = a.add (i + j) := by
  unfold Addr.add
  by_cases hi : i = 0 <;> by_cases hj : j = 0 <;> simp [hi, hj, Nat.add_assoc]

/-- The slice '.slice A n _' holds the cells xs ('size' cells an element), all in blocks that are there. -/
def Rd (w : World) (size : Nat) (A : Option Addr) (n : Nat) (xs : List Value) : Prop :=
  xs.length = n * size ∧ (0 < n → ∃ ad, A = some ad ∧ ad.block < w.heap.size ∧ ∀ j u, xs[j]? = some u → w.cell? (ad.add j) = some u)

section
variable {w w' : World} {size n : Nat} {A : Option Addr} {xs : List Value}
theorem Rd.nil_ : Rd w size A 0 [] := ⟨by simp, fun h => absurd h (by omega)⟩
theorem Rd.len (h : Rd w 1 A n xs) : xs.length = n := by have := h.1; omega
theorem Rd.at_ {k : Nat} (h : Rd w 1 A n xs) (hk : k < n) : ∃ ad, A = some ad ∧ ad.block < w.heap.size ∧ ∀ j u, xs[j]? = some u → w.cell? (ad.add j) = some u := h.2 (by omega)
theorem Rd.ext (h : Rd w size A n xs) (hb : Ext w w') : Rd w' size A n xs :=
  ⟨h.1, fun hn => by
    obtain ⟨ad, e, hlt, hc⟩ := h.2 hn
    exact ⟨ad, e, Nat.lt_of_lt_of_le hlt hb.size, fun j u hu => (hb.cell (by rw [add_block]; exact hlt)).trans (hc j u hu)⟩⟩
theorem Rd.cut (h : Rd w size A n xs) {k cap : Nat} (hk : k ≤ n) (hc : n ≤ cap) :
    Rd w size (if cap = k then A else A.map (·.add (k * size))) (n - k) (xs.drop (k * size)) := by
  refine ⟨by rw [List.length_drop, h.1, Nat.sub_mul], fun hn => ?_⟩
  obtain ⟨ad, rfl, hb, hcell⟩ := h.2 (by omega)
  rw [if_neg (by omega)]
  refine ⟨ad.add (k * size), rfl, by rw [add_block]; exact hb, fun j u hu => ?_⟩
  rw [add_add']
  exact hcell _ u (by rw [← hu, List.getElem?_drop])
theorem Rd.take_ (h : Rd w size A n xs) {k : Nat} (hk : k ≤ n) : Rd w size A k (xs.take (k * size)) := by
  refine ⟨by rw [List.length_take, h.1]; exact Nat.min_eq_left (Nat.mul_le_mul_right _ hk), fun hn => ?_⟩
  obtain ⟨ad, e, hb, hc⟩ := h.2 (by omega)
  refine ⟨ad, e, hb, fun j u hu => hc j u ?_⟩
  rw [List.getElem?_take] at hu
  split at hu
  · exact hu
  · cases hu
end

theorem Ext.refl (w : World) : Ext w w := Below.refl _ _
theorem Ext.trans {a b c : World} (h : Ext a b) (k : Ext b c) : Ext a c := Below.trans h (Below.mono k h.size)
theorem Ext.drew {a w : World} (h : Ext a w) : Ext a w.drew := Below.drew h
theorem Ext.drewN {a w : World} (h : Ext a w) (n : Nat) : Ext a (w.drewN n) := ⟨h.os, h.tape, h.output, h.size, h.block⟩
theorem Ext.alloc {a w : World} (h : Ext a w) (o : Obj) : Ext a (w.alloc o) := Below.alloc h h.size o

/-- A list of bytes as cells. -/
def u8s (l : List Nat) : List Value := l.map fun (n : Nat) => Value.int .u8 (n : Int)
theorem u8s_len (l : List Nat) : (u8s l).length = l.length := by simp [u8s]
theorem u8s_at (l : List Nat) (k : Nat) (h : k < l.length) : (u8s l)[k]? = some (.int .u8 (l[k] : Int)) := by simp [u8s, h]
/-- One byte of a slice that reads as a list of bytes. -/
theorem Rd.byte {w : World} {A : Option Addr} {n k : Nat} {l : List Nat} (h : Rd w 1 A n (u8s l)) (hk : k < n) :
    ∃ ad x, A = some ad ∧ Hid (l[k]? = some x) ∧ w.cell? (ad.add k) = some (.int .u8 (x : Int)) := by
  obtain ⟨ad, e, _, hc⟩ := h.at_ hk
  have hl : k < l.length := by have := h.len; rw [u8s_len] at this; omega
  exact ⟨ad, l[k], e, List.getElem?_eq_getElem hl, hc k _ (u8s_at l k hl)⟩
/-- A block that is known. -/
theorem Rd.block {w : World} {g : Nat} {cs : Array Value} {e : TypeId} {fr : Nat × Nat} (h : w.heap[g]? = some (.cells cs e fr)) {n : Nat} {xs : List Value} (hx : xs.length = n) (hp : xs <+: cs.toList) : Rd w 1 (some ⟨g, 0, none⟩) n xs := by
  refine ⟨by omega, fun _ => ⟨_, rfl, (Array.getElem?_eq_some_iff.1 h).1, fun j u hu => ?_⟩⟩
  have hadd : (⟨g, 0, none⟩ : Addr).add j = ⟨g, j, none⟩ := by unfold Addr.add; split <;> simp_all
  rw [hadd, cell_of_row w g j cs e fr h]
  have hj : j < xs.length := (List.getElem?_eq_some_iff.1 hu).1
  have := List.prefix_iff_getElem?.1 hp j hj
  rw [Array.getElem?_toList] at this
  rw [this]
  rw [List.getElem?_eq_getElem hj] at hu
  exact hu
theorem Rd.new (w : World) (cs : Array Value) (e : TypeId) (fr : Nat × Nat) : Rd (w.alloc (.cells cs e fr)) 1 (some ⟨w.heap.size, 0, none⟩) cs.size cs.toList :=
  Rd.block (g := w.heap.size) (heap_alloc_new w _) (by simp) (List.prefix_refl _)
theorem take_succ' {α : Type} {l : List α} {k : Nat} {x : α} (h : l[k]? = some x) : l.take (k + 1) = l.take k ++ [x] := by
  rw [List.take_add_one, h]; rfl
theorem mem_of_at {α : Type} {l : List α} {k : Nat} {x : α} (h : l[k]? = some x) : x ∈ l := List.mem_of_getElem? h
/-- A list of numbers of a kind as cells. -/
def ns (k : IntKind) (l : List Nat) : List Value := l.map fun (n : Nat) => Value.int k (n : Int)
theorem ns_len (k : IntKind) (l : List Nat) : (ns k l).length = l.length := by simp [ns]
theorem ns_append (k : IntKind) (l m : List Nat) : ns k (l ++ m) = ns k l ++ ns k m := by simp [ns]
theorem ns_one (k : IntKind) (l : List Nat) : ∀ u ∈ ns k l, u.oneCell' = true := by
  intro u hu; simp [ns] at hu; obtain ⟨n, _, rfl⟩ := hu; rfl
theorem Rd.num {w : World} {A : Option Addr} {n i : Nat} {k : IntKind} {l : List Nat} (h : Rd w 1 A n (ns k l)) (hi : i < n) :
    ∃ ad x, A = some ad ∧ Hid (l[i]? = some x) ∧ w.cell? (ad.add i) = some (.int k (x : Int)) := by
  obtain ⟨ad, e, _, hc⟩ := h.at_ hi
  have hl : i < l.length := by have := h.len; rw [ns_len] at this; omega
  refine ⟨ad, l[i], e, List.getElem?_eq_getElem hl, hc i _ ?_⟩
  simp [ns, hl]
theorem getD_at {l : List Nat} {i x : Nat} (h : l[i]? = some x) : l.getD i 0 = x := by rw [List.getD, h]; rfl
theorem getD_past {l : List Nat} {i : Nat} (h : l.length ≤ i) : l.getD i 0 = 0 := by rw [List.getD, List.getElem?_eq_none h]; rfl

/-- A callee that leaves the world alone, inside a region that only reads. -/
theorem qz {P : Program} {f : FuncId} {args : Array Value} {w : World} {n : Nat} {v : Value}
    (h : Calls P f args (w.drewN n) fun e w' => e = .returned v ∧ w.drewN n = w') : Calls P f args (w.drewN n) fun e w'' => e = .returned v ∧ ∃ m, w'' = w.drewN m :=
  h.mono fun _ _ ⟨he, hm⟩ => ⟨he, n, hm.symm⟩
theorem Rd.drewN {w : World} {size n : Nat} {A : Option Addr} {xs : List Value} (h : Rd w size A n xs) (k : Nat) : Rd (w.drewN k) size A n xs := h
end Go.Proofs.YteflnnlihblpgaaDoor
namespace Go.Proofs.YteflnnlihblpgaaDoor
open Go.RowKit Go.ChangeShapes Go.WideShapes Go.ChangeAt

def ints (l : List Int) : List Value := l.map (Value.int .i64)
theorem ints_len (l : List Int) : (ints l).length = l.length := by simp [ints]
theorem ints_one (l : List Int) : ∀ u ∈ ints l, u.oneCell' = true := by
  intro u hu; simp [ints] at hu; obtain ⟨n, _, rfl⟩ := hu; rfl

/-- Every int of the list fits 64 bits. -/
def Fits64 (l : List Int) : Prop := ∀ x ∈ l, -9223372036854775808 ≤ x ∧ x ≤ 9223372036854775807

section
variable {H : Type} {enc : TypeId × Value → H} {P : Program} {W : World} {t e : TypeId} {v : Value} {d : DataW H} {p : List MemPlace} {b0 : Nat} {r : Reach}

theorem open_row {k : IntKind} (ht : P.underlying t = some (.slice e)) (he : P.underlying e = some (.int k)) (hc : P.cellsOf e = 1) (hv : Value.okWide P W r b0 t v) (h : DataW.Trod enc P W 0 (fun _ => true) true t v d p) :
    ∃ (a : Option Addr) (n c : Nat) (zs : List Int), v = .slice a n c ∧ n ≤ c ∧ Rd W 1 a n ((zs.take n).map (Value.int k)) ∧ (∀ x ∈ zs.take n, (Lit.int k x).wf = true) ∧ (d = .nil ∧ c = 0 ∨ ∃ elems spare, d = .slice elems spare ∧ elems.length + spare.length = c) := by
  obtain ⟨a, n, c, rfl⟩ := okWide_slice ht hv
  obtain ⟨fuel, hf⟩ := h
  rcases open_ints ht he hc hf with ⟨hcs, hx⟩ | ⟨x, l, c', zs, hcs, _, hl, hm, hz, hx, hcell, hwz⟩
  · simp [Value.cells] at hcs
    obtain ⟨rfl, rfl, rfl⟩ := hcs
    injection hx with hx _
    exact ⟨none, 0, 0, [], rfl, Nat.le_refl _, Rd.nil_, by simp, .inl ⟨hx, rfl⟩⟩
  · simp [Value.cells] at hcs
    obtain ⟨rfl, rfl, rfl⟩ := hcs
    simp only [if_true] at hz
    injection hx with hx _
    refine ⟨some x, _, _, zs, rfl, hl, ⟨by simp; omega, fun hn => ⟨x, rfl, ?_, ?_⟩⟩, fun y hy => hwz y (List.mem_of_mem_take hy), .inr ⟨_, _, hx, by simp [lits]; omega⟩⟩
    · have h0 := hcell 0 (by omega)
      have h1 : (x.add 0).block = x.block := add_block _ _
      rw [← h1]
      refine Nat.lt_of_not_le fun hge => ?_
      simp [World.cell?, Array.getElem?_eq_none hge] at h0
    · intro j u hu
      rw [List.getElem?_map] at hu
      cases hj : (zs.take n)[j]? with
      | none => rw [hj] at hu; cases hu
      | some y =>
        rw [hj] at hu
        injection hu with hu
        subst hu
        rw [List.getElem?_take] at hj
        split at hj
        · rw [hcell j (by omega), List.getD, hj]; rfl
        · cases hj

theorem open_bytes (ht : P.underlying t = some (.slice e)) (he : P.underlying e = some (.int .u8)) (hc : P.cellsOf e = 1) (hb : P.bytesOf e = 1) (hv : Value.okWide P W r b0 t v) (h : DataW.Trod enc P W 0 (fun _ => true) true t v d p)
    (hs : ∀ elems spare, d = .slice elems spare → (elems.length + spare.length) * P.bytesOf e ≤ reachBytes) :
    ∃ (a : Option Addr) (n c : Nat) (l : List Nat), v = .slice a n c ∧ n ≤ c ∧ c ≤ 140737488351232 ∧ Rd W 1 a n (u8s l) ∧ (∀ x ∈ l, x < 256) ∧ (d = .nil ∧ c = 0 ∨ ∃ elems spare, d = .slice elems spare ∧ elems.length + spare.length = c) := by
  obtain ⟨a, n, c, zs, rfl, hn, hr, hw, hd⟩ := open_row ht he hc hv h
  have hwf : ∀ x ∈ zs.take n, 0 ≤ x ∧ x < 256 := fun x hx => by
    have := hw x hx
    simp [Lit.wf, IntKind.min, IntKind.max, IntKind.signed, IntKind.bits] at this
    omega
  have e1 : u8s ((zs.take n).map Int.toNat) = (zs.take n).map (Value.int .u8) := by
    rw [u8s, List.map_map]
    refine List.map_congr_left fun x hx => ?_
    have := hwf x hx
    simp only [Function.comp, Int.toNat_of_nonneg this.1]
  refine ⟨a, n, c, (zs.take n).map Int.toNat, rfl, hn, ?_, by rw [e1]; exact hr, ?_, hd⟩
  · rcases hd with ⟨_, rfl⟩ | ⟨elems, spare, hd, hl⟩
    · omega
    · have := hs elems spare hd
      rw [hb, hl] at this
      simp [reachBytes] at this
      omega
  · intro x hx
    obtain ⟨y, hy, rfl⟩ := List.mem_map.1 hx
    have := hwf y hy
    omega

theorem open_ilist (ht : P.underlying t = some (.slice e)) (he : P.underlying e = some (.int .i64)) (hc : P.cellsOf e = 1) (hb : P.bytesOf e = 8) (hv : Value.okWide P W r b0 t v) (h : DataW.Trod enc P W 0 (fun _ => true) true t v d p)
    (hs : ∀ elems spare, d = .slice elems spare → (elems.length + spare.length) * P.bytesOf e ≤ reachBytes) :
    ∃ (a : Option Addr) (n c : Nat) (l : List Int), v = .slice a n c ∧ n ≤ c ∧ c * 8 ≤ 140737488351232 ∧ Rd W 1 a n (ints l) ∧ Fits64 l ∧ (d = .nil ∧ c = 0 ∨ ∃ elems spare, d = .slice elems spare ∧ elems.length + spare.length = c) := by
  obtain ⟨a, n, c, zs, rfl, hn, hr, hw, hd⟩ := open_row ht he hc hv h
  refine ⟨a, n, c, zs.take n, rfl, hn, ?_, hr, fun x hx => ?_, hd⟩
  · rcases hd with ⟨_, rfl⟩ | ⟨elems, spare, hd, hl⟩
    · omega
    · have := hs elems spare hd
      rw [hb, hl] at this
      simp [reachBytes] at this
      omega
  · have := hw x hx
    simp [Lit.wf, IntKind.min, IntKind.max, IntKind.signed, IntKind.bits] at this
    omega

theorem wf_i64b {x : Int} (h : (Lit.int .i64 x).wf = true) : -9223372036854775808 ≤ x ∧ x ≤ 9223372036854775807 := by
  simp [Lit.wf, IntKind.min, IntKind.max, IntKind.signed, IntKind.bits] at h
  omega
theorem wf_u64b {x : Int} (h : (Lit.int .u64 x).wf = true) : 0 ≤ x ∧ x < 18446744073709551616 := by
  simp [Lit.wf, IntKind.min, IntKind.max, IntKind.signed, IntKind.bits] at h
  omega
theorem wf_u32b {x : Int} (h : (Lit.int .u32 x).wf = true) : 0 ≤ x ∧ x < 4294967296 := by
  simp [Lit.wf, IntKind.min, IntKind.max, IntKind.signed, IntKind.bits] at h
  omega
theorem wf_u8b {x : Int} (h : (Lit.int .u8 x).wf = true) : 0 ≤ x ∧ x < 256 := by
  simp [Lit.wf, IntKind.min, IntKind.max, IntKind.signed, IntKind.bits] at h
  omega
end
end Go.Proofs.YteflnnlihblpgaaDoor
namespace Go.Proofs.YteflnnlihblpgaaDoor
set_option maxRecDepth 100000
open Go.RowKit

/-- t is the slice type of e: an element is 'size' cells, 'bytes' bytes; its zero value is z. -/
structure Elt (P : Program) (t e : TypeId) (size bytes : Nat) (z : Value) : Prop where
  under : P.underlying t = some (.slice e)
  info : (P.info? e).map (fun i => (i.zero, i.size, i.bytes)) = some (some z, size, bytes)
  cells : z.cells.size = size
  pos : 0 < size

/-- The slice '.slice A n c' is a row of the call's own, from block 'base' on, and its elements are the cells xs. -/
def Own (w : World) (base : Nat) (e : TypeId) (size : Nat) (A : Option Addr) (n c : Nat) (xs : List Value) : Prop := w.ownsRow base e size (.slice A n c) n xs

/-- w' is w, with new blocks, and with writes to the row at A alone. -/
def Grows (w w' : World) (A : Option Addr) : Prop := w.grownBy w' (A.map (·.block))

theorem ownBlock_slice (A : Option Addr) (n c : Nat) : Value.ownBlock (.slice A n c) = A.map (·.block) := by cases A <;> rfl

section
variable {w w' : World} {base n c : Nat} {e : TypeId} {size : Nat} {A : Option Addr} {xs : List Value}
theorem Own.len (h : Own w base e size A n c xs) : xs.length = n * size := h.1
theorem Own.base_le (h : Own w base e size A n c xs) : ∀ g, A.map (·.block) = some g → base ≤ g := by
  intro g hg
  rcases h.2 with ⟨h', _⟩ | ⟨g', cap, cur, h', hb, _⟩
  · injection h' with h1; subst h1; simp at hg
  · injection h' with h1; subst h1; simp at hg; omega
theorem Own.rd (h : Own w base e size A n c xs) : Rd w size A n xs := by
  refine ⟨h.1, fun hn => ?_⟩
  have hcells := fun g hg => World.ownsRow.cells (g := g) h hg
  rcases h.2 with ⟨_, h'⟩ | ⟨g, cap, cur, h', _, hgg, _⟩
  · omega
  · injection h' with h1
    subst h1
    exact ⟨_, rfl, (Array.getElem?_eq_some_iff.1 hgg).1, hcells g rfl⟩
theorem Own.nil_ : Own w base e size none 0 0 [] := World.ownsRow_nil w base e size
theorem Own.alloc (h : Own w base e size A n c xs) (o : Obj) : Own (w.alloc o) base e size A n c xs := World.ownsRow.alloc h o
theorem Own.drew (h : Own w base e size A n c xs) : Own w.drew base e size A n c xs := h
theorem Own.drewN (h : Own w base e size A n c xs) (k : Nat) : Own (w.drewN k) base e size A n c xs := h
theorem Own.ext (h : Own w base e size A n c xs) (hx : Ext w w') : Own w' base e size A n c xs := by
  refine ⟨h.1, ?_⟩
  rcases h.2 with hn | ⟨g, cap, cur, h1, hb, hgg, rest⟩
  · exact .inl hn
  · exact .inr ⟨g, cap, cur, h1, hb, (hx.block g (Array.getElem?_eq_some_iff.1 hgg).1).trans hgg, rest⟩
theorem Grows.ext {a : World} (hg : Grows w w' A) (hx : Ext a w) (hb : ∀ g, A.map (·.block) = some g → a.heap.size ≤ g) : Ext a w' := Below.grown hx hg hx.size hb
theorem Grows.rd {n' size' : Nat} {B : Option Addr} {ys : List Value} (hg : Grows w w' A) (h : Rd w size' B n' ys) (hne : ∀ b, B = some b → A.map (·.block) ≠ some b.block) : Rd w' size' B n' ys :=
  ⟨h.1, fun hn => by
    obtain ⟨ad, e, hlt, hc⟩ := h.2 hn
    refine ⟨ad, e, Nat.lt_of_lt_of_le hlt hg.size, fun j u hu => (World.cell?_of_block ?_).trans (hc j u hu)⟩
    rw [add_block]
    exact hg.block ad.block hlt (fun e' => hne ad e e'.symm)⟩
end

/-- What Go's rule for the next capacity comes to at most. -/
theorem nextcap_le {need old : Nat} (h : old < need) : Builtin.nextslicecap need old ≤ need + need / 4 + 512 := by
  have step : ∀ r c, c ≤ need + need / 4 + 192 → Builtin.growBy need r c ≤ need + need / 4 + 192 := by
    intro r
    induction r with
    | zero => intro c hc; exact hc
    | succ r ih =>
      intro c hc
      unfold Builtin.growBy
      split
      · exact hc
      · exact ih _ (by omega)
  unfold Builtin.nextslicecap
  split
  · omega
  · split
    · omega
    · have := step 4 old (by omega); omega
theorem fits_mul {need old bytes : Nat} (h : old < need) (hb : need * bytes ≤ 225000000000000) (hs : bytes ≤ 100000) : Builtin.nextslicecap need old * bytes ≤ 281474976710656 := by
  have h1 := Nat.mul_le_mul_right bytes (nextcap_le h)
  have h2 : (need + need / 4 + 512) * bytes = need * bytes + need / 4 * bytes + 512 * bytes := by rw [Nat.add_mul, Nat.add_mul]
  have h3 : need / 4 * bytes ≤ need * bytes / 4 := by
    rw [Nat.le_div_iff_mul_le (by omega), Nat.mul_right_comm]
    exact Nat.mul_le_mul_right _ (Nat.div_mul_le_self need 4)
  omega

section
variable {P : Program} {w : World} {t e : TypeId} {size bytes : Nat} {z : Value}

/-- A step whose run is known up to what it leaves. -/
theorem upon_ok {o : Oper} {a : Act} {K : Act → World → Prop} {Q : Exit → Act → World → Prop} {X : Sem Value} {v : Value} {w' : World} {f : Value → World → Result Next}
    (h : X.run P w = .ok v w') (hk : o.upon P a K Q (f v w')) : o.upon P a K Q ((X.run P w).andThen f) := by
  rw [h]; exact hk

theorem run_mk (E : Elt P t e size bytes z) (base : Nat) (kl kc : IntKind) (C : Int) (hC : 0 ≤ C) (hb : (bytes : Int) * C ≤ 281474976710656) (hm : C ≤ 9223372036854775807) (hbase : base ≤ w.heap.size) :
    ∃ w', (Instr.makeSlice t (.int kl 0) (.int kc C)).run P w = .ok (.slice (some ⟨w.heap.size, 0, none⟩) 0 C.toNat) w' ∧
      Own w' base e size (some ⟨w.heap.size, 0, none⟩) 0 C.toNat [] ∧ Ext w w' ∧ w'.heap.size = w.heap.size + 1 := by
  obtain ⟨i, hi, hz, hs, hby⟩ := info_parts E.info
  obtain ⟨c, rfl⟩ := Int.eq_ofNat_of_zero_le hC
  have hr := run_make (P := P) w t e i z E.under hi hz kl kc 0 c (Int.le_refl _) hC (by rw [hby]; exact hb) hm
  simp only [Int.toNat_zero] at hr
  refine ⟨_, hr, World.ownsRow_made w _ _ hbase (by simp [maxLen]; omega) (by rw [size_madeCells, hs]), (Ext.refl w).alloc _, by simp⟩

theorem madeCells_one (v : Value) (n : Nat) : (madeCells #[v] n).toList = List.replicate n v := by
  unfold madeCells
  apply List.ext_getElem
  · simp
  · intro i h1 h2
    simp [Nat.mod_one]

/-- make([]T, n), T of one cell. -/
theorem run_mkn (E : Elt P t e 1 bytes z) (hz1 : z.cells = #[z]) (base : Nat) (kl kc : IntKind) (C : Int) (hC : 0 ≤ C) (hb : (bytes : Int) * C ≤ 281474976710656) (hm : C ≤ 9223372036854775807) (hbase : base ≤ w.heap.size) :
    ∃ w', (Instr.makeSlice t (.int kl C) (.int kc C)).run P w = .ok (.slice (some ⟨w.heap.size, 0, none⟩) C.toNat C.toNat) w' ∧
      Own w' base e 1 (some ⟨w.heap.size, 0, none⟩) C.toNat C.toNat (List.replicate C.toNat z) ∧ Ext w w' ∧ w'.heap.size = w.heap.size + 1 := by
  obtain ⟨i, hi, hz, hs, hby⟩ := info_parts E.info
  obtain ⟨c, rfl⟩ := Int.eq_ofNat_of_zero_le hC
  have hr := run_make (P := P) w t e i z E.under hi hz kl kc c c hC (Int.le_refl _) (by rw [hby]; exact hb) hm
  refine ⟨_, hr, ?_, (Ext.refl w).alloc _, by simp⟩
  have h := World.ownsRow_lit (base := base) (e := e) (size := 1) w (madeCells z.cells ((c : Int).toNat * i.size)) (c : Int).toNat hbase (by simp [maxLen]; omega) (by rw [size_madeCells, hs])
  rw [hs, Nat.mul_one, hz1, madeCells_one] at h
  rw [hs, Nat.mul_one, hz1]
  exact h

theorem run_append_none (E : Elt P t e size bytes z) (ty : TypeId) (base : Nat) {A : Option Addr} {n c : Nat} {xs : List Value} (hown : Own w base e size A n c xs) (d : Nat) :
    (Builtin.append_ #[t, t] ty #[.slice A n c, .slice none 0 d]).run P w = .ok (.slice A n c) w := by
  obtain ⟨i, hi, hz, hs, hby⟩ := info_parts E.info
  have ht := E.under
  rcases hown.2 with ⟨h, rfl⟩ | ⟨g, cap, cur, h, _, _, hnc, _⟩
  · injection h with h1 _ h3
    subst h1; subst h3
    simp [Builtin.append_, run_underlying ht, sizeOf, typeInfo, hi, Builtin.lenOf, Builtin.firstCells]
  · injection h with h1 _ h3
    subst h1; subst h3
    simp [Builtin.append_, run_underlying ht, sizeOf, typeInfo, hi, Builtin.lenOf, Builtin.firstCells, hnc, storeCells]

/-- append(own, src...), src whatever slice, nil or not. -/
theorem run_app (E : Elt P t e size bytes z) (ty : TypeId) {base : Nat} {A : Option Addr} {n c : Nat} {xs : List Value} (hown : Own w base e size A n c xs)
    {B : Option Addr} {m : Nat} (d : Nat) {news : List Value} (hr : Rd w size B m news) (h1 : ∀ u ∈ news, u.oneCell' = true)
    (hm : n + m ≤ 9223372036854775807) (hfit : n + m ≤ c ∨ (n + m) * bytes ≤ 225000000000000 ∧ bytes ≤ 100000) (hbase : base ≤ w.heap.size) :
    ∃ A' c' w', (Builtin.append_ #[t, t] ty #[.slice A n c, .slice B m d]).run P w = .ok (.slice A' (n + m) c') w' ∧ Own w' base e size A' (n + m) c' (xs ++ news) ∧ Grows w w' A ∧
      (A' = A ∨ A' = some ⟨w.heap.size, 0, none⟩) ∧ (n + m ≤ c → A' = A ∧ c' = c) := by
  obtain ⟨i, hi, hz, hs, hby⟩ := info_parts E.info
  have ht := E.under
  by_cases hm0 : m = 0
  · subst hm0
    have hn : news = [] := List.eq_nil_of_length_eq_zero (by simpa using hr.1)
    subst hn
    refine ⟨A, c, w, ?_, by simpa using hown, World.grownBy.refl w _, .inl rfl, fun _ => ⟨rfl, rfl⟩⟩
    cases B with
    | none => exact run_append_none E ty base hown d
    | some b =>
      rcases hown.2 with ⟨h, rfl⟩ | ⟨g, cap, cur, h, _, _, hnc, _⟩
      · injection h with h1 _ h3
        subst h1; subst h3
        simp [Builtin.append_, run_underlying ht, sizeOf, typeInfo, hi, Builtin.lenOf, Builtin.firstCells, loadCells, loadCellsFrom]
      · injection h with h1 _ h3
        subst h1; subst h3
        simp [Builtin.append_, run_underlying ht, sizeOf, typeInfo, hi, Builtin.lenOf, Builtin.firstCells, hnc, storeCells, loadCells, loadCellsFrom]
  · obtain ⟨ad, rfl, _, hcell⟩ := hr.2 (by omega)
    have hl : news.length = m * i.size := by rw [hs]; exact hr.1
    have hlen : (xs ++ news).length = (n + m) * size := by rw [List.length_append, hown.1, hr.1, Nat.add_mul]
    have grown : ∀ (old : Nat), old < n + m → ∀ (row : Option Nat),
        (w.drew.alloc (.cells (xs.toArray ++ news.toArray ++ Builtin.zeroCells z.cells (grownCap w (n + m) old e - (n + m))) e)).ownsRow base e size
          (.slice (some ⟨w.heap.size, 0, none⟩) (n + m) (grownCap w (n + m) old e)) (n + m) (xs ++ news) ∧
        w.grownBy (w.drew.alloc (.cells (xs.toArray ++ news.toArray ++ Builtin.zeroCells z.cells (grownCap w (n + m) old e - (n + m))) e)) row := by
      intro old ho row
      have hge := grownCap_ge w (n + m) old e
      have hcm : grownCap w (n + m) old e ≤ maxLen := grownCap_le_maxLen w (n + m) old e (by simp [maxLen]; omega)
      refine ⟨⟨hlen, .inr ⟨w.heap.size, _, _, rfl, hbase, heap_alloc_new w.drew _, hge, hcm, ?_, ?_⟩⟩, ⟨rfl, rfl, rfl, by simp, fun k hk _ => Below.heap_alloc w.drew _ k hk⟩⟩
      · simp only [Array.size_append, List.size_toArray, size_zeroCells, E.cells, hown.1, hr.1, ← Nat.add_mul]
        congr 1
        omega
      · simp only [Array.toList_append, List.append_assoc]
        rw [← List.append_assoc, ← hlen]
        exact List.take_left
    rcases hown.2 with ⟨h, rfl⟩ | ⟨g, cap, cur, h, hbg, hg, hnc, hcm, hcs, htake⟩
    · injection h with e1 _ e3
      subst e1; subst e3
      have hx : xs = [] := List.eq_nil_of_length_eq_zero (by simpa using hown.1)
      subst hx
      have h48 : m * i.bytes ≤ 281474976710656 := by
        rcases hfit with h | ⟨h, _⟩
        · omega
        · rw [hby]; simp only [Nat.zero_add] at h; omega
      have hrun := run_append_nil (P := P) w t ty e i z ht hi hz ad m d news hl hcell (by omega) (by omega) h48
      have hgr := grown 0 (by omega) none
      simp only [Nat.zero_add, List.nil_append, Array.empty_append] at hgr ⊢
      exact ⟨_, _, _, hrun, hgr.1, hgr.2, .inr rfl, fun hh => absurd hh (by omega)⟩
    · injection h with e1 _ e3
      subst e1; subst e3
      by_cases hroom : n + m ≤ c
      · have hfit' : n * i.size + news.length ≤ cur.size := by rw [hl, hcs, hs, ← Nat.add_mul]; exact Nat.mul_le_mul_right _ hroom
        have hrun := run_append_room (P := P) w t ty e i ht hi g n c cur hg ad m d news hl hcell h1 hroom hfit'
        refine ⟨_, _, _, hrun, ⟨hlen, .inr ⟨g, c, _, rfl, hbg, setRow_heap w g cur _ e _ hg, hroom, hcm, ?_, ?_⟩⟩, ⟨rfl, rfl, rfl, by simp, fun k _ hk => setRow_other w g k _ (fun e => hk (by simp [e]))⟩, .inl rfl, fun _ => ⟨rfl, rfl⟩⟩
        · simp only [List.size_toArray, List.length_append, List.length_take, List.length_drop, Array.length_toList]
          rw [hs] at hfit' ⊢
          omega
        · rw [hs, htake, ← hlen]
          exact List.take_left
      · have holds : ∀ j u, xs[j]? = some u → w.cell? ((⟨g, 0, none⟩ : Addr).add j) = some u := World.ownsRow.cells hown (g := g) rfl
        have hf : Builtin.nextslicecap (n + m) c * i.bytes ≤ 281474976710656 := by
          rcases hfit with h | ⟨h, h'⟩
          · exact absurd h hroom
          · rw [hby]; exact fits_mul (by omega) h h'
        have hrun := run_append_grow (P := P) w t ty e i z ht hi hz ⟨g, 0, none⟩ n c xs (by rw [hs]; exact hown.1) holds ad m d news hl hcell (by omega) (by omega) hf
        have hgr := grown c (by omega) (some g)
        exact ⟨_, _, _, hrun, hgr.1, hgr.2, .inr rfl, fun hh => absurd hh hroom⟩

/-- A slice expression with three indexes, from the beginning. -/
theorem run_slice3 (E : Elt P t e size bytes z) (A : Option Addr) (n c : Nat) (kh km : IntKind) (k m : Nat) (h1 : k ≤ m) (h2 : m ≤ c) (w : World) :
    (Instr.slice t (.slice A n c) none (some (.int kh (k : Int))) (some (.int km (m : Int)))).run P w = .ok (.slice A k m) w := by
  obtain ⟨i, hi, hz, hs, hby⟩ := info_parts E.info
  have e1 : (if m = 0 then A else A.map (·.add (0 * i.size))) = A := by
    split
    · rfl
    · cases A with
      | none => rfl
      | some a => simp [Addr.add]
  simp [Instr.slice, run_underlying E.under, Instr.sliceBounds, run_sliceBound, sizeOf, typeInfo, hi, h1, h2] at e1 ⊢
  exact e1

/-- The same as a law of the walk, at the operation. -/
theorem wp_app {ops : Array Oper} {rest : List Oper} {o : Oper} {a : Act} {Q : Exit → Act → World → Prop} (E : Elt P t e size bytes z) {base : Nat} {A : Option Addr} {n c : Nat} {xs : List Value}
    (hown : Own w base e size A n c xs) {B : Option Addr} {m d : Nat} {news : List Value} (hr : Rd w size B m news) (h1 : ∀ u ∈ news, u.oneCell' = true)
    (hm : n + m ≤ 9223372036854775807) (hfit : n + m ≤ c ∨ (n + m) * bytes ≤ 225000000000000 ∧ bytes ≤ 100000) (hbase : base ≤ w.heap.size)
    (s x : Operand) (hgd : o.guard = none) (ho : o.op = .call { callee := .builtin .append, args := #[s, x], argTypes := #[t, t] })
    (hs : a.eval s = .slice A n c) (hx : a.eval x = .slice B m d)
    (hk : ∀ A' c' w', Own w' base e size A' (n + m) c' (xs ++ news) → Grows w w' A → (A' = A ∨ A' = some ⟨w.heap.size, 0, none⟩) → (n + m ≤ c → A' = A ∧ c' = c) → wpList P ops Q rest (a.put o.dst (.slice A' (n + m) c')) w') :
    wpList P ops Q (o :: rest) a w := by
  obtain ⟨A', c', w', hrun, h2, h3, h4, h5⟩ := run_app E o.type hown d hr h1 hm hfit hbase
  refine wpList_plain hgd fun K hK => ?_
  unfold Oper.wp execOp
  simp only [ho, resolve, invoke, builtin, Sem.run_bind, Sem.run_pure, Result.andThen_ok, List.map_toArray, List.map_cons, List.map_nil, hs, hx, hrun]
  exact hK _ _ (hk A' c' w' h2 h3 h4 h5)
end

theorem run_min3 {P : Program} {t : TypeId} {ts : Array TypeId} (a b c n : Nat) (hn : n = min (min a b) c) (w : World) : (Builtin.min_ ts t #[.int .i64 (a : Int), .int .i64 (b : Int), .int .i64 (c : Int)]).run P w = .ok (.int .i64 (n : Int)) w := by
  rw [run_min_int3]
  have : (if (c : Int) < (if (b : Int) < a then (b : Int) else a) then (c : Int) else (if (b : Int) < a then (b : Int) else a)) = n := by
    split <;> split at * <;> omega
  rw [this]

theorem Own.cellAt {w : World} {base n c g : Nat} {e : TypeId} {xs : List Value} {k : Nat} {u : Value} (h : Own w base e 1 (some ⟨g, 0, none⟩) n c xs) (hk : k < n) (hu : xs[k]? = some u) : w.cell? ⟨g, k, none⟩ = some u :=
  (World.ownsRow.cellAt h k (by omega)).trans hu
theorem Own.frozenAt {w : World} {base n c g : Nat} {e : TypeId} {size : Nat} {xs : List Value} (h : Own w base e size (some ⟨g, 0, none⟩) n c xs) (k : Nat) : w.frozen? ⟨g, k, none⟩ = false := World.ownsRow.frozenAt h k
theorem Own.stored {w : World} {base n c g : Nat} {e : TypeId} {size : Nat} {xs : List Value} (h : Own w base e size (some ⟨g, 0, none⟩) n c xs) (k : Nat) (u : Value) : Own (w.setCell ⟨g, k, none⟩ u) base e size (some ⟨g, 0, none⟩) n c (xs.set k u) := (World.ownsRow.stored h k u).1
theorem Own.lt {w : World} {base n c g : Nat} {e : TypeId} {size : Nat} {xs : List Value} (h : Own w base e size (some ⟨g, 0, none⟩) n c xs) : g < w.heap.size := by
  rcases h.2 with ⟨h', _⟩ | ⟨g', cap, cur, h', _, hg, _⟩
  · cases h'
  · injection h' with h1; injection h1 with h1; injection h1 with h1; subst h1
    exact (Array.getElem?_eq_some_iff.1 hg).1
theorem Ext.setCell {a w : World} (h : Ext a w) {p : Addr} (hp : a.heap.size ≤ p.block) (u : Value) : Ext a (w.setCell p u) := Below.setCell h hp u
theorem set_mid {α : Type} (l : List α) (k m : Nat) (x z : α) (hk : l.length = k) (hm : 0 < m) : (l ++ List.replicate m z).set k x = (l ++ [x]) ++ List.replicate (m - 1) z := by
  obtain ⟨j, rfl⟩ : ∃ j, m = j + 1 := ⟨m - 1, by omega⟩
  subst hk
  simp [List.replicate_succ]

/-- A goal at which the walk is to stand. -/
def Held (p : Prop) : Prop := p
theorem held {p : Prop} (h : Held p) : p := h
theorem Held.go {p : Prop} (h : p) : Held p := h
end Go.Proofs.YteflnnlihblpgaaDoor
namespace Go.Proofs.YteflnnlihblpgaaDoor
open Go.RowKit
set_option linter.unusedVariables false
theorem Own.same {w w' : World} {base n c : Nat} {e : TypeId} {size : Nat} {A : Option Addr} {xs : List Value} (h : Own w base e size A n c xs) (hs : ∀ b, base ≤ b → b < w.heap.size → w'.heap[b]? = w.heap[b]?) : Own w' base e size A n c xs := by
  refine ⟨h.1, ?_⟩
  rcases h.2 with hn | ⟨g, cap, cur, h1, hb, hgg, rest⟩
  · exact .inl hn
  · exact .inr ⟨g, cap, cur, h1, hb, (hs g hb (Array.getElem?_eq_some_iff.1 hgg).1).trans hgg, rest⟩
/-- w' is w, but for new blocks and for writes to blocks that meet P. -/
structure Fr (w w' : World) (P : Nat → Prop) : Prop where
  os : w'.os = w.os
  tape : w'.tape = w.tape
  output : w'.output = w.output
  size : w.heap.size ≤ w'.heap.size
  block : ∀ k, k < w.heap.size → ¬ P k → w'.heap[k]? = w.heap[k]?
theorem Fr.refl (w : World) (P : Nat → Prop) : Fr w w P := ⟨rfl, rfl, rfl, Nat.le_refl _, fun _ _ _ => rfl⟩
theorem Fr.trans {a b c : World} {P Q : Nat → Prop} (h : Fr a b P) (k : Fr b c Q) (hQ : ∀ i, i < a.heap.size → Q i → P i) : Fr a c P :=
  ⟨k.os.trans h.os, k.tape.trans h.tape, k.output.trans h.output, Nat.le_trans h.size k.size, fun i hi hp => (k.block i (Nat.lt_of_lt_of_le hi h.size) (fun hq => hp (hQ i hi hq))).trans (h.block i hi hp)⟩
theorem Fr.of_ext {a b : World} (h : Ext a b) (P : Nat → Prop) : Fr a b P := ⟨h.os, h.tape, h.output, h.size, fun k hk _ => h.block k hk⟩
theorem Fr.ext {a b c : World} {P : Nat → Prop} (h : Ext a b) (k : Fr b c P) (hP : ∀ i, P i → a.heap.size ≤ i) : Ext a c :=
  ⟨k.os.trans h.os, k.tape.trans h.tape, k.output.trans h.output, Nat.le_trans h.size k.size, fun i hi => (k.block i (Nat.lt_of_lt_of_le hi h.size) (fun hp => by have := hP i hp; omega)).trans (h.block i hi)⟩
theorem Fr.grows {w w' : World} {A : Option Addr} (h : Grows w w' A) : Fr w w' (fun b => A.map (·.block) = some b) := ⟨h.os, h.tape, h.output, h.size, fun k hk hp => h.block k hk (fun e => hp e.symm)⟩
theorem Fr.store (w : World) (a : Addr) (v : Value) : Fr w (w.setCell a v) (· = a.block) := ⟨rfl, rfl, rfl, by simp [World.setCell], fun k _ hp => heap_setCell_other w a k v hp⟩
theorem Fr.rd {w w' : World} {P : Nat → Prop} {size n : Nat} {A : Option Addr} {xs : List Value} (hf : Fr w w' P) (h : Rd w size A n xs) (hne : ∀ a, A = some a → ¬ P a.block) : Rd w' size A n xs :=
  ⟨h.1, fun hn => by
    obtain ⟨ad, e, hlt, hc⟩ := h.2 hn
    refine ⟨ad, e, Nat.lt_of_lt_of_le hlt hf.size, fun j u hu => (World.cell?_of_block ?_).trans (hc j u hu)⟩
    rw [add_block]
    exact hf.block ad.block hlt (hne ad e)⟩
theorem Fr.own {w w' : World} {P : Nat → Prop} {base n c : Nat} {e : TypeId} {size : Nat} {A : Option Addr} {xs : List Value} (hf : Fr w w' P) (h : Own w base e size A n c xs) (hne : ∀ a, A = some a → ¬ P a.block) : Own w' base e size A n c xs := by
  refine ⟨h.1, ?_⟩
  rcases h.2 with hn | ⟨g, cap, cur, h1, hb, hgg, rest⟩
  · exact .inl hn
  · refine .inr ⟨g, cap, cur, h1, hb, (hf.block g (Array.getElem?_eq_some_iff.1 hgg).1 ?_).trans hgg, rest⟩
    injection h1 with h1
    exact hne _ h1
theorem Fr.mono {w w' : World} {P Q : Nat → Prop} (h : Fr w w' P) (hPQ : ∀ i, i < w.heap.size → P i → Q i) : Fr w w' Q := ⟨h.os, h.tape, h.output, h.size, fun k hk hq => h.block k hk (fun hp => hq (hPQ k hk hp))⟩
theorem Fr.drewN {w w' : World} {P : Nat → Prop} (h : Fr w w' P) (n : Nat) : Fr w (w'.drewN n) P := ⟨h.os, h.tape, h.output, h.size, h.block⟩
theorem Fr.drew {w w' : World} {P : Nat → Prop} (h : Fr w w' P) : Fr w w'.drew P := ⟨h.os, h.tape, h.output, h.size, h.block⟩
theorem Own.cap_le {w : World} {base n c : Nat} {e : TypeId} {size : Nat} {A : Option Addr} {xs : List Value} (h : Own w base e size A n c xs) : n ≤ c := by
  rcases h.2 with ⟨h', h0⟩ | ⟨g', cap, cur, h', _, _, hnc, _⟩
  · injection h' with _ h1 h2; omega
  · injection h' with _ h1 h2; omega
theorem Own.base_mono {w : World} {base b n c : Nat} {e : TypeId} {size : Nat} {A : Option Addr} {xs : List Value} (h : Own w base e size A n c xs) (hb : b ≤ base) : Own w b e size A n c xs := by
  refine ⟨h.1, ?_⟩
  rcases h.2 with hn | ⟨g, cap, cur, h1, hg, rest⟩
  · exact .inl hn
  · exact .inr ⟨g, cap, cur, h1, Nat.le_trans hb hg, rest⟩
/-- An own row with an element begins a block. -/
theorem Own.head {w : World} {base n c : Nat} {e : TypeId} {size : Nat} {A : Option Addr} {xs : List Value} (h : Own w base e size A n c xs) (hn : 0 < n) : ∃ g, A = some ⟨g, 0, none⟩ := by
  rcases h.2 with ⟨_, h0⟩ | ⟨g, _, _, h, _⟩
  · omega
  · injection h with h; exact ⟨g, h⟩
theorem Own.fr_ext {a w w' : World} {base n c : Nat} {e : TypeId} {size : Nat} {A : Option Addr} {xs : List Value} (h : Own w base e size A n c xs) (hx : Ext a w) (hb : a.heap.size ≤ base) (hf : Fr w w' (fun b => A.map (·.block) = some b)) : Ext a w' :=
  Fr.ext hx hf (fun i hi => Nat.le_trans hb (h.base_le i hi))
end Go.Proofs.YteflnnlihblpgaaDoor
namespace Go.Proofs.YteflnnlihblpgaaDoor
set_option maxRecDepth 100000
open Go.RowKit
set_option linter.unusedVariables false
/-- Each row has 'size' cells. -/
def Even (size : Nat) (rs : List (List Value)) : Prop := ∀ r ∈ rs, r.length = size
section
variable {size : Nat} {rs : List (List Value)}
theorem Even.len : ∀ {rs : List (List Value)}, Even size rs → rs.flatten.length = rs.length * size
  | [], _ => by simp
  | r :: rs, h => by
    rw [List.flatten_cons, List.length_append, Even.len (rs := rs) (fun x hx => h x (by simp [hx])), h r (by simp), List.length_cons, Nat.succ_mul]
    omega
theorem Even.at_ : ∀ {rs : List (List Value)} {k i : Nat} {r : List Value}, Even size rs → rs[k]? = some r → i < size → rs.flatten[k * size + i]? = r[i]?
  | [], _, _, _, _, h, _ => by simp at h
  | x :: rs, k, i, r, he, h, hi => by
    have hx := he x (by simp)
    rw [List.flatten_cons]
    cases k with
    | zero =>
      simp at h
      subst h
      rw [List.getElem?_append_left (by omega)]
      congr 1
      omega
    | succ k =>
      rw [List.getElem?_append_right (by rw [hx, Nat.succ_mul]; omega), ← Even.at_ (rs := rs) (fun y hy => he y (by simp [hy])) (by simpa using h) hi]
      congr 1
      rw [hx, Nat.succ_mul]
      omega
theorem Even.take : ∀ {rs : List (List Value)} (k : Nat), Even size rs → rs.flatten.take (k * size) = (rs.take k).flatten
  | [], _, _ => by simp
  | x :: rs, 0, _ => by simp
  | x :: rs, k + 1, he => by
    have hx := he x (by simp)
    rw [List.flatten_cons, List.take_succ_cons, List.flatten_cons, ← Even.take (rs := rs) k (fun y hy => he y (by simp [hy])), List.take_append, List.take_of_length_le (by rw [hx, Nat.succ_mul]; omega)]
    congr 2
    rw [hx, Nat.succ_mul]
    omega
theorem Even.drop : ∀ {rs : List (List Value)} (k : Nat), Even size rs → rs.flatten.drop (k * size) = (rs.drop k).flatten
  | [], _, _ => by simp
  | x :: rs, 0, _ => by simp
  | x :: rs, k + 1, he => by
    have hx := he x (by simp)
    rw [List.flatten_cons, List.drop_succ_cons, ← Even.drop (rs := rs) k (fun y hy => he y (by simp [hy])), List.drop_append, List.drop_eq_nil_of_le (by rw [hx, Nat.succ_mul]; omega), List.nil_append]
    congr 1
    rw [hx, Nat.succ_mul]
    omega
end
section
variable {w w' : World} {base n c size : Nat} {e : TypeId} {A : Option Addr} {xs : List Value}
/-- The beginning of a row of the call's own. -/
theorem Own.cutTo (h : Own w base e size A n c xs) {k : Nat} (hk : k ≤ n) (hA : A ≠ none ∨ n = k) : Own w base e size A k c (xs.take (k * size)) := by
  have hl : k * size ≤ n * size := Nat.mul_le_mul_right _ hk
  refine ⟨by rw [List.length_take, h.1, Nat.min_eq_left hl], ?_⟩
  rcases h.2 with ⟨hn, h0⟩ | ⟨g, cap, cur, h1, hb, hgg, hnc, hm, hs, ht⟩
  · injection hn with hn1 hn2 hn3
    left
    exact ⟨by rw [hn1, hn3, show k = 0 by omega], by omega⟩
  · injection h1 with h1 h2 h3
    refine .inr ⟨g, cap, cur, by rw [h1, h3], hb, hgg, by omega, hm, hs, ?_⟩
    rw [← ht, List.take_take, Nat.min_eq_left hl]
/-- What stands in a cell of a row of the call's own. -/
theorem Own.rowAt {g : Nat} {rs : List (List Value)} (h : Own w base e size (some ⟨g, 0, none⟩) n c rs.flatten) (he : Even size rs) {k i i0 : Nat} {r : List Value} {u : Value} (hk : rs[k]? = some r) (hi0 : k * size = i0) (hu : r[i]? = some u) : w.cell? ⟨g, i0 + i, none⟩ = some u := by
  have hr := he r (List.mem_of_getElem? hk)
  have hi : i < size := by have := (List.getElem?_eq_some_iff.1 hu).1; omega
  have h1 := he.at_ hk hi
  rw [hu, hi0] at h1
  have c1 := World.ownsRow.cells h (g := g) rfl (i0 + i) u h1
  rwa [show (⟨g, 0, none⟩ : Addr).add (i0 + i) = ⟨g, i0 + i, none⟩ by unfold Addr.add; split <;> simp_all] at c1
theorem Rd.rowAt {ad : Addr} {rs : List (List Value)} (h : Rd w size (some ad) n rs.flatten) (he : Even size rs) {k i i0 : Nat} {r : List Value} {u : Value} (hk : rs[k]? = some r) (hi0 : k * size = i0) (hu : r[i]? = some u) : w.cell? (ad.add (i0 + i)) = some u := by
  have hr := he r (List.mem_of_getElem? hk)
  have hi : i < size := by have := (List.getElem?_eq_some_iff.1 hu).1; omega
  have h1 := he.at_ hk hi
  rw [hu, hi0] at h1
  have hl := h.1
  have hkl : k < rs.length := (List.getElem?_eq_some_iff.1 hk).1
  rw [he.len] at hl
  have hn : 0 < n := by
    rcases Nat.eq_zero_or_pos n with h0 | h0
    · subst h0
      have : 0 < rs.length * size := Nat.mul_pos (by omega) (by omega)
      omega
    · exact h0
  obtain ⟨ad', e1, _, hc⟩ := h.2 hn
  injection e1 with e1
  subst e1
  exact hc _ u h1
theorem Own.capd {g : Nat} (h : Own w base e size (some ⟨g, 0, none⟩) n c xs) : ∃ cur, w.heap[g]? = some (.cells cur e (0, 0)) ∧ n ≤ c ∧ cur.size = c * size := by
  rcases h.2 with ⟨hn, h0⟩ | ⟨g', cap, cur, h1, hb, hgg, hnc, hm, hs, ht⟩
  · cases hn
  · injection h1 with h1 h2 h3
    injection h1 with h1
    injection h1 with h1
    subst h1 h3
    exact ⟨cur, hgg, hnc, hs⟩
theorem Own.roomCell {g : Nat} (h : Own w base e size (some ⟨g, 0, none⟩) n c xs) {j : Nat} (hj : j < c * size) : (w.cell? ⟨g, j, none⟩).isSome = true := by
  obtain ⟨cur, hgg, _, hs⟩ := h.capd
  rw [cell_of_row _ _ _ _ _ _ hgg, Array.getElem?_eq_getElem (by omega)]
  rfl
/-- Cells behind a row's end are written. -/
theorem Own.behind {g : Nat} : ∀ (vs : List Value) (o : Nat) {w : World}, Own w base e size (some ⟨g, 0, none⟩) n c xs → n * size ≤ o → Own (w.setCells g o vs) base e size (some ⟨g, 0, none⟩) n c xs
  | [], _, _, h, _ => h
  | v :: vs, o, w, h, ho => by
    have h1 := h.stored o v
    rw [List.set_eq_of_length_le (by rw [h.1]; exact ho)] at h1
    exact Own.behind vs (o + 1) h1 (by omega)
theorem Fr.setCells {g : Nat} : ∀ (vs : List Value) (o : Nat) (w : World), Fr w (w.setCells g o vs) (· = g)
  | [], _, w => Fr.refl w _
  | v :: vs, o, w => (Fr.store w ⟨g, o, none⟩ v).trans (Fr.setCells vs (o + 1) _) (fun i _ h => h)
end
/-- clear(s), s a slice of n > 0 elements. -/
theorem run_clear_rows {P : Program} {w : World} {t e ty : TypeId} {size bytes b o n c : Nat} {z : Value} (E : Elt P t e size bytes z) (hv : ∀ w, (zeroValue e).run P w = .ok z w) (h1 : ∀ u ∈ (Builtin.zeroCells z.cells n).toList, u.oneCell' = true) (hn : 0 < n)
    (hc : ∀ j, j < n * size → (w.cell? ⟨b, o + j, none⟩).isSome = true) (hf : ∀ j, j < n * size → w.frozen? ⟨b, o + j, none⟩ = false) (hl : (Builtin.zeroCells z.cells n).toList.length = n * size) :
    (Builtin.clear_ #[t] ty #[.slice (some ⟨b, o, none⟩) n c]).run P w = .ok (.tuple #[]) (w.setCells b o (Builtin.zeroCells z.cells n).toList) := by
  have hst := run_storeCells_cells (P := P) b o (Builtin.zeroCells z.cells n).toList 0 w (by rw [hl]; simpa using hc) (by rw [hl]; simpa using hf) h1
  simp only [Nat.add_zero] at hst
  obtain ⟨m, rfl⟩ : ∃ m, n = m + 1 := ⟨n - 1, by omega⟩
  simp [Builtin.clear_, run_underlying E.under, hv, hst]
/-- s[j:], its address under one name. -/
theorem run_slice_from {P : Program} {t e : TypeId} {bytes : Nat} {z : Value} (E : Elt P t e 1 bytes z) (A : Option Addr) (n c : Nat) (k : IntKind) (j : Nat) (h1 : j ≤ n) (h2 : n ≤ c) {X : Option Addr} (hX : (if c = j then A else A.map (·.add j)) = X) (w : World) :
    (Instr.slice t (.slice A n c) (some (.int k (j : Int))) none none).run P w = .ok (.slice X (n - j) (c - j)) w := by
  obtain ⟨i, hi, hz, hs, hby⟩ := info_parts E.info
  subst hX
  simp [Instr.slice, run_underlying E.under, Instr.sliceBounds, run_sliceBound, sizeOf, typeInfo, hi, h1, hs]
end Go.Proofs.YteflnnlihblpgaaDoor
namespace Go.Proofs.YteflnnlihblpgaaDoor
set_option maxRecDepth 100000
open Go.RowKit
set_option linter.unusedVariables false
theorem step_app {P : Program} {w : World} {t e : TypeId} {size bytes : Nat} {z : Value} {ops : Array Oper} {o : Oper} {a : Act} {K : Act → World → Prop} {Q : Exit → Act → World → Prop} {X : Prop} (E : Elt P t e size bytes z) {base : Nat} {A : Option Addr} {n c : Nat} {xs : List Value}
    (hown : Own w base e size A n c xs) {B : Option Addr} {m d : Nat} {news : List Value} (hr : Rd w size B m news) (h1 : ∀ u ∈ news, u.oneCell' = true)
    (hm : n + m ≤ 9223372036854775807) (hfit : n + m ≤ c ∨ (n + m) * bytes ≤ 225000000000000 ∧ bytes ≤ 100000) (hbase : base ≤ w.heap.size)
    (s x : Operand) (hgd : o.guard = none) (ho : o.op = .call { callee := .builtin .append, args := #[s, x], argTypes := #[t, t] })
    (hs : a.eval s = .slice A n c) (hx : a.eval x = .slice B m d)
    (hk : ∀ A' c' w', Own w' base e size A' (n + m) c' (xs ++ news) → Grows w w' A → (A' = A ∨ A' = some ⟨w.heap.size, 0, none⟩) → (n + m ≤ c → A' = A ∧ c' = c) → K (a.put o.dst (.slice A' (n + m) c')) w') :
    if Region.wanted o (yielded ops a.tmps) = true then Oper.wp P o a w K Q else X := by
  have hw : Region.wanted o (yielded ops a.tmps) = true := by simp [Region.wanted, hgd]
  rw [if_pos hw]
  obtain ⟨A', c', w', hrun, h2, h3, h4, h5⟩ := run_app E o.type hown d hr h1 hm hfit hbase
  unfold Oper.wp execOp
  simp only [ho, resolve, invoke, builtin, Sem.run_bind, Sem.run_pure, Result.andThen_ok, List.map_toArray, List.map_cons, List.map_nil, hs, hx, hrun]
  exact hk A' c' w' h2 h3 h4 h5
end Go.Proofs.YteflnnlihblpgaaDoor
namespace Go.Proofs.YteflnnlihblpgaaDoor
set_option maxRecDepth 100000
open Go.RowKit
set_option linter.unusedVariables false
section
variable {P : Program} {ops : Array Oper} {Q : Exit → Act → World → Prop} {md : Region.Mode} {S : World → Prop} {T : List Nat}
/-- Whatever comes up; S holds behind each operation that is not among T. -/
def AnyD (P : Program) (md : Region.Mode) (ops : Array Oper) (Q : Exit → Act → World → Prop) (S : World → Prop) (T : List Nat) : Nat → Array Bool → Act → World → Prop
  | 0, listed, a, w => Region.ready md ops listed = [] ∧ Q .normal a w
  | fuel + 1, listed, a, w => (Region.ready md ops listed = [] → Q .normal a w) ∧ ∀ j ∈ Region.ready md ops listed, wpOp P ops Q j (fun a' w' => (T.contains j = false → S w') ∧ AnyD P md ops Q S T fuel (listed.setIfInBounds j true) a' w') a w
theorem any_of_d : ∀ (fuel : Nat) (listed : Array Bool) (a : Act) (w : World), AnyD P md ops Q S T fuel listed a w → wpAny P md ops Q fuel listed a w
  | 0, _, _, _, h => h
  | _ + 1, _, _, _, h => ⟨h.1, fun j hj => wpOp_mono (fun a' w' q => any_of_d _ _ a' w' q.2) (h.2 j hj)⟩
/-- An operation that yields its value in each world that meets G is taken first: G must be kept by all that may come up ahead of it. -/
theorem d_first {i : Nat} {oi : Oper} {v : Value} {G : World → Prop} {Inv : Array Bool → Prop} (hi : ops[i]? = some oi) (hns : Region.noSelect ops = true) (hQ : ∀ c a w, Q (.panic c) (a.put oi.dst v) w → Q (.panic c) a w)
    (hstep : ∀ listed j, Inv listed → i ∈ Region.ready md ops listed → j ∈ Region.ready md ops listed → j ≠ i → Inv (listed.setIfInBounds j true))
    (hGS : ∀ w, G w → T.contains i = false → S w)
    (hkeep : ∀ listed j w', Inv listed → i ∈ Region.ready md ops listed → j ∈ Region.ready md ops listed → j ≠ i → (T.contains j = false → S w') → G w') :
    ∀ (fuel : Nat) (listed : Array Bool) (a : Act) (w : World),
      (∀ j oj, ops[j]? = some oj → j ≠ i → listed.getD j true = false → (∀ e ∈ oj.after, Region.binds md e = true → e.on ≠ i) → oi.apart ops oj = true) →
      i ∈ Region.ready md ops listed → YieldsIf P ops G oi v a → G w → Inv listed →
      AnyD P md ops Q S T fuel (listed.setIfInBounds i true) (a.put oi.dst v) w → AnyD P md ops Q S T (fuel + 1) listed a w := by
  have hsel := fun j o cs b => Region.noSelect_spec hns j o cs b
  intro fuel
  induction fuel with
  | zero =>
    intro listed a w _ hr hy hG hI H
    refine ⟨fun h => absurd hr (by rw [h]; simp), fun j hj => ?_⟩
    rcases Decidable.em (j = i) with e | e
    · subst e
      exact hy.wpOp hi hG ⟨hGS w hG, H⟩
    · have h0 := ready_mono hj e
      rw [H.1] at h0
      simp at h0
  | succ fuel ih =>
    intro listed a w hfree hr hy hG hI H
    refine ⟨fun h => absurd hr (by rw [h]; simp), fun j hj => ?_⟩
    rcases Decidable.em (j = i) with e | e
    · subst e
      exact hy.wpOp hi hG ⟨hGS w hG, H⟩
    obtain ⟨hjun, oj, hoj, hall⟩ := mem_ready.1 hj
    have hno : ∀ q ∈ oj.after, Region.binds md q = true → q.on ≠ i := fun q hq hb heq => by
      have h1 := hall q hq hb
      have h2 := (mem_ready.1 hr).1
      rw [heq] at h1
      rcases Nat.lt_or_ge i listed.size with hlt | hge
      · simp [hlt] at h1 h2
        rw [h2] at h1
        cases h1
      · simp [Array.getElem?_eq_none hge] at h1
    have step := wpOp_putIf hoj (hfree j oj hoj e hjun hno) (fun cs b => hsel i oi cs b hi) (fun cs b => hsel j oj cs b hoj) hQ hy (H.2 j (ready_mono hj e))
    refine wpOp_mono (fun a' w' q => ⟨q.2.1, ih (listed.setIfInBounds j true) a' w' (fun k ok hk hki hun hnk => ?_) (ready_mono hr (Ne.symm e)) q.1 (hkeep listed j w' hI hr hj e q.2.1) (hstep listed j hI hr hj e) ?_⟩) step
    · refine hfree k ok hk hki ?_ hnk
      rcases Decidable.em (j = k) with e2 | e2
      · subst e2; exact hjun
      · rwa [getD_set_ne true e2] at hun
    · rw [Array.setIfInBounds_comm _ _ e]
      exact q.2.2
/-- All of D wait, one behind the other, for number i. -/
def waits_ (md : Region.Mode) (ops : Array Oper) (i : Nat) (D : List Nat) : Bool := D.all fun t => match ops[t]? with
  | some ot => ot.after.toList.any fun q => Region.binds md q && (q.on == i || D.contains q.on)
  | none => false
def unlisted_ (listed : Array Bool) (D : List Nat) : Bool := D.all fun t => listed.getD t true == false
theorem unlisted_at {listed : Array Bool} {D : List Nat} (h : unlisted_ listed D = true) {t : Nat} (ht : D.contains t = true) : listed.getD t true = false := by
  have := List.all_eq_true.1 h t (by simpa using ht)
  simpa using this
/-- Who waits for i cannot come up while i and all of them are open. -/
theorem not_waiting {i : Nat} {D : List Nat} {listed : Array Bool} (hw : waits_ md ops i D = true) (hu : unlisted_ listed D = true) (hr : i ∈ Region.ready md ops listed) {j : Nat} (hj : j ∈ Region.ready md ops listed) : D.contains j = false := by
  cases hc : D.contains j with
  | false => rfl
  | true =>
    exfalso
    obtain ⟨_, oj, hoj, hall⟩ := mem_ready.1 hj
    have h1 := List.all_eq_true.1 hw j (by simpa using hc)
    simp only [hoj, List.any_eq_true, Bool.and_eq_true, Bool.or_eq_true, beq_iff_eq] at h1
    obtain ⟨q, hq, hb, hon⟩ := h1
    have hl := hall q (by simpa using hq) hb
    have open_ : ∀ t, listed.getD t true = false → listed.getD t false = true → False := fun t a b => by
      rcases Nat.lt_or_ge t listed.size with hlt | hge
      · simp [hlt] at a b
        rw [a] at b
        cases b
      · simp [Array.getElem?_eq_none hge] at b
    rcases hon with e | e
    · rw [e] at hl
      exact open_ i (mem_ready.1 hr).1 hl
    · exact open_ q.on (unlisted_at hu e) hl
/-- A load, or whatever yields its value where S holds, is taken first: T are among those that wait for it. -/
theorem d_take {i : Nat} (D : List Nat) (dst : Option Nat) {oi : Oper} {v : Value} {fuel : Nat} {listed : Array Bool} {a : Act} {w : World} (hi : ops[i]? = some oi) (hdst : oi.dst = dst) (hns : Region.noSelect ops = true) (hf : Region.free md ops listed i = true) (hr : (Region.ready md ops listed).contains i = true)
    (hw : waits_ md ops i D = true) (hu : unlisted_ listed D = true) (hTD : (T.all fun t => D.contains t) = true)
    (hQ : ∀ c a w, Q (.panic c) (a.put oi.dst v) w → Q (.panic c) a w) (hy : YieldsIf P ops S oi v a) (hS : S w)
    (h : AnyD P md ops Q S T fuel (listed.setIfInBounds i true) (a.put dst v) w) : AnyD P md ops Q S T (fuel + 1) listed a w := by
  subst hdst
  exact d_first (Inv := fun l => unlisted_ l D = true) hi hns hQ
    (fun l j hl hr' hj hne => by
      have hd := not_waiting hw hl hr' hj
      refine List.all_eq_true.2 fun t ht => ?_
      have ht' : D.contains t = true := by simpa using ht
      have hne2 : j ≠ t := fun e => by rw [e, ht'] at hd; cases hd
      rw [getD_set_ne true hne2]
      simpa using unlisted_at hl ht')
    (fun w hG _ => hG)
    (fun l j w' hl hr' hj hne hq => hq (by
      have hd := not_waiting hw hl hr' hj
      cases hc : T.contains j with
      | false => rfl
      | true =>
        have := List.all_eq_true.1 hTD j (by simpa using hc)
        rw [hd] at this
        cases this))
    fuel listed a w (Region.free_spec hi hf) (by simpa using hr) hy hS hu h
/-- What yields its value in whatever world, among T, is taken first. -/
theorem d_pure {i : Nat} (dst : Option Nat) {oi : Oper} {v : Value} {fuel : Nat} {listed : Array Bool} {a : Act} {w : World} (hi : ops[i]? = some oi) (hdst : oi.dst = dst) (hns : Region.noSelect ops = true) (hf : Region.free md ops listed i = true) (hr : (Region.ready md ops listed).contains i = true) (hT : T.contains i = true)
    (hQ : ∀ c a w, Q (.panic c) (a.put oi.dst v) w → Q (.panic c) a w) (hy : YieldsIf P ops (fun _ => True) oi v a)
    (h : AnyD P md ops Q S T fuel (listed.setIfInBounds i true) (a.put dst v) w) : AnyD P md ops Q S T (fuel + 1) listed a w := by
  subst hdst
  exact d_first (Inv := fun _ => True) hi hns hQ (fun _ _ _ _ _ _ => trivial) (fun w _ hc => by rw [hT] at hc; cases hc) (fun _ _ _ _ _ _ _ _ => trivial) fuel listed a w (Region.free_spec hi hf) (by simpa using hr) hy trivial trivial h
/-- One alone may come up: it comes up. -/
theorem d_one {i : Nat} {oi : Oper} {fuel : Nat} {listed : Array Bool} {a : Act} {w : World} (hr : Region.ready md ops listed = [i]) (hi : ops[i]? = some oi) (hg : oi.guard = none)
    (h : ∀ K : Act → World → Prop, Hid (∀ a w, (T.contains i = false → S w) → AnyD P md ops Q S T fuel (listed.setIfInBounds i true) a w → K a w) → Oper.wp P oi a w K Q) : AnyD P md ops Q S T (fuel + 1) listed a w :=
  ⟨fun e => by rw [hr] at e; simp at e, fun j hj => by
    rw [hr] at hj
    obtain rfl := List.mem_singleton.1 hj
    exact wpOp_step hi (fun K hK => by
      rw [if_pos (by simp [Region.wanted, hg])]
      exact h K (Lib.hid fun a w h1 h2 => hK a w ⟨h1, h2⟩))⟩
theorem d_call {i : Nat} {oi : Oper} {fuel : Nat} {listed : Array Bool} {a : Act} {w : World} (hr : Region.ready md ops listed = [i]) (hi : ops[i]? = some oi) (hw : Region.wanted oi (yielded ops a.tmps) = true)
    (h : ∀ K : Act → World → Prop, Hid (∀ a w, (T.contains i = false → S w) → AnyD P md ops Q S T fuel (listed.setIfInBounds i true) a w → K a w) → Oper.wp P oi a w K Q) : AnyD P md ops Q S T (fuel + 1) listed a w :=
  ⟨fun e => by rw [hr] at e; simp at e, fun j hj => by
    rw [hr] at hj
    obtain rfl := List.mem_singleton.1 hj
    exact wpOp_step hi (fun K hK => by
      rw [if_pos hw]
      exact h K (Lib.hid fun a w h1 h2 => hK a w ⟨h1, h2⟩))⟩
theorem d_done {listed : Array Bool} {a : Act} {w : World} (hr : Region.ready md ops listed = []) (h : Q .normal a w) : ∀ fuel, AnyD P md ops Q S T fuel listed a w
  | 0 => ⟨hr, h⟩
  | _ + 1 => ⟨fun _ => h, by rw [hr]; simp⟩
/-- The beginning. -/
theorem d_region (S : World → Prop) (T : List Nat) {id : Nat} {a : Act} {w : World} (hm : P.follows .mixedOrders = true) (h : AnyD P .any ops Q S T ops.size (Array.replicate ops.size false) a w.drew) : (Code.region id ops true).wp P Q a w :=
  wp_region_any hm (any_of_d _ _ _ _ h)
/-- append, as it comes up. -/
theorem oper_app {w : World} {t e : TypeId} {size bytes : Nat} {z : Value} {o : Oper} {a : Act} {K : Act → World → Prop} (E : Elt P t e size bytes z) {base : Nat} {A : Option Addr} {n c : Nat} {xs : List Value}
    (hown : Own w base e size A n c xs) {B : Option Addr} {m d : Nat} {news : List Value} (hr : Rd w size B m news) (h1 : ∀ u ∈ news, u.oneCell' = true)
    (hm : n + m ≤ 9223372036854775807) (hfit : n + m ≤ c ∨ (n + m) * bytes ≤ 225000000000000 ∧ bytes ≤ 100000) (hbase : base ≤ w.heap.size)
    (s x : Operand) (ho : o.op = .call { callee := .builtin .append, args := #[s, x], argTypes := #[t, t] })
    (hs : a.eval s = .slice A n c) (hx : a.eval x = .slice B m d)
    (hk : ∀ A' c' w', Own w' base e size A' (n + m) c' (xs ++ news) → Grows w w' A → (A' = A ∨ A' = some ⟨w.heap.size, 0, none⟩) → (n + m ≤ c → A' = A ∧ c' = c) → K (a.put o.dst (.slice A' (n + m) c')) w') :
    Oper.wp P o a w K Q := by
  obtain ⟨A', c', w', hrun, h2, h3, h4, h5⟩ := run_app E o.type hown d hr h1 hm hfit hbase
  unfold Oper.wp execOp
  simp only [ho, resolve, invoke, builtin, Sem.run_bind, Sem.run_pure, Result.andThen_ok, List.map_toArray, List.map_cons, List.map_nil, hs, hx, hrun]
  exact hk A' c' w' h2 h3 h4 h5
end
end Go.Proofs.YteflnnlihblpgaaDoor
