/-
  Package net: a net in memory; find, put, walked.
-/
import Derived.Test.YteaainepnelehaaDoorNtFind
import Derived.Test.YteaainepnelehaaDoorClone
import Derived.Test.YteaainepnelehaaDoorStep
import Derived.Deep.RegionHeld3
import Derived.Deep.RegionLaw
namespace Go.Proofs.YteaainepnelehaaDoor
set_option maxRecDepth 100000
open Go.RowKit
set_option linter.unusedVariables false
/-- A net at block g: its letters, the number given last. -/
structure NetS (w : World) (g : Nat) (A : Option Addr) (m c : Nat) (ls : List LetV) (last : Nat) : Prop where
  blk : w.heap[g]? = some (.cells #[.slice A m c, .int .i64 (last : Int)] 51 (0, 0))
  own : Own w (g + 1) 46 4 A m c (lrows ls).flatten
  ris : Rising ls
  top : ∀ x ∈ ls, 1 ≤ x.N ∧ x.N ≤ last
  byt : ∀ x ∈ ls, Rd w 1 x.A x.n (u8s x.l) ∧ (∀ y ∈ x.l, y < 256) ∧ x.n ≤ 140737488351232 ∧ (0 < x.n → ∀ a, x.A = some a → a.block ≠ g ∧ A.map (·.block) ≠ some a.block)
  few : m ≤ 4096
  low : last ≤ 4611686018427387904
section
variable {w w' : World} {g m c last : Nat} {A : Option Addr} {ls : List LetV}
theorem NetS.lt (h : NetS w g A m c ls last) : g < w.heap.size := (Array.getElem?_eq_some_iff.1 h.blk).1
theorem NetS.len (h : NetS w g A m c ls last) : ls.length = m := h.own.rd.len_l
theorem NetS.c0 (h : NetS w g A m c ls last) : w.cell? ⟨g, 0, none⟩ = some (.slice A m c) := by rw [cell_of_row w g 0 _ _ _ h.blk]; rfl
theorem NetS.c1 (h : NetS w g A m c ls last) : w.cell? ⟨g, 1, none⟩ = some (.int .i64 (last : Int)) := by rw [cell_of_row w g 1 _ _ _ h.blk]; rfl
theorem NetS.fz (h : NetS w g A m c ls last) (k : Nat) : w.frozen? ⟨g, k, none⟩ = false := by
  have := h.blk
  simp only [World.frozen?, this]
  simp
theorem rd0 {P : Nat → Prop} {A : Option Addr} {n : Nat} {l : List Nat} (hf : Fr w w' P) (h : Rd w 1 A n (u8s l)) (hne : 0 < n → ∀ a, A = some a → ¬ P a.block) : Rd w' 1 A n (u8s l) := by
  rcases Nat.eq_zero_or_pos n with h0 | h0
  · subst h0
    have := h.len
    exact ⟨by rw [this], fun h => absurd h (by omega)⟩
  · exact hf.rd h (hne h0)
/-- What leaves the net's block, its letters and their bytes alone. -/
theorem NetS.fr (h : NetS w g A m c ls last) {P : Nat → Prop} (hf : Fr w w' P) (hg : ¬ P g) (hA : ∀ a, A = some a → ¬ P a.block) (hb : ∀ x ∈ ls, 0 < x.n → ∀ a, x.A = some a → ¬ P a.block) : NetS w' g A m c ls last :=
  ⟨(hf.block g h.lt hg).trans h.blk, hf.own h.own hA, h.ris, h.top, fun x hx => ⟨rd0 hf (h.byt x hx).1 (hb x hx), (h.byt x hx).2⟩, h.few, h.low⟩
theorem NetS.ex (h : NetS w g A m c ls last) (hx : Ext w w') : NetS w' g A m c ls last :=
  h.fr (Fr.of_ext hx (fun _ => False)) (fun h => h) (fun _ _ h => h) (fun _ _ _ _ _ h => h)
theorem NetS.ag (h : NetS w g A m c ls last) : ∀ a, A = some a → a.block ≠ g := fun a ha e => by
  have := h.own.base_le a.block (by rw [ha]; rfl)
  omega
end
/-- The error ErrGone, ErrFull, ErrNumber as a result beside v. -/
abbrev errE (p : Addr) : Value := .iface 79 (.pointer (some p))
set_option maxHeartbeats 1600000 in
theorem find_hit {w : World} {g m c last : Nat} {A : Option Addr} {ls : List LetV} (h : NetS w g A m c ls last) {k : Nat} {y : Int} {x : LetV} (hk : ls[k]? = some x) (hy : (x.N : Int) = y) :
    Calls Tryd.prog 25 #[.pointer (some ⟨g, 0, none⟩), .int .i64 y] w fun e w' => e = .returned (.tuple #[.int .i64 (k : Int), .nilIface]) ∧ Ext w w' := by
  have C := Lib.hid ((bsf_any A m c y ls w h.own h.ris (by have := h.few; omega)).mono fun e w' (q : ∃ i : Nat, i ≤ m ∧ Ext w w' ∧ ((∃ x, ls[i]? = some x ∧ (x.N : Int) = y ∧ e = .returned (.tuple #[.int .i64 (i : Int), .bool true])) ∨ ((∀ x ∈ ls, (x.N : Int) ≠ y) ∧ e = .returned (.tuple #[.int .i64 (i : Int), .bool false])))) =>
    (by
      obtain ⟨i, _, hx, h1 | h1⟩ := q
      · obtain ⟨z, hz, hzy, he⟩ := h1
        obtain rfl := h.ris.inj hz hk (by have := hzy.trans hy.symm; omega)
        exact ⟨he, hx⟩
      · exact absurd hy (h1.1 x (List.mem_of_getElem? hk)) :
      e = .returned (.tuple #[.int .i64 (k : Int), .bool true]) ∧ Ext w w'))
  have c0 := h.c0
  clear h hk hy
  go_enter Tryd.func25, Tryd.ntmps25
  go_wp2_with fail
  refine C.out.mono ?_
  rintro e w1 ⟨rfl, x1⟩
  have X1 := Lib.hid x1
  clear x1
  go_wp2_with fail
  go_returns
  exact ⟨rfl, X1.out⟩
set_option maxHeartbeats 1600000 in
theorem find_miss {w : World} {g m c last : Nat} {A : Option Addr} {ls : List LetV} (h : NetS w g A m c ls last) {y : Int} (hy : ∀ x ∈ ls, (x.N : Int) ≠ y) {p : Addr} (hS : Sen w 0 p) :
    Calls Tryd.prog 25 #[.pointer (some ⟨g, 0, none⟩), .int .i64 y] w fun e w' => e = .returned (.tuple #[.int .i64 0, errE p]) ∧ Ext w w' := by
  have C := Lib.hid ((bsf_any A m c y ls w h.own h.ris (by have := h.few; omega)).mono fun e w' (q : ∃ i : Nat, i ≤ m ∧ Ext w w' ∧ ((∃ x, ls[i]? = some x ∧ (x.N : Int) = y ∧ e = .returned (.tuple #[.int .i64 (i : Int), .bool true])) ∨ ((∀ x ∈ ls, (x.N : Int) ≠ y) ∧ e = .returned (.tuple #[.int .i64 (i : Int), .bool false])))) =>
    (by
      obtain ⟨i, _, hx, h1 | h1⟩ := q
      · obtain ⟨z, hz, hzy, he⟩ := h1
        exact absurd hzy (hy z (List.mem_of_getElem? hz))
      · exact ⟨i, h1.2, hx⟩ :
      ∃ i : Nat, e = .returned (.tuple #[.int .i64 (i : Int), .bool false]) ∧ Ext w w'))
  have c0 := h.c0
  have SE := Lib.hid (fun w' (hx : Ext w w') => (hS.ext hx).2.1)
  clear h hy hS
  go_enter Tryd.func25, Tryd.ntmps25
  go_wp2_with fail
  refine C.out.mono ?_
  rintro e w1 ⟨i, rfl, x1⟩
  have c3 := SE.out w1 x1
  have X1 := Lib.hid x1
  clear x1
  go_wp2_with fail
  go_quiet (fail)
  go_wp2_with fail
  go_returns
  exact ⟨rfl, X1.out.drewN _⟩
end Go.Proofs.YteaainepnelehaaDoor
