/-
  Package almonerlaw17: a script of calls opened.
-/
import Derived.Test.YteaainepnelehaaDoorOpenS
namespace Go.Proofs.YteaainepnelehaaDoor
set_option maxRecDepth 100000
open Go.ChangeShapes Go.WideShapes Go.Deep Go.RowKit Go.ChangeAt
set_option linter.unusedVariables false
/-- A call: kind, which, from, to, number, bytes. -/
structure O6 where
  K : Int
  Q : Int
  F : Int
  T : Int
  N : Int
  A : Option Addr
  n : Nat
  c : Nat
  l : List Nat
def O6.cells (o : O6) : List Value := [.int .i64 o.K, .int .i64 o.Q, .int .i64 o.F, .int .i64 o.T, .int .i64 o.N, .slice o.A o.n o.c]
structure O6.ok (w : World) (o : O6) : Prop where
  iK : -9223372036854775808 ≤ o.K ∧ o.K ≤ 9223372036854775807
  iN : -9223372036854775808 ≤ o.N ∧ o.N ≤ 9223372036854775807
  le : o.n ≤ o.c
  small : o.c ≤ 140737488351232
  rd : Rd w 1 o.A o.n (u8s o.l)
  byte : ∀ x ∈ o.l, x < 256
theorem O6.ok.ext {w w' : World} {o : O6} (h : o.ok w) (hx : Ext w w') : o.ok w' := ⟨h.iK, h.iN, h.le, h.small, h.rd.ext hx, h.byte⟩
theorem O6.ok.len {w : World} {o : O6} (h : o.ok w) : o.l.length = o.n := by have := h.rd.len; rwa [u8s_len] at this
def o6rows (os : List O6) : List (List Value) := os.map O6.cells
theorem o6_even (os : List O6) : Even 6 (o6rows os) := by
  intro r hr
  obtain ⟨x, _, rfl⟩ := List.mem_map.1 hr
  rfl
theorem o6_at {os : List O6} {k : Nat} {x : O6} (h : os[k]? = some x) : (o6rows os)[k]? = some x.cells := by simp [o6rows, h]
theorem o6_len (os : List O6) : (o6rows os).length = os.length := by simp [o6rows]
theorem oneO6 : Tryd.prog.cellsOf 34 = 6 := by kernel_rfl
theorem bytesO6 : Tryd.prog.bytesOf 34 = 64 := by kernel_rfl
theorem oneU8b : Tryd.prog.cellsOf 5 = 1 := by kernel_rfl
theorem bytesU8b : Tryd.prog.bytesOf 5 = 1 := by kernel_rfl
section
variable {H : Type} {enc : TypeId × Value → H} {W : World} {base : Nat} {v : Value} {d : DataW H} {p : List MemPlace}
theorem open_script6 (hv : Value.okWide Tryd.prog W .any base 22 v) (h : DataW.Trod enc Tryd.prog W 0 (fun _ => true) true 22 v d p) (hs : ∀ n ∈ d.weights Tryd.prog 22, n ≤ reachBytes) :
    ∃ (a : Option Addr) (n c : Nat) (os : List O6), v = .slice a n c ∧ n ≤ c ∧ n * 64 ≤ 140737488351232 ∧ os.length = n ∧ Rd W 6 a n (o6rows os).flatten ∧ ∀ o ∈ os, o.ok W := by
  obtain ⟨a, n, c, rfl⟩ := okWide_slice Tryd.underlying22 hv
  obtain ⟨fuel, hf⟩ := h
  rcases open_slice_fields Tryd.underlying22 Tryd.underlying34 (by kernel_rfl) oneO6 hf with ⟨hcs, hx⟩ | ⟨x, len, cap, m, D, Pl, hcs, _, hl, _, hm, hx, hi⟩
  · simp [Value.cells] at hcs
    obtain ⟨rfl, rfl, rfl⟩ := hcs
    exact ⟨none, 0, 0, [], rfl, Nat.le_refl _, by omega, rfl, Rd.nil_, by simp⟩
  · simp [Value.cells] at hcs
    obtain ⟨rfl, rfl, rfl⟩ := hcs
    simp only [if_true] at hm
    subst hm
    injection hx with hx _
    have hsz := weight_slice hx Tryd.underlying22 bytesO6 hs
    simp only [List.length_map, List.length_range] at hsz
    obtain ⟨os, hol, hq⟩ := all_at (Q := fun i o => W.cell? (x.add (i * 6 + 0)) = some (.int .i64 o.K) ∧ W.cell? (x.add (i * 6 + 1)) = some (.int .i64 o.Q) ∧ W.cell? (x.add (i * 6 + 2)) = some (.int .i64 o.F) ∧ W.cell? (x.add (i * 6 + 3)) = some (.int .i64 o.T) ∧
        W.cell? (x.add (i * 6 + 4)) = some (.int .i64 o.N) ∧ W.cell? (x.add (i * 6 + 5)) = some (.slice o.A o.n o.c) ∧ O6.ok W o) n (fun i hil => by
      obtain ⟨ys, k, hDi, _, hyl, hf⟩ := hi i (by omega)
      have hwt := weight_elem hx Tryd.underlying22 hs (List.mem_map.2 ⟨i, List.mem_range.2 hil, rfl⟩)
      rw [hDi] at hwt
      obtain ⟨v0, y0, g0, e0, t0⟩ := hf 0 _ rfl
      obtain ⟨v1, y1, g1, e1, t1⟩ := hf 1 _ rfl
      obtain ⟨v2, y2, g2, e2, t2⟩ := hf 2 _ rfl
      obtain ⟨v3, y3, g3, e3, t3⟩ := hf 3 _ rfl
      obtain ⟨v4, y4, g4, e4, t4⟩ := hf 4 _ rfl
      obtain ⟨v5, y5, g5, e5, t5⟩ := hf 5 _ rfl
      have hw5 := weight_field (x := y5.1) Tryd.underlying34 hwt (j := 5) rfl (by rw [List.getElem?_map, e5]; rfl)
      obtain ⟨K, c0, _, w0⟩ := DataW.trod_int Tryd.underlying3 t0
      obtain ⟨Q, c1, _, w1⟩ := DataW.trod_int Tryd.underlying3 t1
      obtain ⟨F, c2, _, w2⟩ := DataW.trod_int Tryd.underlying3 t2
      obtain ⟨T, c3, _, w3⟩ := DataW.trod_int Tryd.underlying3 t3
      obtain ⟨N, c4, _, w4⟩ := DataW.trod_int Tryd.underlying3 t4
      simp only [List.cons.injEq, and_true] at c0 c1 c2 c3 c4
      subst c0 c1 c2 c3 c4
      obtain ⟨B, nb, cb, l, rfl, h1, h2, h3, h4⟩ := cell_row8 Tryd.underlying32 Tryd.underlying5 oneU8b bytesU8b t5 hw5
      exact ⟨⟨K, Q, F, T, N, B, nb, cb, l⟩, g0, g1, g2, g3, g4, g5, wf_i64b w0, wf_i64b w4, h1, h2, h3, h4⟩)
    refine ⟨some x, n, _, os, rfl, hl, by omega, hol, rd_rows (o6_even os) (by rw [o6_len, hol]) (by omega) (fun k i r u hk hu => ?_), fun o ho => ?_⟩
    · simp only [o6rows, List.getElem?_map, Option.map_eq_some_iff] at hk
      obtain ⟨o, ho, rfl⟩ := hk
      obtain ⟨q0, q1, q2, q3, q4, q5, _⟩ := hq k o ho
      have hi6 : i < 6 := by have := (List.getElem?_eq_some_iff.1 hu).1; exact this
      obtain rfl | rfl | rfl | rfl | rfl | rfl : i = 0 ∨ i = 1 ∨ i = 2 ∨ i = 3 ∨ i = 4 ∨ i = 5 := by omega
      · injection hu with hu; rw [← hu]; exact q0
      · injection hu with hu; rw [← hu]; exact q1
      · injection hu with hu; rw [← hu]; exact q2
      · injection hu with hu; rw [← hu]; exact q3
      · injection hu with hu; rw [← hu]; exact q4
      · injection hu with hu; rw [← hu]; exact q5
    · obtain ⟨k, hk⟩ := List.getElem?_of_mem ho
      exact (hq k o hk).2.2.2.2.2.2
end
end Go.Proofs.YteaainepnelehaaDoor
