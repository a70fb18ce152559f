/-
  Package almonerlaw05: a script of calls opened.
-/
import Derived.Test.YtchkeclhnbekkaaDoorOpenS
namespace Go.Proofs.YtchkeclhnbekkaaDoor
set_option maxRecDepth 100000
open Go.ChangeShapes Go.WideShapes Go.Deep Go.RowKit Go.ChangeAt
set_option linter.unusedVariables false
/-- A call: kind, sector, torn, what is kept, bytes. -/
structure O5 where
  K : Int
  I : Int
  T : Int
  kp : Nat
  A : Option Addr
  n : Nat
  c : Nat
  l : List Nat
def O5.cells (o : O5) : List Value := [.int .i64 o.K, .int .i64 o.I, .int .i64 o.T, .int .u64 (o.kp : Int), .slice o.A o.n o.c]
structure O5.ok (w : World) (o : O5) : Prop where
  iK : -9223372036854775808 ≤ o.K ∧ o.K ≤ 9223372036854775807
  iN : -9223372036854775808 ≤ o.I ∧ o.I ≤ 9223372036854775807
  ik : o.kp < 18446744073709551616
  le : o.n ≤ o.c
  small : o.c ≤ 140737488351232
  rd : Rd w 1 o.A o.n (u8s o.l)
  byte : ∀ x ∈ o.l, x < 256
theorem O5.ok.ext {w w' : World} {o : O5} (h : o.ok w) (hx : Ext w w') : o.ok w' := ⟨h.iK, h.iN, h.ik, h.le, h.small, h.rd.ext hx, h.byte⟩
theorem O5.ok.len {w : World} {o : O5} (h : o.ok w) : o.l.length = o.n := by have := h.rd.len; rwa [u8s_len] at this
def o5rows (os : List O5) : List (List Value) := os.map O5.cells
theorem o5_even (os : List O5) : Even 5 (o5rows os) := by
  intro r hr
  obtain ⟨x, _, rfl⟩ := List.mem_map.1 hr
  rfl
theorem o5_at {os : List O5} {k : Nat} {x : O5} (h : os[k]? = some x) : (o5rows os)[k]? = some x.cells := by simp [o5rows, h]
theorem o5_len (os : List O5) : (o5rows os).length = os.length := by simp [o5rows]
theorem oneO5 : Tryd.prog.cellsOf 42 = 5 := by kernel_rfl
theorem bytesO5 : Tryd.prog.bytesOf 42 = 56 := by kernel_rfl
theorem oneU8b : Tryd.prog.cellsOf 5 = 1 := by kernel_rfl
theorem bytesU8b : Tryd.prog.bytesOf 5 = 1 := by kernel_rfl
section
variable {H : Type} {enc : TypeId × Value → H} {W : World} {base : Nat} {v : Value} {d : DataW H} {p : List MemPlace}
theorem open_scriptD (hv : Value.okWide Tryd.prog W .any base 40 v) (h : DataW.Trod enc Tryd.prog W 0 (fun _ => true) true 40 v d p) (hs : ∀ n ∈ d.weights Tryd.prog 40, n ≤ reachBytes) :
    ∃ (a : Option Addr) (n c : Nat) (os : List O5), v = .slice a n c ∧ n ≤ c ∧ n * 56 ≤ 140737488351232 ∧ os.length = n ∧ Rd W 5 a n (o5rows os).flatten ∧ ∀ o ∈ os, o.ok W := by
  obtain ⟨a, n, c, rfl⟩ := okWide_slice Tryd.underlying40 hv
  obtain ⟨fuel, hf⟩ := h
  rcases open_slice_fields Tryd.underlying40 Tryd.underlying42 (by kernel_rfl) oneO5 hf with ⟨hcs, hx⟩ | ⟨x, len, cap, m, D, Pl, hcs, _, hl, _, hm, hx, hi⟩
  · simp [Value.cells] at hcs
    obtain ⟨rfl, rfl, rfl⟩ := hcs
    exact ⟨none, 0, 0, [], rfl, Nat.le_refl _, by omega, rfl, Rd.nil_, by simp⟩
  · simp [Value.cells] at hcs
    obtain ⟨rfl, rfl, rfl⟩ := hcs
    simp only [if_true] at hm
    subst hm
    injection hx with hx _
    have hsz := weight_slice hx Tryd.underlying40 bytesO5 hs
    simp only [List.length_map, List.length_range] at hsz
    obtain ⟨os, hol, hq⟩ := all_at (Q := fun i o => W.cell? (x.add (i * 5 + 0)) = some (.int .i64 o.K) ∧ W.cell? (x.add (i * 5 + 1)) = some (.int .i64 o.I) ∧ W.cell? (x.add (i * 5 + 2)) = some (.int .i64 o.T) ∧ W.cell? (x.add (i * 5 + 3)) = some (.int .u64 (o.kp : Int)) ∧
        W.cell? (x.add (i * 5 + 4)) = some (.slice o.A o.n o.c) ∧ O5.ok W o) n (fun i hil => by
      obtain ⟨ys, k, hDi, _, hyl, hf⟩ := hi i (by omega)
      have hwt := weight_elem hx Tryd.underlying40 hs (List.mem_map.2 ⟨i, List.mem_range.2 hil, rfl⟩)
      rw [hDi] at hwt
      obtain ⟨v0, y0, g0, e0, t0⟩ := hf 0 _ rfl
      obtain ⟨v1, y1, g1, e1, t1⟩ := hf 1 _ rfl
      obtain ⟨v2, y2, g2, e2, t2⟩ := hf 2 _ rfl
      obtain ⟨v3, y3, g3, e3, t3⟩ := hf 3 _ rfl
      obtain ⟨v4, y4, g4, e4, t4⟩ := hf 4 _ rfl
      have hw4 := weight_field (x := y4.1) Tryd.underlying42 hwt (j := 4) rfl (by rw [List.getElem?_map, e4]; rfl)
      obtain ⟨K, c0, _, w0⟩ := DataW.trod_int Tryd.underlying3 t0
      obtain ⟨I, c1, _, w1⟩ := DataW.trod_int Tryd.underlying3 t1
      obtain ⟨T, c2, _, w2⟩ := DataW.trod_int Tryd.underlying3 t2
      obtain ⟨Kp, c3, _, w3⟩ := DataW.trod_int Tryd.underlying23 t3
      simp only [List.cons.injEq, and_true] at c0 c1 c2 c3
      subst c0 c1 c2 c3
      have hkp := wf_u64b w3
      obtain ⟨kp, rfl⟩ : ∃ kp : Nat, Kp = (kp : Int) := ⟨Kp.toNat, by omega⟩
      obtain ⟨B, nb, cb, l, rfl, h1, h2, h3, h4⟩ := cell_row8 Tryd.underlying32 Tryd.underlying5 oneU8b bytesU8b t4 hw4
      exact ⟨⟨K, I, T, kp, B, nb, cb, l⟩, g0, g1, g2, g3, g4, wf_i64b w0, wf_i64b w1, (show kp < 18446744073709551616 from by omega), h1, h2, h3, h4⟩)
    refine ⟨some x, n, _, os, rfl, hl, by omega, hol, rd_rows (o5_even os) (by rw [o5_len, hol]) (by omega) (fun k i r u hk hu => ?_), fun o ho => ?_⟩
    · simp only [o5rows, List.getElem?_map, Option.map_eq_some_iff] at hk
      obtain ⟨o, ho, rfl⟩ := hk
      obtain ⟨q0, q1, q2, q3, q4, _⟩ := hq k o ho
      have hi6 : i < 5 := by have := (List.getElem?_eq_some_iff.1 hu).1; exact this
      obtain rfl | rfl | rfl | rfl | rfl : i = 0 ∨ i = 1 ∨ i = 2 ∨ i = 3 ∨ i = 4 := by omega
      · injection hu with hu; rw [← hu]; exact q0
      · injection hu with hu; rw [← hu]; exact q1
      · injection hu with hu; rw [← hu]; exact q2
      · injection hu with hu; rw [← hu]; exact q3
      · injection hu with hu; rw [← hu]; exact q4
    · obtain ⟨k, hk⟩ := List.getElem?_of_mem ho
      exact (hq k o hk).2.2.2.2.2
end
end Go.Proofs.YtchkeclhnbekkaaDoor
