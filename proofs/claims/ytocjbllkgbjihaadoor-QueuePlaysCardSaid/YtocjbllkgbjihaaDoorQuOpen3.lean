/-
  Package almonerlaw07: a script opened.
-/
import Derived.Test.YtocjbllkgbjihaaDoorOpenS
import Derived.Test.YtocjbllkgbjihaaDoorQuPlays
namespace Go.Proofs.YtocjbllkgbjihaaDoor
set_option maxRecDepth 100000
open Go.ChangeShapes Go.WideShapes Go.Deep Go.RowKit Go.ChangeAt
set_option linter.unusedVariables false
theorem oneO4 : Tryd.prog.cellsOf 58 = 4 := by kernel_rfl
theorem bytesO4 : Tryd.prog.bytesOf 58 = 32 := by kernel_rfl
section
variable {H : Type} {enc : TypeId × Value → H} {W : World} {base : Nat} {v : Value} {d : DataW H} {p : List MemPlace}
theorem open_scriptQ (hv : Value.okWide Tryd.prog W .any base 51 v) (h : DataW.Trod enc Tryd.prog W 0 (fun _ => true) true 51 v d p) (hs : ∀ n ∈ d.weights Tryd.prog 51, n ≤ reachBytes) :
    ∃ (a : Option Addr) (n c : Nat) (os : List O4), v = .slice a n c ∧ n ≤ c ∧ n * 32 ≤ 140737488355328 ∧ os.length = n ∧ Rd W 4 a n (o4rows os).flatten ∧ ∀ o ∈ os, i64 o.I ∧ i64 o.R := by
  obtain ⟨a, n, c, rfl⟩ := okWide_slice Tryd.underlying51 hv
  obtain ⟨fuel, hf⟩ := h
  rcases open_slice_fields Tryd.underlying51 Tryd.underlying58 (by kernel_rfl) oneO4 hf with ⟨hcs, hx⟩ | ⟨x, len, cap, m, D, Pl, hcs, _, hl, _, hm, hx, hi⟩
  · simp [Value.cells] at hcs
    obtain ⟨rfl, rfl, rfl⟩ := hcs
    exact ⟨none, 0, 0, [], rfl, Nat.le_refl _, by omega, rfl, Rd.nil_, by simp⟩
  · simp [Value.cells] at hcs
    obtain ⟨rfl, rfl, rfl⟩ := hcs
    simp only [if_true] at hm
    subst hm
    injection hx with hx _
    have hsz := weight_slice hx Tryd.underlying51 bytesO4 hs
    simp only [List.length_map, List.length_range] at hsz
    obtain ⟨os, hol, hq⟩ := all_at (Q := fun i (o : O4) => W.cell? (x.add (i * 4 + 0)) = some (.int .i64 o.K) ∧ W.cell? (x.add (i * 4 + 1)) = some (.int .i64 o.Q) ∧ W.cell? (x.add (i * 4 + 2)) = some (.int .i64 o.I) ∧ W.cell? (x.add (i * 4 + 3)) = some (.int .i64 o.R) ∧ i64 o.I ∧ i64 o.R) n (fun i hil => by
      obtain ⟨ys, k, hDi, _, hyl, hf⟩ := hi i (by omega)
      obtain ⟨v0, y0, g0, e0, t0⟩ := hf 0 _ rfl
      obtain ⟨v1, y1, g1, e1, t1⟩ := hf 1 _ rfl
      obtain ⟨v2, y2, g2, e2, t2⟩ := hf 2 _ rfl
      obtain ⟨v3, y3, g3, e3, t3⟩ := hf 3 _ rfl
      obtain ⟨K, c0, _, w0⟩ := DataW.trod_int Tryd.underlying3 t0
      obtain ⟨Q, c1, _, w1⟩ := DataW.trod_int Tryd.underlying3 t1
      obtain ⟨I, c2, _, w2⟩ := DataW.trod_int Tryd.underlying3 t2
      obtain ⟨R, c3, _, w3⟩ := DataW.trod_int Tryd.underlying3 t3
      simp only [List.cons.injEq, and_true] at c0 c1 c2 c3
      subst c0 c1 c2 c3
      exact ⟨⟨K, Q, I, R⟩, g0, g1, g2, g3, wf_i64b w2, wf_i64b w3⟩)
    refine ⟨some x, n, _, os, rfl, hl, by omega, hol, rd_rows (o4_even os) (by rw [o4_len, hol]) (by omega) (fun k i r u hk hu => ?_), fun o ho => ?_⟩
    · simp only [o4rows, List.getElem?_map, Option.map_eq_some_iff] at hk
      obtain ⟨o, ho, rfl⟩ := hk
      obtain ⟨q0, q1, q2, q3, _⟩ := hq k o ho
      have hi4 : i < 4 := by have := (List.getElem?_eq_some_iff.1 hu).1; exact this
      obtain rfl | rfl | rfl | rfl : i = 0 ∨ i = 1 ∨ i = 2 ∨ i = 3 := by omega
      · injection hu with hu; rw [← hu]; exact q0
      · injection hu with hu; rw [← hu]; exact q1
      · injection hu with hu; rw [← hu]; exact q2
      · injection hu with hu; rw [← hu]; exact q3
    · obtain ⟨k, hk⟩ := List.getElem?_of_mem ho
      exact (hq k o hk).2.2.2.2
end
end Go.Proofs.YtocjbllkgbjihaaDoor
