/-
  Package almonerlaw07: a slice of pairs of ints opened.
-/
import Derived.Test.YtocjbllkgbjihaaDoorOpenS
import Derived.Test.YtocjbllkgbjihaaDoorQuSorts
namespace Go.Proofs.YtocjbllkgbjihaaDoor
set_option maxRecDepth 100000
open Go.ChangeShapes Go.WideShapes Go.Deep Go.RowKit Go.ChangeAt
set_option linter.unusedVariables false
theorem onePair : Tryd.prog.cellsOf 31 = 2 := by kernel_rfl
theorem oneInt_ : Tryd.prog.cellsOf 3 = 1 := by kernel_rfl
theorem bytesPair : Tryd.prog.bytesOf 31 = 16 := by kernel_rfl
section
variable {H : Type} {enc : TypeId × Value → H} {W : World} {base : Nat} {v : Value} {d : DataW H} {p : List MemPlace}
theorem pair_int {P : Program} {w : World} {t : TypeId} {sp : Nat → Bool} {b : Nat} {held : Bool} {fuel : Nat} {c : Value} {y : DataW H × List MemPlace} (ht : P.underlying t = some (.int .i64)) (h : DataW.trod enc P w b sp held fuel t [c] = some y) : ∃ x, c = .int .i64 x ∧ i64 x := by
  obtain ⟨k0, e0, _, w0⟩ := DataW.trod_int ht h
  simp only [List.cons.injEq, and_true] at e0
  exact ⟨k0, e0, wf_i64b w0⟩
theorem open_pairs (hv : Value.okWide Tryd.prog W .any base 23 v) (h : DataW.Trod enc Tryd.prog W 0 (fun _ => true) true 23 v d p) (hs : ∀ n ∈ d.weights Tryd.prog 23, n ≤ reachBytes) :
    ∃ (a : Option Addr) (n c : Nat) (ts : List (Int × Int)), v = .slice a n c ∧ n ≤ c ∧ n * 16 ≤ 140737488355328 ∧ ts.length = n ∧ Rd W 2 a n (prows ts).flatten ∧ ∀ t ∈ ts, i64 t.1 ∧ i64 t.2 := by
  obtain ⟨a, n, c, rfl⟩ := okWide_slice Tryd.underlying23 hv
  obtain ⟨fuel, hf⟩ := h
  rcases open_slice Tryd.underlying23 hf with ⟨hcs, hx⟩ | ⟨x, len, cap, m, k, D, Pl, hcs, _, hl, _, hm, hx, hi⟩
  · simp [Value.cells] at hcs
    obtain ⟨rfl, rfl, rfl⟩ := hcs
    exact ⟨none, 0, 0, [], rfl, Nat.le_refl _, by omega, rfl, Rd.nil_, by simp⟩
  · simp [Value.cells] at hcs
    obtain ⟨rfl, rfl, rfl⟩ := hcs
    simp only [if_true] at hm
    subst hm
    injection hx with hx _
    have hsz := weight_slice hx Tryd.underlying23 bytesPair hs
    simp only [List.length_map, List.length_range] at hsz
    obtain ⟨ts, htl, hq⟩ := all_at (Q := fun i (t : Int × Int) => W.cell? (x.add (i * 2 + 0)) = some (.int .i64 t.1) ∧ W.cell? (x.add (i * 2 + 1)) = some (.int .i64 t.2) ∧ i64 t.1 ∧ i64 t.2) n (fun i hil => by
      obtain ⟨cs', hc, ht⟩ := hi i (by omega)
      rw [onePair] at hc
      obtain ⟨_, hcl, hat⟩ := World.cells?_some hc
      match cs', hcl with
      | [c0, c1], _ =>
        obtain ⟨xs, k', _, _, _, hlen, hg⟩ := DataW.trod_array Tryd.underlying31 ht
        match xs, hlen with
        | [y0, y1], _ =>
          have g0 := hg 0 (by omega)
          have g1 := hg 1 (by omega)
          simp only [oneInt_] at g0 g1
          obtain ⟨u, rfl, hu⟩ := pair_int Tryd.underlying3 g0
          obtain ⟨v, rfl, hv⟩ := pair_int Tryd.underlying3 g1
          have h0 := hat 0 (by omega)
          have h1 := hat 1 (by omega)
          rw [add_add'] at h0 h1
          exact ⟨(u, v), h0, h1, hu, hv⟩)
    refine ⟨some x, n, _, ts, rfl, hl, by omega, htl, rd_rows (prows_even ts) (by rw [prows_len, htl]) (by omega) (fun k i r u hk hu => ?_), fun t ht => ?_⟩
    · simp only [prows, List.getElem?_map, Option.map_eq_some_iff] at hk
      obtain ⟨t, ht, rfl⟩ := hk
      obtain ⟨q0, q1, _⟩ := hq k t ht
      have hi2 : i < 2 := by have := (List.getElem?_eq_some_iff.1 hu).1; exact this
      obtain rfl | rfl : i = 0 ∨ i = 1 := by omega
      · injection hu with hu; rw [← hu]; exact q0
      · injection hu with hu; rw [← hu]; exact q1
    · obtain ⟨k, hk⟩ := List.getElem?_of_mem ht
      exact (hq k t hk).2.2
end
end Go.Proofs.YtocjbllkgbjihaaDoor
