/-
  Arguments opened: an entry, a ledger.
-/
import Derived.Test.YteflnnlihblpgaaDoorOpenS
import Derived.Test.YteflnnlihblpgaaDoorOrRows
namespace Go.Proofs.YteflnnlihblpgaaDoor
set_option maxRecDepth 100000
open Go.ChangeShapes Go.WideShapes Go.Deep Go.RowKit Go.ChangeAt
set_option linter.unusedVariables false
theorem oneT4 : Tryd.prog.cellsOf 47 = 4 := by kernel_rfl
theorem bytesT4 : Tryd.prog.bytesOf 47 = 32 := by kernel_rfl
theorem oneE10 : Tryd.prog.cellsOf 29 = 10 := by kernel_rfl
theorem bytesE10 : Tryd.prog.bytesOf 29 = 96 := by kernel_rfl
theorem oneO8 : Tryd.prog.cellsOf 27 = 8 := by kernel_rfl
theorem oneS3 : Tryd.prog.cellsOf 24 = 3 := by kernel_rfl
theorem oneCi : Tryd.prog.cellsOf 3 = 1 := by kernel_rfl
theorem oneCt : Tryd.prog.cellsOf 25 = 1 := by kernel_rfl
section
variable {H : Type} {enc : TypeId × Value → H} {W : World} {base : Nat} {v : Value} {d : DataW H} {p : List MemPlace} {held : Bool}
theorem cell_tasks {fuel : Nat} {y : DataW H × List MemPlace} (h : DataW.trod enc Tryd.prog W 0 (fun _ => true) held fuel 25 [v] = some y) (hs : ∀ n ∈ y.1.weights Tryd.prog 25, n ≤ reachBytes) :
    ∃ (a : Option Addr) (n c : Nat) (ts : List Tk), v = .slice a n c ∧ n ≤ c ∧ n * 32 ≤ 140737488355328 ∧ Rd W 4 a n (trows ts).flatten := by
  rcases open_slice_fields Tryd.underlying25 Tryd.underlying47 (by kernel_rfl) oneT4 h with ⟨hcs, hx⟩ | ⟨x, len, cap, m, D, Pl, hcs, _, hl, _, hm, hx, hi⟩
  · simp at hcs
    subst hcs
    exact ⟨none, 0, 0, [], rfl, Nat.le_refl _, by omega, Rd.nil_⟩
  · simp at hcs
    subst hcs
    simp only [if_true] at hm
    subst hm
    have hsz := weight_slice (congrArg Prod.fst hx) Tryd.underlying25 bytesT4 hs
    simp only [List.length_map, List.length_range] at hsz
    obtain ⟨os, hol, hq⟩ := all_at (Q := fun i (o : Tk) => W.cell? (x.add (i * 4 + 0)) = some (.int .i64 o.C) ∧ W.cell? (x.add (i * 4 + 1)) = some (.int .i64 o.P) ∧ W.cell? (x.add (i * 4 + 2)) = some (.int .i64 o.D) ∧ W.cell? (x.add (i * 4 + 3)) = some (.int .i64 o.S)) len (fun i hil => by
      obtain ⟨ys, k, hDi, _, hyl, hf⟩ := hi i (by omega)
      obtain ⟨v0, y0, g0, e0, t0⟩ := hf 0 _ rfl
      obtain ⟨v1, y1, g1, e1, t1⟩ := hf 1 _ rfl
      obtain ⟨v2, y2, g2, e2, t2⟩ := hf 2 _ rfl
      obtain ⟨v3, y3, g3, e3, t3⟩ := hf 3 _ rfl
      obtain ⟨C, c0, _, w0⟩ := DataW.trod_int Tryd.underlying3 t0
      obtain ⟨P, c1, _, w1⟩ := DataW.trod_int Tryd.underlying3 t1
      obtain ⟨D, c2, _, w2⟩ := DataW.trod_int Tryd.underlying3 t2
      obtain ⟨S, c3, _, w3⟩ := DataW.trod_int Tryd.underlying3 t3
      simp only [List.cons.injEq, and_true] at c0 c1 c2 c3
      subst c0 c1 c2 c3
      exact ⟨⟨C, P, D, S⟩, g0, g1, g2, g3⟩)
    refine ⟨some x, len, _, os, rfl, hl, by omega, rd_rows (trows_even os) (by rw [trows_len, hol]) (by omega) (fun k i r u hk hu => ?_)⟩
    simp only [trows, List.getElem?_map, Option.map_eq_some_iff] at hk
    obtain ⟨o, ho, rfl⟩ := hk
    obtain ⟨q0, q1, q2, q3⟩ := hq k o ho
    have hi6 : i < 4 := by have := (List.getElem?_eq_some_iff.1 hu).1; exact this
    obtain rfl | rfl | rfl | rfl : i = 0 ∨ i = 1 ∨ i = 2 ∨ i = 3 := by omega
    · injection hu with hu; rw [← hu]; exact q0
    · injection hu with hu; rw [← hu]; exact q1
    · injection hu with hu; rw [← hu]; exact q2
    · injection hu with hu; rw [← hu]; exact q3
theorem cell_int {fuel : Nat} {y : DataW H × List MemPlace} (h : DataW.trod enc Tryd.prog W 0 (fun _ => true) held fuel 3 [v] = some y) : ∃ x : Int, v = .int .i64 x := by
  obtain ⟨x, e, _, _⟩ := DataW.trod_int Tryd.underlying3 h
  simp only [List.cons.injEq, and_true] at e
  exact ⟨x, e⟩
theorem cell_entry {fuel : Nat} {cs : List Value} {y : DataW H × List MemPlace} (h : DataW.trod enc Tryd.prog W 0 (fun _ => true) held fuel 29 cs = some y) (hs : ∀ n ∈ y.1.weights Tryd.prog 29, n ≤ reachBytes) :
    ∃ s : EnS, cs = s.vals ∧ s.Lies W := by
  obtain ⟨xs, n, _, hx, hl, hlen, hg⟩ := DataW.trod_struct Tryd.underlying29 h
  have hd : y.1 = .agg (xs.map (·.1)) := congrArg Prod.fst hx
  match cs, hl.trans oneE10 with
  | [c0, c1, c2, c3, c4, c5, c6, c7, c8, c9], _ =>
    obtain ⟨y0, y1, y2, rfl⟩ : ∃ y0 y1 y2, xs = [y0, y1, y2] := by
      match xs, hlen with
      | [a, b, c], _ => exact ⟨a, b, c, rfl⟩
    have g0 : DataW.trod enc Tryd.prog W 0 (fun _ => true) held n 3 [c0] = some y0 := by have h := hg 0 _ rfl; simpa [oneCi] using h
    have g1 : DataW.trod enc Tryd.prog W 0 (fun _ => true) held n 3 [c1] = some y1 := by have h := hg 1 _ rfl; simpa [oneCi] using h
    have g2 : DataW.trod enc Tryd.prog W 0 (fun _ => true) held n 27 [c2, c3, c4, c5, c6, c7, c8, c9] = some y2 := by have h := hg 2 _ rfl; simpa [oneO8] using h
    rw [hd] at hs
    have w2 := weight_field (x := y2.1) Tryd.underlying29 hs (j := 2) rfl rfl
    obtain ⟨xs2, n2, _, hx2, _, hlen2, hg2⟩ := DataW.trod_struct Tryd.underlying27 g2
    have hd2 : y2.1 = .agg (xs2.map (·.1)) := congrArg Prod.fst hx2
    obtain ⟨z0, z1, z2, z3, z4, z5, rfl⟩ : ∃ z0 z1 z2 z3 z4 z5, xs2 = [z0, z1, z2, z3, z4, z5] := by
      match xs2, hlen2 with
      | [a, b, c, d, e, f], _ => exact ⟨a, b, c, d, e, f, rfl⟩
    have k0 : DataW.trod enc Tryd.prog W 0 (fun _ => true) held n2 3 [c2] = some z0 := by have h := hg2 0 _ rfl; simpa [oneCi] using h
    have k1 : DataW.trod enc Tryd.prog W 0 (fun _ => true) held n2 3 [c3] = some z1 := by have h := hg2 1 _ rfl; simpa [oneCi] using h
    have k2 : DataW.trod enc Tryd.prog W 0 (fun _ => true) held n2 24 [c4, c5, c6] = some z2 := by have h := hg2 2 _ rfl; simpa [oneS3] using h
    have k3 : DataW.trod enc Tryd.prog W 0 (fun _ => true) held n2 3 [c7] = some z3 := by have h := hg2 3 _ rfl; simpa [oneCi] using h
    have k4 : DataW.trod enc Tryd.prog W 0 (fun _ => true) held n2 25 [c8] = some z4 := by have h := hg2 4 _ rfl; simpa [oneCt] using h
    have k5 : DataW.trod enc Tryd.prog W 0 (fun _ => true) held n2 3 [c9] = some z5 := by have h := hg2 5 _ rfl; simpa [oneCi] using h
    rw [hd2] at w2
    have w4 := weight_field (x := z4.1) Tryd.underlying27 w2 (j := 4) rfl rfl
    obtain ⟨xs3, n3, _, hx3, _, hlen3, hg3⟩ := DataW.trod_struct Tryd.underlying24 k2
    obtain ⟨q0, q1, q2, rfl⟩ : ∃ z0 z1 z2, xs3 = [z0, z1, z2] := by
      match xs3, hlen3 with
      | [a, b, c], _ => exact ⟨a, b, c, rfl⟩
    have m0 : DataW.trod enc Tryd.prog W 0 (fun _ => true) held n3 3 [c4] = some q0 := by have h := hg3 0 _ rfl; simpa [oneCi] using h
    have m1 : DataW.trod enc Tryd.prog W 0 (fun _ => true) held n3 3 [c5] = some q1 := by have h := hg3 1 _ rfl; simpa [oneCi] using h
    have m2 : DataW.trod enc Tryd.prog W 0 (fun _ => true) held n3 3 [c6] = some q2 := by have h := hg3 2 _ rfl; simpa [oneCi] using h
    obtain ⟨x0, rfl⟩ := cell_int g0
    obtain ⟨x1, rfl⟩ := cell_int g1
    obtain ⟨x2, rfl⟩ := cell_int k0
    obtain ⟨x3, rfl⟩ := cell_int k1
    obtain ⟨x4, rfl⟩ := cell_int m0
    obtain ⟨x5, rfl⟩ := cell_int m1
    obtain ⟨x6, rfl⟩ := cell_int m2
    obtain ⟨x7, rfl⟩ := cell_int k3
    obtain ⟨x9, rfl⟩ := cell_int k5
    obtain ⟨A, na, ca, ts, rfl, h1, h2, h3⟩ := cell_tasks k4 w4
    exact ⟨⟨⟨x0, x1, x2, x3, x4, x5, x6, x7, x9, ts⟩, A, na, ca⟩, rfl, h3, by show na ≤ _; omega, h1⟩
theorem open_entry (hv : Value.okWide Tryd.prog W .any base 29 v) (h : DataW.Trod enc Tryd.prog W 0 (fun _ => true) true 29 v d p) (hs : ∀ n ∈ d.weights Tryd.prog 29, n ≤ reachBytes) :
    ∃ (e : En) (A : Option Addr) (n c : Nat), v = .agg #[.int .i64 e.cl, .int .i64 e.nu, .int .i64 e.kd, .int .i64 e.id, .int .i64 e.sk, .int .i64 e.sq, .int .i64 e.st, .int .i64 e.pol, .slice A n c, .int .i64 e.at_] ∧ EnS.Lies ⟨e, A, n, c⟩ W := by
  obtain ⟨cs, rfl, hsz⟩ := okWide_struct Tryd.underlying29 hv
  obtain ⟨l⟩ := cs
  obtain ⟨fuel, hf⟩ := h
  have hf' : DataW.trod enc Tryd.prog W 0 (fun _ => true) true fuel 29 l = some (d, p) := by simpa [Value.cells] using hf
  obtain ⟨⟨e, A, n, c⟩, rfl, h2⟩ := cell_entry hf' hs
  exact ⟨e, A, n, c, rfl, h2⟩
theorem open_ledger (hv : Value.okWide Tryd.prog W .any base 22 v) (h : DataW.Trod enc Tryd.prog W 0 (fun _ => true) true 22 v d p) (hs : ∀ n ∈ d.weights Tryd.prog 22, n ≤ reachBytes) :
    ∃ (a : Option Addr) (n c : Nat) (ss : List EnS), v = .slice a n c ∧ n ≤ c ∧ n * 96 ≤ 140737488355328 ∧ Led W a n ss := by
  obtain ⟨a, n, c, rfl⟩ := okWide_slice Tryd.underlying22 hv
  obtain ⟨fuel, hf⟩ := h
  rcases open_slice Tryd.underlying22 hf with ⟨hcs, hx⟩ | ⟨x, len, cap, m, k, D, Pl, hcs, _, hl, _, hm, hx, hi⟩
  · simp [Value.cells] at hcs
    obtain ⟨rfl, rfl, rfl⟩ := hcs
    exact ⟨none, 0, 0, [], rfl, Nat.le_refl _, by omega, Led.nil_⟩
  · simp [Value.cells] at hcs
    obtain ⟨rfl, rfl, rfl⟩ := hcs
    simp only [if_true] at hm
    subst hm
    injection hx with hx _
    have hsz := weight_slice hx Tryd.underlying22 bytesE10 hs
    simp only [List.length_map, List.length_range] at hsz
    obtain ⟨ss, hsl, hq⟩ := all_at (Q := fun i (s : EnS) => (∀ (j : Nat) (u : Value), s.vals[j]? = some u → W.cell? (x.add (i * 10 + j)) = some u) ∧ s.Lies W) n (fun i hil => by
      obtain ⟨cs', hc, ht⟩ := hi i (by omega)
      rw [oneE10] at hc
      obtain ⟨_, hcl, hat⟩ := World.cells?_some hc
      obtain ⟨s, rfl, h2⟩ := cell_entry ht (weight_elem hx Tryd.underlying22 hs (List.mem_map.2 ⟨i, List.mem_range.2 hil, rfl⟩))
      refine ⟨s, fun j u hu => ?_, h2⟩
      have hj : j < 10 := (List.getElem?_eq_some_iff.1 hu).1
      have h3 := hat j hj
      rw [add_add'] at h3
      rw [h3]
      exact hu)
    refine ⟨some x, n, _, ss, rfl, hl, by omega, ⟨rd_rows (erows_even ss) (by rw [erows_len, hsl]) (by omega) (fun k i r u hk hu => ?_), fun s hsm => ?_⟩⟩
    · simp only [erows, List.getElem?_map, Option.map_eq_some_iff] at hk
      obtain ⟨s, ho, rfl⟩ := hk
      exact (hq k s ho).1 i u hu
    · obtain ⟨k, hk⟩ := List.getElem?_of_mem hsm
      exact (hq k s hk).2
end
end Go.Proofs.YteflnnlihblpgaaDoor
