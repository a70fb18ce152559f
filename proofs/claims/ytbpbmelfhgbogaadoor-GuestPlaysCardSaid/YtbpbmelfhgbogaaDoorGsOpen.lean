/-
  Package almonerlaw15: a case opened: its policy, its tasks, its script.
-/
import Derived.Test.YtbpbmelfhgbogaaDoorOpenS
import Derived.Test.YtbpbmelfhgbogaaDoorGsLegal
namespace Go.Proofs.YtbpbmelfhgbogaaDoor
set_option maxRecDepth 100000
open Go.ChangeShapes Go.WideShapes Go.Deep Go.RowKit Go.ChangeAt
set_option linter.unusedVariables false
/-- A call: kind, which, task, now, ticks. -/
structure O5 where
  K : Int
  Q : Int
  T : Int
  W : Int
  X : Int
def O5.cells (o : O5) : List Value := [.int .i64 o.K, .int .i64 o.Q, .int .i64 o.T, .int .i64 o.W, .int .i64 o.X]
def I64b (x : Int) : Prop := -9223372036854775808 ≤ x ∧ x ≤ 9223372036854775807
structure O5.ok (o : O5) : Prop where
  k : I64b o.K
  q : I64b o.Q
  t : I64b o.T
  w : I64b o.W
  x : I64b o.X
def o5rows (os : List O5) : List (List Value) := os.map O5.cells
theorem o5_even (os : List O5) : Even 5 (o5rows os) := by
  intro r hr
  obtain ⟨x, _, rfl⟩ := List.mem_map.1 hr
  rfl
theorem o5_at {os : List O5} {k : Nat} {x : O5} (h : os[k]? = some x) : (o5rows os)[k]? = some x.cells := by simp [o5rows, h]
theorem o5_len (os : List O5) : (o5rows os).length = os.length := by simp [o5rows]
theorem oneO5 : Tryd.prog.cellsOf 35 = 5 := by kernel_rfl
theorem bytesO5 : Tryd.prog.bytesOf 35 = 40 := by kernel_rfl
theorem oneT4 : Tryd.prog.cellsOf 41 = 4 := by kernel_rfl
theorem bytesT4 : Tryd.prog.bytesOf 41 = 32 := by kernel_rfl
theorem oneCase : Tryd.prog.cellsOf 25 = 3 := by kernel_rfl
theorem oneCi : Tryd.prog.cellsOf 3 = 1 := by kernel_rfl
theorem oneCt : Tryd.prog.cellsOf 22 = 1 := by kernel_rfl
theorem oneCo : Tryd.prog.cellsOf 23 = 1 := by kernel_rfl
section
variable {H : Type} {enc : TypeId × Value → H} {W : World} {base : Nat} {v : Value} {d : DataW H} {p : List MemPlace} {held : Bool}
theorem cell_tasks {fuel : Nat} {y : DataW H × List MemPlace} (h : DataW.trod enc Tryd.prog W 0 (fun _ => true) held fuel 22 [v] = some y) (hs : ∀ n ∈ y.1.weights Tryd.prog 22, n ≤ reachBytes) :
    ∃ (a : Option Addr) (n c : Nat) (ts : List TaskV), v = .slice a n c ∧ n * 32 ≤ 140737488351232 ∧ Rd W 4 a n (trows ts).flatten := by
  rcases open_slice_fields Tryd.underlying22 Tryd.underlying41 (by kernel_rfl) oneT4 h with ⟨hcs, hx⟩ | ⟨x, len, cap, m, D, Pl, hcs, _, hl, _, hm, hx, hi⟩
  · simp at hcs
    subst hcs
    exact ⟨none, 0, 0, [], rfl, by omega, Rd.nil_⟩
  · simp at hcs
    subst hcs
    simp only [if_true] at hm
    subst hm
    have hsz := weight_slice (congrArg Prod.fst hx) Tryd.underlying22 bytesT4 hs
    simp only [List.length_map, List.length_range] at hsz
    obtain ⟨os, hol, hq⟩ := all_at (Q := fun i (o : TaskV) => W.cell? (x.add (i * 4 + 0)) = some (.int .i64 o.C) ∧ W.cell? (x.add (i * 4 + 1)) = some (.int .i64 o.P) ∧ W.cell? (x.add (i * 4 + 2)) = some (.int .i64 o.D) ∧ W.cell? (x.add (i * 4 + 3)) = some (.int .i64 o.S)) len (fun i hil => by
      obtain ⟨ys, k, hDi, _, hyl, hf⟩ := hi i (by omega)
      obtain ⟨v0, y0, g0, e0, t0⟩ := hf 0 _ rfl
      obtain ⟨v1, y1, g1, e1, t1⟩ := hf 1 _ rfl
      obtain ⟨v2, y2, g2, e2, t2⟩ := hf 2 _ rfl
      obtain ⟨v3, y3, g3, e3, t3⟩ := hf 3 _ rfl
      obtain ⟨C, c0, _, w0⟩ := DataW.trod_int Tryd.underlying3 t0
      obtain ⟨P, c1, _, w1⟩ := DataW.trod_int Tryd.underlying3 t1
      obtain ⟨D, c2, _, w2⟩ := DataW.trod_int Tryd.underlying3 t2
      obtain ⟨S, c3, _, w3⟩ := DataW.trod_int Tryd.underlying3 t3
      simp only [List.cons.injEq, and_true] at c0 c1 c2 c3
      subst c0 c1 c2 c3
      exact ⟨⟨C, P, D, S⟩, g0, g1, g2, g3⟩)
    refine ⟨some x, len, _, os, rfl, by omega, rd_rows (trows_even os) (by rw [trows_len, hol]) (by omega) (fun k i r u hk hu => ?_)⟩
    simp only [trows, List.getElem?_map, Option.map_eq_some_iff] at hk
    obtain ⟨o, ho, rfl⟩ := hk
    obtain ⟨q0, q1, q2, q3⟩ := hq k o ho
    have hi6 : i < 4 := by have := (List.getElem?_eq_some_iff.1 hu).1; exact this
    obtain rfl | rfl | rfl | rfl : i = 0 ∨ i = 1 ∨ i = 2 ∨ i = 3 := by omega
    · injection hu with hu; rw [← hu]; exact q0
    · injection hu with hu; rw [← hu]; exact q1
    · injection hu with hu; rw [← hu]; exact q2
    · injection hu with hu; rw [← hu]; exact q3
theorem cell_ops {fuel : Nat} {y : DataW H × List MemPlace} (h : DataW.trod enc Tryd.prog W 0 (fun _ => true) held fuel 23 [v] = some y) (hs : ∀ n ∈ y.1.weights Tryd.prog 23, n ≤ reachBytes) :
    ∃ (a : Option Addr) (n c : Nat) (os : List O5), v = .slice a n c ∧ n * 40 ≤ 140737488351232 ∧ os.length = n ∧ Rd W 5 a n (o5rows os).flatten ∧ ∀ o ∈ os, o.ok := by
  rcases open_slice_fields Tryd.underlying23 Tryd.underlying35 (by kernel_rfl) oneO5 h with ⟨hcs, hx⟩ | ⟨x, len, cap, m, D, Pl, hcs, _, hl, _, hm, hx, hi⟩
  · simp at hcs
    subst hcs
    exact ⟨none, 0, 0, [], rfl, by omega, rfl, Rd.nil_, by simp⟩
  · simp at hcs
    subst hcs
    simp only [if_true] at hm
    subst hm
    have hsz := weight_slice (congrArg Prod.fst hx) Tryd.underlying23 bytesO5 hs
    simp only [List.length_map, List.length_range] at hsz
    obtain ⟨os, hol, hq⟩ := all_at (Q := fun i (o : O5) => W.cell? (x.add (i * 5 + 0)) = some (.int .i64 o.K) ∧ W.cell? (x.add (i * 5 + 1)) = some (.int .i64 o.Q) ∧ W.cell? (x.add (i * 5 + 2)) = some (.int .i64 o.T) ∧ W.cell? (x.add (i * 5 + 3)) = some (.int .i64 o.W) ∧ W.cell? (x.add (i * 5 + 4)) = some (.int .i64 o.X) ∧ o.ok) len (fun i hil => by
      obtain ⟨ys, k, hDi, _, hyl, hf⟩ := hi i (by omega)
      obtain ⟨v0, y0, g0, e0, t0⟩ := hf 0 _ rfl
      obtain ⟨v1, y1, g1, e1, t1⟩ := hf 1 _ rfl
      obtain ⟨v2, y2, g2, e2, t2⟩ := hf 2 _ rfl
      obtain ⟨v3, y3, g3, e3, t3⟩ := hf 3 _ rfl
      obtain ⟨v4, y4, g4, e4, t4⟩ := hf 4 _ rfl
      obtain ⟨K, c0, _, w0⟩ := DataW.trod_int Tryd.underlying3 t0
      obtain ⟨Q, c1, _, w1⟩ := DataW.trod_int Tryd.underlying3 t1
      obtain ⟨T, c2, _, w2⟩ := DataW.trod_int Tryd.underlying3 t2
      obtain ⟨N, c3, _, w3⟩ := DataW.trod_int Tryd.underlying3 t3
      obtain ⟨X, c4, _, w4⟩ := DataW.trod_int Tryd.underlying3 t4
      simp only [List.cons.injEq, and_true] at c0 c1 c2 c3 c4
      subst c0 c1 c2 c3 c4
      exact ⟨⟨K, Q, T, N, X⟩, g0, g1, g2, g3, g4, wf_i64b w0, wf_i64b w1, wf_i64b w2, wf_i64b w3, wf_i64b w4⟩)
    refine ⟨some x, len, _, os, rfl, by omega, hol, rd_rows (o5_even os) (by rw [o5_len, hol]) (by omega) (fun k i r u hk hu => ?_), fun o ho => ?_⟩
    · simp only [o5rows, List.getElem?_map, Option.map_eq_some_iff] at hk
      obtain ⟨o, ho, rfl⟩ := hk
      obtain ⟨q0, q1, q2, q3, q4, _⟩ := hq k o ho
      have hi6 : i < 5 := by have := (List.getElem?_eq_some_iff.1 hu).1; exact this
      obtain rfl | rfl | rfl | rfl | rfl : i = 0 ∨ i = 1 ∨ i = 2 ∨ i = 3 ∨ i = 4 := by omega
      · injection hu with hu; rw [← hu]; exact q0
      · injection hu with hu; rw [← hu]; exact q1
      · injection hu with hu; rw [← hu]; exact q2
      · injection hu with hu; rw [← hu]; exact q3
      · injection hu with hu; rw [← hu]; exact q4
    · obtain ⟨k, hk⟩ := List.getElem?_of_mem ho
      exact (hq k o hk).2.2.2.2.2
theorem open_case (hv : Value.okWide Tryd.prog W .any base 25 v) (h : DataW.Trod enc Tryd.prog W 0 (fun _ => true) true 25 v d p) (hs : ∀ n ∈ d.weights Tryd.prog 25, n ≤ reachBytes) :
    ∃ (P : Int) (A B : Option Addr) (n c m e : Nat) (ts : List TaskV) (os : List O5), v = .agg #[.int .i64 P, .slice A n c, .slice B m e] ∧ n * 32 ≤ 140737488351232 ∧ Rd W 4 A n (trows ts).flatten ∧ m * 40 ≤ 140737488351232 ∧ os.length = m ∧ Rd W 5 B m (o5rows os).flatten ∧ ∀ o ∈ os, o.ok := by
  obtain ⟨cs, rfl, hsz⟩ := okWide_struct Tryd.underlying25 hv
  obtain ⟨l⟩ := cs
  match l, hsz.trans oneCase with
  | [c0, c1, c2], _ =>
    obtain ⟨fuel, hf⟩ := h
    obtain ⟨xs, n, _, hx, _, hlen, hg⟩ := DataW.trod_struct Tryd.underlying25 hf
    have hd : d = .agg (xs.map (·.1)) := congrArg Prod.fst hx
    obtain ⟨y0, y1, y2, rfl⟩ : ∃ y0 y1 y2, xs = [y0, y1, y2] := by
      match xs, hlen with
      | [a, b, c], _ => exact ⟨a, b, c, rfl⟩
    have g0 : DataW.trod enc Tryd.prog W 0 (fun _ => true) true n 3 [c0] = some y0 := by have h := hg 0 _ rfl; simpa [Value.cells, oneCi] using h
    have g1 : DataW.trod enc Tryd.prog W 0 (fun _ => true) true n 22 [c1] = some y1 := by have h := hg 1 _ rfl; simpa [Value.cells, oneCt] using h
    have g2 : DataW.trod enc Tryd.prog W 0 (fun _ => true) true n 23 [c2] = some y2 := by have h := hg 2 _ rfl; simpa [Value.cells, oneCo] using h
    rw [hd] at hs
    have w1 := weight_field (x := y1.1) Tryd.underlying25 hs (j := 1) rfl rfl
    have w2 := weight_field (x := y2.1) Tryd.underlying25 hs (j := 2) rfl rfl
    obtain ⟨P, e0, _, _⟩ := DataW.trod_int Tryd.underlying3 g0
    simp only [List.cons.injEq, and_true] at e0
    subst e0
    obtain ⟨A, na, ca, ts, rfl, h1, h2⟩ := cell_tasks g1 w1
    obtain ⟨B, nb, cb, os, rfl, h3, h4, h5, h6⟩ := cell_ops g2 w2
    exact ⟨P, A, B, na, ca, nb, cb, ts, os, rfl, h1, h2, h3, h4, h5, h6⟩
end
end Go.Proofs.YtbpbmelfhgbogaaDoor
