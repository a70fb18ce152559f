/-
  Arguments of WireReads opened: two slices of bytes; a script of which only the cells are told.
-/
import Derived.Test.YtelnnlfbfbbnaaaDoorWrScript
import Derived.Test.YtelnnlfbfbbnaaaDoorOpen
namespace Go.Proofs.YtelnnlfbfbbnaaaDoor
open Go.ChangeShapes Go.WideShapes Go.Deep Go.RowKit Go.ChangeAt
set_option linter.unusedVariables false
theorem okWide_arr {P : Program} {w : World} {r : Reach} {base : Nat} {v : Value} {t : TypeId} {n : Nat} {e : TypeId} (ht : P.underlying t = some (.array n e)) (h : Value.okWide P w r base t v) : ∃ cs, v = .agg cs ∧ cs.size = P.cellsOf t := by
  simp only [Value.okWide, ht] at h
  obtain ⟨cs, h1, h2, _⟩ := h
  exact ⟨cs, h1, h2⟩
theorem weightsAll_in {H : Type} {P : Program} {e : TypeId} : ∀ {l : List (DataW H)} {d : DataW H}, d ∈ l → ∀ n ∈ d.weights P e, n ∈ DataW.weightsAll P e l
  | d' :: r, d, hd, n, hn => by
    simp only [DataW.weightsAll, List.mem_append]
    rcases List.mem_cons.1 hd with rfl | h
    · exact Or.inl hn
    · exact Or.inr (weightsAll_in h n hn)
section
variable {H : Type} {enc : TypeId × Value → H} {P : Program} {W : World} {base : Nat} {v : Value} {d : DataW H} {p : List MemPlace} {held : Bool}
/-- A cell that holds a slice of bytes, with its size told. -/
theorem cell_row8 {t e : TypeId} {fuel : Nat} {y : DataW H × List MemPlace} (ht : P.underlying t = some (.slice e)) (he : P.underlying e = some (.int .u8)) (hc : P.cellsOf e = 1) (hb : P.bytesOf e = 1) (h : DataW.trod enc P W base (fun _ => true) held fuel t [v] = some y)
    (hs : ∀ n ∈ y.1.weights P t, n ≤ reachBytes) :
    ∃ (a : Option Addr) (n c : Nat) (l : List Nat), v = .slice a n c ∧ n ≤ c ∧ c ≤ 140737488351232 ∧ Rd W 1 a n (u8s l) ∧ (∀ x ∈ l, x < 256) := by
  rcases open_ints ht he hc h with ⟨hcs, hx⟩ | ⟨x, l, c', zs, hcs, _, hl, hm, hz, hx, hcell, hwz⟩
  · simp at hcs
    subst hcs
    exact ⟨none, 0, 0, [], rfl, Nat.le_refl _, by omega, Rd.nil_, by simp⟩
  · simp at hcs
    subst hcs
    simp only [if_true] at hz
    have hwf : ∀ z ∈ zs, 0 ≤ z ∧ z < 256 := fun z hzm => wf_u8b (hwz z hzm)
    have e1 : u8s ((zs.take l).map Int.toNat) = (zs.take l).map (Value.int .u8) := by
      rw [u8s, List.map_map]
      refine List.map_congr_left fun z hzm => ?_
      have := hwf z (List.mem_of_mem_take hzm)
      simp only [Function.comp, Int.toNat_of_nonneg this.1]
    refine ⟨some x, l, c', (zs.take l).map Int.toNat, rfl, hl, ?_, ?_, ?_⟩
    · have := hs ((_ : Nat) * P.bytesOf e) (by rw [hx]; simp only [DataW.weights, ht]; exact List.mem_cons_self)
      rw [hb] at this
      simp [lits, reachBytes] at this
      omega
    · rw [e1]
      refine ⟨by simp; omega, fun hn => ⟨x, rfl, ?_, ?_⟩⟩
      · have h0 := hcell 0 (by omega)
        have h1 : (x.add 0).block = x.block := add_block _ _
        rw [← h1]
        refine Nat.lt_of_not_le fun hge => ?_
        simp [World.cell?, Array.getElem?_eq_none hge] at h0
      · intro j u hu
        rw [List.getElem?_map] at hu
        cases hj : (zs.take l)[j]? with
        | none => rw [hj] at hu; cases hu
        | some y =>
          rw [hj] at hu
          injection hu with hu
          subst hu
          rw [List.getElem?_take] at hj
          split at hj
          · rw [hcell j (by omega), List.getD, hj]; rfl
          · cases hj
    · intro z hzm
      obtain ⟨y, hy, rfl⟩ := List.mem_map.1 hzm
      have := hwf y (List.mem_of_mem_take hy)
      omega
end
section
variable {H : Type} {enc : TypeId × Value → H} {W : World} {base : Nat} {v : Value} {d : DataW H} {p : List MemPlace}
theorem onePair : Tryd.prog.cellsOf 35 = 2 := by kernel_rfl
theorem oneSl : Tryd.prog.cellsOf 26 = 1 := by kernel_rfl
theorem bytesU8 : Tryd.prog.bytesOf 5 = 1 := by kernel_rfl
theorem bytesOp : Tryd.prog.bytesOf 38 = 48 := by kernel_rfl
theorem open_pairb (hv : Value.okWide Tryd.prog W .any base 35 v) (h : DataW.Trod enc Tryd.prog W 0 (fun _ => true) true 35 v d p) (hs : ∀ n ∈ d.weights Tryd.prog 35, n ≤ reachBytes) :
    ∃ (a b : Option Addr) (n m c e : Nat) (l k : List Nat), v = .agg #[.slice a n c, .slice b m e] ∧ n ≤ c ∧ m ≤ e ∧ c ≤ 140737488351232 ∧ e ≤ 140737488351232 ∧ Rd W 1 a n (u8s l) ∧ Rd W 1 b m (u8s k) ∧ (∀ x ∈ l, x < 256) ∧ ∀ x ∈ k, x < 256 := by
  obtain ⟨cs, rfl, hsz⟩ := okWide_arr Tryd.underlying35 hv
  obtain ⟨l⟩ := cs
  match l, hsz.trans onePair with
  | [c0, c1], _ =>
    obtain ⟨fuel, hf⟩ := h
    obtain ⟨xs, n, _, hx, _, hlen, hg⟩ := DataW.trod_array Tryd.underlying35 hf
    match xs, hlen with
    | [y0, y1], _ =>
      have g0 := hg 0 (by omega)
      have g1 := hg 1 (by omega)
      simp only [oneSl, Value.cells] at g0 g1
      injection hx with hx _
      subst hx
      have hw : ∀ y ∈ [y0, y1], ∀ n ∈ y.1.weights Tryd.prog 26, n ≤ reachBytes := fun y hy n hn => hs n (by
        simp only [DataW.weights, Tryd.underlying35]
        exact weightsAll_in (List.mem_map_of_mem hy) n hn)
      obtain ⟨a, n, c, l, rfl, h1, h2, h3, h4⟩ := cell_row8 Tryd.underlying26 Tryd.underlying5 oneU8 bytesU8 g0 (hw _ (by simp))
      obtain ⟨b, m, e, k, rfl, k1, k2, k3, k4⟩ := cell_row8 Tryd.underlying26 Tryd.underlying5 oneU8 bytesU8 g1 (hw _ (by simp))
      exact ⟨a, b, n, m, c, e, l, k, rfl, h1, k1, h2, k2, h3, k3, h4, k4⟩
theorem open_script0 (hv : Value.okWide Tryd.prog W .any base 33 v) (h : DataW.Trod enc Tryd.prog W 0 (fun _ => true) true 33 v d p) (hs : ∀ n ∈ d.weights Tryd.prog 33, n ≤ reachBytes) :
    ∃ (a : Option Addr) (n c : Nat) (os : List OpV), v = .slice a n c ∧ n ≤ c ∧ n * 48 ≤ 140737488351232 ∧ os.length = n ∧ Rd W 4 a n (opCells os) := by
  obtain ⟨a, n, c, rfl⟩ := okWide_slice Tryd.underlying33 hv
  obtain ⟨fuel, hf⟩ := h
  rcases open_slice_fields Tryd.underlying33 Tryd.underlying38 (by kernel_rfl) oneOp hf with ⟨hcs, hx⟩ | ⟨x, len, cap, m, D, Pl, hcs, _, hl, _, hm, hx, hi⟩
  · simp [Value.cells] at hcs
    obtain ⟨rfl, rfl, rfl⟩ := hcs
    exact ⟨none, 0, 0, [], rfl, Nat.le_refl _, by omega, rfl, Rd.nil_⟩
  · simp [Value.cells] at hcs
    obtain ⟨rfl, rfl, rfl⟩ := hcs
    simp only [if_true] at hm
    subst hm
    injection hx with hx _
    have hsz : n * 48 ≤ 140737488351232 := by
      have := hs ((_ : Nat) * Tryd.prog.bytesOf 38) (by rw [hx]; simp only [DataW.weights, Tryd.underlying33]; exact List.mem_cons_self)
      rw [bytesOp] at this
      simp [reachBytes] at this
      omega
    obtain ⟨os, hol, hq⟩ := all_opv (Q := fun i o => W.cell? (x.add (i * 4)) = some (.int .i64 o.K) ∧ W.cell? (x.add (i * 4 + 1)) = some (.int .i64 o.Q) ∧ W.cell? (x.add (i * 4 + 2)) = some (.int .i64 o.N) ∧ W.cell? (x.add (i * 4 + 3)) = some (.slice o.A o.n o.c)) n (fun i hil => by
      obtain ⟨ys, k, hDi, _, hyl, hf⟩ := hi i (by omega)
      obtain ⟨v0, y0, g0, e0, t0⟩ := hf 0 _ rfl
      obtain ⟨v1, y1, g1, e1, t1⟩ := hf 1 _ rfl
      obtain ⟨v2, y2, g2, e2, t2⟩ := hf 2 _ rfl
      obtain ⟨v3, y3, g3, e3, t3⟩ := hf 3 _ rfl
      obtain ⟨K, c0, _, w0⟩ := DataW.trod_int Tryd.underlying3 t0
      obtain ⟨Q, c1, _, w1⟩ := DataW.trod_int Tryd.underlying3 t1
      obtain ⟨N, c2, _, w2⟩ := DataW.trod_int Tryd.underlying3 t2
      simp only [List.cons.injEq, and_true] at c0 c1 c2
      subst c0 c1 c2
      obtain ⟨B, nb, cb, l, rfl, h1, h2, h3, h4⟩ := cell_bytes Tryd.underlying26 Tryd.underlying5 oneU8 t3
      exact ⟨⟨K, Q, N, B, nb, cb, l⟩, g0, g1, g2, g3⟩)
    refine ⟨some x, n, _, os, rfl, hl, hsz, hol, by rw [opCells_len, hol], fun hn => ⟨x, rfl, ?_, fun j u hu => ?_⟩⟩
    · have h1 := (hq 0 (os[0]'(by omega)) (List.getElem?_eq_getElem _)).2.1
      exact block_of_cell h1
    · have hj : j < n * 4 := by
        have := (List.getElem?_eq_some_iff.1 hu).1
        rw [opCells_len, hol] at this
        exact this
      obtain ⟨k, i, hk, hi, rfl⟩ : ∃ k i, k < n ∧ i < 4 ∧ j = k * 4 + i := ⟨j / 4, j % 4, by omega, by omega, by omega⟩
      have hok : os[k]? = some (os[k]'(by omega)) := List.getElem?_eq_getElem _
      obtain ⟨e0, e1, e2, e3⟩ := hq k _ hok
      rw [opCells_at os k i _ hok hi] at hu
      obtain rfl | rfl | rfl | rfl : i = 0 ∨ i = 1 ∨ i = 2 ∨ i = 3 := by omega
      · injection hu with hu; rw [← hu]; exact e0
      · injection hu with hu; rw [← hu]; exact e1
      · injection hu with hu; rw [← hu]; exact e2
      · injection hu with hu; rw [← hu]; exact e3
end
end Go.Proofs.YtelnnlfbfbbnaaaDoor
