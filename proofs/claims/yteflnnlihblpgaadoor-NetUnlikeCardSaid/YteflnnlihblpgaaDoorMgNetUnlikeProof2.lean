/-
  Arguments opened: a pair of messages with a place and a byte.
-/
import Derived.Test.YteflnnlihblpgaaDoorMgNetUnlikeProof1
import Derived.Deep.Slices
import Derived.Deep.Fields
import Derived.ChangeSame
namespace Go.Proofs.YteflnnlihblpgaaDoor
set_option maxRecDepth 100000
open Go.ChangeShapes Go.WideShapes Go.Deep Go.RowKit Go.ChangeAt
set_option linter.unusedVariables false
section
variable {H : Type} {enc : TypeId × Value → H} {P : Program} {w : World} {base : Nat} {spare : Nat → Bool} {held : Bool}
/-- An argument that is a slice of structs of one-cell fields, opened to its cells. -/
theorem open_slice_fields {t e : TypeId} {fs : Array Field} {fuel : Nat} {cs : List Value} {x : DataW H × List MemPlace} (ht : P.underlying t = some (.slice e)) (he : P.underlying e = some (.struct fs))
    (hone : oneCellFields P fs = true) (hC : P.cellsOf e = fs.size) (h : DataW.trod enc P w base spare held fuel t cs = some x) :
    (cs = [.slice none 0 0] ∧ x = (.nil, [])) ∨
    ∃ (a : Addr) (len cap m : Nat) (D : Nat → DataW H) (Pl : Nat → List MemPlace), cs = [.slice (some a) len cap] ∧ base ≤ a.block ∧ len ≤ cap ∧ cap ≤ maxLen ∧ m = (if spare a.block then cap else len) ∧
      x = (.slice ((List.range len).map D) ((List.range (m - len)).map fun j => D (len + j)), MemPlace.row a (m * fs.size) ++ (List.range m).flatMap Pl) ∧
      ∀ i, i < m → ∃ (ys : List (DataW H × List MemPlace)) (n : Nat), D i = .agg (ys.map (·.1)) ∧ Pl i = ys.flatMap (·.2) ∧ ys.length = fs.size ∧
        ∀ (j : Nat) (f : Field), fs[j]? = some f → ∃ (v : Value) (y : DataW H × List MemPlace), w.cell? (a.add (i * fs.size + j)) = some v ∧ ys[j]? = some y ∧ DataW.trod enc P w base spare held n f.type [v] = some y := by
  rcases open_slice ht h with h0 | ⟨a, len, cap, m, n, D, Pl, hcs, hb, hl, hm, hmm, hx, hi⟩
  · exact .inl h0
  · refine .inr ⟨a, len, cap, m, D, Pl, hcs, hb, hl, hm, hmm, by rw [hC] at hx; exact hx, fun i him => ?_⟩
    obtain ⟨cs', hc, ht'⟩ := hi i him
    rw [hC] at hc
    obtain ⟨ys, n', hn', hy, hlen, hyl, hf⟩ := DataW.trod_struct he ht'
    obtain ⟨_, hcl, hat⟩ := World.cells?_some hc
    simp only [Prod.mk.injEq] at hy
    refine ⟨ys, n', hy.1, hy.2, hyl, fun j f hj => ?_⟩
    obtain ⟨ho, hk⟩ := hone_of hone j f hj
    have hjl : j < fs.size := (Array.getElem?_eq_some_iff.1 hj).1
    have hcell := hat j hjl
    have hv : cs'[j]? = some (cs'[j]'(by omega)) := List.getElem?_eq_getElem (by omega)
    have h1 := hf j f hj
    rw [ho, hk] at h1
    have hone' : (cs'.drop j).take 1 = [cs'[j]'(by omega)] := by
      rw [List.drop_eq_getElem_cons (by omega)]
      rfl
    rw [hone'] at h1
    have hys : ys[j]? = some (ys[j]'(by omega)) := List.getElem?_eq_getElem (by omega)
    refine ⟨_, _, ?_, hys, h1.trans hys⟩
    rw [← Go.Deep.add_add, hcell, hv]
end
theorem block_of_cell {w : World} {a : Addr} {k : Nat} {v : Value} (h : w.cell? (a.add k) = some v) : a.block < w.heap.size := by
  have h1 : (a.add k).block = a.block := add_block _ _
  rw [← h1]
  refine Nat.lt_of_not_le fun hge => ?_
  simp [World.cell?, Array.getElem?_eq_none hge] at h
theorem okWide_arr {P : Program} {w : World} {r : Reach} {base : Nat} {v : Value} {t : TypeId} {n : Nat} {e : TypeId} (ht : P.underlying t = some (.array n e)) (h : Value.okWide P w r base t v) : ∃ cs, v = .agg cs ∧ cs.size = P.cellsOf t := by
  simp only [Value.okWide, ht] at h
  obtain ⟨cs, h1, h2, _⟩ := h
  exact ⟨cs, h1, h2⟩
theorem weightsAll_in {H : Type} {P : Program} {e : TypeId} : ∀ {l : List (DataW H)} {d : DataW H}, d ∈ l → ∀ n ∈ d.weights P e, n ∈ DataW.weightsAll P e l
  | d' :: r, d, hd, n, hn => by
    simp only [DataW.weightsAll, List.mem_append]
    rcases List.mem_cons.1 hd with rfl | h
    · exact Or.inl hn
    · exact Or.inr (weightsAll_in h n hn)
section
variable {H : Type} {enc : TypeId × Value → H} {P : Program} {W : World} {base : Nat} {v : Value} {d : DataW H} {p : List MemPlace} {held : Bool}
/-- A cell that holds a slice of bytes, with its size told. -/
theorem cell_row8 {t e : TypeId} {fuel : Nat} {y : DataW H × List MemPlace} (ht : P.underlying t = some (.slice e)) (he : P.underlying e = some (.int .u8)) (hc : P.cellsOf e = 1) (hb : P.bytesOf e = 1) (h : DataW.trod enc P W base (fun _ => true) held fuel t [v] = some y)
    (hs : ∀ n ∈ y.1.weights P t, n ≤ reachBytes) :
    ∃ (a : Option Addr) (n c : Nat) (l : List Nat), v = .slice a n c ∧ n ≤ c ∧ c ≤ 140737488351232 ∧ Rd W 1 a n (u8s l) ∧ (∀ x ∈ l, x < 256) := by
  rcases open_ints ht he hc h with ⟨hcs, hx⟩ | ⟨x, l, c', zs, hcs, _, hl, hm, hz, hx, hcell, hwz⟩
  · simp at hcs
    subst hcs
    exact ⟨none, 0, 0, [], rfl, Nat.le_refl _, by omega, Rd.nil_, by simp⟩
  · simp at hcs
    subst hcs
    simp only [if_true] at hz
    have hwf : ∀ z ∈ zs, 0 ≤ z ∧ z < 256 := fun z hzm => wf_u8b (hwz z hzm)
    have e1 : u8s ((zs.take l).map Int.toNat) = (zs.take l).map (Value.int .u8) := by
      rw [u8s, List.map_map]
      refine List.map_congr_left fun z hzm => ?_
      have := hwf z (List.mem_of_mem_take hzm)
      simp only [Function.comp, Int.toNat_of_nonneg this.1]
    refine ⟨some x, l, c', (zs.take l).map Int.toNat, rfl, hl, ?_, ?_, ?_⟩
    · have := hs ((_ : Nat) * P.bytesOf e) (by rw [hx]; simp only [DataW.weights, ht]; exact List.mem_cons_self)
      rw [hb] at this
      simp [lits, reachBytes] at this
      omega
    · rw [e1]
      refine ⟨by simp; omega, fun hn => ⟨x, rfl, ?_, ?_⟩⟩
      · have h0 := hcell 0 (by omega)
        have h1 : (x.add 0).block = x.block := add_block _ _
        rw [← h1]
        refine Nat.lt_of_not_le fun hge => ?_
        simp [World.cell?, Array.getElem?_eq_none hge] at h0
      · intro j u hu
        rw [List.getElem?_map] at hu
        cases hj : (zs.take l)[j]? with
        | none => rw [hj] at hu; cases hu
        | some y =>
          rw [hj] at hu
          injection hu with hu
          subst hu
          rw [List.getElem?_take] at hj
          split at hj
          · rw [hcell j (by omega), List.getD, hj]; rfl
          · cases hj
    · intro z hzm
      obtain ⟨y, hy, rfl⟩ := List.mem_map.1 hzm
      have := hwf y (List.mem_of_mem_take hy)
      omega
end
/-- A list out of what each index has. -/
theorem all_at {α : Type} {Q : Nat → α → Prop} (n : Nat) (h : ∀ i, i < n → ∃ x, Q i x) : ∃ l : List α, l.length = n ∧ ∀ i x, l[i]? = some x → Q i x := by
  induction n with
  | zero => exact ⟨[], rfl, fun i x h => by simp at h⟩
  | succ n ih =>
    obtain ⟨l, hl, hq⟩ := ih (fun i hi => h i (by omega))
    obtain ⟨y, hy⟩ := h n (by omega)
    refine ⟨l ++ [y], by simp [hl], fun i x hx => ?_⟩
    rcases Nat.lt_or_ge i n with hi | hi
    · rw [List.getElem?_append_left (by omega)] at hx
      exact hq i x hx
    · rw [List.getElem?_append_right (by omega), hl] at hx
      obtain ⟨j, hj⟩ : ∃ j, i - n = j := ⟨_, rfl⟩
      rw [hj] at hx
      cases j with
      | zero =>
        simp at hx
        subst hx
        obtain rfl : i = n := by omega
        exact hy
      | succ j => simp at hx
/-- The weight of a slice's own cells. -/
theorem weight_slice {H : Type} {P : Program} {t e : TypeId} {d : DataW H} {elems spare : List (DataW H)} {b : Nat} (hd : d = .slice elems spare) (hu : P.underlying t = some (.slice e)) (hb : P.bytesOf e = b) (hs : ∀ n ∈ d.weights P t, n ≤ reachBytes) : (elems.length + spare.length) * b ≤ 140737488351232 := by
  have h := hs ((elems.length + spare.length) * P.bytesOf e) (by rw [hd]; simp only [DataW.weights, hu]; exact List.mem_cons_self)
  rw [hb] at h
  simp [reachBytes] at h
  exact h
theorem weight_elem {H : Type} {P : Program} {t e : TypeId} {d x : DataW H} {elems spare : List (DataW H)} (hd : d = .slice elems spare) (hu : P.underlying t = some (.slice e)) (hs : ∀ n ∈ d.weights P t, n ≤ reachBytes) (hx : x ∈ elems) : ∀ n ∈ x.weights P e, n ≤ reachBytes := fun n hn =>
  hs n (by
    rw [hd]
    simp only [DataW.weights, hu, List.mem_cons, List.mem_append]
    exact .inr (.inl (weightsAll_in hx n hn)))
theorem weight_field {H : Type} {P : Program} {t : TypeId} {fs : Array Field} {ds : List (DataW H)} {j : Nat} {f : Field} {x : DataW H} (hu : P.underlying t = some (.struct fs)) (hs : ∀ n ∈ (DataW.agg ds : DataW H).weights P t, n ≤ reachBytes) (hf : fs[j]? = some f) (hx : ds[j]? = some x) : ∀ n ∈ x.weights P f.type, n ≤ reachBytes := fun n hn =>
  hs n (by
    simp only [DataW.weights, hu]
    exact DataW.weights_mem_each (j := j) (by rw [List.getElem?_map, Array.getElem?_toList, hf]; rfl) hx n hn)
/-- Rows whose cells lie where they should. -/
theorem rd_rows {w : World} {ad : Addr} {n size : Nat} {rs : List (List Value)} (he : Even size rs) (hl : rs.length = n) (hsz : 0 < size) (h : ∀ (k i : Nat) (r : List Value) (u : Value), rs[k]? = some r → r[i]? = some u → w.cell? (ad.add (k * size + i)) = some u) : Rd w size (some ad) n rs.flatten := by
  refine ⟨by rw [he.len, hl], fun hn => ⟨ad, rfl, ?_, fun j u hu => ?_⟩⟩
  · have h0 : rs[0]? = some (rs[0]'(by omega)) := List.getElem?_eq_getElem _
    have hr := he _ (List.mem_of_getElem? h0)
    have := h 0 0 _ ((rs[0]'(by omega))[0]'(by omega)) h0 (List.getElem?_eq_getElem _)
    exact block_of_cell this
  · have hj : j < n * size := by
      have := (List.getElem?_eq_some_iff.1 hu).1
      rw [he.len, hl] at this
      exact this
    have hk : j / size < n := Nat.div_lt_of_lt_mul (by rw [Nat.mul_comm]; exact hj)
    have hi : j % size < size := Nat.mod_lt _ hsz
    have e : j / size * size + j % size = j := by rw [Nat.mul_comm]; exact Nat.div_add_mod j size
    have hrk : rs[j / size]? = some (rs[j / size]'(by omega)) := List.getElem?_eq_getElem _
    have h1 := he.at_ hrk hi
    rw [e, hu] at h1
    have := h _ _ _ u hrk h1.symm
    rwa [e] at this
end Go.Proofs.YteflnnlihblpgaaDoor
namespace Go.Proofs.YteflnnlihblpgaaDoor
set_option maxRecDepth 100000
open Go.ChangeShapes Go.WideShapes Go.Deep Go.RowKit Go.ChangeAt
set_option linter.unusedVariables false
theorem oneT4 : Tryd.prog.cellsOf 47 = 4 := by kernel_rfl
theorem bytesT4 : Tryd.prog.bytesOf 47 = 32 := by kernel_rfl
theorem oneE10 : Tryd.prog.cellsOf 29 = 10 := by kernel_rfl
theorem bytesE10 : Tryd.prog.bytesOf 29 = 96 := by kernel_rfl
theorem oneO8 : Tryd.prog.cellsOf 27 = 8 := by kernel_rfl
theorem oneS3 : Tryd.prog.cellsOf 24 = 3 := by kernel_rfl
theorem oneCi : Tryd.prog.cellsOf 3 = 1 := by kernel_rfl
theorem oneCt : Tryd.prog.cellsOf 25 = 1 := by kernel_rfl
section
variable {H : Type} {enc : TypeId × Value → H} {W : World} {base : Nat} {v : Value} {d : DataW H} {p : List MemPlace} {held : Bool}
theorem cell_tasks {fuel : Nat} {y : DataW H × List MemPlace} (h : DataW.trod enc Tryd.prog W 0 (fun _ => true) held fuel 25 [v] = some y) (hs : ∀ n ∈ y.1.weights Tryd.prog 25, n ≤ reachBytes) :
    ∃ (a : Option Addr) (n c : Nat) (ts : List Tk), v = .slice a n c ∧ n ≤ c ∧ n * 32 ≤ 140737488355328 ∧ Rd W 4 a n (trows ts).flatten := by
  rcases open_slice_fields Tryd.underlying25 Tryd.underlying47 (by kernel_rfl) oneT4 h with ⟨hcs, hx⟩ | ⟨x, len, cap, m, D, Pl, hcs, _, hl, _, hm, hx, hi⟩
  · simp at hcs
    subst hcs
    exact ⟨none, 0, 0, [], rfl, Nat.le_refl _, by omega, Rd.nil_⟩
  · simp at hcs
    subst hcs
    simp only [if_true] at hm
    subst hm
    have hsz := weight_slice (congrArg Prod.fst hx) Tryd.underlying25 bytesT4 hs
    simp only [List.length_map, List.length_range] at hsz
    obtain ⟨os, hol, hq⟩ := all_at (Q := fun i (o : Tk) => W.cell? (x.add (i * 4 + 0)) = some (.int .i64 o.C) ∧ W.cell? (x.add (i * 4 + 1)) = some (.int .i64 o.P) ∧ W.cell? (x.add (i * 4 + 2)) = some (.int .i64 o.D) ∧ W.cell? (x.add (i * 4 + 3)) = some (.int .i64 o.S)) len (fun i hil => by
      obtain ⟨ys, k, hDi, _, hyl, hf⟩ := hi i (by omega)
      obtain ⟨v0, y0, g0, e0, t0⟩ := hf 0 _ rfl
      obtain ⟨v1, y1, g1, e1, t1⟩ := hf 1 _ rfl
      obtain ⟨v2, y2, g2, e2, t2⟩ := hf 2 _ rfl
      obtain ⟨v3, y3, g3, e3, t3⟩ := hf 3 _ rfl
      obtain ⟨C, c0, _, w0⟩ := DataW.trod_int Tryd.underlying3 t0
      obtain ⟨P, c1, _, w1⟩ := DataW.trod_int Tryd.underlying3 t1
      obtain ⟨D, c2, _, w2⟩ := DataW.trod_int Tryd.underlying3 t2
      obtain ⟨S, c3, _, w3⟩ := DataW.trod_int Tryd.underlying3 t3
      simp only [List.cons.injEq, and_true] at c0 c1 c2 c3
      subst c0 c1 c2 c3
      exact ⟨⟨C, P, D, S⟩, g0, g1, g2, g3⟩)
    refine ⟨some x, len, _, os, rfl, hl, by omega, rd_rows (trows_even os) (by rw [trows_len, hol]) (by omega) (fun k i r u hk hu => ?_)⟩
    simp only [trows, List.getElem?_map, Option.map_eq_some_iff] at hk
    obtain ⟨o, ho, rfl⟩ := hk
    obtain ⟨q0, q1, q2, q3⟩ := hq k o ho
    have hi6 : i < 4 := by have := (List.getElem?_eq_some_iff.1 hu).1; exact this
    obtain rfl | rfl | rfl | rfl : i = 0 ∨ i = 1 ∨ i = 2 ∨ i = 3 := by omega
    · injection hu with hu; rw [← hu]; exact q0
    · injection hu with hu; rw [← hu]; exact q1
    · injection hu with hu; rw [← hu]; exact q2
    · injection hu with hu; rw [← hu]; exact q3
theorem cell_int {fuel : Nat} {y : DataW H × List MemPlace} (h : DataW.trod enc Tryd.prog W 0 (fun _ => true) held fuel 3 [v] = some y) : ∃ x : Int, v = .int .i64 x := by
  obtain ⟨x, e, _, _⟩ := DataW.trod_int Tryd.underlying3 h
  simp only [List.cons.injEq, and_true] at e
  exact ⟨x, e⟩
theorem cell_entry {fuel : Nat} {cs : List Value} {y : DataW H × List MemPlace} (h : DataW.trod enc Tryd.prog W 0 (fun _ => true) held fuel 29 cs = some y) (hs : ∀ n ∈ y.1.weights Tryd.prog 29, n ≤ reachBytes) :
    ∃ s : EnS, cs = s.vals ∧ s.Lies W := by
  obtain ⟨xs, n, _, hx, hl, hlen, hg⟩ := DataW.trod_struct Tryd.underlying29 h
  have hd : y.1 = .agg (xs.map (·.1)) := congrArg Prod.fst hx
  match cs, hl.trans oneE10 with
  | [c0, c1, c2, c3, c4, c5, c6, c7, c8, c9], _ =>
    obtain ⟨y0, y1, y2, rfl⟩ : ∃ y0 y1 y2, xs = [y0, y1, y2] := by
      match xs, hlen with
      | [a, b, c], _ => exact ⟨a, b, c, rfl⟩
    have g0 : DataW.trod enc Tryd.prog W 0 (fun _ => true) held n 3 [c0] = some y0 := by have h := hg 0 _ rfl; simpa [oneCi] using h
    have g1 : DataW.trod enc Tryd.prog W 0 (fun _ => true) held n 3 [c1] = some y1 := by have h := hg 1 _ rfl; simpa [oneCi] using h
    have g2 : DataW.trod enc Tryd.prog W 0 (fun _ => true) held n 27 [c2, c3, c4, c5, c6, c7, c8, c9] = some y2 := by have h := hg 2 _ rfl; simpa [oneO8] using h
    rw [hd] at hs
    have w2 := weight_field (x := y2.1) Tryd.underlying29 hs (j := 2) rfl rfl
    obtain ⟨xs2, n2, _, hx2, _, hlen2, hg2⟩ := DataW.trod_struct Tryd.underlying27 g2
    have hd2 : y2.1 = .agg (xs2.map (·.1)) := congrArg Prod.fst hx2
    obtain ⟨z0, z1, z2, z3, z4, z5, rfl⟩ : ∃ z0 z1 z2 z3 z4 z5, xs2 = [z0, z1, z2, z3, z4, z5] := by
      match xs2, hlen2 with
      | [a, b, c, d, e, f], _ => exact ⟨a, b, c, d, e, f, rfl⟩
    have k0 : DataW.trod enc Tryd.prog W 0 (fun _ => true) held n2 3 [c2] = some z0 := by have h := hg2 0 _ rfl; simpa [oneCi] using h
    have k1 : DataW.trod enc Tryd.prog W 0 (fun _ => true) held n2 3 [c3] = some z1 := by have h := hg2 1 _ rfl; simpa [oneCi] using h
    have k2 : DataW.trod enc Tryd.prog W 0 (fun _ => true) held n2 24 [c4, c5, c6] = some z2 := by have h := hg2 2 _ rfl; simpa [oneS3] using h
    have k3 : DataW.trod enc Tryd.prog W 0 (fun _ => true) held n2 3 [c7] = some z3 := by have h := hg2 3 _ rfl; simpa [oneCi] using h
    have k4 : DataW.trod enc Tryd.prog W 0 (fun _ => true) held n2 25 [c8] = some z4 := by have h := hg2 4 _ rfl; simpa [oneCt] using h
    have k5 : DataW.trod enc Tryd.prog W 0 (fun _ => true) held n2 3 [c9] = some z5 := by have h := hg2 5 _ rfl; simpa [oneCi] using h
    rw [hd2] at w2
    have w4 := weight_field (x := z4.1) Tryd.underlying27 w2 (j := 4) rfl rfl
    obtain ⟨xs3, n3, _, hx3, _, hlen3, hg3⟩ := DataW.trod_struct Tryd.underlying24 k2
    obtain ⟨q0, q1, q2, rfl⟩ : ∃ z0 z1 z2, xs3 = [z0, z1, z2] := by
      match xs3, hlen3 with
      | [a, b, c], _ => exact ⟨a, b, c, rfl⟩
    have m0 : DataW.trod enc Tryd.prog W 0 (fun _ => true) held n3 3 [c4] = some q0 := by have h := hg3 0 _ rfl; simpa [oneCi] using h
    have m1 : DataW.trod enc Tryd.prog W 0 (fun _ => true) held n3 3 [c5] = some q1 := by have h := hg3 1 _ rfl; simpa [oneCi] using h
    have m2 : DataW.trod enc Tryd.prog W 0 (fun _ => true) held n3 3 [c6] = some q2 := by have h := hg3 2 _ rfl; simpa [oneCi] using h
    obtain ⟨x0, rfl⟩ := cell_int g0
    obtain ⟨x1, rfl⟩ := cell_int g1
    obtain ⟨x2, rfl⟩ := cell_int k0
    obtain ⟨x3, rfl⟩ := cell_int k1
    obtain ⟨x4, rfl⟩ := cell_int m0
    obtain ⟨x5, rfl⟩ := cell_int m1
    obtain ⟨x6, rfl⟩ := cell_int m2
    obtain ⟨x7, rfl⟩ := cell_int k3
    obtain ⟨x9, rfl⟩ := cell_int k5
    obtain ⟨A, na, ca, ts, rfl, h1, h2, h3⟩ := cell_tasks k4 w4
    exact ⟨⟨⟨x0, x1, x2, x3, x4, x5, x6, x7, x9, ts⟩, A, na, ca⟩, rfl, h3, by show na ≤ _; omega, h1⟩
theorem open_entry (hv : Value.okWide Tryd.prog W .any base 29 v) (h : DataW.Trod enc Tryd.prog W 0 (fun _ => true) true 29 v d p) (hs : ∀ n ∈ d.weights Tryd.prog 29, n ≤ reachBytes) :
    ∃ (e : En) (A : Option Addr) (n c : Nat), v = .agg #[.int .i64 e.cl, .int .i64 e.nu, .int .i64 e.kd, .int .i64 e.id, .int .i64 e.sk, .int .i64 e.sq, .int .i64 e.st, .int .i64 e.pol, .slice A n c, .int .i64 e.at_] ∧ EnS.Lies ⟨e, A, n, c⟩ W := by
  obtain ⟨cs, rfl, hsz⟩ := okWide_struct Tryd.underlying29 hv
  obtain ⟨l⟩ := cs
  obtain ⟨fuel, hf⟩ := h
  have hf' : DataW.trod enc Tryd.prog W 0 (fun _ => true) true fuel 29 l = some (d, p) := by simpa [Value.cells] using hf
  obtain ⟨⟨e, A, n, c⟩, rfl, h2⟩ := cell_entry hf' hs
  exact ⟨e, A, n, c, rfl, h2⟩
theorem open_ledger (hv : Value.okWide Tryd.prog W .any base 22 v) (h : DataW.Trod enc Tryd.prog W 0 (fun _ => true) true 22 v d p) (hs : ∀ n ∈ d.weights Tryd.prog 22, n ≤ reachBytes) :
    ∃ (a : Option Addr) (n c : Nat) (ss : List EnS), v = .slice a n c ∧ n ≤ c ∧ n * 96 ≤ 140737488355328 ∧ Led W a n ss := by
  obtain ⟨a, n, c, rfl⟩ := okWide_slice Tryd.underlying22 hv
  obtain ⟨fuel, hf⟩ := h
  rcases open_slice Tryd.underlying22 hf with ⟨hcs, hx⟩ | ⟨x, len, cap, m, k, D, Pl, hcs, _, hl, _, hm, hx, hi⟩
  · simp [Value.cells] at hcs
    obtain ⟨rfl, rfl, rfl⟩ := hcs
    exact ⟨none, 0, 0, [], rfl, Nat.le_refl _, by omega, Led.nil_⟩
  · simp [Value.cells] at hcs
    obtain ⟨rfl, rfl, rfl⟩ := hcs
    simp only [if_true] at hm
    subst hm
    injection hx with hx _
    have hsz := weight_slice hx Tryd.underlying22 bytesE10 hs
    simp only [List.length_map, List.length_range] at hsz
    obtain ⟨ss, hsl, hq⟩ := all_at (Q := fun i (s : EnS) => (∀ (j : Nat) (u : Value), s.vals[j]? = some u → W.cell? (x.add (i * 10 + j)) = some u) ∧ s.Lies W) n (fun i hil => by
      obtain ⟨cs', hc, ht⟩ := hi i (by omega)
      rw [oneE10] at hc
      obtain ⟨_, hcl, hat⟩ := World.cells?_some hc
      obtain ⟨s, rfl, h2⟩ := cell_entry ht (weight_elem hx Tryd.underlying22 hs (List.mem_map.2 ⟨i, List.mem_range.2 hil, rfl⟩))
      refine ⟨s, fun j u hu => ?_, h2⟩
      have hj : j < 10 := (List.getElem?_eq_some_iff.1 hu).1
      have h3 := hat j hj
      rw [add_add'] at h3
      rw [h3]
      exact hu)
    refine ⟨some x, n, _, ss, rfl, hl, by omega, ⟨rd_rows (erows_even ss) (by rw [erows_len, hsl]) (by omega) (fun k i r u hk hu => ?_), fun s hsm => ?_⟩⟩
    · simp only [erows, List.getElem?_map, Option.map_eq_some_iff] at hk
      obtain ⟨s, ho, rfl⟩ := hk
      exact (hq k s ho).1 i u hu
    · obtain ⟨k, hk⟩ := List.getElem?_of_mem hsm
      exact (hq k s hk).2
end
end Go.Proofs.YteflnnlihblpgaaDoor
namespace Go.Proofs.YteflnnlihblpgaaDoor
set_option maxRecDepth 100000
open Go.ChangeShapes Go.WideShapes Go.Deep Go.RowKit Go.ChangeAt
set_option linter.unusedVariables false
theorem oneCl : Tryd.prog.cellsOf 22 = 1 := by kernel_rfl
theorem oneB2 : Tryd.prog.cellsOf 74 = 2 := by kernel_rfl
theorem oneM9 : Tryd.prog.cellsOf 76 = 9 := by kernel_rfl
section
variable {H : Type} {enc : TypeId × Value → H} {W : World} {base : Nat} {v : Value} {d : DataW H} {p : List MemPlace} {held : Bool}
theorem cell_ledger {fuel : Nat} (h : DataW.trod enc Tryd.prog W 0 (fun _ => true) held fuel 22 [v] = some (d, p)) (hs : ∀ n ∈ d.weights Tryd.prog 22, n ≤ reachBytes) :
    ∃ (a : Option Addr) (n c : Nat) (ss : List EnS), v = .slice a n c ∧ n ≤ c ∧ n * 96 ≤ 140737488355328 ∧ Led W a n ss := by
  rcases open_slice Tryd.underlying22 h with ⟨hcs, hx⟩ | ⟨x, len, cap, m, k, D, Pl, hcs, _, hl, _, hm, hx, hi⟩
  · simp at hcs
    subst hcs
    exact ⟨none, 0, 0, [], rfl, Nat.le_refl _, by omega, Led.nil_⟩
  · simp at hcs
    subst hcs
    simp only [if_true] at hm
    subst hm
    injection hx with hx _
    have hsz := weight_slice hx Tryd.underlying22 bytesE10 hs
    simp only [List.length_map, List.length_range] at hsz
    obtain ⟨ss, hsl, hq⟩ := all_at (Q := fun i (s : EnS) => (∀ (j : Nat) (u : Value), s.vals[j]? = some u → W.cell? (x.add (i * 10 + j)) = some u) ∧ s.Lies W) len (fun i hil => by
      obtain ⟨cs', hc, ht⟩ := hi i (by omega)
      rw [oneE10] at hc
      obtain ⟨_, hcl, hat⟩ := World.cells?_some hc
      obtain ⟨s, rfl, h2⟩ := cell_entry ht (weight_elem hx Tryd.underlying22 hs (List.mem_map.2 ⟨i, List.mem_range.2 hil, rfl⟩))
      refine ⟨s, fun j u hu => ?_, h2⟩
      have hj : j < 10 := (List.getElem?_eq_some_iff.1 hu).1
      have h3 := hat j hj
      rw [add_add'] at h3
      rw [h3]
      exact hu)
    refine ⟨some x, len, _, ss, rfl, hl, by omega, ⟨rd_rows (erows_even ss) (by rw [erows_len, hsl]) (by omega) (fun k i r u hk hu => ?_), fun s hsm => ?_⟩⟩
    · simp only [erows, List.getElem?_map, Option.map_eq_some_iff] at hk
      obtain ⟨s, ho, rfl⟩ := hk
      exact (hq k s ho).1 i u hu
    · obtain ⟨k, hk⟩ := List.getElem?_of_mem hsm
      exact (hq k s hk).2
theorem cell_ballot {fuel : Nat} {c0 c1 : Value} {y : DataW H × List MemPlace} (h : DataW.trod enc Tryd.prog W 0 (fun _ => true) held fuel 74 [c0, c1] = some y) : ∃ x0 x1 : Int, c0 = .int .i64 x0 ∧ c1 = .int .i64 x1 := by
  obtain ⟨xs, n, _, hx, _, hlen, hg⟩ := DataW.trod_struct Tryd.underlying74 h
  obtain ⟨z0, z1, rfl⟩ : ∃ z0 z1, xs = [z0, z1] := by
    match xs, hlen with
    | [a, b], _ => exact ⟨a, b, rfl⟩
  have m0 : DataW.trod enc Tryd.prog W 0 (fun _ => true) held n 3 [c0] = some z0 := by have h := hg 0 _ rfl; simpa [oneCi] using h
  have m1 : DataW.trod enc Tryd.prog W 0 (fun _ => true) held n 3 [c1] = some z1 := by have h := hg 1 _ rfl; simpa [oneCi] using h
  obtain ⟨x0, rfl⟩ := cell_int m0
  obtain ⟨x1, rfl⟩ := cell_int m1
  exact ⟨x0, x1, rfl, rfl⟩
theorem cell_message {fuel : Nat} {cs : List Value} {y : DataW H × List MemPlace} (h : DataW.trod enc Tryd.prog W 0 (fun _ => true) held fuel 76 cs = some y) (hs : ∀ n ∈ y.1.weights Tryd.prog 76, n ≤ reachBytes) :
    ∃ (m : Ms) (A : Option Addr) (n c : Nat) (ss : List EnS), cs = [.int .i64 m.kd, .int .i64 m.fr, .int .i64 m.tw, .int .i64 m.jb, .int .i64 m.br, .int .i64 m.bn, .int .i64 m.ar, .int .i64 m.an, .slice A n c] ∧ n ≤ c ∧ n * 96 ≤ 140737488355328 ∧ Led W A n ss := by
  obtain ⟨xs, n, _, hx, hl, hlen, hg⟩ := DataW.trod_struct Tryd.underlying76 h
  have hd : y.1 = .agg (xs.map (·.1)) := congrArg Prod.fst hx
  match cs, hl.trans oneM9 with
  | [c0, c1, c2, c3, c4, c5, c6, c7, c8], _ =>
    obtain ⟨y0, y1, y2, y3, y4, y5, y6, rfl⟩ : ∃ y0 y1 y2 y3 y4 y5 y6, xs = [y0, y1, y2, y3, y4, y5, y6] := by
      match xs, hlen with
      | [a, b, c, d, e, f, g], _ => exact ⟨a, b, c, d, e, f, g, rfl⟩
    have g0 : DataW.trod enc Tryd.prog W 0 (fun _ => true) held n 3 [c0] = some y0 := by have h := hg 0 _ rfl; simpa [oneCi] using h
    have g1 : DataW.trod enc Tryd.prog W 0 (fun _ => true) held n 3 [c1] = some y1 := by have h := hg 1 _ rfl; simpa [oneCi] using h
    have g2 : DataW.trod enc Tryd.prog W 0 (fun _ => true) held n 3 [c2] = some y2 := by have h := hg 2 _ rfl; simpa [oneCi] using h
    have g3 : DataW.trod enc Tryd.prog W 0 (fun _ => true) held n 3 [c3] = some y3 := by have h := hg 3 _ rfl; simpa [oneCi] using h
    have g4 : DataW.trod enc Tryd.prog W 0 (fun _ => true) held n 74 [c4, c5] = some y4 := by have h := hg 4 _ rfl; simpa [oneB2] using h
    have g5 : DataW.trod enc Tryd.prog W 0 (fun _ => true) held n 74 [c6, c7] = some y5 := by have h := hg 5 _ rfl; simpa [oneB2] using h
    have g6 : DataW.trod enc Tryd.prog W 0 (fun _ => true) held n 22 [c8] = some y6 := by have h := hg 6 _ rfl; simpa [oneCl] using h
    rw [hd] at hs
    have w6 := weight_field (x := y6.1) Tryd.underlying76 hs (j := 6) rfl rfl
    obtain ⟨x0, rfl⟩ := cell_int g0
    obtain ⟨x1, rfl⟩ := cell_int g1
    obtain ⟨x2, rfl⟩ := cell_int g2
    obtain ⟨x3, rfl⟩ := cell_int g3
    obtain ⟨x4, x5, rfl, rfl⟩ := cell_ballot g4
    obtain ⟨x6, x7, rfl, rfl⟩ := cell_ballot g5
    obtain ⟨A, na, ca, ss, rfl, h1, h2, h3⟩ := cell_ledger (d := y6.1) (p := y6.2) g6 w6
    exact ⟨⟨x0, x1, x2, x3, x4, x5, x6, x7⟩, A, na, ca, ss, rfl, h1, h2, h3⟩
theorem open_message (hv : Value.okWide Tryd.prog W .any base 76 v) (h : DataW.Trod enc Tryd.prog W 0 (fun _ => true) true 76 v d p) (hs : ∀ n ∈ d.weights Tryd.prog 76, n ≤ reachBytes) :
    ∃ (m : Ms) (A : Option Addr) (n c : Nat) (ss : List EnS), v = .agg #[.int .i64 m.kd, .int .i64 m.fr, .int .i64 m.tw, .int .i64 m.jb, .int .i64 m.br, .int .i64 m.bn, .int .i64 m.ar, .int .i64 m.an, .slice A n c] ∧ n ≤ c ∧ n * 96 ≤ 140737488355328 ∧ Led W A n ss := by
  obtain ⟨cs, rfl, hsz⟩ := okWide_struct Tryd.underlying76 hv
  obtain ⟨l⟩ := cs
  obtain ⟨fuel, hf⟩ := h
  have hf' : DataW.trod enc Tryd.prog W 0 (fun _ => true) true fuel 76 l = some (d, p) := by simpa [Value.cells] using hf
  obtain ⟨m, A, n, c, ss, rfl, h1, h2, h3⟩ := cell_message hf' hs
  exact ⟨m, A, n, c, ss, rfl, h1, h2, h3⟩
end
end Go.Proofs.YteflnnlihblpgaaDoor
namespace Go.Proofs.YteflnnlihblpgaaDoor
set_option maxRecDepth 100000
open Go.ChangeShapes Go.WideShapes Go.Deep Go.RowKit Go.ChangeAt
set_option linter.unusedVariables false
theorem oneP20 : Tryd.prog.cellsOf 87 = 20 := by kernel_rfl
theorem oneC8 : Tryd.prog.cellsOf 5 = 1 := by kernel_rfl
section
variable {H : Type} {enc : TypeId × Value → H} {W : World} {base : Nat} {v : Value} {d : DataW H} {p : List MemPlace} {held : Bool}
theorem open_pairm (hv : Value.okWide Tryd.prog W .any base 87 v) (h : DataW.Trod enc Tryd.prog W 0 (fun _ => true) true 87 v d p) (hs : ∀ n ∈ d.weights Tryd.prog 87, n ≤ reachBytes) :
    ∃ (m e : Ms) (A : Option Addr) (n c : Nat) (ss : List EnS) (B : Option Addr) (r q : Nat) (tt : List EnS) (x t : Int), v = .agg #[.int .i64 m.kd, .int .i64 m.fr, .int .i64 m.tw, .int .i64 m.jb, .int .i64 m.br, .int .i64 m.bn, .int .i64 m.ar, .int .i64 m.an, .slice A n c, .int .i64 e.kd, .int .i64 e.fr, .int .i64 e.tw, .int .i64 e.jb, .int .i64 e.br, .int .i64 e.bn, .int .i64 e.ar, .int .i64 e.an, .slice B r q, .int .i64 x, .int .u8 t] ∧ (n * 96 ≤ 140737488355328 ∧ r * 96 ≤ 140737488355328) ∧ Led W A n ss ∧ Led W B r tt ∧ (-9223372036854775808 ≤ x ∧ x ≤ 9223372036854775807) ∧ 0 ≤ t ∧ t < 256 := by
  obtain ⟨cs, rfl, hsz⟩ := okWide_struct Tryd.underlying87 hv
  obtain ⟨l⟩ := cs
  obtain ⟨fuel, hf⟩ := h
  have hf' : DataW.trod enc Tryd.prog W 0 (fun _ => true) true fuel 87 l = some (d, p) := by simpa [Value.cells] using hf
  obtain ⟨xs, n, _, hx, hl, hlen, hg⟩ := DataW.trod_struct Tryd.underlying87 hf'
  have hd : d = .agg (xs.map (·.1)) := congrArg Prod.fst hx
  match l, hl.trans oneP20 with
  | [c0, c1, c2, c3, c4, c5, c6, c7, c8, e0, e1, e2, e3, e4, e5, e6, e7, e8, a, b], _ =>
    obtain ⟨y0, y1, y2, y3, rfl⟩ : ∃ y0 y1 y2 y3, xs = [y0, y1, y2, y3] := by
      match xs, hlen with
      | [a, b, c, d], _ => exact ⟨a, b, c, d, rfl⟩
    have g0 : DataW.trod enc Tryd.prog W 0 (fun _ => true) true n 76 [c0, c1, c2, c3, c4, c5, c6, c7, c8] = some y0 := by have h := hg 0 _ rfl; simpa [oneM9] using h
    have g1 : DataW.trod enc Tryd.prog W 0 (fun _ => true) true n 76 [e0, e1, e2, e3, e4, e5, e6, e7, e8] = some y1 := by have h := hg 1 _ rfl; simpa [oneM9] using h
    have g2 : DataW.trod enc Tryd.prog W 0 (fun _ => true) true n 3 [a] = some y2 := by have h := hg 2 _ rfl; simpa [oneCi] using h
    have g3 : DataW.trod enc Tryd.prog W 0 (fun _ => true) true n 5 [b] = some y3 := by have h := hg 3 _ rfl; simpa [oneC8] using h
    rw [hd] at hs
    have w0 := weight_field (x := y0.1) Tryd.underlying87 hs (j := 0) rfl rfl
    have w1 := weight_field (x := y1.1) Tryd.underlying87 hs (j := 1) rfl rfl
    obtain ⟨m, A, n1, c1', ss, h1, _, h2, h3⟩ := cell_message g0 w0
    obtain ⟨e, B, r, q, tt, k1, _, k2, k3⟩ := cell_message g1 w1
    simp only [List.cons.injEq, and_true] at h1 k1
    obtain ⟨rfl, rfl, rfl, rfl, rfl, rfl, rfl, rfl, rfl⟩ := h1
    obtain ⟨rfl, rfl, rfl, rfl, rfl, rfl, rfl, rfl, rfl⟩ := k1
    obtain ⟨x, ex, _, wx⟩ := DataW.trod_int Tryd.underlying3 g2
    obtain ⟨t, et, _, wt⟩ := DataW.trod_int Tryd.underlying5 g3
    simp only [List.cons.injEq, and_true] at ex et
    subst ex et
    have bx := wf_i64b wx
    have bt := wf_u8b wt
    exact ⟨m, e, A, n1, c1', ss, B, r, q, tt, x, t, rfl, ⟨h2, k2⟩, h3, k3, ⟨by omega, by omega⟩, by omega, by omega⟩
end
end Go.Proofs.YteflnnlihblpgaaDoor
