/-
  Arguments opened: slices of structs of one-cell fields; a cell that holds a slice of bytes.
-/
import Derived.Test.YteflnnlihblpgaaDoorOpen
import Derived.Test.YteflnnlihblpgaaDoorRow
import Derived.Deep.Slices
import Derived.Deep.Fields
import Derived.ChangeSame
namespace Go.Proofs.YteflnnlihblpgaaDoor
set_option maxRecDepth 100000
open Go.ChangeShapes Go.WideShapes Go.Deep Go.RowKit Go.ChangeAt
set_option linter.unusedVariables false
section
variable {H : Type} {enc : TypeId × Value → H} {P : Program} {w : World} {base : Nat} {spare : Nat → Bool} {held : Bool}
/-- An argument that is a slice of structs of one-cell fields, opened to its cells. -/
theorem open_slice_fields {t e : TypeId} {fs : Array Field} {fuel : Nat} {cs : List Value} {x : DataW H × List MemPlace} (ht : P.underlying t = some (.slice e)) (he : P.underlying e = some (.struct fs))
    (hone : oneCellFields P fs = true) (hC : P.cellsOf e = fs.size) (h : DataW.trod enc P w base spare held fuel t cs = some x) :
    (cs = [.slice none 0 0] ∧ x = (.nil, [])) ∨
    ∃ (a : Addr) (len cap m : Nat) (D : Nat → DataW H) (Pl : Nat → List MemPlace), cs = [.slice (some a) len cap] ∧ base ≤ a.block ∧ len ≤ cap ∧ cap ≤ maxLen ∧ m = (if spare a.block then cap else len) ∧
      x = (.slice ((List.range len).map D) ((List.range (m - len)).map fun j => D (len + j)), MemPlace.row a (m * fs.size) ++ (List.range m).flatMap Pl) ∧
      ∀ i, i < m → ∃ (ys : List (DataW H × List MemPlace)) (n : Nat), D i = .agg (ys.map (·.1)) ∧ Pl i = ys.flatMap (·.2) ∧ ys.length = fs.size ∧
        ∀ (j : Nat) (f : Field), fs[j]? = some f → ∃ (v : Value) (y : DataW H × List MemPlace), w.cell? (a.add (i * fs.size + j)) = some v ∧ ys[j]? = some y ∧ DataW.trod enc P w base spare held n f.type [v] = some y := by
  rcases open_slice ht h with h0 | ⟨a, len, cap, m, n, D, Pl, hcs, hb, hl, hm, hmm, hx, hi⟩
  · exact .inl h0
  · refine .inr ⟨a, len, cap, m, D, Pl, hcs, hb, hl, hm, hmm, by rw [hC] at hx; exact hx, fun i him => ?_⟩
    obtain ⟨cs', hc, ht'⟩ := hi i him
    rw [hC] at hc
    obtain ⟨ys, n', hn', hy, hlen, hyl, hf⟩ := DataW.trod_struct he ht'
    obtain ⟨_, hcl, hat⟩ := World.cells?_some hc
    simp only [Prod.mk.injEq] at hy
    refine ⟨ys, n', hy.1, hy.2, hyl, fun j f hj => ?_⟩
    obtain ⟨ho, hk⟩ := hone_of hone j f hj
    have hjl : j < fs.size := (Array.getElem?_eq_some_iff.1 hj).1
    have hcell := hat j hjl
    have hv : cs'[j]? = some (cs'[j]'(by omega)) := List.getElem?_eq_getElem (by omega)
    have h1 := hf j f hj
    rw [ho, hk] at h1
    have hone' : (cs'.drop j).take 1 = [cs'[j]'(by omega)] := by
      rw [List.drop_eq_getElem_cons (by omega)]
      rfl
    rw [hone'] at h1
    have hys : ys[j]? = some (ys[j]'(by omega)) := List.getElem?_eq_getElem (by omega)
    refine ⟨_, _, ?_, hys, h1.trans hys⟩
    rw [← Go.Deep.add_add, hcell, hv]
end
theorem block_of_cell {w : World} {a : Addr} {k : Nat} {v : Value} (h : w.cell? (a.add k) = some v) : a.block < w.heap.size := by
  have h1 : (a.add k).block = a.block := add_block _ _
  rw [← h1]
  refine Nat.lt_of_not_le fun hge => ?_
  simp [World.cell?, Array.getElem?_eq_none hge] at h
theorem okWide_arr {P : Program} {w : World} {r : Reach} {base : Nat} {v : Value} {t : TypeId} {n : Nat} {e : TypeId} (ht : P.underlying t = some (.array n e)) (h : Value.okWide P w r base t v) : ∃ cs, v = .agg cs ∧ cs.size = P.cellsOf t := by
  simp only [Value.okWide, ht] at h
  obtain ⟨cs, h1, h2, _⟩ := h
  exact ⟨cs, h1, h2⟩
theorem weightsAll_in {H : Type} {P : Program} {e : TypeId} : ∀ {l : List (DataW H)} {d : DataW H}, d ∈ l → ∀ n ∈ d.weights P e, n ∈ DataW.weightsAll P e l
  | d' :: r, d, hd, n, hn => by
    simp only [DataW.weightsAll, List.mem_append]
    rcases List.mem_cons.1 hd with rfl | h
    · exact Or.inl hn
    · exact Or.inr (weightsAll_in h n hn)
section
variable {H : Type} {enc : TypeId × Value → H} {P : Program} {W : World} {base : Nat} {v : Value} {d : DataW H} {p : List MemPlace} {held : Bool}
/-- A cell that holds a slice of bytes, with its size told. -/
theorem cell_row8 {t e : TypeId} {fuel : Nat} {y : DataW H × List MemPlace} (ht : P.underlying t = some (.slice e)) (he : P.underlying e = some (.int .u8)) (hc : P.cellsOf e = 1) (hb : P.bytesOf e = 1) (h : DataW.trod enc P W base (fun _ => true) held fuel t [v] = some y)
    (hs : ∀ n ∈ y.1.weights P t, n ≤ reachBytes) :
    ∃ (a : Option Addr) (n c : Nat) (l : List Nat), v = .slice a n c ∧ n ≤ c ∧ c ≤ 140737488351232 ∧ Rd W 1 a n (u8s l) ∧ (∀ x ∈ l, x < 256) := by
  rcases open_ints ht he hc h with ⟨hcs, hx⟩ | ⟨x, l, c', zs, hcs, _, hl, hm, hz, hx, hcell, hwz⟩
  · simp at hcs
    subst hcs
    exact ⟨none, 0, 0, [], rfl, Nat.le_refl _, by omega, Rd.nil_, by simp⟩
  · simp at hcs
    subst hcs
    simp only [if_true] at hz
    have hwf : ∀ z ∈ zs, 0 ≤ z ∧ z < 256 := fun z hzm => wf_u8b (hwz z hzm)
    have e1 : u8s ((zs.take l).map Int.toNat) = (zs.take l).map (Value.int .u8) := by
      rw [u8s, List.map_map]
      refine List.map_congr_left fun z hzm => ?_
      have := hwf z (List.mem_of_mem_take hzm)
      simp only [Function.comp, Int.toNat_of_nonneg this.1]
    refine ⟨some x, l, c', (zs.take l).map Int.toNat, rfl, hl, ?_, ?_, ?_⟩
    · have := hs ((_ : Nat) * P.bytesOf e) (by rw [hx]; simp only [DataW.weights, ht]; exact List.mem_cons_self)
      rw [hb] at this
      simp [lits, reachBytes] at this
      omega
    · rw [e1]
      refine ⟨by simp; omega, fun hn => ⟨x, rfl, ?_, ?_⟩⟩
      · have h0 := hcell 0 (by omega)
        have h1 : (x.add 0).block = x.block := add_block _ _
        rw [← h1]
        refine Nat.lt_of_not_le fun hge => ?_
        simp [World.cell?, Array.getElem?_eq_none hge] at h0
      · intro j u hu
        rw [List.getElem?_map] at hu
        cases hj : (zs.take l)[j]? with
        | none => rw [hj] at hu; cases hu
        | some y =>
          rw [hj] at hu
          injection hu with hu
          subst hu
          rw [List.getElem?_take] at hj
          split at hj
          · rw [hcell j (by omega), List.getD, hj]; rfl
          · cases hj
    · intro z hzm
      obtain ⟨y, hy, rfl⟩ := List.mem_map.1 hzm
      have := hwf y (List.mem_of_mem_take hy)
      omega
end
/-- A list out of what each index has. -/
theorem all_at {α : Type} {Q : Nat → α → Prop} (n : Nat) (h : ∀ i, i < n → ∃ x, Q i x) : ∃ l : List α, l.length = n ∧ ∀ i x, l[i]? = some x → Q i x := by
  induction n with
  | zero => exact ⟨[], rfl, fun i x h => by simp at h⟩
  | succ n ih =>
    obtain ⟨l, hl, hq⟩ := ih (fun i hi => h i (by omega))
    obtain ⟨y, hy⟩ := h n (by omega)
    refine ⟨l ++ [y], by simp [hl], fun i x hx => ?_⟩
    rcases Nat.lt_or_ge i n with hi | hi
    · rw [List.getElem?_append_left (by omega)] at hx
      exact hq i x hx
    · rw [List.getElem?_append_right (by omega), hl] at hx
      obtain ⟨j, hj⟩ : ∃ j, i - n = j := ⟨_, rfl⟩
      rw [hj] at hx
      cases j with
      | zero =>
        simp at hx
        subst hx
        obtain rfl : i = n := by omega
        exact hy
      | succ j => simp at hx
/-- The weight of a slice's own cells. -/
theorem weight_slice {H : Type} {P : Program} {t e : TypeId} {d : DataW H} {elems spare : List (DataW H)} {b : Nat} (hd : d = .slice elems spare) (hu : P.underlying t = some (.slice e)) (hb : P.bytesOf e = b) (hs : ∀ n ∈ d.weights P t, n ≤ reachBytes) : (elems.length + spare.length) * b ≤ 140737488351232 := by
  have h := hs ((elems.length + spare.length) * P.bytesOf e) (by rw [hd]; simp only [DataW.weights, hu]; exact List.mem_cons_self)
  rw [hb] at h
  simp [reachBytes] at h
  exact h
theorem weight_elem {H : Type} {P : Program} {t e : TypeId} {d x : DataW H} {elems spare : List (DataW H)} (hd : d = .slice elems spare) (hu : P.underlying t = some (.slice e)) (hs : ∀ n ∈ d.weights P t, n ≤ reachBytes) (hx : x ∈ elems) : ∀ n ∈ x.weights P e, n ≤ reachBytes := fun n hn =>
  hs n (by
    rw [hd]
    simp only [DataW.weights, hu, List.mem_cons, List.mem_append]
    exact .inr (.inl (weightsAll_in hx n hn)))
theorem weight_field {H : Type} {P : Program} {t : TypeId} {fs : Array Field} {ds : List (DataW H)} {j : Nat} {f : Field} {x : DataW H} (hu : P.underlying t = some (.struct fs)) (hs : ∀ n ∈ (DataW.agg ds : DataW H).weights P t, n ≤ reachBytes) (hf : fs[j]? = some f) (hx : ds[j]? = some x) : ∀ n ∈ x.weights P f.type, n ≤ reachBytes := fun n hn =>
  hs n (by
    simp only [DataW.weights, hu]
    exact DataW.weights_mem_each (j := j) (by rw [List.getElem?_map, Array.getElem?_toList, hf]; rfl) hx n hn)
/-- Rows whose cells lie where they should. -/
theorem rd_rows {w : World} {ad : Addr} {n size : Nat} {rs : List (List Value)} (he : Even size rs) (hl : rs.length = n) (hsz : 0 < size) (h : ∀ (k i : Nat) (r : List Value) (u : Value), rs[k]? = some r → r[i]? = some u → w.cell? (ad.add (k * size + i)) = some u) : Rd w size (some ad) n rs.flatten := by
  refine ⟨by rw [he.len, hl], fun hn => ⟨ad, rfl, ?_, fun j u hu => ?_⟩⟩
  · have h0 : rs[0]? = some (rs[0]'(by omega)) := List.getElem?_eq_getElem _
    have hr := he _ (List.mem_of_getElem? h0)
    have := h 0 0 _ ((rs[0]'(by omega))[0]'(by omega)) h0 (List.getElem?_eq_getElem _)
    exact block_of_cell this
  · have hj : j < n * size := by
      have := (List.getElem?_eq_some_iff.1 hu).1
      rw [he.len, hl] at this
      exact this
    have hk : j / size < n := Nat.div_lt_of_lt_mul (by rw [Nat.mul_comm]; exact hj)
    have hi : j % size < size := Nat.mod_lt _ hsz
    have e : j / size * size + j % size = j := by rw [Nat.mul_comm]; exact Nat.div_add_mod j size
    have hrk : rs[j / size]? = some (rs[j / size]'(by omega)) := List.getElem?_eq_getElem _
    have h1 := he.at_ hrk hi
    rw [e, hu] at h1
    have := h _ _ _ u hrk h1.symm
    rwa [e] at this
end Go.Proofs.YteflnnlihblpgaaDoor
