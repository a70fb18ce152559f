/-
  A script of calls that came in: each call's fields.
-/
import Derived.Test.YtelnnlfbfbbnaaaDoorROpen
import Derived.Test.YtelnnlfbfbbnaaaDoorOpen
import Derived.Test.YtelnnlfbfbbnaaaDoorBulk
import Derived.Deep.Slices
import Derived.Deep.Fields
import Derived.ChangeSame
namespace Go.Proofs.YtelnnlfbfbbnaaaDoor
open Go.ChangeShapes Go.WideShapes Go.Deep Go.RowKit
section
variable {H : Type} {enc : TypeId × Value → H} {P : Program} {w : World} {base : Nat} {spare : Nat → Bool} {held : Bool}
/-- An argument that is a slice of structs of one-cell fields, opened to its cells. -/
theorem open_slice_fields {t e : TypeId} {fs : Array Field} {fuel : Nat} {cs : List Value} {x : DataW H × List MemPlace} (ht : P.underlying t = some (.slice e)) (he : P.underlying e = some (.struct fs))
    (hone : oneCellFields P fs = true) (hC : P.cellsOf e = fs.size) (h : DataW.trod enc P w base spare held fuel t cs = some x) :
    (cs = [.slice none 0 0] ∧ x = (.nil, [])) ∨
    ∃ (a : Addr) (len cap m : Nat) (D : Nat → DataW H) (Pl : Nat → List MemPlace), cs = [.slice (some a) len cap] ∧ base ≤ a.block ∧ len ≤ cap ∧ cap ≤ maxLen ∧ m = (if spare a.block then cap else len) ∧
      x = (.slice ((List.range len).map D) ((List.range (m - len)).map fun j => D (len + j)), MemPlace.row a (m * fs.size) ++ (List.range m).flatMap Pl) ∧
      ∀ i, i < m → ∃ (ys : List (DataW H × List MemPlace)) (n : Nat), D i = .agg (ys.map (·.1)) ∧ Pl i = ys.flatMap (·.2) ∧ ys.length = fs.size ∧
        ∀ (j : Nat) (f : Field), fs[j]? = some f → ∃ (v : Value) (y : DataW H × List MemPlace), w.cell? (a.add (i * fs.size + j)) = some v ∧ ys[j]? = some y ∧ DataW.trod enc P w base spare held n f.type [v] = some y := by
  rcases open_slice ht h with h0 | ⟨a, len, cap, m, n, D, Pl, hcs, hb, hl, hm, hmm, hx, hi⟩
  · exact .inl h0
  · refine .inr ⟨a, len, cap, m, D, Pl, hcs, hb, hl, hm, hmm, by rw [hC] at hx; exact hx, fun i him => ?_⟩
    obtain ⟨cs', hc, ht'⟩ := hi i him
    rw [hC] at hc
    obtain ⟨ys, n', hn', hy, hlen, hyl, hf⟩ := DataW.trod_struct he ht'
    obtain ⟨_, hcl, hat⟩ := World.cells?_some hc
    simp only [Prod.mk.injEq] at hy
    refine ⟨ys, n', hy.1, hy.2, hyl, fun j f hj => ?_⟩
    obtain ⟨ho, hk⟩ := hone_of hone j f hj
    have hjl : j < fs.size := (Array.getElem?_eq_some_iff.1 hj).1
    have hcell := hat j hjl
    have hv : cs'[j]? = some (cs'[j]'(by omega)) := List.getElem?_eq_getElem (by omega)
    have h1 := hf j f hj
    rw [ho, hk] at h1
    have hone' : (cs'.drop j).take 1 = [cs'[j]'(by omega)] := by
      rw [List.drop_eq_getElem_cons (by omega)]
      rfl
    rw [hone'] at h1
    have hys : ys[j]? = some (ys[j]'(by omega)) := List.getElem?_eq_getElem (by omega)
    refine ⟨_, _, ?_, hys, h1.trans hys⟩
    rw [← Go.Deep.add_add, hcell, hv]
/-- A cell that holds a slice of bytes. -/
theorem cell_bytes {t e : TypeId} {fuel : Nat} {v : Value} {y : DataW H × List MemPlace} (ht : P.underlying t = some (.slice e)) (he : P.underlying e = some (.int .u8)) (hc : P.cellsOf e = 1) (h : DataW.trod enc P w base (fun _ => true) held fuel t [v] = some y) :
    ∃ (a : Option Addr) (n c : Nat) (l : List Nat), v = .slice a n c ∧ n ≤ c ∧ Rd w 1 a n (u8s l) ∧ (∀ x ∈ l, x < 256) ∧ c + 1 ≤ Rows.uptoBulk y.1 := by
  rcases open_ints ht he hc h with ⟨hcs, hx⟩ | ⟨x, l, c', zs, hcs, _, hl, hm, hz, hx, hcell, hwz⟩
  · simp at hcs
    subst hcs
    refine ⟨none, 0, 0, [], rfl, Nat.le_refl _, Rd.nil_, by simp, ?_⟩
    rw [hx]
    exact bulk_one _
  · simp at hcs
    subst hcs
    simp only [if_true] at hz
    have hwf : ∀ z ∈ zs, 0 ≤ z ∧ z < 256 := fun z hzm => wf_u8b (hwz z hzm)
    have e1 : u8s ((zs.take l).map Int.toNat) = (zs.take l).map (Value.int .u8) := by
      rw [u8s, List.map_map]
      refine List.map_congr_left fun z hzm => ?_
      have := hwf z (List.mem_of_mem_take hzm)
      simp only [Function.comp, Int.toNat_of_nonneg this.1]
    refine ⟨some x, l, c', (zs.take l).map Int.toNat, rfl, hl, ?_, ?_, ?_⟩
    · rw [e1]
      refine ⟨by simp; omega, fun hn => ⟨x, rfl, ?_, ?_⟩⟩
      · have h0 := hcell 0 (by omega)
        have h1 : (x.add 0).block = x.block := add_block _ _
        rw [← h1]
        refine Nat.lt_of_not_le fun hge => ?_
        simp [World.cell?, Array.getElem?_eq_none hge] at h0
      · intro j u hu
        rw [List.getElem?_map] at hu
        cases hj : (zs.take l)[j]? with
        | none => rw [hj] at hu; cases hu
        | some y =>
          rw [hj] at hu
          injection hu with hu
          subst hu
          rw [List.getElem?_take] at hj
          split at hj
          · rw [hcell j (by omega), List.getD, hj]; rfl
          · cases hj
    · intro z hzm
      obtain ⟨y, hy, rfl⟩ := List.mem_map.1 hzm
      have := hwf y (List.mem_of_mem_take hy)
      omega
    · rw [hx]
      refine bulk_slice (c := c') (.inr ⟨_, _, rfl, ?_⟩)
      simp [lits]
      omega
end
/-- One call of a script: its fields' cells. -/
structure OpAt (w : World) (ad : Addr) (i : Nat) (K Q N : Int) (A : Option Addr) (n c : Nat) (l : List Nat) : Prop where
  k0 : w.cell? (ad.add (i * 4)) = some (.int .i64 K)
  k1 : w.cell? (ad.add (i * 4 + 1)) = some (.int .i64 Q)
  k2 : w.cell? (ad.add (i * 4 + 2)) = some (.int .i64 N)
  k3 : w.cell? (ad.add (i * 4 + 3)) = some (.slice A n c)
  iK : -9223372036854775808 ≤ K ∧ K ≤ 9223372036854775807
  iQ : -9223372036854775808 ≤ Q ∧ Q ≤ 9223372036854775807
  iN : -9223372036854775808 ≤ N ∧ N ≤ 9223372036854775807
  le : n ≤ c
  small : c ≤ 1048576
  rd : Rd w 1 A n (u8s l)
  byte : ∀ x ∈ l, x < 256
/-- A script that reads. -/
def Script (w : World) (A : Option Addr) (len : Nat) : Prop := ∀ i, i < len → ∃ ad K Q N B n c l, A = some ad ∧ OpAt w ad i K Q N B n c l
theorem block_of_cell {w : World} {a : Addr} {k : Nat} {v : Value} (h : w.cell? (a.add k) = some v) : a.block < w.heap.size := by
  have h1 : (a.add k).block = a.block := add_block _ _
  rw [← h1]
  refine Nat.lt_of_not_le fun hge => ?_
  simp [World.cell?, Array.getElem?_eq_none hge] at h
theorem OpAt.ext {w w' : World} {ad : Addr} {i : Nat} {K Q N : Int} {A : Option Addr} {n c : Nat} {l : List Nat} (h : OpAt w ad i K Q N A n c l) (hx : Ext w w') : OpAt w' ad i K Q N A n c l := by
  have hb := block_of_cell h.k1
  have cc : ∀ k, w'.cell? (ad.add k) = w.cell? (ad.add k) := fun k => hx.cell (by rw [add_block]; exact hb)
  exact ⟨(cc _).trans h.k0, (cc _).trans h.k1, (cc _).trans h.k2, (cc _).trans h.k3, h.iK, h.iQ, h.iN, h.le, h.small, h.rd.ext hx, h.byte⟩
theorem Script.ext {w w' : World} {A : Option Addr} {len : Nat} (h : Script w A len) (hx : Ext w w') : Script w' A len := fun i hi => by
  obtain ⟨ad, K, Q, N, B, n, c, l, e, ho⟩ := h i hi
  exact ⟨ad, K, Q, N, B, n, c, l, e, ho.ext hx⟩
theorem oneOp : Tryd.prog.cellsOf 38 = 4 := by kernel_rfl
theorem oneU8 : Tryd.prog.cellsOf 5 = 1 := by kernel_rfl
theorem bulk_range {H : Type} (D : Nat → DataW H) (m n : Nat) (h : ∀ i, i < n → m ≤ Rows.uptoBulk (D i)) : m * n ≤ Rows.uptoBulkAll ((List.range n).map D) := by
  induction n with
  | zero => simp [Rows.uptoBulkAll]
  | succ n ih =>
    have key : ∀ (l : List (DataW H)) (x : DataW H), Rows.uptoBulkAll (l ++ [x]) = Rows.uptoBulkAll l + Rows.uptoBulk x := by
      intro l x
      induction l with
      | nil => simp [Rows.uptoBulkAll]
      | cons y l ih => simp only [List.cons_append, Rows.uptoBulkAll]; omega
    rw [List.range_succ, List.map_append, List.map_cons, List.map_nil, key]
    have := ih (fun i hi => h i (by omega))
    have := h n (by omega)
    rw [Nat.mul_succ]
    omega
theorem open_script {H : Type} {enc : TypeId × Value → H} {W : World} {base : Nat} {v : Value} {d : DataW H} {p : List MemPlace}
    (hv : Value.okWide Tryd.prog W .any base 33 v) (h : DataW.Trod enc Tryd.prog W 0 (fun _ => true) true 33 v d p) (hb : Rows.uptoBulk d ≤ 1048576) :
    ∃ (a : Option Addr) (n c : Nat), v = .slice a n c ∧ n ≤ c ∧ n ≤ 209715 ∧ Script W a n := by
  obtain ⟨a, n, c, rfl⟩ := okWide_slice Tryd.underlying33 hv
  obtain ⟨fuel, hf⟩ := h
  rcases open_slice_fields Tryd.underlying33 Tryd.underlying38 (by kernel_rfl) oneOp hf with ⟨hcs, hx⟩ | ⟨x, len, cap, m, D, Pl, hcs, _, hl, _, hm, hx, hi⟩
  · simp [Value.cells] at hcs
    obtain ⟨rfl, rfl, rfl⟩ := hcs
    exact ⟨none, 0, 0, rfl, Nat.le_refl _, by omega, fun i hi => by omega⟩
  · simp [Value.cells] at hcs
    obtain ⟨rfl, rfl, rfl⟩ := hcs
    simp only [if_true] at hm
    subst hm
    injection hx with hx _
    have hD : ∀ i, i < m → ∃ K Q N B nb cb l, (cb ≤ 1048576 → OpAt W x i K Q N B nb cb l) ∧ cb + 5 ≤ Rows.uptoBulk (D i) := fun i him => by
      obtain ⟨ys, k, hDi, _, hyl, hf⟩ := hi i him
      obtain ⟨v0, y0, g0, e0, t0⟩ := hf 0 _ rfl
      obtain ⟨v1, y1, g1, e1, t1⟩ := hf 1 _ rfl
      obtain ⟨v2, y2, g2, e2, t2⟩ := hf 2 _ rfl
      obtain ⟨v3, y3, g3, e3, t3⟩ := hf 3 _ rfl
      obtain ⟨K, c0, _, w0⟩ := DataW.trod_int Tryd.underlying3 t0
      obtain ⟨Q, c1, _, w1⟩ := DataW.trod_int Tryd.underlying3 t1
      obtain ⟨N, c2, _, w2⟩ := DataW.trod_int Tryd.underlying3 t2
      simp only [List.cons.injEq, and_true] at c0 c1 c2
      subst c0 c1 c2
      obtain ⟨B, nb, cb, l, rfl, h1, h2, h3, h4⟩ := cell_bytes Tryd.underlying26 Tryd.underlying5 oneU8 t3
      refine ⟨K, Q, N, B, nb, cb, l, fun hs => ⟨g0, g1, g2, g3, wf_i64b w0, wf_i64b w1, wf_i64b w2, h1, hs, h2, h3⟩, ?_⟩
      match ys, hyl, e0, e1, e2, e3 with
      | [z0, z1, z2, z3], _, e0, e1, e2, e3 =>
        simp only [List.getElem?_cons_zero, List.getElem?_cons_succ, Option.some.injEq] at e0 e1 e2 e3
        subst e0 e1 e2 e3
        rw [hDi]
        have b0 := bulk_one z0.1
        have b1 := bulk_one z1.1
        have b2 := bulk_one z2.1
        simp only [List.map_cons, List.map_nil, Rows.uptoBulk, Rows.uptoBulkAll]
        omega
    have hcap : 5 * n ≤ 1048576 := by
      have h1 := bulk_range D 5 n (fun i hil => by obtain ⟨_, _, _, _, _, _, _, _, h⟩ := hD i (by omega); omega)
      rw [hx] at hb
      simp only [Rows.uptoBulk] at hb
      omega
    refine ⟨some x, n, _, rfl, hl, by omega, fun i hil => ?_⟩
    obtain ⟨K, Q, N, B, nb, cb, l, h1, h2⟩ := hD i (by omega)
    refine ⟨x, K, Q, N, B, nb, cb, l, rfl, h1 ?_⟩
    have h3 : Rows.uptoBulk (D i) ≤ Rows.uptoBulkAll ((List.range n).map D) := bulk_mem (List.mem_map.2 ⟨i, List.mem_range.2 hil, rfl⟩)
    rw [hx] at hb
    simp only [Rows.uptoBulk] at hb
    omega
end Go.Proofs.YtelnnlfbfbbnaaaDoor
