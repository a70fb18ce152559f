/-
  Rows that may begin inside their block: cut at the front, appended to. append(s, make([]T, n)...).
-/
import Derived.Test.YteflnnlihblpgaaDoorRow
import Derived.Test.YteflnnlihblpgaaDoorOrd
import Derived.ArgAppend
namespace Go.Proofs.YteflnnlihblpgaaDoor
set_option maxRecDepth 100000
open Go.RowKit
set_option linter.unusedVariables false
/-- The slice '.slice A n c' is in a block of the call's own, from 'base' on; its elements are the cells xs. -/
def OwnA (w : World) (base : Nat) (e : TypeId) (size : Nat) (A : Option Addr) (n c : Nat) (xs : List Value) : Prop :=
  xs.length = n * size ∧ ((A = none ∧ n = 0 ∧ c = 0) ∨ ∃ (g o : Nat) (cur : Array Value), A = some ⟨g, o, none⟩ ∧ base ≤ g ∧ w.heap[g]? = some (.cells cur e (0, 0)) ∧ n ≤ c ∧ c ≤ maxLen ∧ o + c * size ≤ cur.size ∧ ∀ j u, xs[j]? = some u → cur[o + j]? = some u)
section
variable {w w' : World} {base n c size : Nat} {e : TypeId} {A : Option Addr} {xs : List Value}
theorem OwnA.nil_ : OwnA w base e size none 0 0 [] := ⟨by simp, .inl ⟨rfl, rfl, rfl⟩⟩
theorem OwnA.lt_at (h : OwnA w base e size A n c xs) {a : Addr} (ha : A = some a) : a.block < w.heap.size ∧ base ≤ a.block := by
  rcases h.2 with ⟨h1, _⟩ | ⟨g, o, cur, h1, hb, hg, _⟩
  · rw [ha] at h1; cases h1
  · rw [ha] at h1
    injection h1 with h1
    subst h1
    exact ⟨(Array.getElem?_eq_some_iff.1 hg).1, hb⟩
theorem OwnA.rd (h : OwnA w base e size A n c xs) : Rd w size A n xs := by
  refine ⟨h.1, fun hn => ?_⟩
  rcases h.2 with ⟨_, h0, _⟩ | ⟨g, o, cur, h1, hb, hg, _, _, _, hx⟩
  · omega
  · refine ⟨_, h1, (Array.getElem?_eq_some_iff.1 hg).1, fun j u hu => ?_⟩
    have e1 : (⟨g, o, none⟩ : Addr).add j = ⟨g, o + j, none⟩ := by unfold Addr.add; split <;> simp_all
    rw [e1, cell_of_row _ _ _ _ _ _ hg]
    exact hx j u hu
theorem OwnA.fr {P : Nat → Prop} (h : OwnA w base e size A n c xs) (hf : Fr w w' P) (hne : ∀ a, A = some a → ¬ P a.block) : OwnA w' base e size A n c xs := by
  refine ⟨h.1, ?_⟩
  rcases h.2 with h1 | ⟨g, o, cur, h1, hb, hg, rest⟩
  · exact .inl h1
  · exact .inr ⟨g, o, cur, h1, hb, (hf.block g (Array.getElem?_eq_some_iff.1 hg).1 (hne _ h1)).trans hg, rest⟩
theorem OwnA.ext (h : OwnA w base e size A n c xs) (hx : Ext w w') : OwnA w' base e size A n c xs := h.fr (Fr.of_ext hx (fun _ => False)) (fun _ _ h => h)
theorem OwnA.cap_le (h : OwnA w base e size A n c xs) : n ≤ c := by
  rcases h.2 with ⟨_, h1, h2⟩ | ⟨g, o, cur, _, _, _, h1, _⟩ <;> omega
theorem OwnA.tail (h : OwnA w base e size A n c xs) {k : Nat} (hk : k ≤ n) : OwnA w base e size (if c = k then A else A.map (·.add (k * size))) (n - k) (c - k) (xs.drop (k * size)) := by
  refine ⟨by rw [List.length_drop, h.1, Nat.sub_mul], ?_⟩
  rcases h.2 with ⟨rfl, rfl, rfl⟩ | ⟨g, o, cur, rfl, hb, hg, hnc, hcm, hs, hx⟩
  · exact .inl ⟨by split <;> rfl, by omega, by omega⟩
  · by_cases e1 : c = k
    · rw [if_pos e1]
      exact .inr ⟨g, o, cur, rfl, hb, hg, by omega, by omega, by rw [show c - k = 0 by omega]; omega, fun j u hu => by
        rw [List.getElem?_drop] at hu
        have := (List.getElem?_eq_some_iff.1 hu).1
        rw [h.1, show n = k by omega] at this
        omega⟩
    · rw [if_neg e1]
      have e2 : (⟨g, o, none⟩ : Addr).add (k * size) = ⟨g, o + k * size, none⟩ := by unfold Addr.add; split <;> simp_all
      have e3 : (c - k) * size + k * size = c * size := by rw [← Nat.add_mul]; congr 1; have := h.cap_le; omega
      exact .inr ⟨g, o + k * size, cur, by rw [Option.map_some, e2], hb, hg, by omega, by omega, by omega, fun j u hu => by
        rw [List.getElem?_drop] at hu
        rw [Nat.add_assoc]
        exact hx _ u hu⟩
/-- What a block holds behind a run of stores. -/
theorem cells_of_stores {g : Nat} {e : TypeId} : ∀ (vs : List Value) (p : Nat) {w : World} {cur : Array Value}, w.heap[g]? = some (.cells cur e (0, 0)) →
    ∃ cur', (w.setCells g p vs).heap[g]? = some (.cells cur' e (0, 0)) ∧ cur'.size = cur.size ∧ (∀ j, j < p → cur'[j]? = cur[j]?) ∧ ∀ j u, vs[j]? = some u → p + j < cur.size → cur'[p + j]? = some u
  | [], p, w, cur, h => ⟨cur, h, rfl, fun _ _ => rfl, fun j u hu => by simp at hu⟩
  | v :: vs, p, w, cur, h => by
    obtain ⟨cur', h1, h2, h3, h4⟩ := cells_of_stores vs (p + 1) (heap_setCell_same w g p _ _ v h)
    refine ⟨cur', h1, by rw [h2]; simp, fun j hj => by rw [h3 j (by omega), Array.getElem?_setIfInBounds_ne (by omega)], fun j u hu hl => ?_⟩
    cases j with
    | zero =>
      simp at hu
      subst hu
      rw [Nat.add_zero, h3 p (by omega)]
      rw [Array.getElem?_setIfInBounds_self_of_lt (by omega)]
    | succ j =>
      have := h4 j u (by simpa using hu) (by simp; omega)
      rw [← this]
      congr 1
      omega
theorem OwnA.app {P : Program} {t : TypeId} {bytes : Nat} {z : Value} (E : Elt P t e size bytes z) (ty : TypeId) (hown : OwnA w base e size A n c xs) {B : Option Addr} {m : Nat} (d : Nat) {news : List Value} (hr : Rd w size B m news) (h1 : ∀ u ∈ news, u.oneCell' = true) (hm0 : 0 < m)
    (hm : n + m ≤ 9223372036854775807) (hfit : n + m ≤ c ∨ (n + m) * bytes ≤ 225000000000000 ∧ bytes ≤ 100000) (hbase : base ≤ w.heap.size) :
    ∃ A' c' w', (Builtin.append_ #[t, t] ty #[.slice A n c, .slice B m d]).run P w = .ok (.slice A' (n + m) c') w' ∧ OwnA w' base e size A' (n + m) c' (xs ++ news) ∧ Grows w w' A ∧ (A' = A ∨ A' = some ⟨w.heap.size, 0, none⟩) := by
  obtain ⟨i, hi, hz, hs, hby⟩ := info_parts E.info
  have ht := E.under
  obtain ⟨ad, rfl, _, hcell⟩ := hr.2 hm0
  have hl : news.length = m * i.size := by rw [hs]; exact hr.1
  have hlen : (xs ++ news).length = (n + m) * size := by rw [List.length_append, hown.1, hr.1, Nat.add_mul]
  have grown : ∀ (old : Nat), old < n + m → ∀ (row : Option Nat),
      OwnA (w.drew.alloc (.cells (xs.toArray ++ news.toArray ++ Builtin.zeroCells z.cells (grownCap w (n + m) old e - (n + m))) e)) base e size (some ⟨w.heap.size, 0, none⟩) (n + m) (grownCap w (n + m) old e) (xs ++ news) ∧
      w.grownBy (w.drew.alloc (.cells (xs.toArray ++ news.toArray ++ Builtin.zeroCells z.cells (grownCap w (n + m) old e - (n + m))) e)) row := by
    intro old ho row
    have hge := grownCap_ge w (n + m) old e
    have hcm : grownCap w (n + m) old e ≤ maxLen := grownCap_le_maxLen w (n + m) old e (by simp [maxLen]; omega)
    refine ⟨⟨hlen, .inr ⟨w.heap.size, 0, _, rfl, hbase, heap_alloc_new w.drew _, hge, hcm, ?_, fun j u hu => ?_⟩⟩, ⟨rfl, rfl, rfl, by simp, fun k hk _ => Below.heap_alloc w.drew _ k hk⟩⟩
    · simp only [Array.size_append, List.size_toArray, size_zeroCells, E.cells, hown.1, hr.1, ← Nat.add_mul]
      rw [Nat.zero_add, show n + m + (grownCap w (n + m) old e - (n + m)) = grownCap w (n + m) old e by omega]
      exact Nat.le_refl _
    · have hj := (List.getElem?_eq_some_iff.1 hu).1
      rw [Nat.zero_add, Array.getElem?_append_left (by simp at hj ⊢; omega)]
      simpa using hu
  rcases hown.2 with ⟨rfl, rfl, rfl⟩ | ⟨g, o, cur, rfl, hbg, hg, hnc, hcm, hcs, hx⟩
  · have hxn : xs = [] := List.eq_nil_of_length_eq_zero (by simpa using hown.1)
    subst hxn
    have h48 : m * i.bytes ≤ 281474976710656 := by
      rcases hfit with h | ⟨h, _⟩
      · omega
      · rw [hby]; simp only [Nat.zero_add] at h; omega
    have hrun := run_append_nil (P := P) w t ty e i z ht hi hz ad m d news hl hcell (by omega) (by omega) h48
    have hgr := grown 0 (by omega) none
    simp only [Nat.zero_add, List.nil_append, Array.empty_append] at hgr ⊢
    exact ⟨_, _, _, hrun, hgr.1, hgr.2, .inr rfl⟩
  · by_cases hroom : n + m ≤ c
    · have hfit' : o + n * size + news.length ≤ cur.size := by
        have h2 := Nat.mul_le_mul_right size hroom
        rw [Nat.add_mul] at h2
        rw [hr.1]
        omega
      have hrun := run_append_room_cells (P := P) w t ty e i ht hi g o n c ad m d news hl hcell h1 hroom
        (fun j hj => by rw [hs, cell_of_row _ _ _ _ _ _ hg, Array.getElem?_eq_getElem (by omega)]; rfl) (fun j hj => by simp only [World.frozen?, hg]; simp)
      rw [hs] at hrun
      obtain ⟨cur', k1, k2, k3, k4⟩ := cells_of_stores news (o + n * size) hg
      have ff := Fr.setCells (g := g) news (o + n * size) w
      refine ⟨_, _, _, hrun, ⟨hlen, .inr ⟨g, o, cur', rfl, hbg, k1, hroom, hcm, by omega, fun j u hu => ?_⟩⟩, ⟨ff.os, ff.tape, ff.output, ff.size, fun k hk hne => ff.block k hk (fun e => hne (by rw [e]; rfl))⟩, .inl rfl⟩
      rcases Nat.lt_or_ge j xs.length with hj | hj
      · rw [List.getElem?_append_left hj] at hu
        have hj2 := hj
        rw [hown.1] at hj2
        rw [k3 _ (by omega)]
        exact hx j u hu
      · rw [List.getElem?_append_right hj] at hu
        have hjl := (List.getElem?_eq_some_iff.1 hu).1
        have hxl := hown.1
        have h5 := k4 (j - xs.length) u hu (by omega)
        rw [← h5]
        congr 1
        omega
    · have hf : Builtin.nextslicecap (n + m) c * i.bytes ≤ 281474976710656 := by
        rcases hfit with h | ⟨h, h'⟩
        · exact absurd h hroom
        · rw [hby]; exact fits_mul (by omega) h h'
      have holds : ∀ j u, xs[j]? = some u → w.cell? ((⟨g, o, none⟩ : Addr).add j) = some u := fun j u hu => by
        have e1 : (⟨g, o, none⟩ : Addr).add j = ⟨g, o + j, none⟩ := by unfold Addr.add; split <;> simp_all
        rw [e1, cell_of_row _ _ _ _ _ _ hg]
        exact hx j u hu
      have hrun := run_append_grow (P := P) w t ty e i z ht hi hz ⟨g, o, none⟩ n c xs (by rw [hs]; exact hown.1) holds ad m d news hl hcell (by omega) (by omega) hf
      have hgr := grown c (by omega) (some g)
      exact ⟨_, _, _, hrun, hgr.1, hgr.2, .inr rfl⟩
/-- append(s, make([]T, m)...), s a row of the call's own. -/
theorem run_app_zeros {P : Program} {t tn : TypeId} {bytes : Nat} {z : Value} {k kn : IntKind} (E : Elt P t e size bytes z) (htn : P.underlying tn = some (.int kn)) (ty : TypeId) {g : Nat} (hown : Own w base e size (some ⟨g, 0, none⟩) n c xs) {m : Nat} (hm0 : 0 < m) (hz1 : ∀ u ∈ (Builtin.zeroCells z.cells m).toList, u.oneCell' = true)
    (hm : n + m ≤ 9223372036854775807) (hfit : (n + m) * bytes ≤ 225000000000000 ∧ bytes ≤ 100000) (hbase : base ≤ w.heap.size) :
    ∃ A' c' w', (Builtin.append_ #[t, tn] ty #[.slice (some ⟨g, 0, none⟩) n c, .int k (m : Int)]).run P w = .ok (.slice A' (n + m) c') w' ∧ Own w' base e size A' (n + m) c' (xs ++ (Builtin.zeroCells z.cells m).toList) ∧ Grows w w' (some ⟨g, 0, none⟩) ∧ (A' = some ⟨g, 0, none⟩ ∨ A' = some ⟨w.heap.size, 0, none⟩) := by
  obtain ⟨i, hi, hz, hs, hby⟩ := info_parts E.info
  have ht := E.under
  have hpos := E.pos
  have hw : IntKind.i64.wrap (m : Int) = m := by rw [IntKind.wrap_i64]; omega
  have hneg : ¬ ((m : Int) < 0) := by omega
  have hmn : m ≠ 0 := by omega
  have hns : ¬ (m * i.size = 0) := by rw [hs]; exact Nat.mul_ne_zero hmn (by omega)
  have hnews : (Builtin.zeroCells z.cells m).toList.length = m * size := by simp [size_zeroCells, E.cells]
  have hmb : m * bytes ≤ 225000000000000 := Nat.le_trans (Nat.mul_le_mul_right _ (by omega)) hfit.1
  have h48i : ¬ (281474976710656 < (m : Int) * (i.bytes : Int)) := by
    rw [← Int.natCast_mul, hby]
    omega
  have hlen : (xs ++ (Builtin.zeroCells z.cells m).toList).length = (n + m) * size := by rw [List.length_append, hown.1, hnews, Nat.add_mul]
  obtain ⟨cur, hg, hnc, hcs⟩ := hown.capd
  have hcm : c ≤ maxLen := by
    rcases hown.2 with ⟨h', _⟩ | ⟨g', cap, cur', h', _, _, _, h5, _⟩
    · cases h'
    · injection h' with _ _ h3; omega
  by_cases hroom : n + m ≤ c
  · have hfit' : n * size + (Builtin.zeroCells z.cells m).toList.length ≤ cur.size := by
      have h2 := Nat.mul_le_mul_right size hroom
      rw [Nat.add_mul] at h2
      rw [hnews]
      omega
    have hst := run_storeCells_cells (P := P) g (n * size) (Builtin.zeroCells z.cells m).toList 0 w (fun j hj => by rw [Nat.add_zero, cell_of_row _ _ _ _ _ _ hg, Array.getElem?_eq_getElem (by omega)]; rfl) (fun j hj => by simp only [World.frozen?, hg]; simp) hz1
    simp only [Nat.add_zero] at hst
    obtain ⟨cur', k1, k2, k3, k4⟩ := cells_of_stores (Builtin.zeroCells z.cells m).toList (n * size) hg
    have ff := Fr.setCells (g := g) (Builtin.zeroCells z.cells m).toList (n * size) w
    have hbg := hown.base_le g rfl
    refine ⟨some ⟨g, 0, none⟩, c, _, ?_, ⟨hlen, .inr ⟨g, c, cur', rfl, hbg, k1, hroom, hcm, by rw [k2, hcs], ?_⟩⟩, ⟨ff.os, ff.tape, ff.output, ff.size, fun k hk hne => ff.block k hk (fun e => hne (by rw [e]; rfl))⟩, .inl rfl⟩
    · have e0 : (⟨g, 0, none⟩ : Addr).add (n * size) = ⟨g, n * size, none⟩ := by unfold Addr.add; split <;> simp_all
      simp [Builtin.append_, run_underlying ht, run_underlying htn, sizeOf, typeInfo, zeroValue, hi, hz, hs, asInt, asIntOf, hw, hneg, hmn, h48i, hroom, e0, hst]
      intro h0
      exact absurd h0 (Nat.mul_ne_zero hmn (by omega))
    · apply List.ext_getElem?
      intro j
      rw [List.getElem?_take]
      split
      · rename_i hj
        rcases Nat.lt_or_ge j xs.length with hj2 | hj2
        · rw [List.getElem?_append_left hj2]
          have h6 := hown.1
          have h7 : w.cell? ((⟨g, 0, none⟩ : Addr).add j) = some (xs[j]) := World.ownsRow.cells (g := g) hown rfl j _ (List.getElem?_eq_getElem hj2)
          have e1 : (⟨g, 0, none⟩ : Addr).add j = ⟨g, j, none⟩ := by unfold Addr.add; split <;> simp_all
          rw [e1, cell_of_row _ _ _ _ _ _ hg] at h7
          rw [Array.getElem?_toList, k3 j (by omega), h7, List.getElem?_eq_getElem hj2]
        · rw [List.getElem?_append_right hj2]
          have h6 := hown.1
          have hjl : j - xs.length < (Builtin.zeroCells z.cells m).toList.length := by
            rw [hnews]
            rw [Nat.add_mul] at hj
            omega
          have h8 := k4 (j - xs.length) _ (List.getElem?_eq_getElem hjl) (by omega)
          rw [Array.getElem?_toList, List.getElem?_eq_getElem hjl, ← h8]
          congr 1
          omega
      · rename_i hj
        rw [List.getElem?_eq_none (by omega)]
  · have hf : Builtin.nextslicecap (n + m) c * i.bytes ≤ 281474976710656 := by rw [hby]; exact fits_mul (by omega) hfit.1 hfit.2
    have h63' : ¬ (9223372036854775807 < ((n : Int) + (m : Int))) := by omega
    have h48' : ¬ (281474976710656 < Builtin.nextslicecap (n + m) c * i.bytes) := by omega
    have hfo := run_firstCells_some (P := P) w.drew i.size n ⟨g, 0, none⟩ n c xs (by rw [hs]; exact hown.1) (by simpa using World.ownsRow.cells (g := g) hown rfl)
    have hge := grownCap_ge w (n + m) c e
    have hcm2 : grownCap w (n + m) c e ≤ maxLen := grownCap_le_maxLen w (n + m) c e (by simp [maxLen]; omega)
    refine ⟨some ⟨w.heap.size, 0, none⟩, grownCap w (n + m) c e, w.drew.alloc (.cells (xs.toArray ++ Builtin.zeroCells z.cells m ++ Builtin.zeroCells z.cells (grownCap w (n + m) c e - (n + m))) e), ?_, ⟨hlen, .inr ⟨w.heap.size, _, _, rfl, hbase, heap_alloc_new w.drew _, hge, hcm2, ?_, ?_⟩⟩, ⟨rfl, rfl, rfl, by simp, fun k hk _ => Below.heap_alloc w.drew _ k hk⟩, .inr rfl⟩
    · simp [Builtin.append_, run_underlying ht, run_underlying htn, sizeOf, typeInfo, zeroValue, hi, hz, asInt, asIntOf, hw, hneg, hmn, hns, h48i, hroom, h63', h48', Question.forced, hfo, newRow, grownCap]
      try
        congr 2
        apply Array.ext'
        simp [List.append_assoc]
    · simp only [Array.size_append, List.size_toArray, size_zeroCells, E.cells, hown.1, ← Nat.add_mul]
      congr 1
      omega
    · simp only [Array.toList_append, List.append_assoc]
      rw [← List.append_assoc, ← hlen]
      exact List.take_left
theorem run_slice_at {P : Program} {t : TypeId} {bytes : Nat} {z : Value} (E : Elt P t e size bytes z) (A : Option Addr) (n c : Nat) (k : IntKind) (j : Nat) (h1 : j ≤ n) {X : Option Addr} (hX : (if c = j then A else A.map (·.add (j * size))) = X) (w : World) :
    (Instr.slice t (.slice A n c) (some (.int k (j : Int))) none none).run P w = .ok (.slice X (n - j) (c - j)) w := by
  obtain ⟨i, hi, hz, hs, hby⟩ := info_parts E.info
  subst hX
  simp [Instr.slice, run_underlying E.under, Instr.sliceBounds, run_sliceBound, sizeOf, typeInfo, hi, h1, hs]
/-- append to such a row, as it comes up in a region. -/
theorem oper_appA {P : Program} {t : TypeId} {bytes : Nat} {z : Value} {o : Oper} {a : Act} {K : Act → World → Prop} {Q : Exit → Act → World → Prop} (E : Elt P t e size bytes z) (hown : OwnA w base e size A n c xs) {B : Option Addr} {m d : Nat} {news : List Value} (hr : Rd w size B m news) (h1 : ∀ u ∈ news, u.oneCell' = true) (hm0 : 0 < m)
    (hm : n + m ≤ 9223372036854775807) (hfit : n + m ≤ c ∨ (n + m) * bytes ≤ 225000000000000 ∧ bytes ≤ 100000) (hbase : base ≤ w.heap.size)
    (s x : Operand) (ho : o.op = .call { callee := .builtin .append, args := #[s, x], argTypes := #[t, t] })
    (hs : a.eval s = .slice A n c) (hx : a.eval x = .slice B m d)
    (hk : ∀ A' c' w', OwnA w' base e size A' (n + m) c' (xs ++ news) → Grows w w' A → (A' = A ∨ A' = some ⟨w.heap.size, 0, none⟩) → K (a.put o.dst (.slice A' (n + m) c')) w') :
    Oper.wp P o a w K Q := by
  obtain ⟨A', c', w', hrun, h2, h3, h4⟩ := hown.app E o.type d hr h1 hm0 hm hfit hbase
  unfold Oper.wp execOp
  simp only [ho, resolve, invoke, builtin, Sem.run_bind, Sem.run_pure, Result.andThen_ok, List.map_toArray, List.map_cons, List.map_nil, hs, hx, hrun]
  exact hk A' c' w' h2 h3 h4
end
end Go.Proofs.YteflnnlihblpgaaDoor
