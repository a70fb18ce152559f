/-
  Package order: the test of a task; a row of tasks tested, walked.
-/
import Derived.Test.YteflnnlihblpgaaDoorMgNetPutsProof0
import Derived.ArgAppend
import Derived.Deep.MidRow
import Derived.Test.YteflnnlihblpgaaDoorRows
import Derived.Stop.LaidErr
import Derived.LaidEql
import Derived.Stop.Joined
import Derived.Handy
import Derived.Deep.QuietTactic
import Derived.BigQuiet
import Derived.Deep.Cut
import Derived.Deep.RegionHeld3
import Derived.Deep.RegionLaw
import Derived.StillTailTactics
namespace Go.Proofs.YteflnnlihblpgaaDoor
set_option maxRecDepth 100000
open Go.RowKit
set_option linter.unusedVariables false
/-- The slice '.slice A n c' is in a block of the call's own, from 'base' on; its elements are the cells xs. -/
def OwnA (w : World) (base : Nat) (e : TypeId) (size : Nat) (A : Option Addr) (n c : Nat) (xs : List Value) : Prop :=
  xs.length = n * size ∧ ((A = none ∧ n = 0 ∧ c = 0) ∨ ∃ (g o : Nat) (cur : Array Value), A = some ⟨g, o, none⟩ ∧ base ≤ g ∧ w.heap[g]? = some (.cells cur e (0, 0)) ∧ n ≤ c ∧ c ≤ maxLen ∧ o + c * size ≤ cur.size ∧ ∀ j u, xs[j]? = some u → cur[o + j]? = some u)
section
variable {w w' : World} {base n c size : Nat} {e : TypeId} {A : Option Addr} {xs : List Value}
theorem OwnA.nil_ : OwnA w base e size none 0 0 [] := ⟨by simp, .inl ⟨rfl, rfl, rfl⟩⟩
theorem OwnA.lt_at (h : OwnA w base e size A n c xs) {a : Addr} (ha : A = some a) : a.block < w.heap.size ∧ base ≤ a.block := by
  rcases h.2 with ⟨h1, _⟩ | ⟨g, o, cur, h1, hb, hg, _⟩
  · rw [ha] at h1; cases h1
  · rw [ha] at h1
    injection h1 with h1
    subst h1
    exact ⟨(Array.getElem?_eq_some_iff.1 hg).1, hb⟩
theorem OwnA.rd (h : OwnA w base e size A n c xs) : Rd w size A n xs := by
  refine ⟨h.1, fun hn => ?_⟩
  rcases h.2 with ⟨_, h0, _⟩ | ⟨g, o, cur, h1, hb, hg, _, _, _, hx⟩
  · omega
  · refine ⟨_, h1, (Array.getElem?_eq_some_iff.1 hg).1, fun j u hu => ?_⟩
    have e1 : (⟨g, o, none⟩ : Addr).add j = ⟨g, o + j, none⟩ := by unfold Addr.add; split <;> simp_all
    rw [e1, cell_of_row _ _ _ _ _ _ hg]
    exact hx j u hu
theorem OwnA.fr {P : Nat → Prop} (h : OwnA w base e size A n c xs) (hf : Fr w w' P) (hne : ∀ a, A = some a → ¬ P a.block) : OwnA w' base e size A n c xs := by
  refine ⟨h.1, ?_⟩
  rcases h.2 with h1 | ⟨g, o, cur, h1, hb, hg, rest⟩
  · exact .inl h1
  · exact .inr ⟨g, o, cur, h1, hb, (hf.block g (Array.getElem?_eq_some_iff.1 hg).1 (hne _ h1)).trans hg, rest⟩
theorem OwnA.ext (h : OwnA w base e size A n c xs) (hx : Ext w w') : OwnA w' base e size A n c xs := h.fr (Fr.of_ext hx (fun _ => False)) (fun _ _ h => h)
theorem OwnA.cap_le (h : OwnA w base e size A n c xs) : n ≤ c := by
  rcases h.2 with ⟨_, h1, h2⟩ | ⟨g, o, cur, _, _, _, h1, _⟩ <;> omega
theorem OwnA.tail (h : OwnA w base e size A n c xs) {k : Nat} (hk : k ≤ n) : OwnA w base e size (if c = k then A else A.map (·.add (k * size))) (n - k) (c - k) (xs.drop (k * size)) := by
  refine ⟨by rw [List.length_drop, h.1, Nat.sub_mul], ?_⟩
  rcases h.2 with ⟨rfl, rfl, rfl⟩ | ⟨g, o, cur, rfl, hb, hg, hnc, hcm, hs, hx⟩
  · exact .inl ⟨by split <;> rfl, by omega, by omega⟩
  · by_cases e1 : c = k
    · rw [if_pos e1]
      exact .inr ⟨g, o, cur, rfl, hb, hg, by omega, by omega, by rw [show c - k = 0 by omega]; omega, fun j u hu => by
        rw [List.getElem?_drop] at hu
        have := (List.getElem?_eq_some_iff.1 hu).1
        rw [h.1, show n = k by omega] at this
        omega⟩
    · rw [if_neg e1]
      have e2 : (⟨g, o, none⟩ : Addr).add (k * size) = ⟨g, o + k * size, none⟩ := by unfold Addr.add; split <;> simp_all
      have e3 : (c - k) * size + k * size = c * size := by rw [← Nat.add_mul]; congr 1; have := h.cap_le; omega
      exact .inr ⟨g, o + k * size, cur, by rw [Option.map_some, e2], hb, hg, by omega, by omega, by omega, fun j u hu => by
        rw [List.getElem?_drop] at hu
        rw [Nat.add_assoc]
        exact hx _ u hu⟩
/-- What a block holds behind a run of stores. -/
theorem cells_of_stores {g : Nat} {e : TypeId} : ∀ (vs : List Value) (p : Nat) {w : World} {cur : Array Value}, w.heap[g]? = some (.cells cur e (0, 0)) →
    ∃ cur', (w.setCells g p vs).heap[g]? = some (.cells cur' e (0, 0)) ∧ cur'.size = cur.size ∧ (∀ j, j < p → cur'[j]? = cur[j]?) ∧ ∀ j u, vs[j]? = some u → p + j < cur.size → cur'[p + j]? = some u
  | [], p, w, cur, h => ⟨cur, h, rfl, fun _ _ => rfl, fun j u hu => by simp at hu⟩
  | v :: vs, p, w, cur, h => by
    obtain ⟨cur', h1, h2, h3, h4⟩ := cells_of_stores vs (p + 1) (heap_setCell_same w g p _ _ v h)
    refine ⟨cur', h1, by rw [h2]; simp, fun j hj => by rw [h3 j (by omega), Array.getElem?_setIfInBounds_ne (by omega)], fun j u hu hl => ?_⟩
    cases j with
    | zero =>
      simp at hu
      subst hu
      rw [Nat.add_zero, h3 p (by omega)]
      rw [Array.getElem?_setIfInBounds_self_of_lt (by omega)]
    | succ j =>
      have := h4 j u (by simpa using hu) (by simp; omega)
      rw [← this]
      congr 1
      omega
theorem OwnA.app {P : Program} {t : TypeId} {bytes : Nat} {z : Value} (E : Elt P t e size bytes z) (ty : TypeId) (hown : OwnA w base e size A n c xs) {B : Option Addr} {m : Nat} (d : Nat) {news : List Value} (hr : Rd w size B m news) (h1 : ∀ u ∈ news, u.oneCell' = true) (hm0 : 0 < m)
    (hm : n + m ≤ 9223372036854775807) (hfit : n + m ≤ c ∨ (n + m) * bytes ≤ 225000000000000 ∧ bytes ≤ 100000) (hbase : base ≤ w.heap.size) :
    ∃ A' c' w', (Builtin.append_ #[t, t] ty #[.slice A n c, .slice B m d]).run P w = .ok (.slice A' (n + m) c') w' ∧ OwnA w' base e size A' (n + m) c' (xs ++ news) ∧ Grows w w' A ∧ (A' = A ∨ A' = some ⟨w.heap.size, 0, none⟩) := by
  obtain ⟨i, hi, hz, hs, hby⟩ := info_parts E.info
  have ht := E.under
  obtain ⟨ad, rfl, _, hcell⟩ := hr.2 hm0
  have hl : news.length = m * i.size := by rw [hs]; exact hr.1
  have hlen : (xs ++ news).length = (n + m) * size := by rw [List.length_append, hown.1, hr.1, Nat.add_mul]
  have grown : ∀ (old : Nat), old < n + m → ∀ (row : Option Nat),
      OwnA (w.drew.alloc (.cells (xs.toArray ++ news.toArray ++ Builtin.zeroCells z.cells (grownCap w (n + m) old e - (n + m))) e)) base e size (some ⟨w.heap.size, 0, none⟩) (n + m) (grownCap w (n + m) old e) (xs ++ news) ∧
      w.grownBy (w.drew.alloc (.cells (xs.toArray ++ news.toArray ++ Builtin.zeroCells z.cells (grownCap w (n + m) old e - (n + m))) e)) row := by
    intro old ho row
    have hge := grownCap_ge w (n + m) old e
    have hcm : grownCap w (n + m) old e ≤ maxLen := grownCap_le_maxLen w (n + m) old e (by simp [maxLen]; omega)
    refine ⟨⟨hlen, .inr ⟨w.heap.size, 0, _, rfl, hbase, heap_alloc_new w.drew _, hge, hcm, ?_, fun j u hu => ?_⟩⟩, ⟨rfl, rfl, rfl, by simp, fun k hk _ => Below.heap_alloc w.drew _ k hk⟩⟩
    · simp only [Array.size_append, List.size_toArray, size_zeroCells, E.cells, hown.1, hr.1, ← Nat.add_mul]
      rw [Nat.zero_add, show n + m + (grownCap w (n + m) old e - (n + m)) = grownCap w (n + m) old e by omega]
      exact Nat.le_refl _
    · have hj := (List.getElem?_eq_some_iff.1 hu).1
      rw [Nat.zero_add, Array.getElem?_append_left (by simp at hj ⊢; omega)]
      simpa using hu
  rcases hown.2 with ⟨rfl, rfl, rfl⟩ | ⟨g, o, cur, rfl, hbg, hg, hnc, hcm, hcs, hx⟩
  · have hxn : xs = [] := List.eq_nil_of_length_eq_zero (by simpa using hown.1)
    subst hxn
    have h48 : m * i.bytes ≤ 281474976710656 := by
      rcases hfit with h | ⟨h, _⟩
      · omega
      · rw [hby]; simp only [Nat.zero_add] at h; omega
    have hrun := run_append_nil (P := P) w t ty e i z ht hi hz ad m d news hl hcell (by omega) (by omega) h48
    have hgr := grown 0 (by omega) none
    simp only [Nat.zero_add, List.nil_append, Array.empty_append] at hgr ⊢
    exact ⟨_, _, _, hrun, hgr.1, hgr.2, .inr rfl⟩
  · by_cases hroom : n + m ≤ c
    · have hfit' : o + n * size + news.length ≤ cur.size := by
        have h2 := Nat.mul_le_mul_right size hroom
        rw [Nat.add_mul] at h2
        rw [hr.1]
        omega
      have hrun := run_append_room_cells (P := P) w t ty e i ht hi g o n c ad m d news hl hcell h1 hroom
        (fun j hj => by rw [hs, cell_of_row _ _ _ _ _ _ hg, Array.getElem?_eq_getElem (by omega)]; rfl) (fun j hj => by simp only [World.frozen?, hg]; simp)
      rw [hs] at hrun
      obtain ⟨cur', k1, k2, k3, k4⟩ := cells_of_stores news (o + n * size) hg
      have ff := Fr.setCells (g := g) news (o + n * size) w
      refine ⟨_, _, _, hrun, ⟨hlen, .inr ⟨g, o, cur', rfl, hbg, k1, hroom, hcm, by omega, fun j u hu => ?_⟩⟩, ⟨ff.os, ff.tape, ff.output, ff.size, fun k hk hne => ff.block k hk (fun e => hne (by rw [e]; rfl))⟩, .inl rfl⟩
      rcases Nat.lt_or_ge j xs.length with hj | hj
      · rw [List.getElem?_append_left hj] at hu
        have hj2 := hj
        rw [hown.1] at hj2
        rw [k3 _ (by omega)]
        exact hx j u hu
      · rw [List.getElem?_append_right hj] at hu
        have hjl := (List.getElem?_eq_some_iff.1 hu).1
        have hxl := hown.1
        have h5 := k4 (j - xs.length) u hu (by omega)
        rw [← h5]
        congr 1
        omega
    · have hf : Builtin.nextslicecap (n + m) c * i.bytes ≤ 281474976710656 := by
        rcases hfit with h | ⟨h, h'⟩
        · exact absurd h hroom
        · rw [hby]; exact fits_mul (by omega) h h'
      have holds : ∀ j u, xs[j]? = some u → w.cell? ((⟨g, o, none⟩ : Addr).add j) = some u := fun j u hu => by
        have e1 : (⟨g, o, none⟩ : Addr).add j = ⟨g, o + j, none⟩ := by unfold Addr.add; split <;> simp_all
        rw [e1, cell_of_row _ _ _ _ _ _ hg]
        exact hx j u hu
      have hrun := run_append_grow (P := P) w t ty e i z ht hi hz ⟨g, o, none⟩ n c xs (by rw [hs]; exact hown.1) holds ad m d news hl hcell (by omega) (by omega) hf
      have hgr := grown c (by omega) (some g)
      exact ⟨_, _, _, hrun, hgr.1, hgr.2, .inr rfl⟩
/-- append(s, make([]T, m)...), s a row of the call's own. -/
theorem run_app_zeros {P : Program} {t tn : TypeId} {bytes : Nat} {z : Value} {k kn : IntKind} (E : Elt P t e size bytes z) (htn : P.underlying tn = some (.int kn)) (ty : TypeId) {g : Nat} (hown : Own w base e size (some ⟨g, 0, none⟩) n c xs) {m : Nat} (hm0 : 0 < m) (hz1 : ∀ u ∈ (Builtin.zeroCells z.cells m).toList, u.oneCell' = true)
    (hm : n + m ≤ 9223372036854775807) (hfit : (n + m) * bytes ≤ 225000000000000 ∧ bytes ≤ 100000) (hbase : base ≤ w.heap.size) :
    ∃ A' c' w', (Builtin.append_ #[t, tn] ty #[.slice (some ⟨g, 0, none⟩) n c, .int k (m : Int)]).run P w = .ok (.slice A' (n + m) c') w' ∧ Own w' base e size A' (n + m) c' (xs ++ (Builtin.zeroCells z.cells m).toList) ∧ Grows w w' (some ⟨g, 0, none⟩) ∧ (A' = some ⟨g, 0, none⟩ ∨ A' = some ⟨w.heap.size, 0, none⟩) := by
  obtain ⟨i, hi, hz, hs, hby⟩ := info_parts E.info
  have ht := E.under
  have hpos := E.pos
  have hw : IntKind.i64.wrap (m : Int) = m := by rw [IntKind.wrap_i64]; omega
  have hneg : ¬ ((m : Int) < 0) := by omega
  have hmn : m ≠ 0 := by omega
  have hns : ¬ (m * i.size = 0) := by rw [hs]; exact Nat.mul_ne_zero hmn (by omega)
  have hnews : (Builtin.zeroCells z.cells m).toList.length = m * size := by simp [size_zeroCells, E.cells]
  have hmb : m * bytes ≤ 225000000000000 := Nat.le_trans (Nat.mul_le_mul_right _ (by omega)) hfit.1
  have h48i : ¬ (281474976710656 < (m : Int) * (i.bytes : Int)) := by
    rw [← Int.natCast_mul, hby]
    omega
  have hlen : (xs ++ (Builtin.zeroCells z.cells m).toList).length = (n + m) * size := by rw [List.length_append, hown.1, hnews, Nat.add_mul]
  obtain ⟨cur, hg, hnc, hcs⟩ := hown.capd
  have hcm : c ≤ maxLen := by
    rcases hown.2 with ⟨h', _⟩ | ⟨g', cap, cur', h', _, _, _, h5, _⟩
    · cases h'
    · injection h' with _ _ h3; omega
  by_cases hroom : n + m ≤ c
  · have hfit' : n * size + (Builtin.zeroCells z.cells m).toList.length ≤ cur.size := by
      have h2 := Nat.mul_le_mul_right size hroom
      rw [Nat.add_mul] at h2
      rw [hnews]
      omega
    have hst := run_storeCells_cells (P := P) g (n * size) (Builtin.zeroCells z.cells m).toList 0 w (fun j hj => by rw [Nat.add_zero, cell_of_row _ _ _ _ _ _ hg, Array.getElem?_eq_getElem (by omega)]; rfl) (fun j hj => by simp only [World.frozen?, hg]; simp) hz1
    simp only [Nat.add_zero] at hst
    obtain ⟨cur', k1, k2, k3, k4⟩ := cells_of_stores (Builtin.zeroCells z.cells m).toList (n * size) hg
    have ff := Fr.setCells (g := g) (Builtin.zeroCells z.cells m).toList (n * size) w
    have hbg := hown.base_le g rfl
    refine ⟨some ⟨g, 0, none⟩, c, _, ?_, ⟨hlen, .inr ⟨g, c, cur', rfl, hbg, k1, hroom, hcm, by rw [k2, hcs], ?_⟩⟩, ⟨ff.os, ff.tape, ff.output, ff.size, fun k hk hne => ff.block k hk (fun e => hne (by rw [e]; rfl))⟩, .inl rfl⟩
    · have e0 : (⟨g, 0, none⟩ : Addr).add (n * size) = ⟨g, n * size, none⟩ := by unfold Addr.add; split <;> simp_all
      simp [Builtin.append_, run_underlying ht, run_underlying htn, sizeOf, typeInfo, zeroValue, hi, hz, hs, asInt, asIntOf, hw, hneg, hmn, h48i, hroom, e0, hst]
      intro h0
      exact absurd h0 (Nat.mul_ne_zero hmn (by omega))
    · apply List.ext_getElem?
      intro j
      rw [List.getElem?_take]
      split
      · rename_i hj
        rcases Nat.lt_or_ge j xs.length with hj2 | hj2
        · rw [List.getElem?_append_left hj2]
          have h6 := hown.1
          have h7 : w.cell? ((⟨g, 0, none⟩ : Addr).add j) = some (xs[j]) := World.ownsRow.cells (g := g) hown rfl j _ (List.getElem?_eq_getElem hj2)
          have e1 : (⟨g, 0, none⟩ : Addr).add j = ⟨g, j, none⟩ := by unfold Addr.add; split <;> simp_all
          rw [e1, cell_of_row _ _ _ _ _ _ hg] at h7
          rw [Array.getElem?_toList, k3 j (by omega), h7, List.getElem?_eq_getElem hj2]
        · rw [List.getElem?_append_right hj2]
          have h6 := hown.1
          have hjl : j - xs.length < (Builtin.zeroCells z.cells m).toList.length := by
            rw [hnews]
            rw [Nat.add_mul] at hj
            omega
          have h8 := k4 (j - xs.length) _ (List.getElem?_eq_getElem hjl) (by omega)
          rw [Array.getElem?_toList, List.getElem?_eq_getElem hjl, ← h8]
          congr 1
          omega
      · rename_i hj
        rw [List.getElem?_eq_none (by omega)]
  · have hf : Builtin.nextslicecap (n + m) c * i.bytes ≤ 281474976710656 := by rw [hby]; exact fits_mul (by omega) hfit.1 hfit.2
    have h63' : ¬ (9223372036854775807 < ((n : Int) + (m : Int))) := by omega
    have h48' : ¬ (281474976710656 < Builtin.nextslicecap (n + m) c * i.bytes) := by omega
    have hfo := run_firstCells_some (P := P) w.drew i.size n ⟨g, 0, none⟩ n c xs (by rw [hs]; exact hown.1) (by simpa using World.ownsRow.cells (g := g) hown rfl)
    have hge := grownCap_ge w (n + m) c e
    have hcm2 : grownCap w (n + m) c e ≤ maxLen := grownCap_le_maxLen w (n + m) c e (by simp [maxLen]; omega)
    refine ⟨some ⟨w.heap.size, 0, none⟩, grownCap w (n + m) c e, w.drew.alloc (.cells (xs.toArray ++ Builtin.zeroCells z.cells m ++ Builtin.zeroCells z.cells (grownCap w (n + m) c e - (n + m))) e), ?_, ⟨hlen, .inr ⟨w.heap.size, _, _, rfl, hbase, heap_alloc_new w.drew _, hge, hcm2, ?_, ?_⟩⟩, ⟨rfl, rfl, rfl, by simp, fun k hk _ => Below.heap_alloc w.drew _ k hk⟩, .inr rfl⟩
    · simp [Builtin.append_, run_underlying ht, run_underlying htn, sizeOf, typeInfo, zeroValue, hi, hz, asInt, asIntOf, hw, hneg, hmn, hns, h48i, hroom, h63', h48', Question.forced, hfo, newRow, grownCap]
      try
        congr 2
        apply Array.ext'
        simp [List.append_assoc]
    · simp only [Array.size_append, List.size_toArray, size_zeroCells, E.cells, hown.1, ← Nat.add_mul]
      congr 1
      omega
    · simp only [Array.toList_append, List.append_assoc]
      rw [← List.append_assoc, ← hlen]
      exact List.take_left
theorem run_slice_at {P : Program} {t : TypeId} {bytes : Nat} {z : Value} (E : Elt P t e size bytes z) (A : Option Addr) (n c : Nat) (k : IntKind) (j : Nat) (h1 : j ≤ n) {X : Option Addr} (hX : (if c = j then A else A.map (·.add (j * size))) = X) (w : World) :
    (Instr.slice t (.slice A n c) (some (.int k (j : Int))) none none).run P w = .ok (.slice X (n - j) (c - j)) w := by
  obtain ⟨i, hi, hz, hs, hby⟩ := info_parts E.info
  subst hX
  simp [Instr.slice, run_underlying E.under, Instr.sliceBounds, run_sliceBound, sizeOf, typeInfo, hi, h1, hs]
/-- append to such a row, as it comes up in a region. -/
theorem oper_appA {P : Program} {t : TypeId} {bytes : Nat} {z : Value} {o : Oper} {a : Act} {K : Act → World → Prop} {Q : Exit → Act → World → Prop} (E : Elt P t e size bytes z) (hown : OwnA w base e size A n c xs) {B : Option Addr} {m d : Nat} {news : List Value} (hr : Rd w size B m news) (h1 : ∀ u ∈ news, u.oneCell' = true) (hm0 : 0 < m)
    (hm : n + m ≤ 9223372036854775807) (hfit : n + m ≤ c ∨ (n + m) * bytes ≤ 225000000000000 ∧ bytes ≤ 100000) (hbase : base ≤ w.heap.size)
    (s x : Operand) (ho : o.op = .call { callee := .builtin .append, args := #[s, x], argTypes := #[t, t] })
    (hs : a.eval s = .slice A n c) (hx : a.eval x = .slice B m d)
    (hk : ∀ A' c' w', OwnA w' base e size A' (n + m) c' (xs ++ news) → Grows w w' A → (A' = A ∨ A' = some ⟨w.heap.size, 0, none⟩) → K (a.put o.dst (.slice A' (n + m) c')) w') :
    Oper.wp P o a w K Q := by
  obtain ⟨A', c', w', hrun, h2, h3, h4⟩ := hown.app E o.type d hr h1 hm0 hm hfit hbase
  unfold Oper.wp execOp
  simp only [ho, resolve, invoke, builtin, Sem.run_bind, Sem.run_pure, Result.andThen_ok, List.map_toArray, List.map_cons, List.map_nil, hs, hx, hrun]
  exact hk A' c' w' h2 h3 h4
end
end Go.Proofs.YteflnnlihblpgaaDoor
namespace Go.Proofs.YteflnnlihblpgaaDoor
set_option maxRecDepth 100000
open Go.RowKit
set_option linter.unusedVariables false
theorem block_cell {w : World} {b : Nat} {cs : Array Value} {t : TypeId} (h : w.heap[b]? = some (.cells cs t (0, 0))) (k : Nat) : w.cell? ⟨b, k, none⟩ = cs[k]? := cell_of_row _ _ _ _ _ _ h
theorem block_fz {w : World} {b : Nat} {cs : Array Value} {t : TypeId} (h : w.heap[b]? = some (.cells cs t (0, 0))) (k : Nat) : w.frozen? ⟨b, k, none⟩ = false := by simp only [World.frozen?, h]; simp
theorem block_lt {w : World} {b : Nat} {o : Obj} (h : w.heap[b]? = some o) : b < w.heap.size := (Array.getElem?_eq_some_iff.1 h).1
theorem Own.lt_at {w : World} {base n c : Nat} {e : TypeId} {size : Nat} {A : Option Addr} {xs : List Value} (h : Own w base e size A n c xs) {a : Addr} (ha : A = some a) : a.block < w.heap.size := by
  rcases h.2 with ⟨hn, _⟩ | ⟨g, cap, cur, h1, hb, hgg, rest⟩
  · injection hn with hn
    rw [ha] at hn
    cases hn
  · injection h1 with h1
    rw [ha] at h1
    injection h1 with h1
    subst h1
    exact (Array.getElem?_eq_some_iff.1 hgg).1
theorem Own.celln {w : World} {base n c g : Nat} {e : TypeId} {size : Nat} {xs : List Value} (h : Own w base e size (some ⟨g, 0, none⟩) n c xs) {k : Nat} {u : Value} (hu : xs[k]? = some u) : w.cell? ⟨g, k, none⟩ = some u := by
  have := World.ownsRow.cells (g := g) h rfl k u hu
  rwa [show (⟨g, 0, none⟩ : Addr).add k = ⟨g, k, none⟩ by unfold Addr.add; split <;> simp_all] at this
/-- What lies behind a run of stores stays. -/
theorem cells_behind {g : Nat} {e : TypeId} : ∀ (vs : List Value) (p : Nat) {w : World} {cur : Array Value}, w.heap[g]? = some (.cells cur e (0, 0)) → ∀ j, p + vs.length ≤ j →
    (match (w.setCells g p vs).heap[g]? with | some (.cells cur' _ _) => cur'[j]? | _ => none) = cur[j]?
  | [], p, w, cur, h, j, _ => by
    show (match w.heap[g]? with | some (.cells cur' _ _) => cur'[j]? | _ => none) = _
    rw [h]
  | v :: vs, p, w, cur, h, j, hj => by
    have h1 := cells_behind vs (p + 1) (heap_setCell_same w g p _ _ v h) j (by simp at hj; omega)
    rw [Array.getElem?_setIfInBounds_ne (by simp at hj; omega)] at h1
    exact h1
/-- A whole block is written. -/
theorem set_block {w : World} {b : Nat} {Z : Array Value} {t : TypeId} {cs : List Value} (h : w.heap[b]? = some (.cells Z t (0, 0))) (hs : cs.length = Z.size) : (w.setCells b 0 cs).heap[b]? = some (.cells cs.toArray t (0, 0)) := by
  obtain ⟨cur, h1, h2, _, h4⟩ := cells_of_stores cs 0 h
  rw [h1]
  congr 2
  apply Array.ext
  · rw [h2]; simp [hs]
  · intro i hi hi2
    have h5 := h4 i cs[i] (List.getElem?_eq_getElem (by simpa using hi2)) (by rw [Nat.zero_add]; omega)
    rw [Nat.zero_add] at h5
    obtain ⟨_, h6⟩ := Array.getElem?_eq_some_iff.1 h5
    rw [h6]
    simp
theorem there_block {w : World} {b : Nat} {Z : Array Value} {t : TypeId} (h : w.heap[b]? = some (.cells Z t (0, 0))) {o n : Nat} (hn : o + n ≤ Z.size) : w.there b o n := fun j hj => by
  rw [block_cell h, block_fz h]
  exact ⟨by rw [Array.getElem?_eq_getElem (by omega)]; rfl, rfl⟩
theorem range_block {w : World} {b : Nat} {cs : List Value} {t : TypeId} (h : w.heap[b]? = some (.cells cs.toArray t (0, 0))) {o : Nat} {ds : List Value} (hd : ∀ j v, ds[j]? = some v → cs[o + j]? = some v) : w.rangeAt b o ds := fun j v hv => by
  rw [block_cell h, List.getElem?_toArray]
  exact hd j v hv
theorem u8s_one' (l : List Nat) : (u8s l).toArray.all (·.oneCell') = true := all_oneCell_toArray (fun u hu => by simp [u8s] at hu; obtain ⟨n, _, rfl⟩ := hu; rfl)
end Go.Proofs.YteflnnlihblpgaaDoor
namespace Go.Proofs.YteflnnlihblpgaaDoor
set_option maxRecDepth 100000
open Go.RowKit Go.ChangeShapes
set_option linter.unusedVariables false

/-- The variable g holds an error that points to a; nothing of that block is frozen. -/
def Sen (w : World) (g : Nat) (a : Addr) : Prop :=
  g < w.heap.size ∧ w.cell? ⟨g, 0, none⟩ = some (.iface 149 (.pointer (some a))) ∧ a.block < w.heap.size ∧ ∃ c t, w.heap[a.block]? = some (.cells c t (0, 0))
theorem Sen.ext {w w' : World} {g : Nat} {a : Addr} (h : Sen w g a) (hx : Ext w w') : Sen w' g a := by
  obtain ⟨h1, h2, h3, c, t, h4⟩ := h
  exact ⟨Nat.lt_of_lt_of_le h1 hx.size, (hx.cell h1).trans h2, Nat.lt_of_lt_of_le h3 hx.size, c, t, (hx.block _ h3).trans h4⟩
theorem Sen.drewN {w : World} {g : Nat} {a : Addr} (h : Sen w g a) (k : Nat) : Sen (w.drewN k) g a := h

theorem cellsES : Tryd.prog.cellsOf 165 = 1 := by kernel_rfl
theorem cellsSt : Tryd.prog.cellsOf 9 = 1 := by kernel_rfl
theorem star : Tryd.prog.typeName? 2 165 = some "errors.errorString" := by kernel_rfl
theorem rowES (u : TypeId) (h : Tryd.prog.typeName? 3 u = some "*errors.errorString") : u = 149 :=
  typeName_ptr_named (nm := "errors.errorString") (by kernel_rfl) (by kernel_rfl) (by decide) u h
/-- A listed error: its name, its text, its variable's number. -/
def entry (x : String × List UInt8 × Nat) : String × DataW Unit := (x.1, .iface "*errors.errorString" (.ptr (.agg [.lit (.string x.2.1)])))
theorem sens_go : ∀ (l : List (String × List UInt8 × Nat)) {W : World} {ps : List MemPlace}, DataW.LaidVars Tryd.prog W (l.map entry) ps → ps.Nodup →
    (∀ b off, MemPlace.cell b off ∈ ps → (∃ c t, W.heap[b]? = some (.cells c t (0, 0))) ∧ ∀ u v, W.cell? ⟨b, off, none⟩ = some (.iface u v) → Value.okWide Tryd.prog W .any 0 u v) →
    (∀ x ∈ l, Tryd.prog.globalNamed x.1 = some x.2.2 ∧ (Tryd.prog.globals[x.2.2]?).map (·.type) = some 33) →
    ∃ E : Nat → Addr, (∀ x ∈ l, Sen W x.2.2 (E x.2.2) ∧ MemPlace.cell (E x.2.2).block (E x.2.2).off ∈ ps) ∧ ∀ x ∈ l, ∀ y ∈ l, x.2.2 ≠ y.2.2 → E x.2.2 ≠ E y.2.2
  | [], _, _, _, _, _, _ => ⟨fun _ => ⟨0, 0, none⟩, by simp, by simp⟩
  | (nm, text, k) :: l, W, ps, hv, hnd, hrows, hall => by
    obtain ⟨g, t, cs, f, p, q, hg, ht, hvar, hd, hrest, rfl⟩ := hv
    obtain ⟨hk1, hk2⟩ := hall (nm, text, k) (by simp)
    obtain rfl : k = g := Option.some.inj (hk1.symm.trans hg)
    obtain rfl : 33 = t := Option.some.inj (hk2.symm.trans ht)
    obtain ⟨l0⟩ := cs
    have ok0 : ∀ u v, l0 = [.iface u v] → Value.okWide Tryd.prog W .any 0 u v := fun u v e => by
      subst e
      exact (hrows k 0 (by simp [MemPlace.row])).2 u v (by simpa using World.var?_cell hg hvar 0)
    obtain ⟨a, s, rfl, hc, hs, hz, rfl⟩ := errorString_of_trod Tryd.underlying33 rowES Tryd.underlying149 Tryd.underlying165 rfl rfl Tryd.underlying9 cellsES cellsSt hd ok0
    have hc0 : W.cell? ⟨k, 0, none⟩ = some (.iface 149 (.pointer (some a))) := by simpa using World.var?_cell hg hvar 0
    have lt_of : ∀ b, (∃ c t, W.heap[b]? = some (.cells c t (0, 0))) → b < W.heap.size := fun b ⟨c, t, h⟩ => by
      rcases Nat.lt_or_ge b W.heap.size with h' | h'
      · exact h'
      · simp [Array.getElem?_eq_none h'] at h
    have hb := (hrows a.block a.off (by simp [MemPlace.row])).1
    have hk := (hrows k 0 (by simp [MemPlace.row])).1
    have hS : Sen W k a := ⟨lt_of _ hk, hc0, lt_of _ hb, hb⟩
    obtain ⟨E, hE, hdis⟩ := sens_go l hrest (hnd.sublist (List.sublist_append_right _ _)) (fun b off hm => hrows b off (List.mem_append_right _ hm)) (fun x hx => hall x (by simp [hx]))
    have hap : MemPlace.cell a.block a.off ∈ MemPlace.row ⟨k, 0, none⟩ (List.toArray [Value.iface 149 (.pointer (some a))]).size ++ MemPlace.row a 1 := by simp [MemPlace.row]
    have hne : ∀ y ∈ l, E y.2.2 ≠ a := fun y hy e => by
      have h1 := (hE y hy).2
      rw [e] at h1
      exact (List.nodup_append.1 hnd).2.2 _ hap _ h1 rfl
    refine ⟨fun j => if j = k then a else E j, fun x hx => ?_, fun x hx y hy hxy => ?_⟩
    · by_cases e : x.2.2 = k
      · simp only [e, if_true]
        exact ⟨hS, List.mem_append_left _ hap⟩
      · simp only [e, if_false]
        have hx' : x ∈ l := by
          rcases List.mem_cons.1 hx with rfl | h
          · exact absurd rfl e
          · exact h
        exact ⟨(hE x hx').1, List.mem_append_right _ (hE x hx').2⟩
    · have inl : ∀ z ∈ (nm, text, k) :: l, z.2.2 ≠ k → z ∈ l := fun z hz e => by
        rcases List.mem_cons.1 hz with rfl | h
        · exact absurd rfl e
        · exact h
      by_cases e : x.2.2 = k
      · have e2 : y.2.2 ≠ k := fun h => hxy (e.trans h.symm)
        simp only [e, e2, if_true, if_false]
        exact fun h => hne y (inl y hy e2) h.symm
      · by_cases e2 : y.2.2 = k
        · simp only [e, e2, if_true, if_false]
          exact hne x (inl x hx e)
        · simp only [e, e2, if_false]
          exact hdis x (inl x hx e) y (inl y hy e2) hxy
/-- FROM THE ROW's CONDITION: each listed error's variable points somewhere, and no two to one place. -/
theorem sens_of (l : List (String × List UInt8 × Nat)) {W : World} (h : laidMet Tryd.prog (l.map entry) W)
    (hall : ∀ x ∈ l, Tryd.prog.globalNamed x.1 = some x.2.2 ∧ (Tryd.prog.globals[x.2.2]?).map (·.type) = some 33) :
    ∃ E : Nat → Addr, (∀ x ∈ l, Sen W x.2.2 (E x.2.2)) ∧ ∀ x ∈ l, ∀ y ∈ l, x.2.2 ≠ y.2.2 → E x.2.2 ≠ E y.2.2 := by
  obtain ⟨ps, hv, hnd, hrows⟩ := h
  obtain ⟨E, h1, h2⟩ := sens_go l hv hnd hrows hall
  exact ⟨E, fun x hx => (h1 x hx).1, h2⟩

/-- TWO ERRORS COMPARED. -/
theorem info_c (t : TypeId) (h : (match Tryd.prog.info? t with | some i => i.comparable | none => false) = true) : ∃ i, Tryd.prog.info? t = some i ∧ i.comparable = true := by
  cases e : Tryd.prog.info? t with
  | none => rw [e] at h; cases h
  | some i => rw [e] at h; exact ⟨i, rfl, h⟩
theorem info_s (t : TypeId) (h : (match Tryd.prog.info? t with | some i => i.size != 0 | none => false) = true) : ∃ i, Tryd.prog.info? t = some i ∧ i.size ≠ 0 := by
  cases e : Tryd.prog.info? t with
  | none => rw [e] at h; cases h
  | some i => rw [e] at h; exact ⟨i, rfl, by simpa using h⟩
theorem err_same (w : World) (a : Addr) : (binOp .eql 33 (.iface 149 (.pointer (some a))) (.iface 149 (.pointer (some a)))).run Tryd.prog w = .ok (.bool true) w := by
  obtain ⟨i, hi, hc⟩ := info_c 149 (by kernel_rfl)
  obtain ⟨j, hj, hs⟩ := info_s 165 (by kernel_rfl)
  exact run_eql_iface_ptr_same w a Tryd.underlying33 Tryd.underlying149 hi hc hj
theorem err_other {w : World} {g h : Nat} {a b : Addr} (ha : Sen w g a) (hb : Sen w h b) (hne : a ≠ b) :
    (binOp .eql 33 (.iface 149 (.pointer (some a))) (.iface 149 (.pointer (some b)))).run Tryd.prog w = .ok (.bool false) w := by
  obtain ⟨i, hi, hc⟩ := info_c 149 (by kernel_rfl)
  obtain ⟨j, hj, hs⟩ := info_s 165 (by kernel_rfl)
  obtain ⟨_, _, _, ca, ta, h1⟩ := ha
  obtain ⟨_, _, _, cb, tb, h2⟩ := hb
  exact run_eql_iface_ptr_other w Tryd.underlying33 Tryd.underlying149 hi hc hj hs hne h1 h2
end Go.Proofs.YteflnnlihblpgaaDoor
namespace Go.Proofs.YteflnnlihblpgaaDoor
set_option maxRecDepth 100000
open Go.RowKit
set_option linter.unusedVariables false
theorem ints_at' {l : List Int} {k : Nat} {x : Int} (h : l[k]? = some x) : (ints l)[k]? = some (.int .i64 x) := by simp [ints, h]
theorem fitI_true {x : Int} : fitI x = true ↔ 0 ≤ x ∧ x ≤ 1099511627776 := by simp [fitI]
set_option maxHeartbeats 1600000 in
theorem fit_any (A : Option Addr) (n c : Nat) (l : List Int) (w : World) (hr : Rd w 1 A n (ints l)) (hn : n ≤ 1000000) (b : Bool) (hb : Hid (fitL l = b)) : Calls Tryd.prog 77 #[.slice A n c] w fun e w' => e = .returned (.bool b) ∧ w' = w := by
  have hl := hr.len
  rw [ints_len] at hl
  have HR := Lib.hid hr
  clear hr
  go_enter Tryd.func77, Tryd.ntmps77
  go_wp2_with fail
  go_loopw [7] (fun v7 wr => ∃ k : Nat, v7 = .int .i64 (k : Int) ∧ k ≤ n ∧ Hid (wr = w ∧ ∀ j x, j < k → l[j]? = some x → fitI x = true)) (fun v7 _ => n - (intOf v7).toNat)
  case atStart => exact ⟨0, rfl, by omega, by trivial, fun j x hj => by omega⟩
  case round =>
    obtain ⟨k, rfl, hk, HI⟩ := hrel
    obtain rfl := HI.out.1
    by_cases hlt : k < n
    · obtain ⟨x, hx⟩ : ∃ x, l[k]? = some x := ⟨l[k]'(by omega), List.getElem?_eq_getElem _⟩
      obtain ⟨ad, rfl, _, z1⟩ := HR.out.at_ hlt
      have y1 := z1 k _ (ints_at' hx)
      have k0 : (0 : Int) ≤ k := by omega
      have k1 : (k : Int) < n := by omega
      have HX := Lib.hid hx
      clear z1 hx
      by_cases h0 : x < 0
      · have e : b = false := by
          rw [← hb.out]
          exact Bool.eq_false_iff.2 fun h => by
            have := fitI_true.1 (List.all_eq_true.1 h x (List.mem_of_getElem? HX.out))
            omega
        subst e
        go_wp2_with fail
        go_returns
        exact ⟨rfl, rfl⟩
      · by_cases h1 : 1099511627776 < x
        · have e : b = false := by
            rw [← hb.out]
            exact Bool.eq_false_iff.2 fun h => by
              have := fitI_true.1 (List.all_eq_true.1 h x (List.mem_of_getElem? HX.out))
              omega
          subst e
          go_wp2_with fail
          go_returns
          exact ⟨rfl, rfl⟩
        · go_wp2_with fail
          go_roundw
          case rel => exact ⟨k + 1, by go_num, by omega, by trivial, fun j y hj hy => by
            by_cases e : j = k
            · rw [e, HX.out] at hy
              injection hy with hy
              rw [← hy]
              exact fitI_true.2 (by omega)
            · exact HI.out.2 j y (by omega) hy⟩
          case measure => simp [intOf]; omega
    · obtain rfl : n = k := by omega
      have e : b = true := by
        rw [← hb.out]
        exact List.all_eq_true.2 fun x hx => by
          obtain ⟨j, hj⟩ := List.getElem?_of_mem hx
          exact HI.out.2 j x (by have := (List.getElem?_eq_some_iff.1 hj).1; omega) hj
      subst e
      go_wp2_with fail
      go_returns
      exact ⟨rfl, rfl⟩
end Go.Proofs.YteflnnlihblpgaaDoor
namespace Go.Proofs.YteflnnlihblpgaaDoor
set_option maxRecDepth 100000
open Go.RowKit
set_option linter.unusedVariables false
def trow (t : Tk) : List Value := [.int .i64 t.C, .int .i64 t.P, .int .i64 t.D, .int .i64 t.S]
def trows (ts : List Tk) : List (List Value) := ts.map trow
theorem trows_even (ts : List Tk) : Even 4 (trows ts) := by
  intro r hr
  obtain ⟨x, _, rfl⟩ := List.mem_map.1 hr
  rfl
theorem trows_at {ts : List Tk} {k : Nat} {x : Tk} (h : ts[k]? = some x) : (trows ts)[k]? = some (trow x) := by simp [trows, h]
theorem trows_len (ts : List Tk) : (trows ts).length = ts.length := by simp [trows]
theorem trow_one (t : Tk) : ∀ u ∈ trow t, u.oneCell' = true := by
  intro u hu
  simp [trow] at hu
  rcases hu with rfl | rfl | rfl | rfl <;> rfl
theorem trows_one (ts : List Tk) : ∀ u ∈ (trows ts).flatten, u.oneCell' = true := by
  intro u hu
  obtain ⟨r, hr, hur⟩ := List.mem_flatten.1 hu
  obtain ⟨x, _, rfl⟩ := List.mem_map.1 hr
  exact trow_one x u hur
theorem rd_tlen {w : World} {A : Option Addr} {n : Nat} {ts : List Tk} (h : Rd w 4 A n (trows ts).flatten) : ts.length = n := by
  have h1 := h.1
  rw [(trows_even ts).len, trows_len] at h1
  omega
/-- A task's cells in a row. -/
theorem Rd.task {w : World} {A : Option Addr} {n k k4 : Nat} {ts : List Tk} {x : Tk} (h : Rd w 4 A n (trows ts).flatten) (hk : ts[k]? = some x) (h4 : k * 4 = k4) : ∃ ad, A = some ad ∧
    w.cell? (ad.add k4) = some (.int .i64 x.C) ∧ w.cell? ⟨(ad.add k4).block, (ad.add k4).off + 1, none⟩ = some (.int .i64 x.P) ∧ w.cell? ⟨(ad.add k4).block, (ad.add k4).off + 2, none⟩ = some (.int .i64 x.D) ∧ w.cell? ⟨(ad.add k4).block, (ad.add k4).off + 3, none⟩ = some (.int .i64 x.S) := by
  have hkl := (List.getElem?_eq_some_iff.1 hk).1
  have hl := rd_tlen h
  obtain ⟨ad, rfl, _, _⟩ := h.2 (by omega)
  have k0 := h.rowAt (trows_even ts) (trows_at hk) h4 (i := 0) rfl
  have k1 := h.rowAt (trows_even ts) (trows_at hk) h4 (i := 1) rfl
  have k2 := h.rowAt (trows_even ts) (trows_at hk) h4 (i := 2) rfl
  have k3 := h.rowAt (trows_even ts) (trows_at hk) h4 (i := 3) rfl
  have lit : ∀ (a : Addr) {j : Nat}, j ≠ 0 → a.add j = ⟨a.block, a.off + j, none⟩ := fun a j hj => by unfold Addr.add; rw [if_neg hj]
  rw [Nat.add_zero] at k0
  rw [← add_add', lit _ (by omega)] at k1 k2 k3
  exact ⟨ad, rfl, k0, k1, k2, k3⟩
def tkF : Value := .func (.func 79) #[] #[]
set_option maxHeartbeats 1600000 in
theorem tktest_any (t : Tk) (w : World) (b : Bool) (hb : Hid (t.fit = b)) : Calls Tryd.prog 79 #[.agg #[.int .i64 t.C, .int .i64 t.P, .int .i64 t.D, .int .i64 t.S]] w fun e w' => e = .returned (.bool (!b)) ∧ Ext w w' := by
  have X0 := (Ext.refl w).alloc (.cells #[.int .i64 t.C, .int .i64 t.P, .int .i64 t.D, .int .i64 t.S] 47)
  have hob := heap_alloc_new w (.cells #[.int .i64 t.C, .int .i64 t.P, .int .i64 t.D, .int .i64 t.S] 47)
  have HV := Lib.hid (And.intro hob X0)
  clear hob X0
  go_enter Tryd.func79, Tryd.ntmps79
  go_upto_region 1 with (fail)
  generalize w.alloc (.cells #[.int .i64 t.C, .int .i64 t.P, .int .i64 t.D, .int .i64 t.S] 47) = V at *
  generalize w.heap.size = ob at *
  have c0 : V.cell? ⟨ob, 0, none⟩ = some (.int .i64 t.C) := block_cell HV.out.1 0
  have c1 : V.cell? ⟨ob, 1, none⟩ = some (.int .i64 t.P) := block_cell HV.out.1 1
  have c2 : V.cell? ⟨ob, 2, none⟩ = some (.int .i64 t.D) := block_cell HV.out.1 2
  have c3 : V.cell? ⟨ob, 3, none⟩ = some (.int .i64 t.S) := block_cell HV.out.1 3
  have RN : Rd (V.alloc (.cells #[.int .i64 t.C, .int .i64 t.P, .int .i64 t.D, .int .i64 t.S] 3)) 1 (some ⟨V.heap.size, 0, none⟩) 4 (ints t.ns) := Rd.new V #[.int .i64 t.C, .int .i64 t.P, .int .i64 t.D, .int .i64 t.S] 3 (0, 0)
  have CF := Lib.hid (fit_any _ 4 4 t.ns _ RN (by omega) b hb)
  have HX := Lib.hid (HV.out.2.trans ((Ext.refl V).alloc (.cells #[.int .i64 t.C, .int .i64 t.P, .int .i64 t.D, .int .i64 t.S] 3)))
  clear RN
  go_wp2_with (go_at_call 77; refine CF.out.mono ?_; rintro e w1 ⟨rfl, rfl⟩)
  go_returns
  exact ⟨rfl, HX.out⟩
set_option maxHeartbeats 1600000 in
theorem tkidx_any (A : Option Addr) (n c : Nat) (ts : List Tk) (w : World) (hr : Rd w 4 A n (trows ts).flatten) (hn : n ≤ 1000000000000000) : Calls Tryd.prog 88 #[.slice A n c, tkF] w fun e w' => Ext w w' ∧ ((ts.all Tk.fit = true ∧ e = .returned (.int .i64 (-1))) ∨ (ts.all Tk.fit = false ∧ ∃ k : Nat, k < n ∧ e = .returned (.int .i64 (k : Int)))) := by
  have hl := rd_tlen hr
  have HR := Lib.hid hr
  unfold tkF
  clear hr
  go_enter Tryd.func88, Tryd.ntmps88
  go_wp2_with fail
  go_loopw [8] (fun v8 wr => ∃ k : Nat, v8 = .int .i64 (k : Int) ∧ k ≤ n ∧ Hid (Ext w wr ∧ ∀ (j : Nat) (y : Tk), j < k → ts[j]? = some y → y.fit = true)) (fun v8 _ => n - (intOf v8).toNat)
  case atStart => exact ⟨0, rfl, by omega, Ext.refl w, fun j y hj => by omega⟩
  case round =>
    obtain ⟨k, rfl, hk, HI⟩ := hrel
    by_cases hlt : k < n
    · obtain ⟨x, hx⟩ : ∃ x, ts[k]? = some x := ⟨ts[k]'(by omega), List.getElem?_eq_getElem _⟩
      obtain ⟨k4, hk4⟩ : ∃ k4, k * 4 = k4 := ⟨_, rfl⟩
      obtain ⟨ad, rfl, y0, y1, y2, y3⟩ := (HR.out.ext HI.out.1).task hx hk4
      have k0 : (0 : Int) ≤ k := by omega
      have k1 : (k : Int) < n := by omega
      have HX := Lib.hid hx
      obtain ⟨b, hb⟩ : ∃ b, x.fit = b := ⟨_, rfl⟩
      have HB := Lib.hid hb
      have CT := Lib.hid (tktest_any x wr b HB)
      clear hx hb
      go_upto_region 4 with (fail)
      cases b with
      | false =>
        go_wp2_with (refine CT.out.mono ?_; rintro e w1 ⟨rfl, x1⟩)
        go_returns
        exact ⟨HI.out.1.trans x1, .inr ⟨Bool.eq_false_iff.2 (fun h => by
          have h1 := List.all_eq_true.1 h x (List.mem_of_getElem? HX.out)
          rw [HB.out] at h1
          cases h1), k, hlt, rfl⟩⟩
      | true =>
        go_wp2_with (refine CT.out.mono ?_; rintro e w1 ⟨rfl, x1⟩)
        have H1 := Lib.hid (HI.out.1.trans x1)
        clear y0 y1 y2 y3 x1 CT
        go_roundw
        case rel => exact ⟨k + 1, by go_num, by omega, H1.out, fun j y hj hy => by
          by_cases e : j = k
          · rw [e, HX.out] at hy
            injection hy with hy
            rw [← hy]
            exact HB.out
          · exact HI.out.2 j y (by omega) hy⟩
        case measure => simp [intOf]; omega
    · obtain rfl : n = k := by omega
      go_wp2_with fail
      go_returns
      exact ⟨HI.out.1, .inl ⟨List.all_eq_true.2 fun y hy => by
        obtain ⟨j, hj⟩ := List.getElem?_of_mem hy
        exact HI.out.2 j y (by have := (List.getElem?_eq_some_iff.1 hj).1; omega) hj, rfl⟩⟩
set_option maxHeartbeats 1600000 in
theorem tkany_any (A : Option Addr) (n c : Nat) (ts : List Tk) (w : World) (hr : Rd w 4 A n (trows ts).flatten) (hn : n ≤ 1000000000000000) (b : Bool) (hb : Hid (ts.all Tk.fit = b)) : Calls Tryd.prog 78 #[.slice A n c, tkF] w fun e w' => e = .returned (.bool (!b)) ∧ Ext w w' := by
  have C0 := tkidx_any A n c ts w hr hn
  unfold tkF at *
  cases b with
  | true =>
    have C1 := Lib.hid (C0.mono (R' := fun e w' => e = .returned (.int .i64 (-1)) ∧ Ext w w') (by
      rintro e w' ⟨x, ⟨_, rfl⟩ | ⟨h, _⟩⟩
      · exact ⟨rfl, x⟩
      · rw [hb.out] at h; cases h))
    clear hr C0
    go_enter Tryd.func78, Tryd.ntmps78
    go_wp2_with (refine C1.out.mono ?_; rintro e w1 ⟨rfl, x1⟩)
    go_returns
    exact ⟨rfl, x1⟩
  | false =>
    have C1 := Lib.hid (C0.mono (R' := fun e w' => ∃ k : Nat, e = .returned (.int .i64 (k : Int)) ∧ Ext w w') (by
      rintro e w' ⟨x, ⟨h, _⟩ | ⟨_, k, _, rfl⟩⟩
      · rw [hb.out] at h; cases h
      · exact ⟨k, rfl, x⟩))
    clear hr C0
    go_enter Tryd.func78, Tryd.ntmps78
    go_wp2_with (refine C1.out.mono ?_; rintro e w1 ⟨k, rfl, x1⟩)
    go_returns
    exact ⟨rfl, x1⟩
end Go.Proofs.YteflnnlihblpgaaDoor
