/-
  A heap of things in memory: a row of things, and a map that knows where each of them is.
-/
import Derived.Test.YtocjbllkgbjihaaDoorQuPlain
import Derived.Test.YtocjbllkgbjihaaDoorQuMap
import Derived.Test.YtocjbllkgbjihaaDoorBlk
import Derived.Test.YtocjbllkgbjihaaDoorErr
import Derived.Test.YtocjbllkgbjihaaDoorStep
import Derived.Test.YtocjbllkgbjihaaDoorOrd
namespace Go.Proofs.YtocjbllkgbjihaaDoor
set_option maxRecDepth 100000
open Go.RowKit Go.Maps
set_option linter.unusedVariables false
/-- The cells of a thing. -/
def trow (x : Th) : List Value := [.int .i64 x.id, .int .i64 x.rank]
def trows (L : List Th) : List (List Value) := L.map trow
theorem trows_even (L : List Th) : Even 2 (trows L) := by
  intro r hr
  obtain ⟨x, _, rfl⟩ := List.mem_map.1 hr
  rfl
theorem trows_at {L : List Th} {k : Nat} {x : Th} (h : L[k]? = some x) : (trows L)[k]? = some (trow x) := by simp [trows, h]
theorem trows_len (L : List Th) : (trows L).length = L.length := by simp [trows]
theorem trow_one (x : Th) : ∀ u ∈ trow x, u.oneCell' = true := by
  intro u hu
  simp [trow] at hu
  rcases hu with rfl | rfl <;> rfl
/-- A thing as a value. -/
def thV (x : Th) : Value := .agg #[.int .i64 x.id, .int .i64 x.rank]
theorem eltR : Elt Tryd.prog 48 34 2 16 (.agg #[.int .i64 0, .int .i64 0]) := ⟨Tryd.underlying48, by kernel_rfl, by kernel_rfl, by omega⟩
def i64 (x : Int) : Prop := -9223372036854775808 ≤ x ∧ x ≤ 9223372036854775807
/-- f tells where each thing of L is. -/
structure Ix (L : List Th) (f : Int → Option Value) : Prop where
  here : ∀ (k : Nat) (x : Th), L[k]? = some x → f x.id = some (.int .i64 (k : Int))
  only : ∀ (y : Int) (v : Value), f y = some v → ∃ (k : Nat) (x : Th), L[k]? = some x ∧ x.id = y
theorem Ix.nil_ : Ix [] (fun _ => none) := ⟨fun k x h => by simp at h, fun y v h => by cases h⟩
theorem Ix.inj {L : List Th} {f : Int → Option Value} (h : Ix L f) {i j : Nat} {a b : Th} (ha : L[i]? = some a) (hb : L[j]? = some b) (e : a.id = b.id) : i = j := by
  have h1 := h.here i a ha
  rw [e, h.here j b hb] at h1
  simp at h1
  omega
theorem Ix.none_ {L : List Th} {f : Int → Option Value} (h : Ix L f) {y : Int} (hy : ∀ x ∈ L, x.id ≠ y) : f y = none := by
  cases hf : f y with
  | none => rfl
  | some v =>
    obtain ⟨k, x, hx, e⟩ := h.only y v hf
    exact absurd e (hy x (List.mem_of_getElem? hx))
theorem Ix.push {L : List Th} {f : Int → Option Value} (h : Ix L f) {x : Th} (hx : ∀ y ∈ L, y.id ≠ x.id) : Ix (L ++ [x]) (fun y => if y = x.id then some (.int .i64 (L.length : Int)) else f y) := by
  refine ⟨fun k a ha => ?_, fun y v hy => ?_⟩
  · have _h0 := True.intro
    rcases Nat.lt_or_ge k L.length with hk | hk
    · rw [List.getElem?_append_left hk] at ha
      rw [if_neg (hx a (List.mem_of_getElem? ha))]
      exact h.here k a ha
    · rw [List.getElem?_append_right hk] at ha
      have hl := (List.getElem?_eq_some_iff.1 ha).1
      simp at hl
      rw [show k - L.length = 0 by omega] at ha
      simp at ha
      subst ha
      rw [if_pos rfl, show k = L.length by omega]
  · have _h0 := True.intro
    by_cases e : y = x.id
    · exact ⟨L.length, x, by simp, e.symm⟩
    · rw [if_neg e] at hy
      obtain ⟨k, a, ha, e2⟩ := h.only y v hy
      exact ⟨k, a, by rw [List.getElem?_append_left (List.getElem?_eq_some_iff.1 ha).1]; exact ha, e2⟩
theorem Ix.pop {L : List Th} {f : Int → Option Value} (h : Ix L f) {n : Nat} {x : Th} (hn : L.length = n + 1) (hx : L[n]? = some x) : Ix (L.take n) (fun y => if y = x.id then none else f y) := by
  refine ⟨fun k a ha => ?_, fun y v hy => ?_⟩
  · have _h0 := True.intro
    rw [List.getElem?_take] at ha
    split at ha
    · rename_i hk
      rw [if_neg (fun e => by have := h.inj ha hx e; omega)]
      exact h.here k a ha
    · cases ha
  · have _h0 := True.intro
    by_cases e : y = x.id
    · rw [if_pos e] at hy; cases hy
    · rw [if_neg e] at hy
      obtain ⟨k, a, ha, e2⟩ := h.only y v hy
      have hk := (List.getElem?_eq_some_iff.1 ha).1
      have hkn : k ≠ n := fun e3 => by rw [e3, hx] at ha; injection ha with ha; exact e (by rw [ha, e2])
      exact ⟨k, a, by rw [List.getElem?_take, if_pos (by omega)]; exact ha, e2⟩
theorem Ix.swap {L : List Th} {f : Int → Option Value} (h : Ix L f) {i j : Nat} (hi : i < L.length) (hj : j < L.length) :
    Ix (swapL L i j) (fun y => if y = (at_ L i).id then some (.int .i64 (j : Int)) else if y = (at_ L j).id then some (.int .i64 (i : Int)) else f y) := by
  refine ⟨fun k a ha => ?_, fun y v hy => ?_⟩
  · have hk := (List.getElem?_eq_some_iff.1 ha).1
    rw [swapL_len] at hk
    have e1 := at_eq ha
    rw [at_swap hi hj] at e1
    by_cases e2 : k = j
    · rw [if_pos e2] at e1
      rw [e1, if_pos rfl, e2]
    · rw [if_neg e2] at e1
      by_cases e3 : k = i
      · rw [if_pos e3] at e1
        rw [← e1, if_neg (fun e => by have := h.inj (at_some hj) (at_some hi) e; omega), if_pos rfl, e3]
      · rw [if_neg e3] at e1
        rw [← e1, if_neg (fun e => by have := h.inj (at_some hk) (at_some hi) e; omega), if_neg (fun e => by have := h.inj (at_some hk) (at_some hj) e; omega)]
        exact h.here k _ (at_some hk)
  · have _h0 := True.intro
    by_cases e1 : y = (at_ L i).id
    · exact ⟨j, _, at_some (by rw [swapL_len]; exact hj), by rw [at_swap hi hj, if_pos rfl, e1]⟩
    · rw [if_neg e1] at hy
      by_cases e2 : y = (at_ L j).id
      · refine ⟨i, _, at_some (by rw [swapL_len]; exact hi), ?_⟩
        rw [at_swap hi hj]
        split
        · rename_i e3; rw [e2, e3]
        · rw [if_pos rfl, e2]
      · rw [if_neg e2] at hy
        obtain ⟨k, a, ha, e3⟩ := h.only y v hy
        have hk := (List.getElem?_eq_some_iff.1 ha).1
        have e4 := at_eq ha
        refine ⟨k, _, at_some (by rw [swapL_len]; exact hk), ?_⟩
        rw [at_swap hi hj, if_neg (fun e => e2 (by rw [← e, e4, e3])), if_neg (fun e => e1 (by rw [← e, e4, e3])), e4, e3]
theorem Ix.turn {L : List Th} {f : Int → Option Value} (h : Ix L f) {k : Nat} {x : Th} (hx : L[k]? = some x) (r : Int) : Ix (L.set k ⟨x.id, r⟩) f := by
  have hk := (List.getElem?_eq_some_iff.1 hx).1
  refine ⟨fun i a ha => ?_, fun y v hy => ?_⟩
  · by_cases e : k = i
    · subst e
      rw [List.getElem?_set_self hk] at ha
      injection ha with ha
      subst ha
      exact h.here k x hx
    · rw [List.getElem?_set_ne e] at ha
      exact h.here i a ha
  · obtain ⟨i, a, ha, e2⟩ := h.only y v hy
    by_cases e : k = i
    · subst e
      rw [hx] at ha
      injection ha with ha
      subst ha
      exact ⟨k, ⟨x.id, r⟩, List.getElem?_set_self hk, e2⟩
    · exact ⟨i, a, by rw [List.getElem?_set_ne e]; exact ha, e2⟩
/-- Things at block g. -/
structure TS (w : World) (g b : Nat) (A : Option Addr) (n c : Nat) (L : List Th) (Z : Nat) (ty : TypeId) : Prop where
  blk : w.heap[g]? = some (.cells #[.slice A n c, .map (some b)] ty (0, 0))
  map : ∃ f m, MapI Tryd.prog 3 w b m f ∧ m ≤ Z ∧ Ix L f
  own : Own w 0 34 2 A n c (trows L).flatten
  rng : ∀ x ∈ L, i64 x.id
  bg : b ≠ g
  ag : ∀ a, A = some a → a.block ≠ g ∧ a.block ≠ b
section
variable {w w' : World} {g b n c Z : Nat} {A : Option Addr} {L : List Th} {ty : TypeId}
theorem TS.lt (h : TS w g b A n c L Z ty) : g < w.heap.size ∧ b < w.heap.size := by
  obtain ⟨f, m, h2, _⟩ := h.map
  exact ⟨block_lt h.blk, h2.lt⟩
theorem TS.len (h : TS w g b A n c L Z ty) : L.length = n := by
  have h1 := h.own.rd.1
  rw [(trows_even L).len, trows_len] at h1
  omega
theorem TS.fr (h : TS w g b A n c L Z ty) {P : Nat → Prop} (hf : Fr w w' P) (hg : ¬ P g) (hb : ¬ P b) (hA : ∀ a, A = some a → ¬ P a.block) : TS w' g b A n c L Z ty := by
  obtain ⟨f, m, h2, h3⟩ := h.map
  exact ⟨(hf.block g h.lt.1 hg).trans h.blk, ⟨f, m, h2.fr hf hb, h3⟩, hf.own h.own hA, h.rng, h.bg, h.ag⟩
theorem TS.ex (h : TS w g b A n c L Z ty) (hx : Ext w w') : TS w' g b A n c L Z ty := h.fr (Fr.of_ext hx (fun _ => False)) (fun h => h) (fun h => h) (fun _ _ h => h)
theorem TS.mono (h : TS w g b A n c L Z ty) {Z' : Nat} (hz : Z ≤ Z') : TS w g b A n c L Z' ty := by
  obtain ⟨f, m, h2, h3, h4⟩ := h.map
  exact ⟨h.blk, ⟨f, m, h2, Nat.le_trans h3 hz, h4⟩, h.own, h.rng, h.bg, h.ag⟩
theorem TS.cells (h : TS w g b A n c L Z ty) : w.cell? ⟨g, 0, none⟩ = some (.slice A n c) ∧ w.cell? ⟨g, 1, none⟩ = some (.map (some b)) := ⟨block_cell h.blk 0, block_cell h.blk 1⟩
/-- Where thing k lies. -/
theorem TS.at_ (h : TS w g b A n c L Z ty) {k k2 : Nat} {x : Th} (hk : L[k]? = some x) (h2 : k * 2 = k2) : ∃ T, A = some ⟨T, 0, none⟩ ∧ T < w.heap.size ∧ T ≠ g ∧ T ≠ b ∧ w.cell? ⟨T, k2, none⟩ = some (.int .i64 x.id) ∧ w.cell? ⟨T, k2 + 1, none⟩ = some (.int .i64 x.rank) ∧ w.frozen? ⟨T, k2, none⟩ = false ∧ w.frozen? ⟨T, k2 + 1, none⟩ = false := by
  have hkl : k < n := by have := h.len; have := (List.getElem?_eq_some_iff.1 hk).1; omega
  obtain ⟨T, rfl⟩ := h.own.head (by omega)
  exact ⟨T, rfl, h.own.lt, (h.ag _ rfl).1, (h.ag _ rfl).2, h.own.rowAt (trows_even L) (trows_at hk) h2 (i := 0) rfl, h.own.rowAt (trows_even L) (trows_at hk) h2 (i := 1) rfl, h.own.frozenAt _, h.own.frozenAt _⟩
/-- What a call leaves that writes to the row and to the map alone. -/
structure TK (w w' : World) (g b : Nat) (A : Option Addr) (n c : Nat) (L : List Th) (Z : Nat) (ty : TypeId) : Prop where
  ts : TS w' g b A n c L Z ty
  fr : Fr w w' (fun k => k = b ∨ A.map (·.block) = some k)
theorem TK.refl (h : TS w g b A n c L Z ty) : TK w w g b A n c L Z ty := ⟨h, Fr.refl w _⟩
theorem TK.ext (h : TS w g b A n c L Z ty) (hx : Ext w w') : TK w w' g b A n c L Z ty := ⟨h.ex hx, Fr.of_ext hx _⟩
theorem TK.trans {w1 : World} {L1 L2 : List Th} {Z1 Z2 : Nat} (h : TK w w1 g b A n c L1 Z1 ty) (k : TK w1 w' g b A n c L2 Z2 ty) : TK w w' g b A n c L2 Z2 ty := ⟨k.ts, h.fr.trans k.fr (fun _ _ h => h)⟩
theorem TK.grow {w1 : World} (h : TK w w1 g b A n c L Z ty) (hx : Ext w1 w') : TK w w' g b A n c L Z ty := h.trans (TK.ext h.ts hx)
/-- What a call leaves that may make a new row. -/
structure TN (w w' : World) (g b : Nat) (A : Option Addr) (L' : List Th) (Z' : Nat) (ty : TypeId) : Prop where
  ex : ∃ A' n' c', TS w' g b A' n' c' L' Z' ty ∧ ∀ a, A' = some a → A.map (·.block) = some a.block ∨ w.heap.size ≤ a.block
  fr : Fr w w' (fun k => k = g ∨ k = b ∨ A.map (·.block) = some k)
theorem TK.tn (h : TK w w' g b A n c L Z ty) : TN w w' g b A L Z ty := ⟨⟨A, n, c, h.ts, fun a ha => .inl (by rw [ha]; rfl)⟩, h.fr.mono (fun _ _ h => .inr h)⟩
theorem TN.ext {w1 : World} (h : TN w w1 g b A L Z ty) (hx : Ext w1 w') : TN w w' g b A L Z ty := by
  obtain ⟨⟨A', n', c', h1, h2⟩, hf⟩ := h
  exact ⟨⟨A', n', c', h1.ex hx, h2⟩, hf.trans (Fr.of_ext hx (fun _ => False)) (fun _ _ h => h.elim)⟩
end
end Go.Proofs.YtocjbllkgbjihaaDoor
