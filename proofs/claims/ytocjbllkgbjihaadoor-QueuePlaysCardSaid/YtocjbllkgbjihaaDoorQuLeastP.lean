/-
  Package queue, in plain words: a list made a heap; the first ones of a list, one by one.
-/
import Derived.Test.YtocjbllkgbjihaaDoorQuPerm
namespace Go.Proofs.YtocjbllkgbjihaaDoor
set_option linter.unusedVariables false
open List (Perm)
/-- The heap's word from place s on. -/
def HeapS (L : List Th) (n s : Nat) : Prop := ∀ k, 0 < k → k < n → s ≤ (k - 1) / 2 → ah (at_ L k) (at_ L ((k - 1) / 2)) = false
def DownS (L : List Th) (n s i : Nat) : Prop := s ≤ i ∧ (∀ k, 0 < k → k < n → s ≤ (k - 1) / 2 → (k - 1) / 2 ≠ i → ah (at_ L k) (at_ L ((k - 1) / 2)) = false) ∧ ∀ k, 0 < k → k < n → (k - 1) / 2 = i → s ≤ (i - 1) / 2 → 0 < i → ah (at_ L k) (at_ L ((i - 1) / 2)) = false
theorem downS_move {L : List Th} {n s i : Nat} (hn : n ≤ L.length) (hi : i < n) (h : DownS L n s i) (h1 : ¬ n ≤ 2 * i + 1) (ha : ah (at_ L (kid L i n)) (at_ L i) = true) : DownS (swapL L i (kid L i n)) n s (kid L i n) := by
  obtain ⟨h0, h2, h3⟩ := h
  obtain ⟨k1, k2, k3, k4, k5⟩ := kid_is (L := L) h1
  generalize kid L i n = j at *
  have hil : i < L.length := by omega
  have hjl : j < L.length := by omega
  refine ⟨by omega, fun k h0 hk hs hne => ?_, fun k h0 hk hpk hs hpos => ?_⟩
  · rw [at_swap hil hjl, at_swap hil hjl, if_neg hne]
    by_cases e1 : k = j
    · rw [if_pos e1, if_pos (by omega)]; exact ah_asymm ha
    · rw [if_neg e1]
      by_cases e2 : k = i
      · rw [if_pos e2, if_neg (by omega), e2]
        exact h3 j (by omega) k2 k3 (by rw [← e2]; exact hs) (by omega)
      · rw [if_neg e2]
        by_cases e3 : (k - 1) / 2 = i
        · rw [if_pos e3]; exact k5 k h0 hk e3
        · rw [if_neg e3]; exact h2 k h0 hk hs e3
  · rw [at_swap hil hjl, at_swap hil hjl, if_neg (by omega), if_neg (by omega), if_neg (by omega), if_pos k3]
    exact hpk ▸ h2 k h0 hk (by omega) (by omega)
theorem downS_heap {n s : Nat} : ∀ (f : Nat) (L : List Th) (i : Nat), n ≤ L.length → i < n → n ≤ f + i → DownS L n s i → HeapS (downF f L i n).1 n s
  | 0, L, i, hn, hi, hf, h => absurd hf (by omega)
  | f + 1, L, i, hn, hi, hf, h => by
    have well : (n ≤ 2 * i + 1 ∨ (¬ n ≤ 2 * i + 1 ∧ ¬ ah (at_ L (kid L i n)) (at_ L i) = true)) → HeapS L n s := fun hs k h0 hk hp => by
      by_cases e : (k - 1) / 2 = i
      · rw [e]; exact still_kids hs k h0 hk e
      · exact h.2.1 k h0 hk hp e
    rw [downF_succ]
    split
    · rename_i h1; exact well (.inl h1)
    · rename_i h1
      split
      · rename_i ha
        have hk := kid_is (L := L) h1
        exact downS_heap f _ _ (by rw [swapL_len]; exact hn) hk.2.1 (by have := hk.2.2.2.1; omega) (downS_move hn hi h h1 ha)
      · rename_i ha; exact well (.inr ⟨h1, ha⟩)
/-- Init. -/
def initF : Nat → List Th → Nat → List Th
  | 0, L, n => L
  | k + 1, L, n => initF k (downF (n + 1) L k n).1 n
theorem initF_spec {n : Nat} : ∀ (s : Nat) (L : List Th), L.length = n → s ≤ n / 2 → HeapS L n s → (initF s L n).Perm L ∧ HeapN (initF s L n) n
  | 0, L, hl, hs, h => ⟨Perm.refl _, fun k h0 hk => h k h0 hk (by omega)⟩
  | s + 1, L, hl, hs, h => by
    have h1 := downS_heap (n := n) (s := s) (n + 1) L s (by omega) (by omega) (by omega) ⟨Nat.le_refl _, fun k h0 hk hp hne => h k h0 hk (by omega), fun k h0 hk hp hs2 hpos => by omega⟩
    have hp := downF_perm (n := n) (n + 1) L s (by omega) (by omega)
    obtain ⟨h2, h3⟩ := initF_spec s (downF (n + 1) L s n).1 (by rw [downF_len, hl]) (by omega) h1
    exact ⟨h2.trans hp, h3⟩
theorem init_heap {L : List Th} {n : Nat} (hl : L.length = n) : (initF (n / 2) L n).Perm L ∧ HeapN (initF (n / 2) L n) n :=
  initF_spec (n / 2) L hl (Nat.le_refl _) (fun k h0 hk hp => by omega)
/-- Ranks as things. -/
def thingsOf (ranks : List Int) : List Th := ranks.mapIdx fun i r => ⟨(i : Int), r⟩
theorem thingsOf_len (ranks : List Int) : (thingsOf ranks).length = ranks.length := by simp [thingsOf]
theorem thingsOf_at {ranks : List Int} {k : Nat} {r : Int} (h : ranks[k]? = some r) : (thingsOf ranks)[k]? = some ⟨(k : Int), r⟩ := by simp [thingsOf, h]
theorem thingsOf_mem {ranks : List Int} {x : Th} (h : x ∈ thingsOf ranks) : ∃ k : Nat, ranks[k]? = some x.rank ∧ x.id = (k : Int) := by
  obtain ⟨k, hk⟩ := List.getElem?_of_mem h
  simp only [thingsOf, List.getElem?_mapIdx, Option.map_eq_some_iff] at hk
  obtain ⟨r, hr, rfl⟩ := hk
  exact ⟨k, hr, rfl⟩
theorem thingsOf_new {ranks : List Int} {k : Nat} : ∀ y ∈ (thingsOf ranks).take k, y.id ≠ (k : Int) := fun y hy e => by
  obtain ⟨j, hj⟩ := List.getElem?_of_mem hy
  rw [List.getElem?_take] at hj
  split at hj
  · rename_i hlt
    simp only [thingsOf, List.getElem?_mapIdx, Option.map_eq_some_iff] at hj
    obtain ⟨r, hr, rfl⟩ := hj
    have e2 : (j : Int) = (k : Int) := e
    omega
  · cases hj
/-- The places of the least ranks. -/
def leastL (ranks : List Int) (k : Nat) : List Int := ((sortT (thingsOf ranks)).take k).map Th.id
theorem leastL_len {ranks : List Int} {k : Nat} (h : k ≤ ranks.length) : (leastL ranks k).length = k := by simp [leastL, sortT_len, thingsOf_len]; omega
end Go.Proofs.YtocjbllkgbjihaaDoor
