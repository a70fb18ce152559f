/-
  Package queue, in plain words: a heap of things by rank.
-/
import Derived.Test.YtocjbllkgbjihaaDoorLib
namespace Go.Proofs.YtocjbllkgbjihaaDoor
set_option linter.unusedVariables false
/-- A thing. -/
structure Th where
  id : Int
  rank : Int
/-- Does a stand ahead of b? -/
def ah (a b : Th) : Bool := decide (a.rank < b.rank ∨ a.rank = b.rank ∧ a.id < b.id)
theorem ah_true {a b : Th} : ah a b = true ↔ (a.rank < b.rank ∨ a.rank = b.rank ∧ a.id < b.id) := decide_eq_true_iff
theorem ah_false {a b : Th} : ah a b = false ↔ ¬ (a.rank < b.rank ∨ a.rank = b.rank ∧ a.id < b.id) := decide_eq_false_iff_not
theorem ah_asymm {a b : Th} (h : ah a b = true) : ah b a = false := by rw [ah_true] at h; rw [ah_false]; omega
theorem ah_self (a : Th) : ah a a = false := by rw [ah_false]; omega
/-- a ≤ b ≤ c. -/
theorem le_le {a b c : Th} (h1 : ah b a = false) (h2 : ah c b = false) : ah c a = false := by rw [ah_false] at *; omega
theorem lt_le {a b c : Th} (h1 : ah a b = true) (h2 : ah c b = false) : ah c a = false := by rw [ah_true] at h1; rw [ah_false] at *; omega
theorem ne_lt {a b : Th} (h : ah b a = false) (hid : a.id ≠ b.id) : ah a b = true := by rw [ah_false] at h; rw [ah_true]; omega
def at_ (L : List Th) (k : Nat) : Th := L.getD k ⟨0, 0⟩
theorem at_some {L : List Th} {k : Nat} (h : k < L.length) : L[k]? = some (at_ L k) := by simp [at_, List.getD_eq_getElem?_getD, List.getElem?_eq_getElem h]
theorem at_eq {L : List Th} {k : Nat} {x : Th} (h : L[k]? = some x) : at_ L k = x := by simp [at_, List.getD_eq_getElem?_getD, h]
theorem at_mem {L : List Th} {k : Nat} (h : k < L.length) : at_ L k ∈ L := List.mem_of_getElem? (at_some h)
def swapL (L : List Th) (i j : Nat) : List Th := (L.set i (at_ L j)).set j (at_ L i)
theorem swapL_len (L : List Th) (i j : Nat) : (swapL L i j).length = L.length := by simp [swapL]
theorem at_swap {L : List Th} {i j : Nat} (hi : i < L.length) (hj : j < L.length) (k : Nat) : at_ (swapL L i j) k = if k = j then at_ L i else if k = i then at_ L j else at_ L k := by
  unfold swapL
  by_cases e1 : k = j
  · subst e1
    rw [if_pos rfl]
    exact at_eq (by rw [List.getElem?_set_self (by rw [List.length_set]; exact hj)])
  · rw [if_neg e1]
    by_cases e2 : k = i
    · subst e2
      rw [if_pos rfl]
      exact at_eq (by rw [List.getElem?_set_ne (fun e => e1 e.symm), List.getElem?_set_self hi])
    · rw [if_neg e2]
      unfold at_
      rw [List.getD_eq_getElem?_getD, List.getElem?_set_ne (fun e => e1 e.symm), List.getElem?_set_ne (fun e => e2 e.symm), ← List.getD_eq_getElem?_getD]
theorem swap_mem {L : List Th} {i j : Nat} (hi : i < L.length) (hj : j < L.length) (x : Th) : x ∈ swapL L i j ↔ x ∈ L := by
  have key : ∀ M : List Th, M.length = L.length → (∀ k, k < L.length → ∃ k', k' < L.length ∧ at_ M k = at_ L k') → x ∈ M → x ∈ L := fun M hM h hx => by
    obtain ⟨k, hk⟩ := List.getElem?_of_mem hx
    have hlt : k < L.length := by have := (List.getElem?_eq_some_iff.1 hk).1; omega
    obtain ⟨k', hk', e⟩ := h k hlt
    have : x = at_ L k' := by rw [← e, at_eq hk]
    rw [this]
    exact at_mem hk'
  refine ⟨key _ (swapL_len _ _ _) (fun k hk => ?_), fun hx => ?_⟩
  · rw [at_swap hi hj]
    split
    · exact ⟨i, hi, rfl⟩
    · split
      · exact ⟨j, hj, rfl⟩
      · exact ⟨k, hk, rfl⟩
  · obtain ⟨k, hk⟩ := List.getElem?_of_mem hx
    have hlt : k < L.length := (List.getElem?_eq_some_iff.1 hk).1
    have hx2 : at_ L k = x := at_eq hk
    have back : ∀ k', k' < L.length → at_ (swapL L i j) k' = x → x ∈ swapL L i j := fun k' h e => e ▸ at_mem (by rw [swapL_len]; exact h)
    by_cases e1 : k = i
    · subst e1; exact back j hj (by rw [at_swap hi hj, if_pos rfl, hx2])
    · by_cases e2 : k = j
      · subst e2; exact back i hi (by rw [at_swap hi hj, if_neg (fun e => e1 e.symm), if_pos rfl, hx2])
      · exact back k hlt (by rw [at_swap hi hj, if_neg e2, if_neg e1, hx2])
/-- The heap's word up to n. -/
def HeapN (L : List Th) (n : Nat) : Prop := ∀ k, 0 < k → k < n → ah (at_ L k) (at_ L ((k - 1) / 2)) = false
theorem heap_min {L : List Th} {n : Nat} (h : HeapN L n) : ∀ k, k < n → ah (at_ L k) (at_ L 0) = false := by
  intro k
  induction k using Nat.strongRecOn with
  | _ k ih =>
    intro hk
    rcases Nat.eq_zero_or_pos k with e | e
    · subst e; exact ah_self _
    · exact le_le (ih ((k - 1) / 2) (by omega) (by omega)) (h k e hk)
/-- up. -/
def upF : Nat → List Th → Nat → List Th
  | 0, L, _ => L
  | f + 1, L, j => if j = 0 then L else if ah (at_ L j) (at_ L ((j - 1) / 2)) = true then upF f (swapL L ((j - 1) / 2) j) ((j - 1) / 2) else L
/-- down: the list, and where the thing came to stand. -/
def downF : Nat → List Th → Nat → Nat → List Th × Nat
  | 0, L, i, _ => (L, i)
  | f + 1, L, i, n => if n ≤ 2 * i + 1 then (L, i) else
      if ah (at_ L (if 2 * i + 2 < n ∧ ah (at_ L (2 * i + 2)) (at_ L (2 * i + 1)) = true then 2 * i + 2 else 2 * i + 1)) (at_ L i) = true then
        downF f (swapL L i (if 2 * i + 2 < n ∧ ah (at_ L (2 * i + 2)) (at_ L (2 * i + 1)) = true then 2 * i + 2 else 2 * i + 1)) (if 2 * i + 2 < n ∧ ah (at_ L (2 * i + 2)) (at_ L (2 * i + 1)) = true then 2 * i + 2 else 2 * i + 1) n
      else (L, i)
/-- The child that stands first. -/
def kid (L : List Th) (i n : Nat) : Nat := if 2 * i + 2 < n ∧ ah (at_ L (2 * i + 2)) (at_ L (2 * i + 1)) = true then 2 * i + 2 else 2 * i + 1
theorem downF_succ (f : Nat) (L : List Th) (i n : Nat) : downF (f + 1) L i n = if n ≤ 2 * i + 1 then (L, i) else if ah (at_ L (kid L i n)) (at_ L i) = true then downF f (swapL L i (kid L i n)) (kid L i n) n else (L, i) := rfl
theorem kid_is {L : List Th} {i n : Nat} (h : ¬ n ≤ 2 * i + 1) : (kid L i n = 2 * i + 1 ∨ kid L i n = 2 * i + 2) ∧ kid L i n < n ∧ (kid L i n - 1) / 2 = i ∧ i < kid L i n ∧ ∀ k, 0 < k → k < n → (k - 1) / 2 = i → ah (at_ L k) (at_ L (kid L i n)) = false := by
  unfold kid
  split
  · rename_i h2
    refine ⟨.inr rfl, h2.1, by omega, by omega, fun k h0 hk hp => ?_⟩
    rcases (show k = 2 * i + 1 ∨ k = 2 * i + 2 by omega) with e | e
    · rw [e]; exact ah_asymm h2.2
    · rw [e]; exact ah_self _
  · rename_i h2
    refine ⟨.inl rfl, by omega, by omega, by omega, fun k h0 hk hp => ?_⟩
    rcases (show k = 2 * i + 1 ∨ k = 2 * i + 2 by omega) with e | e
    · rw [e]; exact ah_self _
    · rw [e]
      cases hc : ah (at_ L (2 * i + 2)) (at_ L (2 * i + 1)) with
      | false => rfl
      | true => exact absurd ⟨by omega, hc⟩ h2
theorem upF_len : ∀ (f : Nat) (L : List Th) (j : Nat), (upF f L j).length = L.length
  | 0, L, j => rfl
  | f + 1, L, j => by
    rw [upF]
    split
    · rfl
    · split
      · rw [upF_len f, swapL_len]
      · rfl
theorem downF_len : ∀ (f : Nat) (L : List Th) (i n : Nat), (downF f L i n).1.length = L.length
  | 0, L, i, n => rfl
  | f + 1, L, i, n => by
    rw [downF_succ]
    split
    · rfl
    · split
      · rw [downF_len f, swapL_len]
      · rfl
theorem upF_mem (x : Th) : ∀ (f : Nat) (L : List Th) (j : Nat), j < L.length → (x ∈ upF f L j ↔ x ∈ L)
  | 0, L, j, h => Iff.rfl
  | f + 1, L, j, h => by
    rw [upF]
    split
    · exact Iff.rfl
    · split
      · rw [upF_mem x f _ _ (by rw [swapL_len]; omega), swap_mem (by omega) h]
      · exact Iff.rfl
theorem downF_mem (x : Th) {n : Nat} : ∀ (f : Nat) (L : List Th) (i : Nat), n ≤ L.length → i < L.length → (x ∈ (downF f L i n).1 ↔ x ∈ L)
  | 0, L, i, hn, hi => Iff.rfl
  | f + 1, L, i, hn, hi => by
    rw [downF_succ]
    split
    · exact Iff.rfl
    · rename_i h
      have hk := (kid_is (L := L) h).2.1
      split
      · rw [downF_mem x f _ _ (by rw [swapL_len]; exact hn) (by rw [swapL_len]; omega), swap_mem hi (by omega)]
      · exact Iff.rfl
theorem upF_high : ∀ (f : Nat) (L : List Th) (j : Nat), j < L.length → ∀ k, j < k → at_ (upF f L j) k = at_ L k
  | 0, L, j, h, k, hk => rfl
  | f + 1, L, j, h, k, hk => by
    rw [upF]
    split
    · rfl
    · split
      · rw [upF_high f _ _ (by rw [swapL_len]; omega) k (by omega), at_swap (by omega) h, if_neg (by omega), if_neg (by omega)]
      · rfl
theorem downF_high {n : Nat} : ∀ (f : Nat) (L : List Th) (i : Nat), n ≤ L.length → i < n → ∀ k, n ≤ k → at_ (downF f L i n).1 k = at_ L k
  | 0, L, i, hn, hi, k, hk => rfl
  | f + 1, L, i, hn, hi, k, hk => by
    rw [downF_succ]
    split
    · rfl
    · rename_i h
      have hk2 := (kid_is (L := L) h).2.1
      split
      · rw [downF_high f _ _ (by rw [swapL_len]; exact hn) hk2 k hk, at_swap (by omega) (by omega), if_neg (by omega), if_neg (by omega)]
      · rfl
theorem downF_ge {n : Nat} : ∀ (f : Nat) (L : List Th) (i : Nat), i ≤ (downF f L i n).2
  | 0, L, i => Nat.le_refl _
  | f + 1, L, i => by
    rw [downF_succ]
    split
    · exact Nat.le_refl _
    · rename_i h
      have hk2 := (kid_is (L := L) h).2.2.2.1
      split
      · exact Nat.le_trans (Nat.le_of_lt hk2) (downF_ge f _ _)
      · exact Nat.le_refl _
/-- All is well but that the thing at j may stand too low. -/
def UpInv (L : List Th) (n j : Nat) : Prop := (∀ k, 0 < k → k < n → k ≠ j → ah (at_ L k) (at_ L ((k - 1) / 2)) = false) ∧ ∀ k, 0 < k → k < n → (k - 1) / 2 = j → 0 < j → ah (at_ L k) (at_ L ((j - 1) / 2)) = false
theorem up_heap {n : Nat} : ∀ (f : Nat) (L : List Th) (j : Nat), j < f → j < L.length → UpInv L n j → HeapN (upF f L j) n
  | 0, L, j, hf, hj, h => absurd hf (by omega)
  | f + 1, L, j, hf, hj, h => by
    rw [upF]
    split
    · rename_i e
      exact fun k h0 hk => h.1 k h0 hk (by omega)
    · rename_i e
      split
      · rename_i ha
        have hp : (j - 1) / 2 < L.length := by omega
        refine up_heap f _ _ (by omega) (by rw [swapL_len]; omega) ⟨fun k h0 hk hne => ?_, fun k h0 hk hpk hpos => ?_⟩
        · rw [at_swap hp hj, at_swap hp hj]
          by_cases e1 : k = j
          · subst e1
            rw [if_pos rfl, if_neg (by omega), if_pos rfl]
            exact ah_asymm ha
          · rw [if_neg e1, if_neg hne]
            by_cases e2 : (k - 1) / 2 = j
            · rw [if_pos e2]; exact h.2 k h0 hk e2 (by omega)
            · rw [if_neg e2]
              by_cases e3 : (k - 1) / 2 = (j - 1) / 2
              · rw [if_pos e3]
                exact lt_le ha (e3 ▸ h.1 k h0 hk e1)
              · rw [if_neg e3]; exact h.1 k h0 hk e1
        · have hpj : (j - 1) / 2 ≠ j := by omega
          have hw := h.1 ((j - 1) / 2) hpos (by omega) hpj
          rw [at_swap hp hj, at_swap hp hj, if_neg (show ((j - 1) / 2 - 1) / 2 ≠ j by omega), if_neg (show ((j - 1) / 2 - 1) / 2 ≠ (j - 1) / 2 by omega)]
          by_cases e1 : k = j
          · rw [if_pos e1]; exact hw
          · rw [if_neg e1, if_neg (by omega)]
            exact le_le hw (hpk ▸ h.1 k h0 hk e1)
      · rename_i ha
        intro k h0 hk
        by_cases e1 : k = j
        · subst e1
          cases hc : ah (at_ L k) (at_ L ((k - 1) / 2)) with
          | false => rfl
          | true => exact absurd hc ha
        · exact h.1 k h0 hk e1
/-- All is well but that the thing at i may stand too high. -/
def DownInv (L : List Th) (n i : Nat) : Prop := (∀ k, 0 < k → k < n → (k - 1) / 2 ≠ i → ah (at_ L k) (at_ L ((k - 1) / 2)) = false) ∧ ∀ k, 0 < k → k < n → (k - 1) / 2 = i → 0 < i → ah (at_ L k) (at_ L ((i - 1) / 2)) = false
/-- All is well but for the thing at i. -/
def FixInv (L : List Th) (n i : Nat) : Prop := (∀ k, 0 < k → k < n → k ≠ i → (k - 1) / 2 ≠ i → ah (at_ L k) (at_ L ((k - 1) / 2)) = false) ∧ ∀ k, 0 < k → k < n → (k - 1) / 2 = i → 0 < i → ah (at_ L k) (at_ L ((i - 1) / 2)) = false
theorem fix_move {L : List Th} {n i : Nat} (hn : n ≤ L.length) (hi : i < n) (h : FixInv L n i) (h1 : ¬ n ≤ 2 * i + 1) (ha : ah (at_ L (kid L i n)) (at_ L i) = true) : DownInv (swapL L i (kid L i n)) n (kid L i n) := by
  obtain ⟨k1, k2, k3, k4, k5⟩ := kid_is (L := L) h1
  generalize kid L i n = j at *
  have hil : i < L.length := by omega
  have hjl : j < L.length := by omega
  refine ⟨fun k h0 hk hne => ?_, fun k h0 hk hpk hpos => ?_⟩
  · rw [at_swap hil hjl, at_swap hil hjl, if_neg hne]
    by_cases e1 : k = j
    · rw [if_pos e1, if_pos (by omega)]; exact ah_asymm ha
    · rw [if_neg e1]
      by_cases e2 : k = i
      · rw [if_pos e2, if_neg (by omega), e2]
        exact h.2 j (by omega) k2 k3 (by omega)
      · rw [if_neg e2]
        by_cases e3 : (k - 1) / 2 = i
        · rw [if_pos e3]; exact k5 k h0 hk e3
        · rw [if_neg e3]; exact h.1 k h0 hk e2 e3
  · rw [at_swap hil hjl, at_swap hil hjl, if_neg (by omega), if_neg (by omega), if_neg (by omega), if_pos k3]
    exact hpk ▸ h.1 k h0 hk (by omega) (by omega)
theorem DownInv.fix {L : List Th} {n i : Nat} (h : DownInv L n i) : FixInv L n i := ⟨fun k h0 hk _ h2 => h.1 k h0 hk h2, h.2⟩
/-- Nothing moved: all is well below i. -/
theorem still_kids {L : List Th} {n i : Nat} (hs : n ≤ 2 * i + 1 ∨ (¬ n ≤ 2 * i + 1 ∧ ¬ ah (at_ L (kid L i n)) (at_ L i) = true)) : ∀ k, 0 < k → k < n → (k - 1) / 2 = i → ah (at_ L k) (at_ L i) = false := fun k h0 hk hp => by
  rcases hs with h | ⟨h, ha⟩
  · omega
  · obtain ⟨k1, k2, k3, k4, k5⟩ := kid_is (L := L) h
    refine le_le (a := at_ L i) (b := at_ L (kid L i n)) ?_ (k5 k h0 hk hp)
    cases hc : ah (at_ L (kid L i n)) (at_ L i) with
    | false => rfl
    | true => exact absurd hc ha
theorem down_heap {n : Nat} : ∀ (f : Nat) (L : List Th) (i : Nat), n ≤ L.length → i < n → n ≤ f + i → DownInv L n i → HeapN (downF f L i n).1 n
  | 0, L, i, hn, hi, hf, h => absurd hf (by omega)
  | f + 1, L, i, hn, hi, hf, h => by
    have well : (n ≤ 2 * i + 1 ∨ (¬ n ≤ 2 * i + 1 ∧ ¬ ah (at_ L (kid L i n)) (at_ L i) = true)) → HeapN L n := fun hs k h0 hk => by
      by_cases e : (k - 1) / 2 = i
      · rw [e]; exact still_kids hs k h0 hk e
      · exact h.1 k h0 hk e
    rw [downF_succ]
    split
    · rename_i h1; exact well (.inl h1)
    · rename_i h1
      split
      · rename_i ha
        have hk := kid_is (L := L) h1
        exact down_heap f _ _ (by rw [swapL_len]; exact hn) hk.2.1 (by have := hk.2.2.2.1; omega) (fix_move hn hi h.fix h1 ha)
      · rename_i ha; exact well (.inr ⟨h1, ha⟩)
/-- down, anywhere: it moved the thing, and all is well; or it did not, and the thing may only stand too low. -/
theorem down_fix {n f : Nat} {L : List Th} {i : Nat} (hn : n ≤ L.length) (hi : i < n) (hf : n ≤ f + i) (h : FixInv L n i) :
    ((downF f L i n).2 = i ∧ (downF f L i n).1 = L ∧ UpInv L n i) ∨ (i < (downF f L i n).2 ∧ HeapN (downF f L i n).1 n) := by
  cases f with
  | zero => omega
  | succ f =>
    have stay : (n ≤ 2 * i + 1 ∨ (¬ n ≤ 2 * i + 1 ∧ ¬ ah (at_ L (kid L i n)) (at_ L i) = true)) → UpInv L n i := fun hs => ⟨fun k h0 hk hne => by
      by_cases e : (k - 1) / 2 = i
      · rw [e]; exact still_kids hs k h0 hk e
      · exact h.1 k h0 hk hne e, h.2⟩
    rw [downF_succ]
    split
    · rename_i h1; exact .inl ⟨rfl, rfl, stay (.inl h1)⟩
    · rename_i h1
      split
      · rename_i ha
        have hk := kid_is (L := L) h1
        exact .inr ⟨Nat.lt_of_lt_of_le hk.2.2.2.1 (downF_ge _ _ _), down_heap f _ _ (by rw [swapL_len]; exact hn) hk.2.1 (by have := hk.2.2.2.1; omega) (fix_move hn hi h h1 ha)⟩
      · rename_i ha; exact .inl ⟨rfl, rfl, stay (.inr ⟨h1, ha⟩)⟩
/-- A heap but for one thing. -/
theorem heap_fix {L M : List Th} {n N i : Nat} (h : HeapN L N) (hn : n ≤ N) (e : ∀ k, k < n → k ≠ i → at_ M k = at_ L k) : FixInv M n i := by
  refine ⟨fun k h0 hk h1 h2 => ?_, fun k h0 hk hp hpos => ?_⟩
  · rw [e k hk h1, e _ (by omega) h2]; exact h k h0 (by omega)
  · rw [e k hk (by omega), e _ (by omega) (by omega)]
    exact le_le (h i hpos (by omega)) (hp ▸ h k h0 (by omega))
theorem fix_zero {L : List Th} {n : Nat} (h : FixInv L n 0) : DownInv L n 0 := ⟨fun k h0 hk h1 => h.1 k h0 hk (by omega) h1, fun k h0 hk hp hpos => absurd hpos (by omega)⟩
end Go.Proofs.YtocjbllkgbjihaaDoor
