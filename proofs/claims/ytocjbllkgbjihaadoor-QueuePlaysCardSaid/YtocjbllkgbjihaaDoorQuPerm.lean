/-
  Package queue, in plain words: what the heap's steps leave is the same things in another order; lists in order.
-/
import Derived.Test.YtocjbllkgbjihaaDoorQuPlain
namespace Go.Proofs.YtocjbllkgbjihaaDoor
set_option linter.unusedVariables false
open List (Perm)
theorem swap_perm {L : List Th} {i j : Nat} (hi : i < L.length) (hj : j < L.length) : (swapL L i j).Perm L := by
  have h := List.set_set_perm hi hj
  rwa [show L[j] = at_ L j by simp [at_, List.getD_eq_getElem?_getD, hj], show L[i] = at_ L i by simp [at_, List.getD_eq_getElem?_getD, hi]] at h
theorem upF_perm : ∀ (f : Nat) (L : List Th) (j : Nat), j < L.length → (upF f L j).Perm L
  | 0, L, j, h => Perm.refl _
  | f + 1, L, j, h => by
    rw [upF]
    split
    · exact Perm.refl _
    · split
      · exact (upF_perm f _ _ (by rw [swapL_len]; omega)).trans (swap_perm (by omega) h)
      · exact Perm.refl _
theorem downF_perm {n : Nat} : ∀ (f : Nat) (L : List Th) (i : Nat), n ≤ L.length → i < L.length → ((downF f L i n).1).Perm L
  | 0, L, i, hn, hi => Perm.refl _
  | f + 1, L, i, hn, hi => by
    rw [downF_succ]
    split
    · exact Perm.refl _
    · rename_i h
      have hk := (kid_is (L := L) h).2.1
      split
      · exact (downF_perm f _ _ (by rw [swapL_len]; exact hn) (by rw [swapL_len]; omega)).trans (swap_perm hi (by omega))
      · exact Perm.refl _
/-- An element and the rest. -/
theorem perm_erase {α : Type} : ∀ {L : List α} {k : Nat} {x : α}, L[k]? = some x → (x :: L.eraseIdx k).Perm L
  | a :: L, 0, x, h => by simp at h; subst h; simp
  | a :: L, k + 1, x, h => by
    have := perm_erase (L := L) (k := k) (x := x) (by simpa using h)
    exact (Perm.swap a x _).trans (this.cons a)
theorem perm_set {α : Type} {L : List α} {k : Nat} (y : α) (hk : k < L.length) : (y :: L.eraseIdx k).Perm (L.set k y) := by
  have h := perm_erase (L := L.set k y) (k := k) (x := y) (List.getElem?_set_self hk)
  rwa [show (L.set k y).eraseIdx k = L.eraseIdx k by rw [List.eraseIdx_eq_take_drop_succ, List.eraseIdx_eq_take_drop_succ]; simp [List.take_set_of_le, List.drop_set_of_lt]] at h
/-- No two things have one id. -/
def Ids (L : List Th) : Prop := (L.map Th.id).Nodup
theorem Ids.perm {L M : List Th} (h : Ids L) (p : L.Perm M) : Ids M := (p.map Th.id).nodup h
theorem Ids.tail {x : Th} {L : List Th} (h : Ids (x :: L)) : Ids L := (List.nodup_cons.1 h).2
theorem Ids.ne {x : Th} {L : List Th} (h : Ids (x :: L)) : ∀ y ∈ L, y.id ≠ x.id := fun y hy e => (List.nodup_cons.1 h).1 (by
  show x.id ∈ L.map Th.id
  rw [← e]
  exact List.mem_map_of_mem hy)
theorem Ids.cons {x : Th} {L : List Th} (h : Ids L) (hx : ∀ y ∈ L, y.id ≠ x.id) : Ids (x :: L) := List.nodup_cons.2 ⟨fun e => by
  obtain ⟨y, hy, e2⟩ := List.mem_map.1 e
  exact hx y hy e2, h⟩
theorem Ids.eq : ∀ {L : List Th}, Ids L → ∀ {x y : Th}, x ∈ L → y ∈ L → x.id = y.id → x = y
  | a :: L, h, x, y, hx, hy, e => by
    rcases List.mem_cons.1 hx with rfl | hx2
    · rcases List.mem_cons.1 hy with rfl | hy2
      · rfl
      · exact absurd e.symm (h.ne y hy2)
    · rcases List.mem_cons.1 hy with rfl | hy2
      · exact absurd e (h.ne x hx2)
      · exact Ids.eq h.tail hx2 hy2 e
/-- a stands at b's place or ahead. -/
def le_ (a b : Th) : Bool := !ah b a
theorem le_iff {a b : Th} : le_ a b = true ↔ ah b a = false := by unfold le_; cases ah b a <;> simp
theorem le_trans_ (a b c : Th) (h1 : le_ a b = true) (h2 : le_ b c = true) : le_ a c = true := le_iff.2 (le_le (le_iff.1 h1) (le_iff.1 h2))
theorem le_total_ (a b : Th) : (le_ a b || le_ b a) = true := by
  cases h : ah b a with
  | false => rw [Bool.or_eq_true]; exact .inl (le_iff.2 h)
  | true => rw [Bool.or_eq_true]; exact .inr (le_iff.2 (ah_asymm h))
theorem le_anti {a b : Th} (h1 : le_ a b = true) (h2 : le_ b a = true) : a.id = b.id ∧ a.rank = b.rank := by
  rw [le_iff, ah_false] at h1 h2
  omega
theorem th_eq {a b : Th} (h : a.id = b.id ∧ a.rank = b.rank) : a = b := by cases a; cases b; obtain ⟨h1, h2⟩ := h; simp at h1 h2; simp [h1, h2]
/-- All in order. -/
def sortT (L : List Th) : List Th := L.mergeSort le_
theorem sortT_perm (L : List Th) : (sortT L).Perm L := List.mergeSort_perm L le_
theorem sortT_sorted (L : List Th) : (sortT L).Pairwise (fun a b => le_ a b = true) := List.pairwise_mergeSort le_trans_ le_total_ L
theorem sortT_len (L : List Th) : (sortT L).length = L.length := List.length_mergeSort L
/-- A list in order of the same things is that one. -/
theorem sorted_eq {L S : List Th} (p : S.Perm L) (hs : S.Pairwise (fun a b => le_ a b = true)) : S = sortT L :=
  Perm.eq_of_pairwise (le := fun a b => le_ a b = true) (fun a b _ _ h1 h2 => th_eq (le_anti h1 h2)) hs (sortT_sorted L) (p.trans (sortT_perm L).symm)
theorem sortT_congr {L M : List Th} (p : L.Perm M) : sortT L = sortT M := sorted_eq ((sortT_perm L).trans p) (sortT_sorted L)
/-- The first one, then the others. -/
theorem sortT_cons {L R : List Th} {x : Th} (p : (x :: R).Perm L) (hx : ∀ y ∈ R, ah y x = false) : sortT L = x :: sortT R := by
  refine (sorted_eq (L := L) (S := x :: sortT R) (((sortT_perm R).cons x).trans p) (List.pairwise_cons.2 ⟨fun y hy => le_iff.2 (hx y ((sortT_perm R).mem_iff.1 hy)), sortT_sorted R⟩)).symm
/-- The first of a heap is the least. -/
theorem least_eq {L : List Th} {x y : Th} (hx : x ∈ L) (hy : y ∈ L) (h1 : ∀ z ∈ L, ah z x = false) (h2 : ∀ z ∈ L, ah z y = false) : x = y := th_eq (le_anti (le_iff.2 (h1 y hy)) (le_iff.2 (h2 x hx)))
theorem heap_least {L : List Th} (h : HeapN L L.length) : ∀ z ∈ L, ah z (at_ L 0) = false := fun z hz => by
  obtain ⟨k, hk⟩ := List.getElem?_of_mem hz
  have := heap_min h k (List.getElem?_eq_some_iff.1 hk).1
  rwa [at_eq hk] at this
/-- One thing put in. -/
theorem push_heap {L : List Th} (h : HeapN L L.length) (x : Th) : HeapN (upF (L.length + 1) (L ++ [x]) L.length) (L.length + 1) := by
  refine up_heap (n := L.length + 1) (L.length + 1) (L ++ [x]) L.length (by omega) (by simp) ⟨fun k h0 hk hne => ?_, fun k h0 hk hp hpos => by omega⟩
  have e : ∀ i, i < L.length → at_ (L ++ [x]) i = at_ L i := fun i hi => at_eq (by rw [List.getElem?_append_left hi]; exact at_some hi)
  rw [e k (by omega), e _ (by omega)]
  exact h k h0 (by omega)
theorem push_perm (L : List Th) (x : Th) : (upF (L.length + 1) (L ++ [x]) L.length).Perm (x :: L) :=
  (upF_perm _ _ _ (by simp)).trans (List.perm_append_comm (l₁ := L) (l₂ := [x]))
theorem at_take {L : List Th} {n k : Nat} (hk : k < n) (hn : n ≤ L.length) : at_ (L.take n) k = at_ L k := at_eq (by rw [List.getElem?_take, if_pos hk]; exact at_some (by omega))
theorem HeapN.take {L : List Th} {n : Nat} (h : HeapN L n) (hn : n ≤ L.length) : HeapN (L.take n) n := fun k h0 hk => by
  rw [at_take hk hn, at_take (by omega) hn]; exact h k h0 hk
theorem take_last {L : List Th} {n : Nat} (hn : L.length = n + 1) : (at_ L n :: L.take n).Perm L := by
  have h := perm_erase (at_some (L := L) (k := n) (by omega))
  rwa [List.eraseIdx_eq_take_drop_succ, List.drop_eq_nil_of_le (by omega), List.append_nil] at h
/-- The heap without its first thing: swapped behind, sunk, cut off. -/
def popF (L : List Th) : List Th := (downF (L.length + 1) (swapL L 0 (L.length - 1)) 0 (L.length - 1)).1.take (L.length - 1)
theorem downF_stop (f : Nat) (L : List Th) (i n : Nat) (h : n ≤ 2 * i + 1) : downF f L i n = (L, i) := by
  cases f with
  | zero => rfl
  | succ f => rw [downF_succ, if_pos h]
theorem pop_spec {L : List Th} {n : Nat} (hn : L.length = n + 1) (h : HeapN L L.length) :
    at_ (downF (L.length + 1) (swapL L 0 n) 0 n).1 n = at_ L 0 ∧ (downF (L.length + 1) (swapL L 0 n) 0 n).1.length = n + 1 ∧ (at_ L 0 :: (downF (L.length + 1) (swapL L 0 n) 0 n).1.take n).Perm L ∧ HeapN ((downF (L.length + 1) (swapL L 0 n) 0 n).1.take n) n := by
  have hs : (swapL L 0 n).length = n + 1 := by rw [swapL_len, hn]
  have hlen : (downF (L.length + 1) (swapL L 0 n) 0 n).1.length = n + 1 := by rw [downF_len, hs]
  have hp : ((downF (L.length + 1) (swapL L 0 n) 0 n).1).Perm L := (downF_perm _ _ _ (by omega) (by omega)).trans (swap_perm (by omega) (by omega))
  have hat : at_ (downF (L.length + 1) (swapL L 0 n) 0 n).1 n = at_ L 0 := by
    rcases Nat.eq_zero_or_pos n with e | e
    · subst e
      rw [downF_stop _ _ _ _ (by omega), at_swap (by omega) (by omega), if_pos rfl]
    · rw [downF_high _ _ _ (by omega) (by omega) n (by omega), at_swap (by omega) (by omega), if_pos rfl]
  refine ⟨hat, hlen, ?_, ?_⟩
  · have := take_last hlen
    rw [hat] at this
    exact this.trans hp
  · rcases Nat.eq_zero_or_pos n with e | e
    · subst e; exact fun k h0 hk => absurd hk (by omega)
    · refine HeapN.take (down_heap _ _ _ (by omega) (by omega) (by omega) (fix_zero (heap_fix (L := L) (N := n + 1) (hn ▸ h) (by omega) (fun k hk hne => ?_)))) (by omega)
      rw [at_swap (by omega) (by omega), if_neg (by omega), if_neg (by omega)]
/-- The heap without the thing at i. -/
def remF (L : List Th) (i : Nat) : List Th :=
  if L.length - 1 = i then L else
    if (downF (L.length + 1) (swapL L i (L.length - 1)) i (L.length - 1)).2 = i then upF (L.length + 1) (downF (L.length + 1) (swapL L i (L.length - 1)) i (L.length - 1)).1 i else (downF (L.length + 1) (swapL L i (L.length - 1)) i (L.length - 1)).1
theorem rem_spec {L : List Th} {n i : Nat} (hn : L.length = n + 1) (hi : i < L.length) (h : HeapN L L.length) :
    (remF L i).length = n + 1 ∧ at_ (remF L i) n = at_ L i ∧ (at_ L i :: (remF L i).take n).Perm L ∧ HeapN ((remF L i).take n) n := by
  have key : (remF L i).length = n + 1 ∧ at_ (remF L i) n = at_ L i ∧ (remF L i).Perm L ∧ HeapN (remF L i) n := by
    unfold remF
    rw [show L.length - 1 = n by omega]
    by_cases e : n = i
    · rw [if_pos e]
      exact ⟨hn, by rw [e], Perm.refl _, fun k h0 hk => h k h0 (by omega)⟩
    · rw [if_neg e]
      have hs : (swapL L i n).length = n + 1 := by rw [swapL_len, hn]
      have hp := downF_perm (n := n) (L.length + 1) (swapL L i n) i (by omega) (by omega)
      have hl := downF_len (L.length + 1) (swapL L i n) i n
      have hh := downF_high (n := n) (L.length + 1) (swapL L i n) i (by omega) (by omega) n (by omega)
      rw [at_swap (by omega) (by omega), if_pos rfl] at hh
      have hp2 := hp.trans (swap_perm (L := L) (by omega) (by omega))
      rcases down_fix (n := n) (f := L.length + 1) (L := swapL L i n) (i := i) (by omega) (by omega) (by omega) (heap_fix (L := L) (N := n + 1) (hn ▸ h) (by omega) (fun k hk hne => by rw [at_swap (by omega) (by omega), if_neg (by omega), if_neg hne])) with ⟨h1, h2, h3⟩ | ⟨h1, h2⟩
      · rw [if_pos h1]
        rw [h2] at hl hh hp2 ⊢
        exact ⟨by rw [upF_len, hs], by rw [upF_high _ _ _ (by omega) n (by omega)]; exact hh, (upF_perm _ _ _ (by omega)).trans hp2, up_heap _ _ _ (by omega) (by omega) h3⟩
      · rw [if_neg (by omega)]
        exact ⟨by omega, hh, hp2, h2⟩
  obtain ⟨h1, h2, h3, h4⟩ := key
  refine ⟨h1, h2, ?_, h4.take (by omega)⟩
  have := take_last h1
  rw [h2] at this
  exact this.trans h3
/-- The thing at i has another rank. -/
def fixF (L : List Th) (i : Nat) : List Th := if (downF (L.length + 1) L i L.length).2 = i then upF (L.length + 1) (downF (L.length + 1) L i L.length).1 i else (downF (L.length + 1) L i L.length).1
theorem fix_spec {L M : List Th} {i : Nat} (hi : i < L.length) (h : HeapN L L.length) (hM : M.length = L.length) (e : ∀ k, k < L.length → k ≠ i → at_ M k = at_ L k) :
    (fixF M i).length = L.length ∧ (fixF M i).Perm M ∧ HeapN (fixF M i) L.length := by
  unfold fixF
  have hp := downF_perm (n := M.length) (M.length + 1) M i (by omega) (by omega)
  have hl := downF_len (M.length + 1) M i M.length
  rcases down_fix (n := M.length) (f := M.length + 1) (L := M) (i := i) (by omega) (by omega) (by omega) (heap_fix h (by omega) (fun k hk hne => e k (by omega) hne)) with ⟨h1, h2, h3⟩ | ⟨h1, h2⟩
  · rw [if_pos h1, h2]
    exact ⟨by rw [upF_len, hM], upF_perm _ _ _ (by omega), hM ▸ up_heap _ _ _ (by omega) (by omega) h3⟩
  · rw [if_neg (by omega)]
    exact ⟨by omega, hp, hM ▸ h2⟩
end Go.Proofs.YtocjbllkgbjihaaDoor
