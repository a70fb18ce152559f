/-
  The document's way to read a number: the first byte below 128 ends it; its value from the back; its shortest form.
-/
import Derived.Test.YteflnnlihblpgaaDoorBkPlain
namespace Go.Proofs.YteflnnlihblpgaaDoor.Wr
/-- The value of a number's bytes. -/
def val : List Nat → Nat
  | [] => 0
  | c :: l => c % 128 + 128 * val l
theorem val_lt : ∀ l : List Nat, val l < 128 ^ l.length := by
  intro l
  induction l with
  | nil => simp [val]
  | cons c l ih =>
    rw [val, List.length_cons, Nat.pow_succ]
    have := Nat.mod_lt c (show 128 > 0 by omega)
    omega
/-- Bytes that end a number: all but the last are 128 or more. -/
theorem num_val : ∀ (p : List Nat) (c : Nat), (∀ x ∈ p, 128 ≤ x ∧ x < 256) → c < 128 → (c ≠ 0 ∨ p = []) → num (val (p ++ [c])) = p ++ [c] := by
  intro p
  induction p with
  | nil =>
    intro c _ hc _
    have e : val ([] ++ [c]) = c := by simp [val]; omega
    rw [e, num_small hc]
    rfl
  | cons x p ih =>
    intro c hp hc h0
    have hx := hp x (by simp)
    have h0 : c ≠ 0 := by
      rcases h0 with h | h
      · exact h
      · cases h
    have hv : 0 < val (p ++ [c]) := by
      have : ∀ q : List Nat, 0 < val (q ++ [c]) := by
        intro q
        induction q with
        | nil => simp [val]; omega
        | cons y q ihq => simp only [List.cons_append, val]; omega
      exact this p
    have ih := ih c (fun y hy => hp y (by simp [hy])) hc (.inl h0)
    simp only [List.cons_append, val]
    obtain ⟨V, hV⟩ : ∃ V, val (p ++ [c]) = V := ⟨_, rfl⟩
    rw [hV] at hv ih ⊢
    rw [num_big (by omega), show (x % 128 + 128 * V) / 128 = V by omega, ih, show (x % 128 + 128 * V) % 128 + 128 = x by omega]
theorem rdF_first : ∀ (t f : Nat) (l : List Nat) (n i c : Nat), t < f → l[t]? = some c → c < 128 → (∀ x ∈ l.take t, 128 ≤ x ∧ x < 256) →
    rdF f l n i = if c ≠ 0 ∨ i + t = 0 then some (n + val (l.take (t + 1)) * 128 ^ i, i + t + 1) else none := by
  intro t
  induction t with
  | zero =>
    intro f l n i c hf hl hc _
    obtain ⟨f, rfl⟩ : ∃ g, f = g + 1 := ⟨f - 1, by omega⟩
    cases l with
    | nil => simp at hl
    | cons x l =>
      simp at hl
      subst hl
      rw [rdF, if_pos hc]
      have e : val (List.take (0 + 1) (x :: l)) = x := by simp [val]; omega
      rw [e]
      rfl
  | succ t ih =>
    intro f l n i c hf hl hc hall
    obtain ⟨f, rfl⟩ : ∃ g, f = g + 1 := ⟨f - 1, by omega⟩
    cases l with
    | nil => simp at hl
    | cons x l =>
      have hx := hall x (by simp)
      rw [rdF, if_neg (by omega)]
      rw [ih f l _ (i + 1) c (by omega) (by simpa using hl) hc (fun y hy => hall y (by simp [hy]))]
      have e1 : i + 1 + t = i + (t + 1) := by omega
      rw [e1]
      have e2 : n + (x - 128) * 128 ^ i + val (l.take (t + 1)) * 128 ^ (i + 1) = n + val (List.take (t + 1 + 1) (x :: l)) * 128 ^ i := by
        rw [List.take_succ_cons, val, show x % 128 = x - 128 by omega, Nat.pow_succ, Nat.add_mul]
        generalize 128 ^ i = P
        generalize val (l.take (t + 1)) = V
        rw [show V * (P * 128) = 128 * V * P by rw [Nat.mul_comm 128 V, Nat.mul_assoc, Nat.mul_comm P 128], Nat.add_assoc]
      rw [e2]
theorem rdF_all : ∀ (t f : Nat) (l : List Nat) (n i : Nat), (∀ x ∈ l.take t, 128 ≤ x) → (f ≤ t ∨ l.length ≤ t) → rdF f l n i = none := by
  intro t
  induction t with
  | zero =>
    intro f l n i _ h
    cases f with
    | zero => rw [rdF]
    | succ f =>
      cases l with
      | nil => rw [rdF]
      | cons x l => simp at h
  | succ t ih =>
    intro f l n i hall h
    cases f with
    | zero => rw [rdF]
    | succ f =>
      cases l with
      | nil => rw [rdF]
      | cons x l =>
        have hx := hall x (by simp)
        rw [rdF, if_neg (by omega)]
        exact ih f l _ _ (fun y hy => hall y (by simp [hy])) (by simp at h; omega)
/-- The number read, when byte t is the first below 128. -/
theorem rd_first {l : List Nat} {t c : Nat} (ht : t < 9) (hl : l[t]? = some c) (hc : c < 128) (hall : ∀ x ∈ l.take t, 128 ≤ x ∧ x < 256) :
    rd l = if num (val (l.take (t + 1))) = l.take (t + 1) then some (val (l.take (t + 1)), t + 1) else none := by
  have h := rdF_first t 9 l 0 0 c ht hl hc hall
  have hr : rd l = rdF 9 l 0 0 := rfl
  rw [hr, h]
  have htk : l.take (t + 1) = l.take t ++ [c] := by rw [List.take_add_one, hl]; rfl
  have hlt : t < l.length := (List.getElem?_eq_some_iff.1 hl).1
  by_cases h0 : c ≠ 0 ∨ 0 + t = 0
  · rw [if_pos h0]
    have hn := num_val (l.take t) c hall hc (by
      rcases h0 with h0 | h0
      · exact .inl h0
      · right
        rw [show t = 0 by omega]; simp)
    rw [htk, if_pos hn, Nat.pow_zero, Nat.mul_one, Nat.zero_add, Nat.zero_add]
  · rw [if_neg h0, if_neg]
    intro hn
    have hv := val_lt (l.take (t + 1))
    rw [List.length_take, Nat.min_eq_left (by omega)] at hv
    have hv2 : (128 : Nat) ^ (t + 1) ≤ 128 ^ 9 := Nat.pow_le_pow_right (by decide) (by omega)
    rw [show (128 : Nat) ^ 9 = 9223372036854775808 by decide] at hv2
    have h1 := rd_num (val (l.take (t + 1))) [] (by omega)
    rw [List.append_nil, hn] at h1
    have h2 := rdF_first t 9 (l.take (t + 1)) 0 0 c ht (by rw [List.getElem?_take, if_pos (by omega)]; exact hl) hc (by rw [List.take_take, Nat.min_eq_left (by omega)]; exact hall)
    rw [if_neg h0] at h2
    have h3 : rd (l.take (t + 1)) = rdF 9 (l.take (t + 1)) 0 0 := rfl
    rw [h3, h2] at h1
    cases h1
theorem rd_long {l : List Nat} {t : Nat} (hall : ∀ x ∈ l.take t, 128 ≤ x) (h : 9 ≤ t ∨ l.length ≤ t) : rd l = none := rdF_all t 9 l 0 0 hall h
theorem val_step (l : List Nat) (m : Nat) (x : Nat) (h : l[m]? = some x) (t : Nat) (ht : m < t) : val ((l.drop m).take (t - m)) = x % 128 + 128 * val ((l.drop (m + 1)).take (t - (m + 1))) := by
  obtain ⟨h1, h2⟩ := List.getElem?_eq_some_iff.1 h
  rw [List.drop_eq_getElem_cons h1, h2, show t - m = (t - (m + 1)) + 1 by omega, List.take_succ_cons, val]
end Go.Proofs.YteflnnlihblpgaaDoor.Wr
