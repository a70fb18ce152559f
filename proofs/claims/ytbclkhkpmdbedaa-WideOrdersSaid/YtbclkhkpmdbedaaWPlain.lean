/-
  Digits of base 65536: the halves of eight digits, and what stands behind them.
-/
import Derived.Test.YtbclkhkpmdbedaaBigPlain
namespace Go.Proofs.Ytbclkhkpmdbedaa.Big
theorem getD_take (l : List Nat) (k i : Nat) : (l.take k).getD i 0 = if i < k then l.getD i 0 else 0 := by
  rw [List.getD, List.getD, List.getElem?_take]
  split <;> rfl
theorem getD_drop (l : List Nat) (k i : Nat) : (l.drop k).getD i 0 = l.getD (k + i) 0 := by
  rw [List.getD, List.getD, List.getElem?_drop]
theorem vl_take (l : List Nat) (k : Nat) : ∀ i, i ≤ k → vl (l.take k) i = vl l i
  | 0, _ => rfl
  | i + 1, h => by rw [vl, vl, vl_take l k i (by omega), getD_take, if_pos (by omega)]
theorem vl_drop (l : List Nat) (k : Nat) : ∀ i, vl l (k + i) = vl l k + vl (l.drop k) i * 65536 ^ k
  | 0 => by simp [vl]
  | i + 1 => by
    rw [← Nat.add_assoc, vl, vl_drop l k i, vl, getD_drop, Nat.add_mul, Nat.mul_assoc, ← Nat.pow_add, Nat.add_comm i k]
    omega
theorem val_take (l : List Nat) {k : Nat} (h : k ≤ l.length) : val (l.take k) = vl l k := by
  rw [val, List.length_take, Nat.min_eq_left h, vl_take l k k (Nat.le_refl _)]
theorem dig_take {l : List Nat} (h : Dig l) (k : Nat) : Dig (l.take k) := fun x hx => h x (List.mem_of_mem_take hx)
theorem dig_drop {l : List Nat} (h : Dig l) (k : Nat) : Dig (l.drop k) := fun x hx => h x (List.mem_of_mem_drop hx)
theorem dig_append {l m : List Nat} (h : Dig l) (k : Dig m) : Dig (l ++ m) := fun x hx => by
  rcases List.mem_append.1 hx with h' | h'
  · exact h x h'
  · exact k x h'
/-- The number of digits one behind the other. -/
theorem val_append (l m : List Nat) : val (l ++ m) = val l + val m * 65536 ^ l.length := by
  rw [val, List.length_append, vl_drop, List.drop_left, vl_append l m _ (Nat.le_refl _)]
  rfl
theorem four_lt {l : List Nat} (h : Dig l) (h4 : l.length = 4) : val l < 18446744073709551616 := by
  have := val_lt h
  rw [h4] at this
  exact this
/-- Eight digits: two words. -/
theorem two_words {l : List Nat} (h : Dig l) (h8 : 8 ≤ l.length) :
    val (l.take 4) < 18446744073709551616 ∧ val ((l.drop 4).take 4) < 18446744073709551616 ∧ vl l 8 = val ((l.drop 4).take 4) * 18446744073709551616 + val (l.take 4) := by
  refine ⟨four_lt (dig_take h 4) (by simp; omega), four_lt (dig_take (dig_drop h 4) 4) (by simp; omega), ?_⟩
  rw [val_take l (by omega), val_take (l.drop 4) (by simp; omega), show (8 : Nat) = 4 + 4 from rfl, vl_drop]
  have : (65536 : Nat) ^ 4 = 18446744073709551616 := by decide
  rw [this]
  omega
theorem eight_no {a : List Nat} {j : Nat} (hj : 8 ≤ j) (h : a.getD j 0 ≠ 0) : 340282366920938463463374607431768211456 ≤ val a := by
  have h1 : vl a (j + 1) ≤ val a := vl_le _
  rw [vl] at h1
  have h2 : 65536 ^ 8 ≤ 65536 ^ j := Nat.pow_le_pow_right (by omega) hj
  have h3 : 1 * 65536 ^ j ≤ a.getD j 0 * 65536 ^ j := Nat.mul_le_mul_right _ (by omega)
  have h4 : (65536 : Nat) ^ 8 = 340282366920938463463374607431768211456 := by decide
  rw [h4] at h2
  generalize 65536 ^ j = K at *
  omega
theorem eight_yes {a : List Nat} (h8 : 8 ≤ a.length) (h : ∀ j, 8 ≤ j → j < a.length → a.getD j 0 = 0) : val a = vl a 8 := by
  have e : ∀ k, 8 + k ≤ a.length → vl a (8 + k) = vl a 8 := by
    intro k
    induction k with
    | zero => intro _; rw [Nat.add_zero]
    | succ k ih =>
      intro hk
      rw [← Nat.add_assoc, vl_succ a (8 + k), ih (by omega), h (8 + k) (by omega) (by omega), Nat.zero_mul, Nat.add_zero]
  rw [val, show a.length = 8 + (a.length - 8) by omega, e _ (by omega)]
end Go.Proofs.Ytbclkhkpmdbedaa.Big
