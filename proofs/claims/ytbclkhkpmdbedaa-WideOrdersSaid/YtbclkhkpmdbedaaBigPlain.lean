/-
  Numbers as lists of digits of base 65536, lowest first: their values.
-/
namespace Go.Proofs.Ytbclkhkpmdbedaa.Big

/-- The value of the first i digits. -/
def vl (l : List Nat) : Nat → Nat
  | 0 => 0
  | i + 1 => vl l i + l.getD i 0 * 65536 ^ i
theorem vl_succ (l : List Nat) (i : Nat) : vl l (i + 1) = vl l i + l.getD i 0 * 65536 ^ i := rfl
def val (l : List Nat) : Nat := vl l l.length
def Dig (l : List Nat) : Prop := ∀ x ∈ l, x < 65536

theorem dig_nil : Dig [] := by intro x hx; cases hx
theorem dig_getD {l : List Nat} (h : Dig l) (i : Nat) : l.getD i 0 < 65536 := by
  rw [List.getD]
  cases e : l[i]? with
  | none => simp
  | some y => exact h y (List.mem_of_getElem? e)
theorem vl_beyond (l : List Nat) (i : Nat) (h : l.length ≤ i) : vl l i = val l := by
  induction i with
  | zero => simp at h; subst h; rfl
  | succ i ih =>
    by_cases h1 : l.length ≤ i
    · rw [vl, ih h1, List.getD, List.getElem?_eq_none h1]; simp
    · have : l.length = i + 1 := by omega
      rw [val, this]
theorem vl_append (l m : List Nat) (i : Nat) (h : i ≤ l.length) : vl (l ++ m) i = vl l i := by
  induction i with
  | zero => rfl
  | succ i ih => rw [vl, vl, ih (by omega), List.getD, List.getD, List.getElem?_append_left (by omega)]
theorem val_snoc (l : List Nat) (x : Nat) : val (l ++ [x]) = val l + x * 65536 ^ l.length := by
  rw [val, List.length_append, List.length_singleton, vl, vl_append l [x] _ (Nat.le_refl _), List.getD, List.getElem?_append_right (Nat.le_refl _)]
  simp [val]
theorem dig_snoc {l : List Nat} {x : Nat} (h : Dig l) (hx : x < 65536) : Dig (l ++ [x]) := by
  intro y hy
  simp only [List.mem_append, List.mem_singleton] at hy
  rcases hy with hy | rfl
  · exact h y hy
  · exact hx
theorem val_zeros (n : Nat) : val (List.replicate n 0) = 0 := by
  induction n with
  | zero => rfl
  | succ n ih => rw [List.replicate_succ', val_snoc, ih]; simp
theorem vl_lt {l : List Nat} (h : Dig l) (i : Nat) : vl l i < 65536 ^ i := by
  induction i with
  | zero => simp [vl]
  | succ i ih =>
    have hx := dig_getD h i
    rw [vl, Nat.pow_succ]
    have : l.getD i 0 * 65536 ^ i ≤ 65535 * 65536 ^ i := Nat.mul_le_mul_right _ (by omega)
    omega
theorem vl_le {l : List Nat} (i : Nat) : vl l i ≤ val l := by
  by_cases h : l.length ≤ i
  · rw [vl_beyond l i h]; exact Nat.le_refl _
  · have step : ∀ j, vl l i ≤ vl l (i + j) := by
      intro j
      induction j with
      | zero => exact Nat.le_refl _
      | succ j ih => rw [← Nat.add_assoc, vl]; omega
    have := step (l.length - i)
    rw [show i + (l.length - i) = l.length by omega] at this
    exact this
theorem val_lt {l : List Nat} (h : Dig l) : val l < 65536 ^ l.length := vl_lt h _

/-- The four digits of a number of 64 bits. -/
def of (n : Nat) : List Nat := [n % 65536, n / 65536 % 65536, n / 4294967296 % 65536, n / 281474976710656]
theorem of_val (n : Nat) : val (of n) = n := by
  simp [val, vl, of]
  omega
theorem of_dig (n : Nat) (h : n < 18446744073709551616) : Dig (of n) := by
  intro x hx
  simp [of] at hx
  omega

/-- One round of Plus: out holds i digits. -/
theorem plus_step {a b out : List Nat} {i c : Nat} (hl : out.length = i) (hv : val out + c * 65536 ^ i = vl a i + vl b i) :
    val (out ++ [(c + a.getD i 0 + b.getD i 0) % 65536]) + (c + a.getD i 0 + b.getD i 0) / 65536 * 65536 ^ (i + 1) = vl a (i + 1) + vl b (i + 1) := by
  rw [val_snoc, hl, vl, vl, Nat.pow_succ]
  generalize a.getD i 0 = x
  generalize b.getD i 0 = y
  have e := Nat.div_add_mod (c + x + y) 65536
  generalize (c + x + y) / 65536 = q at *
  generalize (c + x + y) % 65536 = r at *
  generalize 65536 ^ i = K at *
  have h1 : (c + x + y) * K = (65536 * q + r) * K := by rw [e]
  rw [Nat.add_mul, Nat.add_mul, Nat.add_mul] at h1
  have h2 : q * (K * 65536) = 65536 * q * K := by rw [Nat.mul_comm K, ← Nat.mul_assoc, Nat.mul_comm q]
  omega
/-- One digit of a row of Times. -/
theorem times_step {a row : List Nat} {i j c x : Nat} (hl : row.length = i + j) (hv : val row + c * 65536 ^ (i + j) = vl a j * x * 65536 ^ i) :
    val (row ++ [(x * a.getD j 0 + c) % 65536]) + (x * a.getD j 0 + c) / 65536 * 65536 ^ (i + (j + 1)) = vl a (j + 1) * x * 65536 ^ i := by
  rw [val_snoc, hl, vl, ← Nat.add_assoc, Nat.pow_succ]
  generalize a.getD j 0 = y at *
  have e := Nat.div_add_mod (x * y + c) 65536
  generalize (x * y + c) / 65536 = q at *
  generalize (x * y + c) % 65536 = r at *
  have h1 : (x * y + c) * 65536 ^ (i + j) = (65536 * q + r) * 65536 ^ (i + j) := by rw [e]
  have h3 : y * 65536 ^ j * x * 65536 ^ i = x * y * 65536 ^ (i + j) := by
    rw [Nat.pow_add]
    ac_rfl
  rw [Nat.add_mul, Nat.add_mul, h3]
  generalize 65536 ^ (i + j) = K at *
  generalize vl a j * x * 65536 ^ i = V at *
  rw [Nat.add_mul, Nat.add_mul] at h1
  have h2 : q * (K * 65536) = 65536 * q * K := by rw [Nat.mul_comm K, ← Nat.mul_assoc, Nat.mul_comm q]
  omega
/-- One round of Minus. -/
theorem minus_step {a b out : List Nat} {i c : Nat} (hc : c ≤ 1) (ha : Dig a) (hb : Dig b) (hl : out.length = i) (hv : val out + vl b i = vl a i + c * 65536 ^ i) :
    val (out ++ [(a.getD i 0 + 65536 - b.getD i 0 - c) % 65536]) + vl b (i + 1) = vl a (i + 1) + (1 - (a.getD i 0 + 65536 - b.getD i 0 - c) / 65536) * 65536 ^ (i + 1) := by
  have hx := dig_getD ha i
  have hy := dig_getD hb i
  rw [val_snoc, hl, vl, vl, Nat.pow_succ]
  generalize a.getD i 0 = x at *
  generalize b.getD i 0 = y at *
  have e := Nat.div_add_mod (x + 65536 - y - c) 65536
  have hq : (x + 65536 - y - c) / 65536 ≤ 1 := by omega
  generalize (x + 65536 - y - c) / 65536 = q at *
  generalize (x + 65536 - y - c) % 65536 = r at *
  generalize 65536 ^ i = K at *
  have h0 : 65536 * q + r + y + c = x + 65536 := by omega
  have h1 : (65536 * q + r + y + c) * K = (x + 65536) * K := by rw [h0]
  rw [Nat.add_mul, Nat.add_mul, Nat.add_mul, Nat.add_mul] at h1
  have h2 : (1 - q) * (K * 65536) = 65536 * K - 65536 * q * K := by
    rw [Nat.sub_mul, Nat.one_mul, Nat.mul_comm K, ← Nat.mul_assoc, Nat.mul_comm q]
  have h3 : 65536 * q * K ≤ 65536 * K := Nat.mul_le_mul_right _ (by omega)
  omega
/-- The highest digit that differs decides. -/
theorem less_at {a b : List Nat} (ha : Dig a) {n i : Nat} (hi : i < n) (hs : ∀ j, i < j → j < n → a.getD j 0 = b.getD j 0) (hd : a.getD i 0 < b.getD i 0) : vl a n < vl b n := by
  induction n with
  | zero => omega
  | succ n ih =>
    by_cases h : i = n
    · subst h
      have h1 := vl_lt ha i
      rw [vl, vl]
      have : (a.getD i 0 + 1) * 65536 ^ i ≤ b.getD i 0 * 65536 ^ i := Nat.mul_le_mul_right _ hd
      rw [Nat.add_mul] at this
      omega
    · have := ih (by omega) (fun j h1 h2 => hs j h1 (by omega))
      rw [vl, vl, hs n (by omega) (by omega)]
      omega
theorem same_all {a b : List Nat} {n : Nat} (hs : ∀ j, j < n → a.getD j 0 = b.getD j 0) : vl a n = vl b n := by
  induction n with
  | zero => rfl
  | succ n ih => rw [vl, vl, ih (fun j h => hs j (by omega)), hs n (by omega)]
theorem four_of {a : List Nat} {V : Nat → Nat} (hV : ∀ i, V (i + 1) = V i + a.getD i 0 * 65536 ^ i) (h0 : V 0 = 0) : V 4 = a.getD 0 0 + a.getD 1 0 * 65536 + a.getD 2 0 * 4294967296 + a.getD 3 0 * 281474976710656 := by
  have e0 := hV 0
  have e1 := hV 1
  have e2 := hV 2
  have e3 := hV 3
  simp only [Nat.zero_add, Nat.reduceAdd, Nat.pow_zero, Nat.pow_one, Nat.reducePow, Nat.mul_one] at e0 e1 e2 e3
  omega
/-- Fits: the digits from the fifth on are 0. -/
theorem fits_yes {a : List Nat} {n : Nat} (h : ∀ j, 4 ≤ j → j < n → a.getD j 0 = 0) (hn : a.length ≤ n) : val a = a.getD 0 0 + a.getD 1 0 * 65536 + a.getD 2 0 * 4294967296 + a.getD 3 0 * 281474976710656 := by
  have e : ∀ k, 4 + k ≤ n ∨ k = 0 → vl a (4 + k) = vl a 4 := by
    intro k
    induction k with
    | zero => intro _; rw [Nat.add_zero]
    | succ k ih =>
      intro hk
      rw [← Nat.add_assoc, vl_succ a (4 + k), ih (by omega), h (4 + k) (by omega) (by omega), Nat.zero_mul, Nat.add_zero]
  have h4 : vl a 4 = a.getD 0 0 + a.getD 1 0 * 65536 + a.getD 2 0 * 4294967296 + a.getD 3 0 * 281474976710656 := by
    exact four_of (V := vl a) (fun i => by rw [vl]) rfl
  rw [← h4]
  by_cases hh : a.length ≤ 4
  · rw [vl_beyond a 4 hh]
  · rw [← vl_beyond a n hn, ← e (n - 4) (by omega), show 4 + (n - 4) = n by omega]
theorem fits_no {a : List Nat} {j : Nat} (hj : 4 ≤ j) (h : a.getD j 0 ≠ 0) : 18446744073709551616 ≤ val a := by
  have h1 : vl a (j + 1) ≤ val a := vl_le _
  rw [vl] at h1
  have h2 : 65536 ^ 4 ≤ 65536 ^ j := Nat.pow_le_pow_right (by omega) hj
  have h3 : 1 * 65536 ^ j ≤ a.getD j 0 * 65536 ^ j := Nat.mul_le_mul_right _ (by omega)
  omega
end Go.Proofs.Ytbclkhkpmdbedaa.Big
