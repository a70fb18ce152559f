/-
  The check of chapter 04, as plain functions on natural numbers: one bit, one byte, a row of bytes; the two ways of reckoning it agree.
-/
namespace Go.Proofs.YtbinimejjenmlaaDoor.Crc

/-- One bit. -/
def bit (n : Nat) : Nat := n / 2 ^^^ (if n % 2 = 1 then 3988292384 else 0)
/-- k bits. -/
def bits : Nat → Nat → Nat
  | 0, n => n
  | k + 1, n => bit (bits k n)
/-- The code's byte. -/
def byte (w c : Nat) : Nat := w / 256 ^^^ bits 8 (w % 256 ^^^ c)
/-- The document's byte. -/
def rbyte (w c : Nat) : Nat := bits 8 (w ^^^ c)
def upd (w : Nat) (l : List Nat) : Nat := l.foldl byte w

theorem bits_succ' (k n : Nat) : bits (k + 1) n = bits k (bit n) := by
  induction k with
  | zero => rfl
  | succ k ih => show bit (bits (k + 1) n) = bit (bits k (bit n)); rw [ih]

theorem bit_lt (n : Nat) (h : n < 4294967296) : bit n < 4294967296 := by
  have h1 : n / 2 < 2 ^ 32 := by omega
  unfold bit
  split
  · exact Nat.xor_lt_two_pow h1 (by decide)
  · exact Nat.xor_lt_two_pow h1 (by decide)
theorem bits_lt (k n : Nat) (h : n < 4294967296) : bits k n < 4294967296 := by
  induction k with
  | zero => exact h
  | succ k ih => exact bit_lt _ ih

theorem bit_xor (a b : Nat) : bit (a ^^^ b) = bit a ^^^ bit b := by
  unfold bit
  rw [Nat.xor_div_two]
  have hx : ((a ^^^ b) % 2 = 1) ↔ ¬ ((a % 2 = 1) ↔ (b % 2 = 1)) := Nat.xor_mod_two_eq_one
  by_cases ha : a % 2 = 1 <;> by_cases hb : b % 2 = 1
  · rw [if_neg (by rw [hx]; simp [ha, hb]), if_pos ha, if_pos hb]
    rw [show a / 2 ^^^ 3988292384 ^^^ (b / 2 ^^^ 3988292384) = (a / 2 ^^^ b / 2) ^^^ (3988292384 ^^^ 3988292384) from by ac_rfl]
    simp
  · rw [if_pos (by rw [hx]; simp [ha, hb]), if_pos ha, if_neg hb]; simp; ac_rfl
  · rw [if_pos (by rw [hx]; simp [ha, hb]), if_neg ha, if_pos hb]; simp; ac_rfl
  · rw [if_neg (by rw [hx]; simp [ha, hb]), if_neg ha, if_neg hb]; simp
theorem bits_xor (k a b : Nat) : bits k (a ^^^ b) = bits k a ^^^ bits k b := by
  induction k with
  | zero => rfl
  | succ k ih => show bit _ = bit _ ^^^ bit _; rw [ih, bit_xor]

theorem bits_mul (k n : Nat) : bits k (n * 2 ^ k) = n := by
  induction k generalizing n with
  | zero => simp [bits]
  | succ k ih =>
    rw [bits_succ']
    have : bit (n * 2 ^ (k + 1)) = n * 2 ^ k := by
      unfold bit
      rw [Nat.pow_succ, ← Nat.mul_assoc, Nat.mul_div_cancel _ (by omega), if_neg (by omega)]
      simp
    rw [this, ih]

theorem split8 (w : Nat) : w = w / 256 * 2 ^ 8 ^^^ w % 256 := by
  refine Nat.eq_of_testBit_eq fun i => ?_
  rw [Nat.testBit_xor, Nat.testBit_mul_two_pow, show w % 256 = w % 2 ^ 8 from rfl, Nat.testBit_mod_two_pow, show w / 256 = w / 2 ^ 8 from rfl, Nat.testBit_div_two_pow]
  by_cases h : 8 ≤ i
  · simp [h, show ¬ i < 8 by omega]
  · simp [h, show i < 8 by omega]

theorem byte_eq (w c : Nat) : byte w c = rbyte w c := by
  unfold byte rbyte
  conv => rhs; rw [split8 w, Nat.xor_assoc, bits_xor, bits_mul]

theorem byte_lt (w c : Nat) (h : w < 4294967296) (hc : c < 256) : byte w c < 4294967296 := by
  have h1 : w / 256 < 2 ^ 32 := by omega
  have h2 : w % 256 ^^^ c < 2 ^ 8 := Nat.xor_lt_two_pow (by omega) hc
  exact Nat.xor_lt_two_pow h1 (bits_lt 8 _ (by omega))
theorem upd_lt (w : Nat) (l : List Nat) (h : w < 4294967296) (hl : ∀ x ∈ l, x < 256) : upd w l < 4294967296 := by
  induction l generalizing w with
  | nil => exact h
  | cons c l ih => exact ih _ (byte_lt w c h (hl c (by simp))) fun x hx => hl x (by simp [hx])
theorem upd_snoc (w : Nat) (l : List Nat) (c : Nat) : upd w (l ++ [c]) = byte (upd w l) c := by simp [upd]
theorem upd_append (w : Nat) (l m : List Nat) : upd w (l ++ m) = upd (upd w l) m := by simp [upd]

/-- The xor of three rows, the first k places. -/
def xor3 (k : Nat) (a b c : List Nat) : List Nat := (List.range k).map fun i => a.getD i 0 ^^^ b.getD i 0 ^^^ c.getD i 0
theorem xor3_len (k : Nat) (a b c : List Nat) : (xor3 k a b c).length = k := by simp [xor3]
theorem xor3_succ (k : Nat) (a b c : List Nat) : xor3 (k + 1) a b c = xor3 k a b c ++ [a.getD k 0 ^^^ b.getD k 0 ^^^ c.getD k 0] := by simp [xor3, List.range_succ]
theorem xor3_lt (k : Nat) (a b c : List Nat) (ha : ∀ x ∈ a, x < 256) (hb : ∀ x ∈ b, x < 256) (hc : ∀ x ∈ c, x < 256) : ∀ x ∈ xor3 k a b c, x < 256 := by
  have hd : ∀ (l : List Nat), (∀ x ∈ l, x < 256) → ∀ i, l.getD i 0 < 2 ^ 8 := fun l hl i => by
    rw [List.getD]
    cases h : l[i]? with
    | none => simp
    | some y => exact hl y (List.mem_of_getElem? h)
  intro x hx
  simp only [xor3, List.mem_map] at hx
  obtain ⟨i, _, rfl⟩ := hx
  exact Nat.xor_lt_two_pow (Nat.xor_lt_two_pow (hd a ha i) (hd b hb i)) (hd c hc i)
theorem byte_xor (v w x y : Nat) : byte (v ^^^ w) (x ^^^ y) = byte v x ^^^ byte w y := by
  rw [byte_eq, byte_eq, byte_eq]
  unfold rbyte
  rw [← bits_xor]
  congr 1
  ac_rfl
theorem upd_xor3 (k : Nat) (a b c : List Nat) (ha : k ≤ a.length) (hb : k ≤ b.length) (hc : k ≤ c.length) (w : Nat) :
    upd w (xor3 k a b c) = upd w (a.take k) ^^^ upd w (b.take k) ^^^ upd w (c.take k) := by
  induction k with
  | zero => simp [xor3, upd]
  | succ k ih =>
    have e : ∀ (l : List Nat), k + 1 ≤ l.length → l.take (k + 1) = l.take k ++ [l.getD k 0] := fun l hl => by
      rw [List.take_add_one, List.getD, List.getElem?_eq_getElem (by omega)]; rfl
    rw [xor3_succ, upd_snoc, ih (by omega) (by omega) (by omega), e a ha, e b hb, e c hc, upd_snoc, upd_snoc, upd_snoc, byte_xor, byte_xor]
theorem xor4 (x y z m : Nat) : (x ^^^ y ^^^ z) ^^^ m = (x ^^^ m) ^^^ (y ^^^ m) ^^^ (z ^^^ m) := by
  have h : m ^^^ m = 0 := Nat.xor_self m
  have : (x ^^^ m) ^^^ (y ^^^ m) ^^^ (z ^^^ m) = (x ^^^ y ^^^ z) ^^^ m ^^^ (m ^^^ m) := by ac_rfl
  rw [this, h, Nat.xor_zero]
end Go.Proofs.YtbinimejjenmlaaDoor.Crc
