/-
  Numbers as bytes: seven bits a byte, lowest first, the last one below 128.
-/
namespace Go.Proofs.YteflnnlihblpgaaDoor.Wr
def num (n : Nat) : List Nat := if h : n < 128 then [n] else (n % 128 + 128) :: num (n / 128)
termination_by n
decreasing_by omega
theorem num_small {n : Nat} (h : n < 128) : num n = [n] := by rw [num]; simp [h]
theorem num_big {n : Nat} (h : ¬ n < 128) : num n = (n % 128 + 128) :: num (n / 128) := by rw [num]; simp [h]
theorem num_pos (n : Nat) : 1 ≤ (num n).length := by
  by_cases h : n < 128
  · rw [num_small h]; simp
  · rw [num_big h]; simp
theorem num_byte (n : Nat) : ∀ x ∈ num n, x < 256 := by
  induction n using Nat.strongRecOn with
  | _ n ih =>
    by_cases h : n < 128
    · rw [num_small h]; intro x hx; simp at hx; omega
    · rw [num_big h]
      intro x hx
      rcases List.mem_cons.1 hx with rfl | hx
      · omega
      · exact ih (n / 128) (by omega) x hx
theorem num_len (k : Nat) : ∀ n, n < 128 ^ (k + 1) → (num n).length ≤ k + 1 := by
  induction k with
  | zero =>
    intro n h
    rw [num_small (by simpa using h)]
    simp
  | succ k ih =>
    intro n h
    by_cases h1 : n < 128
    · rw [num_small h1]; simp
    · rw [num_big h1]
      have := ih (n / 128) (by rw [Nat.pow_succ] at h; omega)
      simp
      omega
theorem num_mono : ∀ (a b : Nat), a ≤ b → (num a).length ≤ (num b).length := by
  intro a
  induction a using Nat.strongRecOn with
  | _ a ih =>
    intro b h
    by_cases h1 : a < 128
    · rw [num_small h1]; exact num_pos b
    · rw [num_big h1, num_big (n := b) (by omega)]
      have := ih (a / 128) (by omega) (b / 128) (by omega)
      simp
      omega
/-- Two numbers whose bytes begin alike, as far as the shorter go, are one. -/
theorem num_prefix : ∀ (a b : Nat), (num a).take (min (num a).length (num b).length) = (num b).take (min (num a).length (num b).length) → a = b := by
  intro a
  induction a using Nat.strongRecOn with
  | _ a ih =>
    intro b h
    have pb := num_pos (b / 128)
    have pa := num_pos (a / 128)
    by_cases h1 : a < 128
    · by_cases h2 : b < 128
      · rw [num_small h1, num_small h2] at h
        simpa using h
      · rw [num_small h1, num_big h2] at h
        simp only [List.length_cons, List.length_nil] at h
        rw [show min (0 + 1) ((num (b / 128)).length + 1) = 1 by omega] at h
        simp at h
        omega
    · by_cases h2 : b < 128
      · rw [num_big h1, num_small h2] at h
        simp only [List.length_cons, List.length_nil] at h
        rw [show min ((num (a / 128)).length + 1) (0 + 1) = 1 by omega] at h
        simp at h
        omega
      · rw [num_big h1, num_big h2] at h
        simp only [List.length_cons] at h
        rw [show min ((num (a / 128)).length + 1) ((num (b / 128)).length + 1) = min (num (a / 128)).length (num (b / 128)).length + 1 by omega] at h
        simp only [List.take_succ_cons, List.cons.injEq] at h
        have := ih (a / 128) (by omega) (b / 128) h.2
        omega
end Go.Proofs.YteflnnlihblpgaaDoor.Wr
