/-
  The sum of bytes: each step is one to one; sealed bytes with one byte changed aren't sealed.
-/
import Derived.Test.YtelnnlfbfbbnaaaDoorRText
namespace Go.Proofs.YtelnnlfbfbbnaaaDoor
theorem mul_inj {x y : Nat} (hx : x < 4294967296) (hy : y < 4294967296) (h : x * 16777619 % 4294967296 = y * 16777619 % 4294967296) : x = y := by
  have key : ∀ z : Nat, z < 4294967296 → z * 16777619 % 4294967296 * 899433627 % 4294967296 = z := by
    intro z hz
    rw [Nat.mul_mod, Nat.mod_mod, ← Nat.mul_mod, Nat.mul_assoc]
    have e : 16777619 * 899433627 = 4294967296 * 3513497 + 1 := by decide
    rw [e, Nat.mul_add, Nat.mul_one, Nat.mul_left_comm, Nat.mul_add_mod, Nat.mod_eq_of_lt hz]
  rw [← key x hx, ← key y hy, h]
theorem xor_cancel (x y z : Nat) (h : x ^^^ z = y ^^^ z) : x = y := by
  have h1 : (x ^^^ z) ^^^ z = (y ^^^ z) ^^^ z := by rw [h]
  rw [Nat.xor_assoc, Nat.xor_assoc, Nat.xor_self, Nat.xor_zero, Nat.xor_zero] at h1
  exact h1
theorem fs_inj_l {s t c : Nat} (hs : s < 4294967296) (ht : t < 4294967296) (hc : c < 256) (h : fs s c = fs t c) : s = t := by
  unfold fs at h
  exact xor_cancel s t c (mul_inj (Nat.xor_lt_two_pow (n := 32) hs (by omega)) (Nat.xor_lt_two_pow (n := 32) ht (by omega)) h)
theorem fs_inj_r {s c d : Nat} (hs : s < 4294967296) (hc : c < 256) (hd : d < 256) (h : fs s c = fs s d) : c = d := by
  unfold fs at h
  have := mul_inj (Nat.xor_lt_two_pow (n := 32) hs (by omega)) (Nat.xor_lt_two_pow (n := 32) hs (by omega)) h
  rw [Nat.xor_comm s, Nat.xor_comm s] at this
  exact xor_cancel c d s this
theorem fold_inj : ∀ (l : List Nat) (s t : Nat), s < 4294967296 → t < 4294967296 → (∀ x ∈ l, x < 256) → l.foldl fs s = l.foldl fs t → s = t
  | [], s, t, _, _, _, h => h
  | x :: l, s, t, hs, ht, hl, h => by
    rw [List.foldl_cons, List.foldl_cons] at h
    have := fold_inj l _ _ (fs_lt s x) (fs_lt t x) (fun y hy => hl y (by simp [hy])) h
    exact fs_inj_l hs ht (hl x (by simp)) this
theorem fnv_set {l : List Nat} {i y : Nat} (hl : ∀ x ∈ l, x < 256) (hy : y < 256) (hi : i < l.length) (hne : l[i] ≠ y) : fnv (l.set i y) ≠ fnv l := by
  intro h
  have e1 : l = l.take i ++ l[i] :: l.drop (i + 1) := by
    rw [← List.drop_eq_getElem_cons hi, List.take_append_drop]
  have e2 : l.set i y = l.take i ++ y :: l.drop (i + 1) := by
    rw [List.set_eq_take_append_cons_drop, if_pos hi]
  have h1 : fnv l = (l.drop (i + 1)).foldl fs (fs (fnv (l.take i)) l[i]) := by
    have h2 : fnv (l.take i ++ l[i] :: l.drop (i + 1)) = (l.drop (i + 1)).foldl fs (fs (fnv (l.take i)) l[i]) := by
      unfold fnv
      rw [List.foldl_append, List.foldl_cons]
    rwa [← e1] at h2
  rw [e2] at h
  have h3 : fnv (l.take i ++ y :: l.drop (i + 1)) = (l.drop (i + 1)).foldl fs (fs (fnv (l.take i)) y) := by
    unfold fnv
    rw [List.foldl_append, List.foldl_cons]
  rw [h1, h3] at h
  have h4 := fold_inj _ _ _ (fs_lt _ _) (fs_lt _ _) (fun x hx => hl x (List.mem_of_mem_drop hx)) h
  exact hne (fs_inj_r (fnv_lt _) hy (hl _ (List.getElem_mem _)) h4).symm
/-- The four bytes of a sum, highest first. -/
def four (s : Nat) : List Nat := [s / 16777216, s / 65536 % 256, s / 256 % 256, s % 256]
theorem four_byte (s : Nat) (h : s < 4294967296) : ∀ x ∈ four s, x < 256 := by
  intro x hx
  simp [four] at hx
  omega
theorem four_inj {s t : Nat} (h : four s = four t) : s = t := by
  simp only [four, List.cons.injEq, and_true] at h
  omega
/-- Bytes and their sum. -/
def sealed (l : List Nat) : List Nat := l ++ four (fnv l)
theorem sealed_len (l : List Nat) : (sealed l).length = l.length + 4 := by simp [sealed, four]
theorem sealed_byte {l : List Nat} (h : ∀ x ∈ l, x < 256) : ∀ x ∈ sealed l, x < 256 := by
  intro x hx
  rcases List.mem_append.1 hx with hx | hx
  · exact h x hx
  · exact four_byte _ (fnv_lt _) x hx
theorem sealed_slip {l : List Nat} {i y : Nat} (hl : ∀ x ∈ l, x < 256) (hy : y < 256) (hi : i < (sealed l).length) (hne : (sealed l)[i] ≠ y) : sealed (((sealed l).set i y).take l.length) ≠ (sealed l).set i y := by
  intro h
  by_cases h1 : i < l.length
  · have e1 : (sealed l).set i y = l.set i y ++ four (fnv l) := by unfold sealed; rw [List.set_append_left _ _ h1]
    rw [e1] at h
    rw [List.take_left' (by simp)] at h
    unfold sealed at h
    have h2 := List.append_cancel_left h
    have h3 : l[i] ≠ y := by
      have : (sealed l)[i] = l[i] := (List.getElem_append_left h1 : (l ++ four (fnv l))[i]'hi = l[i])
      rwa [this] at hne
    exact fnv_set hl hy h1 h3 (four_inj h2)
  · have e1 : (sealed l).set i y = l ++ (four (fnv l)).set (i - l.length) y := by unfold sealed; rw [List.set_append_right _ _ (by omega)]
    rw [e1, List.take_left' rfl] at h
    unfold sealed at h
    have h2 := List.append_cancel_left h
    have hj : i - l.length < (four (fnv l)).length := by rw [sealed_len] at hi; simp [four]; omega
    have h3 : (four (fnv l))[i - l.length] = y := by
      have h4 : (four (fnv l))[i - l.length]? = ((four (fnv l)).set (i - l.length) y)[i - l.length]? := by rw [← h2]
      rw [List.getElem?_set_self hj, List.getElem?_eq_getElem hj] at h4
      exact Option.some.inj h4
    have h5 : (sealed l)[i] = (four (fnv l))[i - l.length] := (List.getElem_append_right (by omega) : (l ++ four (fnv l))[i]'hi = (four (fnv l))[i - l.length])
    exact hne (h5.trans h3)
theorem sealed_take (l : List Nat) : sealed ((sealed l).take l.length) = sealed l := by
  have : (sealed l).take l.length = l := by unfold sealed; exact List.take_left' rfl
  rw [this]
end Go.Proofs.YtelnnlfbfbbnaaaDoor
