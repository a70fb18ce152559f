/-
  Rows of ticks: what each statement over a row needs.
-/
import Derived.Test.YtakilnelbmbjdaaDoorSvFull
import Derived.Test.YtakilnelbmbjdaaDoorOpen
namespace Go.Proofs.YtakilnelbmbjdaaDoor
open Go.RowKit
set_option linter.unusedVariables false
theorem Rd.int {w : World} {A : Option Addr} {n k : Nat} {l : List Int} (h : Rd w 1 A n (ints l)) (hk : k < n) :
    ∃ ad x, A = some ad ∧ l[k]? = some x ∧ w.cell? (ad.add k) = some (.int .i64 x) := by
  obtain ⟨ad, e, _, hc⟩ := h.at_ hk
  have hl : k < l.length := by have := h.len; simp [ints] at this; omega
  exact ⟨ad, l[k], e, List.getElem?_eq_getElem hl, hc k _ (by simp [ints, hl])⟩
theorem bit0 (x : Int) : ∃ b : Bool, Go.bits .and .i64 x 1 = if b then 1 else 0 := by
  have h := mask_core x 1 2 (by decide) (by decide)
  rw [show ((2 : Nat) : Int) - 1 = 1 by decide] at h
  have h1 := Int.emod_two_eq x
  rcases h1 with h1 | h1
  · exact ⟨false, by rw [h]; simpa using h1⟩
  · exact ⟨true, by rw [h]; simpa using h1⟩
theorem bit1 (x : Int) : ∃ b : Bool, Go.bits .and .i64 x 2 = if b then 2 else 0 := by
  have h1 : Go.bits .and .i64 x 2 = IntKind.i64.wrap (((BitVec.ofInt 64 x &&& BitVec.ofInt 64 2).toNat : Nat) : Int) := rfl
  have h2 : (BitVec.ofInt 64 2).toNat = 2 := by decide
  rw [h1, BitVec.toNat_and, h2]
  generalize (BitVec.ofInt 64 x).toNat = n
  have h3 : n &&& 2 ≤ 2 := Nat.and_le_right
  have h4 : (n &&& 2) % 2 ^ 1 = 0 := by rw [Nat.and_mod_two_pow, show 2 % 2 ^ 1 = 0 by decide, Nat.and_zero]
  have h5 : n &&& 2 = 0 ∨ n &&& 2 = 2 := by omega
  rcases h5 with h5 | h5
  · exact ⟨false, by rw [h5]; decide⟩
  · exact ⟨true, by rw [h5]; decide⟩
theorem beg_bound {K Q T s now : Int} {c : Ck} {wk : Bool} (hQ : 1 ≤ Q ∧ Q ≤ 256) (hb : 0 ≤ c.b ∧ c.b ≤ 256) : 0 ≤ (begC ⟨K, Q, T, s⟩ c now wk).b ∧ (begC ⟨K, Q, T, s⟩ c now wk).b ≤ 256 := by
  unfold begC polC spoC defC Ck.full
  repeat' split
  all_goals first | (simp only; omega) | omega
theorem beg_idle {K Q T s now : Int} {c : Ck} (hK : K = 1 ∨ K = 2) : begC ⟨K, Q, T, s⟩ c now false = ⟨0, c.d, false⟩ := by
  rcases hK with rfl | rfl <;> simp [begC, polC, spoC]
/-- A row's value. -/
def srow (K Q T now : Int) (A : Option Addr) (n c : Nat) : Value := .agg #[.int .i64 K, .int .i64 Q, .int .i64 T, .int .i64 now, .slice A n c]
theorem Blk.five {w : World} {p : Nat} {a b c d e : Value} (h : Blk w p #[a, b, c, d, e]) : w.cell? ⟨p, 0, none⟩ = some a ∧ w.cell? ⟨p, 1, none⟩ = some b ∧ w.cell? ⟨p, 2, none⟩ = some c ∧ w.cell? ⟨p, 3, none⟩ = some d ∧ w.cell? ⟨p, 4, none⟩ = some e :=
  ⟨h.at_ 0 rfl, h.at_ 1 rfl, h.at_ 2 rfl, h.at_ 3 rfl, h.at_ 4 rfl⟩
end Go.Proofs.YtakilnelbmbjdaaDoor
