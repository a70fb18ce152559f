/-
  The statement TickQuotients, walked.
-/
import Derived.Test.YtbbkkdbgaoidgaaTickAdd
namespace Go.Proofs.Ytbbkkdbgaoidgaa
open Go.RowKit

set_option maxHeartbeats 400000 in
theorem rfloor_any (a b : Int) (w : World) (ha : I64 a) (hb : 1 ≤ b) (hb' : b ≤ 9223372036854775807) :
    Calls Try.prog 11 #[.int .i64 a, .int .i64 b] w fun e w' => e = .returned (.int .i64 (a / b)) ∧ w = w' := by
  obtain ⟨a1, a2⟩ := ha
  by_cases h0 : 0 ≤ a
  · obtain ⟨d1, d2⟩ := div_range hb h0
    obtain ⟨m1, m2⟩ := mod_range (a := a) hb
    obtain ⟨p, hp⟩ : ∃ p, a / b * b = p := ⟨_, rfl⟩
    have e := Int.emod_add_mul_ediv a b
    rw [Int.mul_comm] at e
    have p1 : p ≤ a := by omega
    have p2 : 0 ≤ p := by rw [← hp]; exact Int.mul_nonneg d1 (by omega)
    clear e m1 m2
    go_enter Try.func11, Try.ntmps11
    go_wp2
    go_ret
    exact ⟨rfl, rfl⟩
  · obtain ⟨q, m, hq, hm, m1, m2, q1, q2, h1, h2⟩ := tdm_neg hb (a := a) (by omega)
    have e := Int.tmod_add_mul_tdiv a b
    rw [Int.mul_comm, hq, hm] at e
    obtain ⟨p, hp⟩ : ∃ p, q * b = p := ⟨_, rfl⟩
    have p1 : a ≤ p := by omega
    have p2 : p ≤ 0 := by rw [← hp]; exact Int.mul_nonpos_of_nonpos_of_nonneg q2 (by omega)
    by_cases h : m = 0
    · subst h
      obtain ⟨e1, _, _⟩ := h1 rfl
      rw [e1]
      have p3 : ¬ a < p := by omega
      clear h1 h2 e1 e hm
      go_enter Try.func11, Try.ntmps11
      go_wp2
      go_ret
      exact ⟨rfl, rfl⟩
    · obtain ⟨e1, _, _, h4⟩ := h2 (by omega)
      have p3 : a < p := by omega
      rw [e1]
      clear h1 h2 e1 h e hm
      go_enter Try.func11, Try.ntmps11
      go_wp2
      go_ret
      exact ⟨rfl, rfl⟩

theorem quo_facts {a b : Int} (ha : I64 a) (hb : 1 ≤ b) : -9223372036854775808 ≤ a / b ∧ a / b ≤ 9223372036854775807 ∧ (0 < a % b → a / b + 1 ≤ 9223372036854775807) := by
  obtain ⟨a1, a2⟩ := ha
  by_cases h0 : 0 ≤ a
  · obtain ⟨d1, d2⟩ := div_range hb h0
    refine ⟨by omega, by omega, fun h => ?_⟩
    have e := Int.emod_add_mul_ediv a b
    have : 1 * (a / b) ≤ b * (a / b) := Int.mul_le_mul_of_nonneg_right hb d1
    omega
  · obtain ⟨q, m, hq, hm, m1, m2, q1, q2, h1, h2⟩ := tdm_neg hb (a := a) (by omega)
    by_cases h : m = 0
    · have := h1 h
      refine ⟨by omega, by omega, fun h => by omega⟩
    · have := h2 (by omega)
      refine ⟨by omega, by omega, fun h => by omega⟩

set_option maxHeartbeats 800000 in
theorem tickQuotients_walk (a b : Int) (w : World) (ha : I64 a) (hb : I64 b) :
    Calls Try.prog 6 #[.int .i64 a, .int .i64 b] w fun e w' => e = .returned (.bool true) ∧ Ext w w' := by
  by_cases h1 : b < 1
  · go_enter Try.func6, Try.ntmps6
    unfold Pair at *
    go_wp2_with (first
      | (go_at_call 8; refine (alive_any _).mono ?_; rintro e w1 ⟨rfl, rfl⟩)
      | (go_at_call 16; refine (floor_no a b _ h1).mono ?_; rintro e w1 ⟨rfl, rfl⟩; unfold Pair)
      | (go_at_call 17; refine (ceil_no a b _ h1).mono ?_; rintro e w1 ⟨rfl, rfl⟩; unfold Pair)
      | (go_at_call 18; refine (mod_no a b _ h1).mono ?_; rintro e w1 ⟨rfl, rfl⟩; unfold Pair))
    go_ret
    exact ⟨rfl, Ext.refl _⟩
  · have hb1 : 1 ≤ b := by omega
    obtain ⟨_, b2⟩ := hb
    have H1 := fun w => floor_any a b w ha hb1 b2
    have H2 := fun w => ceil_any a b w ha hb1 b2
    have H3 := fun w => mod_any a b w ha hb1 b2
    have H4 := fun w => rfloor_any a b w ha hb1 b2
    obtain ⟨f1, f2, f3⟩ := quo_facts ha hb1
    obtain ⟨a1, a2⟩ := ha
    obtain ⟨m1, m2⟩ := mod_range (a := a) hb1
    have hn := neg_div (a := a) hb1
    have e := Int.emod_add_mul_ediv a b
    rw [Int.mul_comm] at e
    generalize a / b = f at *
    generalize a % b = m at *
    generalize -((-a) / b) = c at *
    obtain ⟨p, hp⟩ : ∃ p, f * b = p := ⟨_, rfl⟩
    rw [hp] at e
    by_cases hm : m = 0
    · subst hm
      obtain rfl : p = a := by omega
      obtain rfl := hn.1 rfl
      clear hn f1 f2 f3 e
      go_enter Try.func6, Try.ntmps6
      go_wp2_with (first
        | (go_at_call 8; refine (alive_any _).mono ?_; rintro e w1 ⟨rfl, rfl⟩)
        | (go_at_call 16; refine (H1 _).mono ?_; rintro e w1 ⟨rfl, rfl⟩; unfold Pair)
        | (go_at_call 17; refine (H2 _).mono ?_; rintro e w1 ⟨rfl, rfl⟩; unfold Pair)
        | (go_at_call 18; refine (H3 _).mono ?_; rintro e w1 ⟨rfl, rfl⟩; unfold Pair)
        | (go_at_call 11; refine (H4 _).mono ?_; rintro e w1 ⟨rfl, rfl⟩))
      go_ret
      exact ⟨rfl, Ext.refl _⟩
    · obtain ⟨p', hp'⟩ : ∃ p', wrap64 p = p' := ⟨_, rfl⟩
      have hw : wrap64 (p' + m) = a := by rw [← hp', ← e]; unfold wrap64; omega
      clear e
      have hc := hn.2 (by omega)
      have f4 := f3 (by omega)
      have hm' : 0 < m := by omega
      have hcf : (c == f) = false := by simp; omega
      have hw2 : wrap64 (f + 1) = c := by rw [hc]; unfold wrap64; omega
      clear hn f1 f2 f3 f4 hc hm
      go_enter Try.func6, Try.ntmps6
      go_wp2_with (first
        | (go_at_call 8; refine (alive_any _).mono ?_; rintro e w1 ⟨rfl, rfl⟩)
        | (go_at_call 16; refine (H1 _).mono ?_; rintro e w1 ⟨rfl, rfl⟩; unfold Pair)
        | (go_at_call 17; refine (H2 _).mono ?_; rintro e w1 ⟨rfl, rfl⟩; unfold Pair)
        | (go_at_call 18; refine (H3 _).mono ?_; rintro e w1 ⟨rfl, rfl⟩; unfold Pair)
        | (go_at_call 11; refine (H4 _).mono ?_; rintro e w1 ⟨rfl, rfl⟩))
      go_ret
      exact ⟨rfl, Ext.refl _⟩
end Go.Proofs.Ytbbkkdbgaoidgaa
