/-
  Demands: how often a server is charged in an interval, in plain numbers.
-/
import Derived.Test.YtakilnelbmbjdaaDoorSvRow
namespace Go.Proofs.YtakilnelbmbjdaaDoor
open Go.RowKit
set_option linter.unusedVariables false
/-- How many stand behind place a. -/
def cn (l : List Bool) (a : Nat) : Int := ((l.drop a).count true : Nat)
theorem cn_put {l : List Bool} {a : Nat} (x : Bool) (h : a ≤ l.length) : cn (l ++ [x]) a = cn l a + (if x then 1 else 0) := by
  unfold cn
  rw [List.drop_append_of_le_length h, List.count_append]
  cases x <;> simp
theorem cn_end (l : List Bool) : cn l l.length = 0 := by simp [cn]
/-- In any interval a budget a period, and one more. -/
def Dem (Q T : Int) (l : List Bool) : Prop := ∀ a b : Nat, a ≤ b → b < l.length → ((((l.drop a).take (b + 1 - a)).count true : Nat) : Int) ≤ (((b : Int) - a + T) / T + 1) * Q
/-- Where the budget comes from: s is the last tick at which one began. -/
structure DemAt (K Q T now : Int) (k s : Int) (c : Ck) (l : List Bool) : Prop where
  ok : Dem Q T l
  b0 : 0 ≤ c.b ∧ c.b ≤ Q
  d : c.d = now + s + T
  s0 : -T ≤ s ∧ s ≤ k
  m : K = 2 ∨ s % T = 0
  run : ∀ a : Nat, a ≤ l.length → ∃ F : Int, 0 ≤ F ∧ cn l a + c.b ≤ Q * (F + 1) ∧ (F = 0 ∨ a + (F - 1) * T ≤ s)
theorem dem_new {K Q T now : Int} (hT : 1 ≤ T) (hQ : 1 ≤ Q) : DemAt K Q T now (-1) (-T) ⟨0, now, false⟩ [] :=
  ⟨fun a b _ h => by simp at h, by simp only; omega, by simp only; omega, by omega, .inr (by simp), fun a ha => ⟨0, by omega, by simp [cn]; omega, .inl rfl⟩⟩
theorem mod_gap {j k T : Int} (hT : 0 < T) (hj : j % T = 0) (hk : k % T = 0) (h : j < k) : j + T ≤ k := by
  have h1 : T ∣ k - j := Int.dvd_sub (Int.dvd_of_emod_eq_zero hk) (Int.dvd_of_emod_eq_zero hj)
  have h2 := Int.le_of_dvd (by omega) h1
  omega
theorem dem_less {K Q T now k s : Int} {c c' : Ck} {l : List Bool} (h : DemAt K Q T now (k - 1) s c l) (hb : 0 ≤ c'.b ∧ c'.b ≤ c.b) (hd : c'.d = c.d) : DemAt K Q T now k s c' l :=
  ⟨h.ok, by have := h.b0; omega, by rw [hd]; exact h.d, by have := h.s0; omega, h.m, fun a ha => by
    obtain ⟨F, f1, f2, f3⟩ := h.run a ha
    exact ⟨F, f1, by omega, f3⟩⟩
theorem dem_full {K Q T now k s : Int} {c : Ck} {l : List Bool} (h : DemAt K Q T now (k - 1) s c l) (hk : (l.length : Int) = k) (hQ : 1 ≤ Q) (hT : 1 ≤ T) (hf : s + T ≤ k) (hm : K = 2 ∨ k % T = 0) : DemAt K Q T now k k ⟨Q, now + k + T, true⟩ l :=
  ⟨h.ok, by simp only; omega, rfl, by omega, hm, fun a ha => by
    obtain ⟨F, f1, f2, f3⟩ := h.run a ha
    have hb := h.b0
    refine ⟨F + 1, by omega, ?_, .inr ?_⟩
    · simp only
      rw [Int.mul_add Q (F + 1) 1]
      omega
    · rw [show F + 1 - 1 = F by omega]
      rcases f3 with rfl | f3
      · omega
      · rw [Int.sub_mul] at f3
        omega⟩
theorem dem_beg {K Q T now k s : Int} {c : Ck} {l : List Bool} {wk : Bool} (hL : Legal K Q T) (hk : (l.length : Int) = k) (h : DemAt K Q T now (k - 1) s c l) : ∃ s', DemAt K Q T now k s' (begC ⟨K, Q, T, now⟩ c (now + k) wk) l := by
  obtain ⟨h1, h2, h3, h4, h5⟩ := hL
  have e : now + k - now = k := by omega
  have hK : K = 1 ∨ K = 2 ∨ K = 3 := by omega
  have hs := h.s0
  have hb := h.b0
  have hd := h.d
  have full : k % T = 0 → K ≠ 2 → ∃ s', DemAt K Q T now k s' ⟨Q, now + k + T, true⟩ l := fun hm hn =>
    ⟨k, dem_full h hk (by omega) (by omega) (mod_gap (by omega) (h.m.resolve_left hn) hm (by omega)) (.inr hm)⟩
  rcases hK with rfl | rfl | rfl
  · cases wk
    · rw [beg_idle (.inl rfl)]
      exact ⟨s, dem_less h (by simp only; omega) rfl⟩
    · by_cases hm : k % T = 0
      · have ee : begC ⟨1, Q, T, now⟩ c (now + k) true = ⟨Q, now + k + T, true⟩ := by simp [begC, polC, Ck.full, e, hm]
        rw [ee]
        exact full hm (by omega)
      · have ee : begC ⟨1, Q, T, now⟩ c (now + k) true = c := by simp [begC, polC, e, hm]
        rw [ee]
        exact ⟨s, dem_less h (by omega) rfl⟩
  · cases wk
    · rw [beg_idle (.inr rfl)]
      exact ⟨s, dem_less h (by simp only; omega) rfl⟩
    · by_cases hm : c.d ≤ now + k
      · have ee : begC ⟨2, Q, T, now⟩ c (now + k) true = ⟨Q, now + k + T, true⟩ := by simp [begC, spoC, Ck.full, hm]
        rw [ee]
        exact ⟨k, dem_full h hk (by omega) (by omega) (by omega) (.inl rfl)⟩
      · have ee : begC ⟨2, Q, T, now⟩ c (now + k) true = c := by simp [begC, spoC, hm]
        rw [ee]
        exact ⟨s, dem_less h (by omega) rfl⟩
  · by_cases hm : k % T = 0
    · have ee : begC ⟨3, Q, T, now⟩ c (now + k) wk = ⟨Q, now + k + T, true⟩ := by simp [begC, defC, Ck.full, e, hm]
      rw [ee]
      exact full hm (by omega)
    · have ee : begC ⟨3, Q, T, now⟩ c (now + k) wk = c := by simp [begC, defC, e, hm]
      rw [ee]
      exact ⟨s, dem_less h (by omega) rfl⟩
theorem dem_put {K Q T now k s : Int} {c c' : Ck} {l : List Bool} (x : Bool) (hQ : 1 ≤ Q) (hT : 1 ≤ T) (hk : (l.length : Int) = k) (h : DemAt K Q T now k s c l) (hd : c'.d = c.d) (hb : c'.b = c.b - (if x then 1 else 0)) (h0 : 0 ≤ c'.b) : DemAt K Q T now k s c' (l ++ [x]) := by
  have hrun : ∀ a : Nat, a ≤ l.length → ∃ F : Int, 0 ≤ F ∧ cn (l ++ [x]) a + c'.b ≤ Q * (F + 1) ∧ (F = 0 ∨ a + (F - 1) * T ≤ s) := fun a ha => by
    obtain ⟨F, f1, f2, f3⟩ := h.run a ha
    exact ⟨F, f1, by rw [cn_put x ha, hb]; omega, f3⟩
  have hb0 := h.b0
  have hbQ : c'.b ≤ Q := by rw [hb]; split <;> omega
  refine ⟨fun a b hab hbl => ?_, ⟨h0, hbQ⟩, by rw [hd]; exact h.d, h.s0, h.m, fun a ha => ?_⟩
  · rw [List.length_append] at hbl
    by_cases he : b < l.length
    · have := h.ok a b hab he
      rw [List.drop_append_of_le_length (by omega), List.take_append_of_le_length (by rw [List.length_drop]; omega)]
      exact this
    · have hbe : b = l.length := by simp at hbl; omega
      obtain ⟨F, f1, f2, f3⟩ := hrun a (by omega)
      have hall : ((l ++ [x]).drop a).take (b + 1 - a) = (l ++ [x]).drop a := List.take_of_length_le (by rw [List.length_drop, List.length_append]; simp; omega)
      rw [hall]
      have e1 : ((((l ++ [x]).drop a).count true : Nat) : Int) ≤ Q * (F + 1) := by
        have : cn (l ++ [x]) a ≤ Q * (F + 1) := by omega
        exact this
      have hs := h.s0
      have hF : F ≤ ((b : Int) - a + T) / T := by
        refine Int.le_ediv_of_mul_le (by omega) ?_
        rcases f3 with rfl | f3
        · omega
        · rw [Int.sub_mul] at f3
          omega
      have e2 : Q * (F + 1) ≤ (((b : Int) - a + T) / T + 1) * Q := by
        rw [Int.mul_comm]
        exact Int.mul_le_mul_of_nonneg_right (by omega) (by omega)
      omega
  · rw [List.length_append] at ha
    by_cases he : a ≤ l.length
    · exact hrun a he
    · have hae : a = (l ++ [x]).length := by simp at ha ⊢; omega
      refine ⟨0, by omega, ?_, .inl rfl⟩
      rw [hae, cn_end]
      omega
end Go.Proofs.YtakilnelbmbjdaaDoor
