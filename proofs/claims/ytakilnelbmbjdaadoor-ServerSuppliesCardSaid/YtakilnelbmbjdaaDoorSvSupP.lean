/-
  Supplies: how often a server is charged at least while there is work, in plain numbers.
-/
import Derived.Test.YtakilnelbmbjdaaDoorSvPer
import Derived.Test.YtakilnelbmbjdaaDoorSvDemP
namespace Go.Proofs.YtakilnelbmbjdaaDoor
open Go.RowKit
set_option linter.unusedVariables false
/-- What is given of a row whose periods end at a distance: e ticks ahead of that. -/
theorem given_low {G Q T j z e n v : Int} (hQ : 1 ≤ Q) (hQT : Q ≤ T) (hj : 0 ≤ j) (hz : 0 ≤ z ∧ z < T) (he : 0 ≤ e ∧ e ≤ T) (hn : n + e ≤ G + j * T + z) (hv : 0 ≤ v) (hvb : j * Q + min z Q ≤ v + min e Q) : given G Q T n ≤ v := by
  rw [given_per]
  split
  · exact hv
  · rename_i hG
    have h1 : per Q T (n - G) ≤ per Q T (j * T + (z - e)) := per_mono hQ hQT (by omega)
    refine Int.le_trans h1 ?_
    by_cases hez : e ≤ z
    · rw [per_at hQ hQT j (z - e) (by omega) (by omega)]
      omega
    · have e1 : j * T + (z - e) = (j - 1) * T + (T + z - e) := by rw [Int.sub_mul]; omega
      rw [e1, per_at hQ hQT (j - 1) (T + z - e) (by omega) (by omega), Int.sub_mul]
      omega
/-- There is work in all ticks from a on, ahead of b. -/
def Busy (ws : List Bool) (a b : Nat) : Prop := ∀ i, a ≤ i → i < b → ws[i]? = some true
/-- In any interval with work throughout at least the row's supply. -/
def Sup (G Q T : Int) (ws cs : List Bool) : Prop := ∀ a b : Nat, a ≤ b → b < cs.length → Busy ws a (b + 1) → given G Q T ((b : Int) - a + 1) ≤ ((((cs.drop a).take (b + 1 - a)).count true : Nat) : Int)
/-- What holds ahead of tick k: D is the tick at which a budget begins next. -/
structure SupAt (K Q T now k D : Int) (c : Ck) (ws cs : List Bool) : Prop where
  ok : Sup (gapOf K Q T) Q T ws cs
  hD : k ≤ D ∧ D ≤ k + T
  b0 : 0 ≤ c.b ∧ c.b ≤ Q
  dd : 0 < c.b → c.d = now + D
  m : K ≠ 2 → D % T = 0
  m2 : K = 2 → c.d ≤ now + D ∧ (D = k ∨ c.d = now + D)
  sl : K ≠ 3 → c.b ≤ D - k
  s3 : K = 3 → Q ≤ c.b + (T - (D - k))
  run : ∀ a : Nat, a ≤ cs.length → Busy ws a cs.length → ∃ j z : Int, 0 ≤ j ∧ 0 ≤ z ∧ z < T ∧ D - a ≤ gapOf K Q T + j * T + z ∧ j * Q + min z Q ≤ cn cs a + min c.b (D - k)
theorem gap_low {K Q T : Int} (hQ : 1 ≤ Q) (hQT : Q ≤ T) : 0 ≤ gapOf K Q T ∧ T - Q ≤ gapOf K Q T ∧ gapOf K Q T ≤ T - 1 := by unfold gapOf; split <;> omega
/-- A window that begins now. -/
theorem sup_open {K Q T k D : Int} {c : Ck} {cs : List Bool} (hQ : 1 ≤ Q) (hQT : Q ≤ T) (hk : (cs.length : Int) = k) (hD : k ≤ D ∧ D ≤ k + T - 1) (hb : 0 ≤ c.b) (s3 : K = 3 → Q ≤ c.b + (T - (D - k))) :
    ∃ j z : Int, 0 ≤ j ∧ 0 ≤ z ∧ z < T ∧ D - (cs.length : Nat) ≤ gapOf K Q T + j * T + z ∧ j * Q + min z Q ≤ cn cs cs.length + min c.b (D - k) := by
  rw [cn_end]
  by_cases h3 : K = 3
  · have hs := s3 h3
    subst h3
    by_cases hx : D - k ≤ T - Q
    · exact ⟨0, 0, by omega, by omega, by omega, by simp [gapOf]; omega, by omega⟩
    · exact ⟨0, D - k - (T - Q), by omega, by omega, by omega, by simp [gapOf]; omega, by omega⟩
  · exact ⟨0, 0, by omega, by omega, by omega, by simp [gapOf, h3]; omega, by omega⟩
/-- The end of a tick: charged or not. -/
theorem sup_put {K Q T now k D : Int} {c c' : Ck} {ws cs : List Bool} (wk x : Bool) (hL : Legal K Q T) (hk : (cs.length : Int) = k) (hw : ws.length = cs.length) (h : SupAt K Q T now k D c ws cs) (hDk : k < D) (hd : c'.d = c.d) (hb : c'.b = c.b - (if x then 1 else 0)) (h0 : 0 ≤ c'.b)
    (hch : wk = true → x = false → 0 < c.b → c.b < D - k) (hoff : wk = false → K ≠ 3 → c.b = 0) (hnx : wk = false → x = false) : SupAt K Q T now (k + 1) D c' (ws ++ [wk]) (cs ++ [x]) := by
  obtain ⟨h1, h2, hQ, hQT, h5⟩ := hL
  have hg := gap_low (K := K) hQ hQT
  have hbq := h.b0
  have hdd := h.dd
  have hDD := h.hD
  have hcb : c'.b ≤ c.b := by rw [hb]; split <;> omega
  have s3 : K = 3 → Q ≤ c'.b + (T - (D - (k + 1))) := fun e => by have := h.s3 e; rw [hb]; split <;> omega
  have hmin : wk = true → (if x then 1 else 0) + min c'.b (D - (k + 1)) = min c.b (D - k) := fun e => by
    cases x
    · have := hch e rfl
      simp only [Bool.false_eq_true, if_false] at hb ⊢
      omega
    · simp only [if_true] at hb ⊢
      omega
  have hcut : ∀ a : Nat, a ≤ cs.length → Busy (ws ++ [wk]) a (cs ++ [x]).length → wk = true ∧ Busy ws a cs.length := fun a ha hB => by
    have hl : (cs ++ [x]).length = cs.length + 1 := by simp
    refine ⟨?_, fun i hi hi2 => ?_⟩
    · have := hB cs.length ha (by omega)
      rw [← hw, List.getElem?_append_right (Nat.le_refl _)] at this
      simpa using this
    · have := hB i hi (by omega)
      rwa [List.getElem?_append_left (by omega)] at this
  have hrun : ∀ a : Nat, a ≤ cs.length → Busy (ws ++ [wk]) a (cs ++ [x]).length → ∃ j z : Int, 0 ≤ j ∧ 0 ≤ z ∧ z < T ∧ D - a ≤ gapOf K Q T + j * T + z ∧ j * Q + min z Q ≤ cn (cs ++ [x]) a + min c'.b (D - (k + 1)) := fun a ha hB => by
    obtain ⟨hwk, hB'⟩ := hcut a ha hB
    obtain ⟨j, z, j0, z0, z1, d1, v1⟩ := h.run a ha hB'
    have := hmin hwk
    exact ⟨j, z, j0, z0, z1, d1, by rw [cn_put x ha]; omega⟩
  refine ⟨fun a b hab hbl hB => ?_, by omega, ⟨h0, by omega⟩, fun hp => by rw [hd]; exact hdd (by omega), h.m, fun e => ?_, fun e => ?_, s3, fun a ha hB => ?_⟩
  · rw [List.length_append] at hbl
    by_cases he : b < cs.length
    · have hB' : Busy ws a (b + 1) := fun i hi hi2 => by
        have := hB i hi hi2
        rwa [List.getElem?_append_left (by omega)] at this
      have := h.ok a b hab he hB'
      rw [List.drop_append_of_le_length (by omega), List.take_append_of_le_length (by rw [List.length_drop]; omega)]
      exact this
    · have hbe : b = cs.length := by simp at hbl; omega
      subst hbe
      obtain ⟨j, z, j0, z0, z1, d1, v1⟩ := hrun a hab (by simpa using hB)
      have hall : ((cs ++ [x]).drop a).take (cs.length + 1 - a) = (cs ++ [x]).drop a := List.take_of_length_le (by rw [List.length_drop, List.length_append]; simp)
      rw [hall]
      refine given_low (j := j) (z := z) (e := D - (k + 1)) hQ hQT j0 ⟨z0, z1⟩ (by omega) (by omega) (Int.natCast_nonneg _) ?_
      have : cn (cs ++ [x]) a = ((((cs ++ [x]).drop a).count true : Nat) : Int) := rfl
      omega
  · have := h.m2 e
    rw [hd]
    omega
  · cases wk
    · have := hoff rfl e
      omega
    · cases x
      · have := hch rfl rfl
        simp only [Bool.false_eq_true, if_false] at hb
        omega
      · have := h.sl e
        simp only [if_true] at hb
        omega
  · rw [List.length_append] at ha
    by_cases he : a ≤ cs.length
    · exact hrun a he hB
    · have hae : a = (cs ++ [x]).length := by simp at ha ⊢; omega
      subst hae
      exact sup_open hQ hQT (by simp; omega) (by omega) h0 s3
theorem sup_new {K Q T now : Int} (hL : Legal K Q T) : SupAt K Q T now 0 0 ⟨0, now, false⟩ [] [] := by
  obtain ⟨h1, h2, hQ, hQT, h5⟩ := hL
  refine ⟨fun a b _ h => by simp at h, by omega, by simp only; omega, fun h => by simp only at h; omega, fun _ => by simp, fun _ => ⟨by simp only; omega, .inl rfl⟩, fun _ => by simp only; omega, fun _ => by simp only; omega, fun a ha hB => ?_⟩
  have ha0 : a = ([] : List Bool).length := by simp at ha ⊢; omega
  subst ha0
  exact sup_open hQ hQT rfl (by omega) (by simp only; omega) (fun _ => by simp only; omega)
/-- A budget begins. -/
theorem sup_full {K Q T now k : Int} {c : Ck} {ws cs : List Bool} (hL : Legal K Q T) (h : SupAt K Q T now k k c ws cs) : SupAt K Q T now k (k + T) ⟨Q, now + k + T, true⟩ ws cs := by
  obtain ⟨h1, h2, hQ, hQT, h5⟩ := hL
  have hb := h.b0
  refine ⟨h.ok, by omega, by simp only; omega, fun _ => by simp only; omega, fun e => ?_, fun e => ⟨by simp only; omega, .inr (by simp only; omega)⟩, fun _ => by simp only; omega, fun _ => by simp only; omega, fun a ha hB => ?_⟩
  · have h0 := h.m e
    rw [Int.add_emod_right, h0]
  · obtain ⟨j, z, j0, z0, z1, d1, v1⟩ := h.run a ha hB
    refine ⟨j + 1, z, by omega, z0, z1, ?_, ?_⟩
    · rw [Int.add_mul]
      omega
    · simp only
      rw [Int.add_mul]
      omega
theorem mult_one {k D T : Int} (hT : 1 ≤ T) (hk : k % T = 0) (hD : D % T = 0) (h1 : k ≤ D) (h2 : D ≤ k + T - 1) : D = k := by
  have h3 : T ∣ D - k := Int.dvd_sub (Int.dvd_of_emod_eq_zero hD) (Int.dvd_of_emod_eq_zero hk)
  by_cases h : D = k
  · exact h
  · have := Int.le_of_dvd (by omega) h3
    omega
/-- The beginning of a tick with work, or of a deferrable server's. -/
theorem sup_beg {K Q T now k D : Int} {c : Ck} {ws cs : List Bool} {wk : Bool} (hL : Legal K Q T) (hwk : wk = true ∨ K = 3) (hT : D ≤ k + T - 1) (h : SupAt K Q T now k D c ws cs) : ∃ D', k < D' ∧ SupAt K Q T now k D' (begC ⟨K, Q, T, now⟩ c (now + k) wk) ws cs := by
  have hL' := hL
  obtain ⟨h1, h2, hQ, hQT, h5⟩ := hL'
  have e : now + k - now = k := by omega
  have hK : K = 1 ∨ K = 2 ∨ K = 3 := by omega
  have hDD := h.hD
  have full : D = k → ∃ D', k < D' ∧ SupAt K Q T now k D' ⟨Q, now + k + T, true⟩ ws cs := fun hm => by
    subst hm
    exact ⟨D + T, by omega, sup_full hL h⟩
  have stay : D ≠ k → ∃ D', k < D' ∧ SupAt K Q T now k D' c ws cs := fun hm => ⟨D, by omega, h⟩
  have at_ : K ≠ 2 → (k % T = 0 ↔ D = k) := fun hn => ⟨fun hm => mult_one (by omega) hm (h.m hn) hDD.1 hT, fun hm => by rw [← hm]; exact h.m hn⟩
  rcases hK with rfl | rfl | rfl
  · obtain rfl : wk = true := hwk.resolve_right (by omega)
    by_cases hm : k % T = 0
    · have ee : begC ⟨1, Q, T, now⟩ c (now + k) true = ⟨Q, now + k + T, true⟩ := by simp [begC, polC, Ck.full, e, hm]
      rw [ee]
      exact full ((at_ (by omega)).1 hm)
    · have ee : begC ⟨1, Q, T, now⟩ c (now + k) true = c := by simp [begC, polC, e, hm]
      rw [ee]
      exact stay (fun hd => hm ((at_ (by omega)).2 hd))
  · obtain rfl : wk = true := hwk.resolve_right (by omega)
    have h22 := h.m2 rfl
    by_cases hm : c.d ≤ now + k
    · have ee : begC ⟨2, Q, T, now⟩ c (now + k) true = ⟨Q, now + k + T, true⟩ := by simp [begC, spoC, Ck.full, hm]
      rw [ee]
      exact full (by omega)
    · have ee : begC ⟨2, Q, T, now⟩ c (now + k) true = c := by simp [begC, spoC, hm]
      rw [ee]
      exact stay (by omega)
  · by_cases hm : k % T = 0
    · have ee : begC ⟨3, Q, T, now⟩ c (now + k) wk = ⟨Q, now + k + T, true⟩ := by simp [begC, defC, Ck.full, e, hm]
      rw [ee]
      exact full ((at_ (by omega)).1 hm)
    · have ee : begC ⟨3, Q, T, now⟩ c (now + k) wk = c := by simp [begC, defC, e, hm]
      rw [ee]
      exact stay (fun hd => hm ((at_ (by omega)).2 hd))
/-- A tick without work, not of a deferrable server. -/
theorem sup_off {K Q T now k D : Int} {c c' : Ck} {ws cs : List Bool} (hL : Legal K Q T) (hK : K ≠ 3) (hk : (cs.length : Int) = k) (hw : ws.length = cs.length) (hT : D ≤ k + T - 1) (h : SupAt K Q T now k D c ws cs) (hb : c'.b = 0) (hd : c'.d = c.d) :
    ∃ D', D' ≤ (k + 1) + T - 1 ∧ SupAt K Q T now (k + 1) D' c' (ws ++ [false]) (cs ++ [false]) := by
  obtain ⟨h1, h2, hQ, hQT, h5⟩ := hL
  have hDD := h.hD
  obtain ⟨D', hD1, hD2, hD3, hD4⟩ : ∃ D', k + 1 ≤ D' ∧ D' ≤ k + T ∧ (K ≠ 2 → D' % T = 0) ∧ (K = 2 → c.d ≤ now + D' ∧ (D' = k + 1 ∨ c.d = now + D')) := by
    by_cases hm : D = k
    · by_cases h2 : K = 2
      · have := h.m2 h2
        exact ⟨k + 1, by omega, by omega, fun e => absurd h2 e, fun _ => ⟨by omega, .inl rfl⟩⟩
      · have := h.m h2
        exact ⟨k + T, by omega, by omega, fun _ => by rw [Int.add_emod_right, ← hm, this], fun e => absurd e h2⟩
    · exact ⟨D, by omega, by omega, h.m, fun e => by have := h.m2 e; omega⟩
  have hcut : ∀ a : Nat, a ≤ cs.length → ¬ Busy (ws ++ [false]) a (cs ++ [false]).length := fun a ha hB => by
    have hl : (cs ++ [false]).length = cs.length + 1 := by simp
    have := hB cs.length ha (by omega)
    rw [← hw, List.getElem?_append_right (Nat.le_refl _)] at this
    simp at this
  refine ⟨D', by omega, ⟨fun a b hab hbl hB => ?_, by omega, by omega, fun hp => by omega, hD3, fun e => by rw [hd]; exact hD4 e, fun _ => by omega, fun e => absurd e hK, fun a ha hB => ?_⟩⟩
  · rw [List.length_append] at hbl
    by_cases he : b < cs.length
    · have hB' : Busy ws a (b + 1) := fun i hi hi2 => by
        have := hB i hi hi2
        rwa [List.getElem?_append_left (by omega)] at this
      have := h.ok a b hab he hB'
      rw [List.drop_append_of_le_length (by omega), List.take_append_of_le_length (by rw [List.length_drop]; omega)]
      exact this
    · have hbe : b = cs.length := by simp at hbl; omega
      subst hbe
      exact absurd (by simpa using hB) (hcut a hab)
  · rw [List.length_append] at ha
    by_cases he : a ≤ cs.length
    · exact absurd hB (hcut a he)
    · have hae : a = (cs ++ [false]).length := by simp at ha ⊢; omega
      subst hae
      exact sup_open hQ hQT (by simp; omega) (by omega) (by omega) (fun e => absurd e hK)
end Go.Proofs.YtakilnelbmbjdaaDoor
