/-
  container/heap: up and down over things, walked.
-/
import Derived.Test.YtocjbllkgbjihaaDoorQuSwap
namespace Go.Proofs.YtocjbllkgbjihaaDoor
set_option maxRecDepth 100000
open Go.RowKit Go.Maps
set_option linter.unusedVariables false
theorem up_fuel : ∀ (f1 f2 : Nat) (L : List Th) (j : Nat), j < f1 → j < f2 → upF f1 L j = upF f2 L j
  | 0, _, _, _, h, _ => absurd h (by omega)
  | _ + 1, 0, _, _, _, h => absurd h (by omega)
  | f1 + 1, f2 + 1, L, j, h1, h2 => by
    rw [upF, upF]
    split
    · rfl
    · split
      · exact up_fuel f1 f2 _ _ (by omega) (by omega)
      · rfl
theorem up_go {L : List Th} {k p : Nat} (hp : (k + 1 - 1) / 2 = p) (h : ah (at_ L (k + 1)) (at_ L p) = true) : upF (k + 1 + 1) L (k + 1) = upF (p + 1) (swapL L p (k + 1)) p := by
  rw [upF, if_neg (by omega), hp, if_pos h]
  exact up_fuel _ _ _ _ (by omega) (by omega)
theorem up_stop {L : List Th} {k p : Nat} (hp : (k + 1 - 1) / 2 = p) (h : ah (at_ L (k + 1)) (at_ L p) = false) : upF (k + 1 + 1) L (k + 1) = L := by
  rw [upF, if_neg (by omega), hp, if_neg (by rw [h]; decide)]
theorem up_zero (L : List Th) : upF (0 + 1) L 0 = L := by rw [upF, if_pos rfl]
section
variable {w w' : World} {g b n c Z : Nat} {A : Option Addr} {L : List Th} {ty : TypeId}
set_option maxHeartbeats 3200000 in
theorem up_any (h : TS w g b A n c L Z ty) {j : Nat} (hj : j < n) (hZ : Z + 2 * j < 4611686018427387903) :
    Calls Tryd.prog 46 #[.iface 68 (.pointer (some ⟨g, 0, none⟩)), .int .i64 (j : Int)] w fun e w' => e = .returned (.tuple #[]) ∧ TK w w' g b A n c (upF (j + 1) L j) (Z + 2 * j) ty := by
  have hmax := h.own.max
  have hcap := h.own.cap_le
  have HD := Lib.hid (And.intro h (And.intro hj (And.intro hZ (And.intro hmax hcap))))
  clear h hZ hmax hcap
  go_enter Tryd.func46, Tryd.ntmps46
  go_wp2_with fail
  go_loopw [1] (fun v1 wr => ∃ (k : Nat) (L' : List Th), v1 = .int .i64 (k : Int) ∧ k ≤ j ∧ Hid (TK w wr g b A n c L' (Z + 2 * (j - k)) ty ∧ upF (k + 1) L' k = upF (j + 1) L j)) (fun v1 _ => (intOf v1).toNat)
  case atStart => exact ⟨j, L, rfl, by omega, ⟨HD.out.1.mono (by omega), Fr.refl w _⟩, rfl⟩
  case round =>
    obtain ⟨k, L', rfl, hk, HI⟩ := hrel
    cases k with
    | zero =>
      go_wp2_with fail
      go_returns
      have h2 := HI.out
      rw [up_zero] at h2
      exact ⟨rfl, by rw [← h2.2]; exact ⟨h2.1.ts.mono (by omega), h2.1.fr⟩⟩
    | succ k =>
      obtain ⟨p, hp⟩ : ∃ p, k / 2 = p := ⟨_, rfl⟩
      have hkn : k + 1 < n := by omega
      have hpk : p < k + 1 := by omega
      have C1 := Lib.hid (tless_any HI.out.1.ts hkn (show p < n by omega))
      have C2 := Lib.hid (fun (w2 : World) (hx : Ext wr w2) => tswap_any (HI.out.1.ts.ex hx) (show p < n by omega) hkn (by have := HD.out.2.2.1; omega))
      have e1 : ((k + 1 : Nat) : Int) = (k : Int) + 1 := by omega
      rw [e1] at C1 C2
      have hc := HD.out.2.2.2
      have w1 : wrap64 (k : Int) = k := by unfold wrap64; omega
      have w2 : (k : Int).tdiv 2 = (p : Int) := by rw [Int.tdiv_eq_ediv_of_nonneg (by omega)]; omega
      have w3 : wrap64 (p : Int) = p := by unfold wrap64; omega
      have w4 : ¬ (p : Int) = (k : Int) + 1 := by omega
      have HP := Lib.hid (And.intro hp (And.intro hkn hpk))
      clear e1 hc hp hkn hpk
      have e3 : k + 1 - 1 = k := by omega
      cases hb : ah (at_ L' (k + 1)) (at_ L' p) with
      | false =>
        rw [hb] at C1
        have HB := Lib.hid hb
        clear hb
        go_wp2_with (refine C1.out.mono ?_; rintro e w2 ⟨rfl, x2⟩)
        go_returns
        have h2 := HI.out
        rw [up_stop (p := p) (by rw [e3]; exact HP.out.1) HB.out] at h2
        exact ⟨rfl, by rw [← h2.2]; exact ⟨(h2.1.ts.mono (by omega)).ex x2, (h2.1.grow x2).fr⟩⟩
      | true =>
        rw [hb] at C1
        have HB := Lib.hid hb
        clear hb
        go_wp2_with (first | (go_at_call 84; refine C1.out.mono ?_; rintro e w2 ⟨rfl, x2⟩) | (go_at_call 86; refine (C2.out _ x2).mono ?_; rintro e w3 ⟨rfl, k3⟩))
        go_roundw
        case rel =>
          have h2 := HI.out
          rw [up_go (p := p) (by rw [e3]; exact HP.out.1) HB.out] at h2
          exact ⟨p, _, rfl, by have := HP.out; omega, ⟨k3.ts.mono (by have := HP.out; omega), ((h2.1.grow x2).trans k3).fr⟩, h2.2⟩
        case measure => have := HP.out; simp [intOf]; omega
end
end Go.Proofs.YtocjbllkgbjihaaDoor
