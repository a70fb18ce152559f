/-
  Package almonerref08: legal guests, walked.
-/
import Derived.Test.YtbpbmelfhgbogaaDoorGsLegal
namespace Go.Proofs.YtbpbmelfhgbogaaDoor
set_option maxRecDepth 100000
open Go.RowKit
set_option linter.unusedVariables false
/-- b says whether P. -/
def IffB (b : Bool) (P : Prop) : Prop := b = true ↔ P
theorem IffB.iff {b : Bool} {P : Prop} (h : IffB b P) : b = true ↔ P := h
set_option maxHeartbeats 1600000 in
theorem rguest_loop (A : Option Addr) (n c : Nat) (p : Int) (ts : List TaskV) (w : World) (hr : Rd w 4 A n (trows ts).flatten) (hn : n ≤ 4611686018427387904) (b : Bool) (hb : Hid (IffB b (LG p ts))) :
    Calls Tryd.prog 10 #[.int .i64 p, .slice A n c] w fun e w' => e = .returned (.bool b) ∧ Ext w w' := by
  have hl := hr.len_t
  have HO := Lib.hid (And.intro hr hl)
  obtain ⟨o0, ho0⟩ : ∃ o0 : Bool, o0 = true ↔ ((p = 1 ∨ p = 2) ∧ 1 ≤ n ∧ n ≤ 8) := by
    by_cases h : (p = 1 ∨ p = 2) ∧ 1 ≤ n ∧ n ≤ 8
    · exact ⟨true, by simp [h]⟩
    · exact ⟨false, by simp [h]⟩
  have H0 := Lib.hid (show IffB o0 _ from ho0)
  have hex : ∃ P1 P2 N1 N2 : Bool, (p == 1) = P1 ∧ (p == 2) = P2 ∧ decide (1 ≤ (n : Int)) = N1 ∧ decide ((n : Int) ≤ 8) = N2 ∧ o0 = ((P1 || P2) && (N1 && N2)) := ⟨_, _, _, _, rfl, rfl, rfl, rfl, by
    rw [Bool.eq_iff_iff, ho0]
    simp only [Bool.and_eq_true, Bool.or_eq_true, beq_iff_eq, decide_eq_true_eq]
    omega⟩
  obtain ⟨P1, P2, N1, N2, hP1, hP2, hN1, hN2, ho⟩ := hex
  clear ho0 hr hl
  have HB := Lib.hid ho
  clear ho
  go_enter Tryd.func10, Tryd.ntmps10
  cases P1 <;> cases P2 <;> cases N1 <;> cases N2
  all_goals
    have ho := HB.out
    simp only [Bool.or_false, Bool.or_true, Bool.false_or, Bool.true_or, Bool.and_false, Bool.and_true, Bool.false_and, Bool.true_and] at ho
    subst ho
    go_wp2_with fail
    clear hP1 hP2 hN1 hN2 HB
    go_loopw [5, 7, 26] (fun v5 _ v26 wr => ∃ (k : Nat) (o : Bool), v5 = .bool o ∧ v26 = .int .i64 (k : Int) ∧ k ≤ n ∧ Hid (Ext w wr ∧ IffB o (((p = 1 ∨ p = 2) ∧ 1 ≤ n ∧ n ≤ 8) ∧ ∀ i t, i < k → ts[i]? = some t → t.legal))) (fun _ _ v26 _ => n - (intOf v26).toNat)
    case atStart => exact ⟨0, _, rfl, rfl, by omega, Ext.refl w, ⟨fun h => ⟨H0.out.iff.1 h, fun i t h => absurd h (by omega)⟩, fun h => H0.out.iff.2 h.1⟩⟩
    case round =>
      obtain ⟨k, o, rfl, rfl, hk, HI⟩ := hrel
      by_cases hlt : k < n
      · obtain ⟨t, ht⟩ : ∃ t, ts[k]? = some t := ⟨ts[k]'(by have := HO.out.2; omega), List.getElem?_eq_getElem _⟩
        obtain ⟨k4, hk4⟩ : ∃ k4, k * 4 = k4 := ⟨_, rfl⟩
        obtain ⟨ad, rfl, _, _⟩ := HO.out.1.2 (show 0 < n by omega)
        have hrr := HO.out.1.ext HI.out.1
        have k0 := hrr.rowAt (trows_even ts) (trows_at ht) hk4 (i := 0) rfl
        have k1 := hrr.rowAt (trows_even ts) (trows_at ht) hk4 (i := 1) rfl
        have k2 := hrr.rowAt (trows_even ts) (trows_at ht) hk4 (i := 2) rfl
        have k3 := hrr.rowAt (trows_even ts) (trows_at ht) hk4 (i := 3) rfl
        rw [Nat.add_zero] at k0
        rw [← add_add', add_lit' _ (by omega)] at k1 k2 k3
        have z0 : (0 : Int) ≤ k := by omega
        have z1 : (k : Int) < n := by omega
        have HT := Lib.hid ht
        have XX := Lib.hid ((Ext.refl wr).alloc (.cells #[.int .i64 t.C, .int .i64 t.P, .int .i64 t.D, .int .i64 t.S] 41))
        clear hrr ht
        cases o with
        | false =>
          go_wp2_with fail
          go_roundw
          case rel => exact ⟨k + 1, false, rfl, by go_num, by omega, HI.out.1.trans XX.out, by
            have := HI.out.2.iff
            unfold IffB
            constructor
            · intro h; cases h
            · intro h; exact this.2 ⟨h.1, fun i t hi ht => h.2 i t (by omega) ht⟩⟩
          case measure => simp [intOf]; omega
        | true =>
          by_cases hl : t.legal
          · have C := Lib.hid (fun w' => rtask_yes t w' hl)
            unfold TaskV.val at C
            have HL := Lib.hid hl
            clear hl
            go_wp2_with fail
            refine (C.out _).mono ?_
            rintro e w1 ⟨rfl, x1⟩
            have X1 := Lib.hid (HI.out.1.trans (XX.out.trans x1))
            clear x1 k0 k1 k2 k3 hk4
            go_wp2_with fail
            go_roundw
            case rel => exact ⟨k + 1, true, rfl, by go_num, by omega, X1.out, by
              have h0 := HI.out.2.iff.1 rfl
              refine ⟨fun _ => ⟨h0.1, fun i u hi hu => ?_⟩, fun _ => rfl⟩
              rcases Nat.lt_or_ge i k with h5 | h5
              · exact h0.2 i u h5 hu
              · obtain rfl : i = k := by omega
                have := HT.out; rw [hu] at this; injection this with this; subst this; exact HL.out⟩
            case measure => simp [intOf]; omega
          · have C := Lib.hid (fun w' => rtask_no t w' hl)
            unfold TaskV.val at C
            have HL := Lib.hid hl
            clear hl
            go_wp2_with fail
            refine (C.out _).mono ?_
            rintro e w1 ⟨rfl, x1⟩
            have X1 := Lib.hid (HI.out.1.trans (XX.out.trans x1))
            clear x1 k0 k1 k2 k3 hk4
            go_wp2_with fail
            go_roundw
            case rel => exact ⟨k + 1, false, rfl, by go_num, by omega, X1.out, by
              unfold IffB
              constructor
              · intro h; cases h
              · intro h; exact absurd (h.2 k t (by omega) HT.out) HL.out⟩
            case measure => simp [intOf]; omega
      · obtain rfl : n = k := by omega
        go_wp2_with fail
        go_returns
        have e : o = b := by
          rw [Bool.eq_iff_iff, HI.out.2.iff, hb.out.iff]
          have hl := HO.out.2
          unfold LG
          rw [hl]
          constructor
          · rintro ⟨⟨h1, h2, h3⟩, h4⟩
            exact ⟨h1, h2, h3, fun t ht => by
              obtain ⟨i, hi⟩ := List.getElem?_of_mem ht
              exact h4 i t (by have := (List.getElem?_eq_some_iff.1 hi).1; omega) hi⟩
          · rintro ⟨h1, h2, h3, h4⟩
            exact ⟨⟨h1, h2, h3⟩, fun i t _ ht => h4 t (List.mem_of_getElem? ht)⟩
        exact ⟨by rw [← e]; rfl, HI.out.1⟩
end Go.Proofs.YtbpbmelfhgbogaaDoor
