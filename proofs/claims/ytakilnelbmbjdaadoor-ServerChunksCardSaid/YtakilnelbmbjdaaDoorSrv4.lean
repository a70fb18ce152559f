/-
  The statements of layer 14: alive, legal, walked.
-/
import Derived.Test.YtakilnelbmbjdaaDoorSrv3
namespace Go.Proofs.YtakilnelbmbjdaaDoor
open Go.RowKit
set_option linter.unusedVariables false
theorem alive_round (c : Ck) (k : Nat) (hk : k < 10) (hb : c.b = if k = 6 then 1 else 0) :
    (begC ⟨1, 2, 5, 0⟩ c (k : Int) (decide (0 < k))).b = (if k = 5 then 2 else if k = 6 then 1 else 0) := by
  obtain ⟨b, d, on⟩ := c
  simp only at hb
  subst hb
  match k, hk with
  | 0, _ | 1, _ | 2, _ | 3, _ | 4, _ | 5, _ | 6, _ | 7, _ | 8, _ | 9, _ => simp [begC, polC, Ck.full]
set_option maxHeartbeats 800000 in
theorem alive_any (w : World) {p : Addr} (hS : Sen w 0 p) :
    Calls Tryd.prog 9 #[] w fun e w' => e = .returned (.bool true) ∧ Ext w w' := by
  have SE := Lib.hid (fun w' (hx : Ext w w') => hS.ext hx)
  have NW : Hid (∀ w, Calls Tryd.prog 11 #[.agg #[.int .i64 1, .int .i64 2, .int .i64 5], .int .i64 0] w (Made w ⟨1, 2, 5, 0⟩)) := Lib.hid (fun w => new_ok 1 2 5 0 w (by unfold Legal; omega) (by omega))
  clear hS
  go_enter Tryd.func9, Tryd.ntmps9
  go_wp2_with fail
  refine (NW.out _).mono ?_
  rintro e u0 ⟨g, rfl, hs, hx, hg⟩
  go_wp2_with fail
  go_loopw [3] (fun vi wr => ∃ (k : Nat) (c : Ck) (wk : Bool), vi = .int .i64 (k : Int) ∧ k ≤ 10 ∧ Sv wr g ⟨1, 2, 5, 0⟩ c wk ∧ c.b = (if k = 6 then 1 else 0) ∧ Ext w wr) (fun vi _ => (10 - intOf vi).toNat)
  case atStart => exact ⟨0, _, _, rfl, by omega, hs, rfl, hx⟩
  case round =>
    clear hx hs
    obtain ⟨k, c, wk, rfl, hk, hs, hb, hx⟩ := hrel
    by_cases h10 : k < 10
    · have hr := alive_round c k h10 hb
      have BG := Lib.hid (begin_any wr (k : Int) (decide (0 < k)) hs (by simp only; omega) (by simp only; omega) (by simp only; omega))
      obtain ⟨c', hc'⟩ : ∃ c', begC ⟨1, 2, 5, 0⟩ c (k : Int) (decide (0 < k)) = c' := ⟨_, rfl⟩
      rw [hc'] at hr BG
      clear hc' hb
      by_cases h56 : k = 5 ∨ k = 6
      · have hrd : (decide (0 < k) && decide (0 < c'.b)) = true := by rcases h56 with rfl | rfl <;> (rw [hr]; decide)
        rw [hrd] at BG
        have hb' : c'.b - 1 = if k + 1 = 6 then 1 else 0 := by rcases h56 with rfl | rfl <;> (rw [hr]; decide)
        have hb2 : c'.b ≤ 1024 := by rcases h56 with rfl | rfl <;> (rw [hr]; decide)
        have hpk : ((k : Int) == 5 || (k : Int) == 6) = true := by rcases h56 with rfl | rfl <;> decide
        clear hr
        rcases h56 with rfl | rfl
        all_goals
          go_wp2_with fail
          refine BG.out.mono ?_
          rintro e w1 ⟨rfl, h1, f1⟩
          have CY := Lib.hid (charge_yes w1 h1 hrd hb2)
          have hx1 := Fr.ext hx f1 (fun i hi => by omega)
          clear hx f1 hs
          go_wp2_with fail
          refine CY.out.mono ?_
          rintro e w2 ⟨rfl, h2, f2⟩
          have hx2 := Fr.ext hx1 f2 (fun i hi => by omega)
          go_wp2_with fail
          go_roundw
          case rel => first | exact ⟨6, _, _, rfl, by omega, h2, hb', hx2⟩ | exact ⟨7, _, _, rfl, by omega, h2, hb', hx2⟩
          case measure => simp [intOf]
      · have hb' : c'.b = if k + 1 = 6 then 1 else 0 := by rw [hr, if_neg (by omega), if_neg (by omega), if_neg (by omega)]
        have hb0 : c'.b = 0 := by rw [hr, if_neg (by omega), if_neg (by omega)]
        have hrd : (decide (0 < k) && decide (0 < c'.b)) = false := by rw [hb0]; simp
        rw [hrd] at BG
        have k5 : ((k : Int) == 5) = false := by simp; omega
        have k6 : ((k : Int) == 6) = false := by simp; omega
        clear hr hb0
        go_wp2_with fail
        refine BG.out.mono ?_
        rintro e w1 ⟨rfl, h1, f1⟩
        have hx1 := Fr.ext hx f1 (fun i hi => by omega)
        have CY := Lib.hid (charge_no w1 (SE.out w1 hx1) h1 hrd)
        clear hx f1 hs
        go_wp2_with fail
        refine CY.out.mono ?_
        rintro e w2 ⟨rfl, rfl⟩
        go_wp2_with fail
        go_roundw
        case rel => exact ⟨k + 1, _, _, by go_num, by omega, h1, hb', hx1⟩
        case measure => simp [intOf]; omega
    · go_wp2_with fail
      go_ret
      exact ⟨rfl, hx⟩
set_option maxHeartbeats 1600000 in
theorem legal_yes (K Q T now : Int) (w : World) (h : Legal K Q T) (hn : 0 ≤ now ∧ now ≤ 1099511627776) :
    Calls Tryd.prog 10 #[srv K Q T, .int .i64 now] w fun e w' => e = .returned (.bool true) ∧ Ext w w' := by
  have RL := Lib.hid (fun w => rlegal8_yes K Q T w h)
  clear h
  unfold srv at *
  go_enter Tryd.func10, Tryd.ntmps10
  go_wp2_with fail
  refine (RL.out _).mono ?_
  rintro e w1 ⟨rfl, hx⟩
  go_wp2_with fail
  go_ret
  exact ⟨rfl, ((Ext.refl w).alloc _).trans hx⟩
set_option maxHeartbeats 1600000 in
theorem legal_late (K Q T now : Int) (w : World) (h : Legal K Q T) (hn : ¬ (0 ≤ now ∧ now ≤ 1099511627776)) :
    Calls Tryd.prog 10 #[srv K Q T, .int .i64 now] w fun e w' => e = .returned (.bool false) ∧ Ext w w' := by
  have RL := Lib.hid (fun w => rlegal8_yes K Q T w h)
  have h2 : now < 0 ∨ (0 ≤ now ∧ 1099511627776 < now) := by omega
  clear h hn
  unfold srv at *
  rcases h2 with h2 | ⟨h2, h3⟩
  all_goals
    go_enter Tryd.func10, Tryd.ntmps10
    go_wp2_with fail
    refine (RL.out _).mono ?_
    rintro e w1 ⟨rfl, hx⟩
    go_wp2_with fail
    go_ret
    first | exact ⟨rfl, ((Ext.refl w).alloc _).trans hx⟩ | exact ⟨by simp; omega, ((Ext.refl w).alloc _).trans hx⟩
set_option maxHeartbeats 1600000 in
theorem legal_no (K Q T now : Int) (w : World) (h : ¬ Legal K Q T) :
    Calls Tryd.prog 10 #[srv K Q T, .int .i64 now] w fun e w' => e = .returned (.bool false) ∧ Ext w w' := by
  have RL := Lib.hid (fun w => rlegal8_no K Q T w h)
  clear h
  unfold srv at *
  go_enter Tryd.func10, Tryd.ntmps10
  go_wp2_with fail
  refine (RL.out _).mono ?_
  rintro e w1 ⟨rfl, hx⟩
  go_wp2_with fail
  go_ret
  exact ⟨rfl, ((Ext.refl w).alloc _).trans hx⟩
end Go.Proofs.YtakilnelbmbjdaaDoor
