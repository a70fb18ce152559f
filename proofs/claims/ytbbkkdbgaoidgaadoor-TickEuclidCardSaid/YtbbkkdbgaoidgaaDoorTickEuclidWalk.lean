/-
  The statement TickEuclid, walked.
-/
import Derived.Test.YtbbkkdbgaoidgaaDoorTickGcd
namespace Go.Proofs.YtbbkkdbgaoidgaaDoor
open Go.RowKit
set_option maxHeartbeats 1000000 in
theorem euclid_any (a b : Int) (w : World) (ha : I64 a) (hb : I64 b) (hT : Tab w) :
    Calls Tryd.prog 3 #[.int .i64 a, .int .i64 b] w fun e w' => e = .returned (.bool true) ∧ w = w' := by
  have ha' := ha
  have hb' := hb
  unfold I64 at ha' hb'
  by_cases h1 : a < 0
  · clear ha hb hT
    go_enter Tryd.func3, Tryd.ntmps3
    go_wp2_with fail
    refine (alive_any _).mono ?_
    rintro e w1 ⟨rfl, rfl⟩
    go_wp2_with fail
    go_ret
    exact ⟨rfl, rfl⟩
  · by_cases h2 : b < 0
    · clear ha hb hT
      go_enter Tryd.func3, Tryd.ntmps3
      go_wp2_with fail
      refine (alive_any _).mono ?_
      rintro e w1 ⟨rfl, rfl⟩
      go_wp2_with fail
      go_ret
      exact ⟨rfl, rfl⟩
    · have GA := Lib.hid (fun (w' : World) (e : w = w') => gcd_any a b w' ha hb (e ▸ hT))
      obtain ⟨p, rfl⟩ : ∃ p : Nat, a = p := ⟨a.toNat, by omega⟩
      obtain ⟨q, rfl⟩ : ∃ q : Nat, b = q := ⟨b.toNat, by omega⟩
      have hE : Gcd.Ends (92 - 0) p q := Gcd.ends_all (by omega)
      rw [Int.natAbs_natCast, Int.natAbs_natCast] at GA
      obtain ⟨G, hG⟩ : ∃ G, Nat.gcd p q = G := ⟨_, rfl⟩
      rw [hG] at GA
      have HI := Lib.hid (And.intro hE hG)
      clear hE hG ha hb hT
      go_enter Tryd.func3, Tryd.ntmps3
      go_wp2_with fail
      refine (alive_any _).mono ?_
      rintro e w1 ⟨rfl, rfl⟩
      go_wp2_with fail
      go_loop [5, 6, 7, 8, 9] (fun vx vy vi _ _ => ∃ X Y i : Nat, vx = .int .i64 X ∧ vy = .int .i64 Y ∧ vi = .int .i64 i ∧ X ≤ 9223372036854775807 ∧ Y ≤ 9223372036854775807 ∧ i ≤ 92 ∧ Hid (Gcd.Ends (92 - i) X Y ∧ Nat.gcd X Y = G)) (fun _ vy _ _ _ => (intOf vy).toNat)
      case atStart => exact ⟨p, q, 0, rfl, rfl, rfl, by omega, by omega, by omega, HI⟩
      case round =>
        obtain ⟨X, Y, i, rfl, rfl, rfl, hX, hY, hi, hI⟩ := hrel
        by_cases h3 : Y = 0
        · subst h3
          have hXG : X = G := by have := hI.out.2; rw [Nat.gcd_zero_right] at this; exact this
          subst hXG
          clear hI HI
          go_wp2_with fail
          refine (GA.out _ rfl).mono ?_
          rintro e w2 ⟨rfl, rfl⟩
          go_wp2_with fail
          go_ret
          exact ⟨rfl, rfl⟩
        · obtain ⟨hi2, hE2⟩ : i + 1 ≤ 92 ∧ Gcd.Ends (92 - (i + 1)) Y (X % Y) := by
            have h4 := hI.out.1
            by_cases h5 : i = 92
            · subst h5
              exact absurd h4 h3
            · refine ⟨by omega, ?_⟩
              rw [show 92 - i = 92 - (i + 1) + 1 by omega] at h4
              exact h4.resolve_left h3
          have hG2 : Nat.gcd Y (X % Y) = G := by
            rw [← hI.out.2, Nat.gcd_comm Y (X % Y), Nat.gcd_comm X Y]
            exact (Nat.gcd_rec Y X).symm
          have hm : (X : Int) % (Y : Int) = ((X % Y : Nat) : Int) := by simp
          have hml := Nat.mod_lt X (show 0 < Y by omega)
          have MA := Lib.hid (fun w => mod_any (X : Int) (Y : Int) w (by unfold I64; omega) (by omega) (by omega))
          rw [hm] at MA
          generalize X % Y = Z at *
          have HI2 := Lib.hid (And.intro hE2 hG2)
          clear hE2 hG2 hm hI HI GA
          go_wp2_with fail
          refine (MA.out _).mono ?_
          rintro e w2 ⟨rfl, rfl⟩
          unfold Pair
          go_wp2_with fail
          go_round
          case rel => exact ⟨Y, Z, i + 1, rfl, rfl, by congr 1, by omega, by omega, hi2, HI2⟩
          case measure => simp [intOf]; omega
theorem euclid_ext (a b : Int) (w : World) (ha : I64 a) (hb : I64 b) (hT : Tab w) :
    Calls Tryd.prog 3 #[.int .i64 a, .int .i64 b] w fun e w' => e = .returned (.bool true) ∧ Ext w w' :=
  (euclid_any a b w ha hb hT).mono fun _ w' ⟨h, e⟩ => by subst e; exact ⟨h, Ext.refl w⟩
end Go.Proofs.YtbbkkdbgaoidgaaDoor
