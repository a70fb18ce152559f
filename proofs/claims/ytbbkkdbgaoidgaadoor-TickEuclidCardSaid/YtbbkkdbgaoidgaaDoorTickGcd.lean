/-
  Package tick: Gcd (with math/bits.TrailingZeros64), walked. The table of math/bits is asked for as a fact on the world.
-/
import Derived.Test.YtbbkkdbgaoidgaaDoorTickAmt
import Derived.Test.YtbbkkdbgaoidgaaDoorGcdPlain
import Derived.Shelf.Spec.TrailingZeros
namespace Go.Proofs.YtbbkkdbgaoidgaaDoor
open Go.RowKit

/-- The table of math/bits lies in its variable. -/
def Tab (w : World) : Prop := 0 < w.heap.size ∧ ∀ j, j < 64 → w.cell? ⟨0, j, none⟩ = some (.int .u8 ((Lib.deBruijn64tab.getD j 0 : Nat) : Int))

theorem Tab.ext {w w' : World} (h : Tab w) (hx : Ext w w') : Tab w' :=
  ⟨Nat.lt_of_lt_of_le h.1 hx.size, fun j hj => (hx.cell h.1).trans (h.2 j hj)⟩
theorem Tab.drewN {w : World} (h : Tab w) (k : Nat) : Tab (w.drewN k) := h

set_option maxHeartbeats 400000 in
theorem tz_zero (w : World) : Calls Tryd.prog 16 #[.int .u64 0] w fun e w' => e = .returned (.int .i64 64) ∧ w = w' := by
  go_enter Tryd.func16, Tryd.ntmps16
  go_wp2
  go_ret
  exact ⟨rfl, rfl⟩
set_option maxHeartbeats 400000 in
theorem tz_core (x k idx : Nat) (w : World) (hx0 : ((x : Int) == 0) = false)
    (key : IntKind.u64.wrap (Go.bits .and .u64 (x : Int) (IntKind.u64.wrap (-(x : Int))) * 285870213051353865) / 288230376151711744 = (idx : Int))
    (hi : idx < 64) (hk : k < 64) (hcell : w.cell? ⟨0, idx, none⟩ = some (.int .u8 (k : Int))) :
    Calls Tryd.prog 16 #[.int .u64 (x : Int)] w fun e w' => e = .returned (.int .i64 (k : Int)) ∧ w = w' := by
  go_enter Tryd.func16, Tryd.ntmps16
  go_wp2_with (simp only [key])
  go_ret
  exact ⟨rfl, rfl⟩
theorem tz_any (x : Nat) (w : World) (hx : x < 18446744073709551616) (hT : Tab w) :
    Calls Tryd.prog 16 #[.int .u64 (x : Int)] w fun e w' => e = .returned (.int .i64 (Lib.ctz 64 x : Nat)) ∧ w = w' := by
  by_cases hx0 : x = 0
  · subst hx0
    exact tz_zero w
  · obtain ⟨hlow, hk⟩ := Lib.lowest_bit 64 x hx0 hx
    obtain ⟨hi, htab⟩ := Lib.deBruijn64_at _ hk
    have hcell := hT.2 _ hi
    rw [htab] at hcell
    exact tz_core x _ _ w (by simp; omega) (tz64_key x _ hx hx0 hlow) hi hk hcell

set_option maxHeartbeats 1600000 in
theorem gcd_any (a b : Int) (w : World) (ha : I64 a) (hb : I64 b) (hT : Tab w) :
    Calls Tryd.prog 7 #[.int .i64 a, .int .i64 b] w fun e w' => e = .returned (.int .u64 (Nat.gcd a.natAbs b.natAbs : Nat)) ∧ w = w' := by
  have ha' := ha
  have hb' := hb
  unfold I64 at ha' hb'
  have A1 := Lib.hid (fun w => tamount_any a w ha)
  have A2 := Lib.hid (fun w => tamount_any b w hb)
  obtain ⟨x, hx⟩ : ∃ x, a.natAbs = x := ⟨_, rfl⟩
  obtain ⟨y, hy⟩ : ∃ y, b.natAbs = y := ⟨_, rfl⟩
  have hx1 : x < 18446744073709551616 := by omega
  have hy1 : y < 18446744073709551616 := by omega
  rw [hx] at A1
  rw [hy] at A2
  rw [hx, hy]
  clear hx hy ha hb
  by_cases h1 : x = 0
  · subst h1
    have e1 : Go.bits .or .u64 0 (y : Int) = (y : Int) := by
      have := u64_or_nat 0 y (by omega) hy1
      rw [Nat.zero_or] at this
      exact this
    rw [Nat.gcd_zero_left]
    go_enter Tryd.func7, Tryd.ntmps7
    go_wp2_with fail
    refine (A1.out _).mono ?_
    rintro e w1 ⟨rfl, rfl⟩
    go_wp2_with fail
    refine (A2.out _).mono ?_
    rintro e w1 ⟨rfl, rfl⟩
    go_wp2_with fail
    go_ret
    exact ⟨rfl, rfl⟩
  · have h1' : ((x : Int) == 0) = false := by simp; omega
    by_cases h2 : y = 0
    · subst h2
      have e1 : Go.bits .or .u64 (x : Int) 0 = (x : Int) := by
        have := u64_or_nat x 0 hx1 (by omega)
        rw [Nat.or_zero] at this
        exact this
      rw [Nat.gcd_zero_right]
      clear h1
      go_enter Tryd.func7, Tryd.ntmps7
      go_wp2_with fail
      refine (A1.out _).mono ?_
      rintro e w1 ⟨rfl, rfl⟩
      go_wp2_with fail
      refine (A2.out _).mono ?_
      rintro e w1 ⟨rfl, rfl⟩
      go_wp2_with fail
      go_ret
      exact ⟨rfl, rfl⟩
    · have h2' : ((y : Int) == 0) = false := by simp; omega
      have hsh := Gcd.shared h1 hx1 hy1
      have ho1 : x ||| y < 18446744073709551616 := Nat.or_lt_two_pow (n := 64) hx1 hy1
      have ho0 : x ||| y ≠ 0 := fun h => h1 (Nat.or_eq_zero_iff.1 h).1
      obtain ⟨mo, hmo, ht64, hqo⟩ := Gcd.odd_part ho0 ho1
      clear hmo hqo
      obtain ⟨m, hm, hs64, hq⟩ := Gcd.odd_part h1 hx1
      have e1 : Go.bits .or .u64 (x : Int) (y : Int) = ((x ||| y : Nat) : Int) := u64_or_nat x y hx1 hy1
      have hg : Nat.gcd x y < 18446744073709551616 := Nat.lt_of_le_of_lt (Nat.gcd_le_left _ (by omega)) hx1
      have T1 := Lib.hid (fun w' (hw : w = w') => tz_any (x ||| y) w' ho1 (hw ▸ hT))
      have T2 := Lib.hid (fun w' (hw : w = w') => tz_any x w' hx1 (hw ▸ hT))
      have e2 : (x : Int) / 2 ^ Lib.ctz 64 x = ((x / 2 ^ Lib.ctz 64 x : Nat) : Int) := by simp
      have hxo : x / 2 ^ Lib.ctz 64 x ≤ x := Nat.div_le_self _ _
      have hodd : (x / 2 ^ Lib.ctz 64 x) % 2 = 1 := by rw [hq]; omega
      generalize Lib.ctz 64 (x ||| y) = t at *
      generalize Lib.ctz 64 x = s at *
      generalize x / 2 ^ s = z at *
      generalize x ||| y = o at *
      generalize hG : Nat.gcd z y = G at *
      rw [hsh]
      rw [hsh] at hg
      have HG := Lib.hid hG
      have HODD := Lib.hid hodd
      have HT := Lib.hid hT
      have hz0 : z ≠ 0 := fun h => by subst h; simp at hodd
      clear hG hsh hq hm h1 h2 ho0 ho1 hodd hT
      go_enter Tryd.func7, Tryd.ntmps7
      go_wp2_with fail
      refine (A1.out _).mono ?_
      rintro e w1 ⟨rfl, rfl⟩
      go_wp2_with fail
      refine (A2.out _).mono ?_
      rintro e w1 ⟨rfl, rfl⟩
      go_wp2_with fail
      refine (T1.out _ rfl).mono ?_
      rintro e w1 ⟨rfl, rfl⟩
      go_wp2_with fail
      refine (T2.out _ rfl).mono ?_
      rintro e w1 ⟨rfl, rfl⟩
      go_wp2_with fail
      go_loop [5, 6] (fun vx vy => ∃ X Y : Nat, vx = .int .u64 X ∧ vy = .int .u64 Y ∧ X < 18446744073709551616 ∧ Y < 18446744073709551616 ∧ Hid (X % 2 = 1 ∧ Nat.gcd X Y = G)) (fun vx vy => (intOf vx).toNat + (intOf vy).toNat)
      case atStart => exact ⟨z, y, rfl, rfl, by omega, hy1, ⟨HODD.out, HG.out⟩⟩
      case round =>
        obtain ⟨X, Y, rfl, rfl, hX, hY, hI⟩ := hrel
        by_cases h3 : Y = 0
        · subst h3
          have hXG : X = G := by have := hI.out.2; rw [Nat.gcd_zero_right] at this; exact this
          subst hXG
          have e3 : IntKind.u64.wrap ((X : Int) * 2 ^ t) = ((X * 2 ^ t : Nat) : Int) := by
            have e4 : (X : Int) * 2 ^ t = ((X * 2 ^ t : Nat) : Int) := by simp
            rw [e4, IntKind.wrap_u64]
            omega
          have E3 := Lib.hid e3
          clear hI HG HODD e3
          go_wp2_with fail
          go_ret
          refine ⟨?_, rfl⟩
          simp
          exact E3.out.trans (by simp)
        · have h3' : ((Y : Int) == 0) = false := by simp; omega
          obtain ⟨m2, hm2, hs2, hq2⟩ := Gcd.odd_part h3 hY
          have T3 := Lib.hid (fun w' (hw : w = w') => tz_any Y w' hY (hw ▸ HT.out))
          have e5 : (Y : Int) / 2 ^ Lib.ctz 64 Y = ((Y / 2 ^ Lib.ctz 64 Y : Nat) : Int) := by simp
          have hle : Y / 2 ^ Lib.ctz 64 Y ≤ Y := Nat.div_le_self _ _
          have hgc : Nat.gcd X (Y / 2 ^ Lib.ctz 64 Y) = G := by
            have h4 := Gcd.gcd_twos hI.out.1 (Lib.ctz 64 Y) (2 * m2 + 1)
            rw [← hm2] at h4
            rw [hq2, ← h4]
            exact hI.out.2
          have hyo : (Y / 2 ^ Lib.ctz 64 Y) % 2 = 1 := by rw [hq2]; omega
          generalize Lib.ctz 64 Y = u at *
          generalize Y / 2 ^ u = Z at *
          have HGC := Lib.hid hgc
          have HYO := Lib.hid hyo
          have hX1 : 1 ≤ X := by have := hI.out.1; omega
          have hZ1 : 1 ≤ Z := by omega
          clear hm2 hq2 hgc hyo h3
          by_cases h5 : Z < X
          · go_wp2_with fail
            refine (T3.out _ rfl).mono ?_
            rintro e w1 ⟨rfl, rfl⟩
            go_wp2_with fail
            go_round
            case rel =>
              refine ⟨Z, X - Z, rfl, by congr 1; omega, by omega, by omega, ⟨HYO.out, ?_⟩⟩
              rw [← HGC.out, Nat.gcd_comm X Z]
              exact Nat.gcd_sub_self_right (by omega)
            case measure => simp [intOf]; omega
          · go_wp2_with fail
            refine (T3.out _ rfl).mono ?_
            rintro e w1 ⟨rfl, rfl⟩
            go_wp2_with fail
            go_round
            case rel =>
              refine ⟨X, Z - X, rfl, by congr 1; omega, by omega, by omega, ⟨hI.out.1, ?_⟩⟩
              rw [← HGC.out]
              exact Nat.gcd_sub_self_right (by omega)
            case measure => simp [intOf]; omega
end Go.Proofs.YtbbkkdbgaoidgaaDoor
