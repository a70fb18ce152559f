/-
  The statement TickDivisors, walked: the document's Gcd, tick.Lcm, the law.
-/
import Derived.Test.YtbbkkdbgaoidgaaDoorTickGcd
import Derived.BigQuiet
import Derived.Deep.QuietTactic
namespace Go.Proofs.YtbbkkdbgaoidgaaDoor
open Go.RowKit
set_option maxHeartbeats 800000 in
theorem rgcd_any (x y : Nat) (w : World) (hx : x < 18446744073709551616) (hy : y < 18446744073709551616) :
    Calls Tryd.prog 10 #[.int .u64 (x : Int), .int .u64 (y : Int)] w fun e w' => e = .returned (.int .u64 (Nat.gcd x y : Nat)) ∧ Ext w w' := by
  obtain ⟨G, hG⟩ : ∃ G, Nat.gcd x y = G := ⟨_, rfl⟩
  rw [hG]
  have HG := Lib.hid hG
  clear hG
  go_enter Tryd.func10, Tryd.ntmps10
  go_wp2_with fail
  go_loopw [0, 1] (fun vx vy wr => ∃ X Y : Nat, vx = .int .u64 X ∧ vy = .int .u64 Y ∧ X < 18446744073709551616 ∧ Y < 18446744073709551616 ∧ Hid (Nat.gcd X Y = G) ∧ Ext w wr) (fun _ vy _ => (intOf vy).toNat)
  case atStart => exact ⟨x, y, rfl, rfl, hx, hy, HG, Ext.refl w⟩
  case round =>
    obtain ⟨X, Y, rfl, rfl, hX, hY, hI, hxt⟩ := hrel
    by_cases h3 : Y = 0
    · subst h3
      have hXG : X = G := by have := hI.out; rw [Nat.gcd_zero_right] at this; exact this
      subst hXG
      clear hI HG
      go_wp2_with fail
      go_ret
      exact ⟨rfl, hxt⟩
    · have hG2 : Nat.gcd Y (X % Y) = G := by
        rw [← hI.out, Nat.gcd_comm Y (X % Y), Nat.gcd_comm X Y]
        exact (Nat.gcd_rec Y X).symm
      have h4 : ((Y : Int) == 0) = false := by simp; omega
      have h5 : ¬ ((Y : Int) = 0) := by omega
      have hm : Int.tmod (X : Int) (Y : Int) = ((X % Y : Nat) : Int) := rfl
      have hml := Nat.mod_lt X (show 0 < Y by omega)
      generalize X % Y = Z at *
      have HG2 := Lib.hid hG2
      clear hG2 hI HG
      go_wp2_with fail
      go_quiet (fail)
      go_wp2_with fail
      go_roundw
      case rel => exact ⟨Y, Z, rfl, rfl, hY, by omega, HG2, hxt.drewN _⟩
      case measure => simp [intOf]; omega

set_option maxHeartbeats 1000000 in
theorem lcm_zero (a b : Int) (w : World) (ha : I64 a) (hb : I64 b) (h : a = 0 ∨ b = 0) :
    Calls Tryd.prog 9 #[.int .i64 a, .int .i64 b] w fun e w' => e = Pair 0 true ∧ Ext w w' := by
  by_cases h1 : a = 0
  · subst h1
    clear h ha
    go_enter Tryd.func9, Tryd.ntmps9
    go_wp2_with fail
    go_ret2
    exact ⟨rfl, Ext.refl w⟩
  · obtain rfl : b = 0 := h.resolve_left h1
    have h2 : (a == 0) = false := by simpa using h1
    clear h hb ha
    go_enter Tryd.func9, Tryd.ntmps9
    go_wp2_with fail
    go_ret2
    exact ⟨rfl, Ext.refl w⟩

set_option maxHeartbeats 1600000 in
theorem lcm_any (a b : Int) (w : World) (ha : I64 a) (hb : I64 b) (hT : Tab w) (ha0 : a ≠ 0) (hb0 : b ≠ 0) (q : Nat) (hq : a.natAbs / Nat.gcd a.natAbs b.natAbs = q) :
    Calls Tryd.prog 9 #[.int .i64 a, .int .i64 b] w fun e w' => e = Pair (okV (q * b.natAbs : Nat)) (okB (q * b.natAbs : Nat)) ∧ Ext w w' := by
  have ha' := ha
  have hb' := hb
  unfold I64 at ha' hb'
  have A1 := fun k => tamount_any a (w.drewN k) ha
  have A2 := fun k => tamount_any b (w.drewN k) hb
  have GA := fun k => gcd_any a b (w.drewN k) ha hb (hT.drewN k)
  obtain ⟨x, hx⟩ : ∃ x, a.natAbs = x := ⟨_, rfl⟩
  obtain ⟨y, hy⟩ : ∃ y, b.natAbs = y := ⟨_, rfl⟩
  have hx1 : x < 18446744073709551616 := by omega
  have hy1 : y < 18446744073709551616 := by omega
  have hG0 : 0 < Nat.gcd x y := Nat.gcd_pos_of_pos_left _ (by omega)
  rw [hx] at A1
  rw [hy] at A2
  rw [hx, hy] at GA hq
  rw [hy]
  have h1 : (a == 0) = false := by simpa using ha0
  have h2 : (b == 0) = false := by simpa using hb0
  clear hx hy ha hb hT
  generalize Nat.gcd x y = G at *
  have hG1 : ((G : Int) == 0) = false := by simp; omega
  have hGn : ¬ ((G : Int) = 0) := by omega
  have e1 : (x : Int) / (G : Int) = (q : Int) := by rw [← hq]; simp
  have hql : q ≤ x := by rw [← hq]; exact Nat.div_le_self _ _
  have M := fun k => mul64_any q y (w.drewN k) (by omega) hy1
  clear hq
  by_cases h : q * y < 18446744073709551616
  · have hw : Words (q * y) = .returned (.tuple #[.int .u64 0, .int .u64 (q * y : Nat)]) := by
      unfold Words
      rw [Nat.div_eq_of_lt h, Nat.mod_eq_of_lt h]
      rfl
    rw [hw] at M
    clear hw
    generalize hP : q * y = P at *
    clear hP
    have SI := Lib.hid (fun w => signed_any P false w h)
    simp only [Bool.false_eq_true, if_false] at SI
    go_enter Tryd.func9, Tryd.ntmps9
    go_wp2_with fail
    go_quiet (first
      | ((with_reducible exact qz (A1 _)))
      | ((with_reducible exact qz (A2 _)))
      | ((with_reducible exact qz (GA _)))
      | ((with_reducible exact qz (M _))))
    clear A1 A2 GA M
    go_wp2_with fail
    refine (SI.out _).mono ?_
    rintro e w1 ⟨rfl, rfl⟩
    unfold Pair
    go_wp2_with fail
    go_ret2
    exact ⟨rfl, (Ext.refl w).drewN _⟩
  · have hbig : ¬ (-9223372036854775808 ≤ ((q * y : Nat) : Int) ∧ ((q * y : Nat) : Int) ≤ 9223372036854775807) := by omega
    rw [okV_no hbig, okB_no hbig]
    obtain ⟨H, L, hw, hH⟩ : ∃ H L : Nat, Words (q * y) = .returned (.tuple #[.int .u64 (H : Int), .int .u64 (L : Int)]) ∧ 1 ≤ H := ⟨_, _, rfl, by omega⟩
    rw [hw] at M
    have hH' : ((H : Int) == 0) = false := by simp; omega
    clear hw h hbig
    go_enter Tryd.func9, Tryd.ntmps9
    go_wp2_with fail
    go_quiet (first
      | ((with_reducible exact qz (A1 _)))
      | ((with_reducible exact qz (A2 _)))
      | ((with_reducible exact qz (GA _)))
      | ((with_reducible exact qz (M _))))
    clear A1 A2 GA M
    go_wp2_with fail
    go_ret2
    exact ⟨rfl, (Ext.refl w).drewN _⟩

set_option maxHeartbeats 1600000 in
theorem divisors_any (a b : Int) (w : World) (ha : I64 a) (hb : I64 b) (hT : Tab w) :
    Calls Tryd.prog 4 #[.int .i64 a, .int .i64 b] w fun e w' => e = .returned (.bool true) ∧ Ext w w' := by
  have ha' := ha
  have hb' := hb
  unfold I64 at ha' hb'
  have A1 := Lib.hid (fun w => amount_any a w ha)
  have A2 := Lib.hid (fun w => amount_any b w hb)
  have GA := Lib.hid (fun (w' : World) (e : Ext w w') => gcd_any a b w' ha hb (hT.ext e))
  have GB := Lib.hid (fun (w' : World) (e : Ext w w') => gcd_any b a w' hb ha (hT.ext e))
  have LC := Lib.hid (fun (w' : World) (e : Ext w w') (h1 : a ≠ 0) (h2 : b ≠ 0) q hq => lcm_any a b w' ha hb (hT.ext e) h1 h2 q hq)
  obtain ⟨x, hx⟩ : ∃ x, a.natAbs = x := ⟨_, rfl⟩
  obtain ⟨y, hy⟩ : ∃ y, b.natAbs = y := ⟨_, rfl⟩
  have hx1 : x < 18446744073709551616 := by omega
  have hy1 : y < 18446744073709551616 := by omega
  rw [hx] at A1
  rw [hy] at A2
  rw [Nat.gcd_comm] at GB
  rw [hx, hy] at GA GB LC
  have RG := Lib.hid (fun w => rgcd_any x y w hx1 hy1)
  have hG0 : a ≠ 0 → 0 < Nat.gcd x y := fun h => Nat.gcd_pos_of_pos_left _ (by omega)
  generalize Nat.gcd x y = G at *
  by_cases hz : a = 0 ∨ b = 0
  · have LZ := Lib.hid (fun w => lcm_zero a b w ha hb hz)
    clear LC hG0 ha hb hT
    by_cases h1 : a = 0
    · clear hz
      subst h1
      clear hx hy
      go_enter Tryd.func4, Tryd.ntmps4
      go_wp2_with fail
      refine (alive_any _).mono ?_
      rintro e w1 ⟨rfl, rfl⟩
      go_wp2_with fail
      refine (A1.out _).mono ?_
      rintro e w1 ⟨rfl, rfl⟩
      go_wp2_with fail
      refine (A2.out _).mono ?_
      rintro e w1 ⟨rfl, rfl⟩
      go_wp2_with fail
      refine (GA.out _ (Ext.refl _)).mono ?_
      rintro e w1 ⟨rfl, rfl⟩
      go_wp2_with fail
      refine (LZ.out _).mono ?_
      rintro e w1 ⟨rfl, hx1⟩
      unfold Pair
      go_wp2_with fail
      refine (RG.out _).mono ?_
      rintro e w2 ⟨rfl, hx2⟩
      go_wp2_with fail
      refine (GB.out _ (hx1.trans hx2)).mono ?_
      rintro e w3 ⟨rfl, rfl⟩
      go_wp2_with fail
      go_ret
      exact ⟨rfl, hx1.trans hx2⟩
    · have h2 : (a == 0) = false := by simpa using h1
      obtain rfl : b = 0 := hz.resolve_left h1
      clear hx hy hz
      go_enter Tryd.func4, Tryd.ntmps4
      go_wp2_with fail
      refine (alive_any _).mono ?_
      rintro e w1 ⟨rfl, rfl⟩
      go_wp2_with fail
      refine (A1.out _).mono ?_
      rintro e w1 ⟨rfl, rfl⟩
      go_wp2_with fail
      refine (A2.out _).mono ?_
      rintro e w1 ⟨rfl, rfl⟩
      go_wp2_with fail
      refine (GA.out _ (Ext.refl _)).mono ?_
      rintro e w1 ⟨rfl, rfl⟩
      go_wp2_with fail
      refine (LZ.out _).mono ?_
      rintro e w1 ⟨rfl, hx1⟩
      unfold Pair
      go_wp2_with fail
      refine (RG.out _).mono ?_
      rintro e w2 ⟨rfl, hx2⟩
      go_wp2_with fail
      refine (GB.out _ (hx1.trans hx2)).mono ?_
      rintro e w3 ⟨rfl, rfl⟩
      go_wp2_with fail
      go_ret
      exact ⟨rfl, hx1.trans hx2⟩
  · obtain ⟨h1, h2⟩ : a ≠ 0 ∧ b ≠ 0 := ⟨fun h => hz (.inl h), fun h => hz (.inr h)⟩
    have hG1 := hG0 h1
    have e1 : (x : Int) / (G : Int) = ((x / G : Nat) : Int) := by simp
    have LD := Lib.hid (fun w' e => LC.out w' e h1 h2 _ rfl)
    have hql : x / G ≤ x := Nat.div_le_self _ _
    have h3 : (a == 0) = false := by simpa using h1
    have h4 : (b == 0) = false := by simpa using h2
    have h5 : ((G : Int) == 0) = false := by simp; omega
    have h6 : ¬ ((G : Int) = 0) := by omega
    generalize x / G = q at *
    have O1 := Lib.hid (fun w => of_any q w (by omega))
    have O2 := Lib.hid (fun w => of_any y w hy1)
    clear hz LC hG0 ha hb hT hx hy h1 h2
    go_enter Tryd.func4, Tryd.ntmps4
    go_wp2_with fail
    refine (alive_any _).mono ?_
    rintro e w1 ⟨rfl, rfl⟩
    go_wp2_with fail
    refine (A1.out _).mono ?_
    rintro e w1 ⟨rfl, rfl⟩
    go_wp2_with fail
    refine (A2.out _).mono ?_
    rintro e w1 ⟨rfl, rfl⟩
    go_wp2_with fail
    refine (GA.out _ (Ext.refl _)).mono ?_
    rintro e w1 ⟨rfl, rfl⟩
    go_wp2_with fail
    refine (LD.out _ (Ext.refl _)).mono ?_
    rintro e w1 ⟨rfl, hx1⟩
    unfold Pair
    go_wp2_with fail
    refine (RG.out _).mono ?_
    rintro e w2 ⟨rfl, hx2⟩
    go_wp2_with fail
    have hx3 := hx1.trans hx2
    clear hx1 hx2
    refine (GB.out _ hx3).mono ?_
    rintro e w3 ⟨rfl, rfl⟩
    go_wp2_with fail
    refine (O1.out _).mono ?_
    rintro e w3 ⟨B1, c1, l1, rfl, hr1, hd1, hv1, hn1, hy1⟩
    have HV1 := Lib.hid hv1
    clear hv1
    go_wp2_with fail
    refine (O2.out _).mono ?_
    rintro e w4 ⟨B2, c2, l2, rfl, hr2, hd2, hv2, hn2, hy2⟩
    have HV2 := Lib.hid hv2
    clear hv2
    go_wp2_with fail
    refine (times_any B1 B2 l1.length c1 l2.length c2 l1 l2 _ (by omega) (by omega) (hr1.ext hy2) hr2 hd1 hd2).mono ?_
    rintro e w5 ⟨B3, c3, l3, rfl, hr3, hd3, hv3, hn3, hy3⟩
    have HV3 := Lib.hid hv3
    clear hv3
    go_wp2_with fail
    refine (whole_pos B3 l3.length c3 l3 _ hr3 (by omega) hd3).mono ?_
    rintro e w6 ⟨rfl, rfl⟩
    rw [HV3.out, HV1.out, HV2.out]
    unfold Pair
    go_wp2_with fail
    go_ret
    exact ⟨rfl, hx3.trans (hy1.trans (hy2.trans hy3))⟩
end Go.Proofs.YtbbkkdbgaoidgaaDoor
