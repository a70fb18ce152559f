/-
  The statement TickSums, walked.
-/
import Derived.Test.YtbbkkdbgaoidgaaTickSum
namespace Go.Proofs.Ytbbkkdbgaoidgaa
open Go.RowKit

set_option maxHeartbeats 1600000 in
theorem tickSums_walk (a b : Int) (A : Option Addr) (n c : Nat) (l : List Int) (w : World) (ha : I64 a) (hb : I64 b) (hn : n * 8 ≤ 140737488351232) (hr : Rd w 1 A n (ints l)) (hl : Fits64 l) :
    Calls Try.prog 5 #[.int .i64 a, .int .i64 b, .slice A n c] w fun e w' => e = .returned (.bool true) ∧ Ext w w' := by
  have hab : Fits64 [a, b] := by
    intro x hx
    simp at hx
    rcases hx with rfl | rfl
    · exact ha
    · exact hb
  have hsm2 : sm [a, b] 2 = a + b := by simp [sm]
  have M1 := Lib.hid (fun w => add_any a b w ha hb)
  have M2 := Lib.hid (fun A w hr => rsum_any A 2 2 [a, b] w (by omega) hr hab)
  rw [hsm2] at M2
  have M3 := Lib.hid (fun w => sub_any a b w ha hb)
  have M5 := Lib.hid (fun w hx => sum_any A n c l w hn (hr.ext hx) hl)
  have M6 := Lib.hid (fun w hx => rsum_any A n c l w hn (hr.ext hx) hl)
  have y1 : I64 (okV (a - b)) := by
    unfold I64 okV
    by_cases h : okB (a - b) = true
    · rw [if_pos h]; simp [okB] at h; exact h
    · rw [if_neg h]; omega
  have M4 := Lib.hid (fun w => add_any (okV (a - b)) b w y1 hb)
  by_cases h : -9223372036854775808 ≤ a - b ∧ a - b ≤ 9223372036854775807
  · rw [okV_yes h, okB_yes h] at M3
    rw [okV_yes h, Int.sub_add_cancel, okV_yes ha, okB_yes ha] at M4
    generalize a - b = d at *
    generalize okV (a + b) = x at *
    generalize okB (a + b) = o at *
    generalize okV (sm l n) = z at *
    generalize okB (sm l n) = p at *
    clear y1 hsm2 hab hr hl ha hb h
    go_enter Try.func5, Try.ntmps5
    go_wp2_with fail
    refine (alive_any _).mono ?_
    rintro e w1 ⟨rfl, rfl⟩
    go_wp2_with fail
    refine (M1.out _).mono ?_
    rintro e w1 ⟨rfl, rfl⟩
    unfold Pair
    go_wp2_with fail
    refine (M2.out _ _ ?_).mono ?_
    · exact Rd.new _ _ _ _
    rintro e w1 ⟨rfl, hx1⟩
    unfold Pair
    have hx1 := ((Ext.refl w).alloc _).trans hx1
    go_wp2_with fail
    refine (M3.out _).mono ?_
    rintro e w2 ⟨rfl, rfl⟩
    unfold Pair
    go_wp2_with fail
    refine (M4.out _).mono ?_
    rintro e w2 ⟨rfl, rfl⟩
    unfold Pair
    go_wp2_with fail
    refine (M5.out _ hx1).mono ?_
    rintro e w2 ⟨rfl, rfl⟩
    unfold Pair
    go_wp2_with fail
    refine (M6.out _ hx1).mono ?_
    rintro e w2 ⟨rfl, hx2⟩
    unfold Pair
    go_wp2_with fail
    go_ret
    exact ⟨rfl, hx1.trans hx2⟩
  · rw [okV_no h, okB_no h] at M3
    rw [okV_no h, Int.zero_add, okV_yes hb, okB_yes hb] at M4
    generalize okV (a + b) = x at *
    generalize okB (a + b) = o at *
    generalize okV (sm l n) = z at *
    generalize okB (sm l n) = p at *
    clear y1 hsm2 hab hr hl
    unfold I64 at ha hb
    obtain ⟨a1, a2⟩ := ha
    obtain ⟨b1, b2⟩ := hb
    by_cases h1 : a < 0
    · have h2 : 0 < b := by omega
      have h3 : a < -9223372036854775808 + b := by omega
      clear h
      go_enter Try.func5, Try.ntmps5
      go_wp2_with fail
      refine (alive_any _).mono ?_
      rintro e w1 ⟨rfl, rfl⟩
      go_wp2_with fail
      refine (M1.out _).mono ?_
      rintro e w1 ⟨rfl, rfl⟩
      unfold Pair
      go_wp2_with fail
      refine (M2.out _ _ ?_).mono ?_
      · exact Rd.new _ _ _ _
      rintro e w1 ⟨rfl, hx1⟩
      unfold Pair
      have hx1 := ((Ext.refl w).alloc _).trans hx1
      go_wp2_with fail
      refine (M3.out _).mono ?_
      rintro e w2 ⟨rfl, rfl⟩
      unfold Pair
      go_wp2_with fail
      refine (M4.out _).mono ?_
      rintro e w2 ⟨rfl, rfl⟩
      unfold Pair
      go_wp2_with fail
      refine (M5.out _ hx1).mono ?_
      rintro e w2 ⟨rfl, rfl⟩
      unfold Pair
      go_wp2_with fail
      refine (M6.out _ hx1).mono ?_
      rintro e w2 ⟨rfl, hx2⟩
      unfold Pair
      go_wp2_with fail
      go_ret
      exact ⟨rfl, hx1.trans hx2⟩
    · have h2 : b < 0 := by omega
      have h3 : 9223372036854775807 + b < a := by omega
      clear h
      go_enter Try.func5, Try.ntmps5
      go_wp2_with fail
      refine (alive_any _).mono ?_
      rintro e w1 ⟨rfl, rfl⟩
      go_wp2_with fail
      refine (M1.out _).mono ?_
      rintro e w1 ⟨rfl, rfl⟩
      unfold Pair
      go_wp2_with fail
      refine (M2.out _ _ ?_).mono ?_
      · exact Rd.new _ _ _ _
      rintro e w1 ⟨rfl, hx1⟩
      unfold Pair
      have hx1 := ((Ext.refl w).alloc _).trans hx1
      go_wp2_with fail
      refine (M3.out _).mono ?_
      rintro e w2 ⟨rfl, rfl⟩
      unfold Pair
      go_wp2_with fail
      refine (M4.out _).mono ?_
      rintro e w2 ⟨rfl, rfl⟩
      unfold Pair
      go_wp2_with fail
      refine (M5.out _ hx1).mono ?_
      rintro e w2 ⟨rfl, rfl⟩
      unfold Pair
      go_wp2_with fail
      refine (M6.out _ hx1).mono ?_
      rintro e w2 ⟨rfl, hx2⟩
      unfold Pair
      go_wp2_with fail
      go_ret
      exact ⟨rfl, hx1.trans hx2⟩
end Go.Proofs.Ytbbkkdbgaoidgaa
