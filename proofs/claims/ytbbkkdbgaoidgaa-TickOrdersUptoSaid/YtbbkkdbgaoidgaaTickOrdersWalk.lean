/-
  The statement TickOrders, walked.
-/
import Derived.Test.YtbbkkdbgaoidgaaTickSum
namespace Go.Proofs.Ytbbkkdbgaoidgaa
open Go.RowKit

theorem eltInt : Elt Try.prog 27 3 1 8 (.int .i64 0) := ⟨Try.underlying27, by kernel_rfl, rfl, by omega⟩
theorem ints_append (l m : List Int) : ints (l ++ m) = ints l ++ ints m := by simp [ints]
theorem sm_all (l : List Int) (n : Nat) (h : l.length = n) : sm l n = l.sum := by unfold sm; rw [List.take_of_length_le (by omega)]
theorem sum_rev (l : List Int) : l.reverse.sum = l.sum := by
  induction l with
  | nil => rfl
  | cons a l ih => rw [List.reverse_cons, List.sum_append, ih]; simp; omega

set_option maxHeartbeats 1600000 in
theorem tickOrders_walk (A B : Option Addr) (na ca nb cb : Nat) (a b : List Int) (w : World) (hna : na + nb ≤ 1048576) (ha : Rd w 1 A na (ints a)) (hfa : Fits64 a) (hb : Rd w 1 B nb (ints b)) (hfb : Fits64 b) :
    Calls Try.prog 4 #[.slice A na ca, .slice B nb cb] w fun e w' => e = .returned (.bool true) ∧ Ext w w' := by
  have hal := ha.len
  have hbl := hb.len
  rw [ints_len] at hal hbl
  have HAL := Lib.hid hal
  have hfr : Fits64 a.reverse := fun x hx => hfa x (List.mem_reverse.1 hx)
  have hfc : Fits64 (a.reverse ++ b) := fun x hx => by
    rcases List.mem_append.1 hx with h | h
    · exact hfr x h
    · exact hfb x h
  have S1 := Lib.hid (fun w' hx => sum_any A na ca a w' (by omega) (ha.ext hx) hfa)
  have S2 := Lib.hid (fun T cap w' ht => sum_any T na cap a.reverse w' (by omega) ht hfr)
  have S3 := Lib.hid (fun w' hx => sum_any B nb cb b w' (by omega) (hb.ext hx) hfb)
  have S4 := Lib.hid (fun T cap w' ht => sum_any T (na + nb) cap (a.reverse ++ b) w' (by omega) ht hfc)
  rw [sm_all a na hal] at S1
  rw [sm_all a.reverse na (by simp [hal]), sum_rev] at S2
  rw [sm_all b nb hbl] at S3
  rw [sm_all (a.reverse ++ b) (na + nb) (by simp [hal, hbl]), List.sum_append, sum_rev] at S4
  clear hal hbl hfa hfr hfb hfc
  generalize hsa : a.sum = sa at *
  generalize hsb : b.sum = sb at *
  clear hsa hsb
  go_enter Try.func4, Try.ntmps4
  go_wp2_with fail
  refine (alive_any _).mono ?_
  rintro e w1 ⟨rfl, rfl⟩
  go_wp2_with fail
  go_loopw [5, 6] (fun vt vi wr => ∃ (k : Nat) (T : Option Addr) (cap : Nat), k ≤ na ∧ vi = .int .i64 ((na : Int) - 1 - k) ∧ vt = .slice T k cap ∧ Own wr w.heap.size 3 1 T k cap (ints (a.reverse.take k)) ∧ Ext w wr) (fun _ i _ => (intOf i + 1).toNat)
  case atStart =>
    refine ⟨0, some ⟨w.heap.size, 0, none⟩, 0, by omega, by simp, rfl, ?_, (Ext.refl w).alloc _⟩
    exact World.ownsRow_lit (size := 1) w #[] 0 (Nat.le_refl _) (by simp [maxLen]) rfl
  case round =>
    obtain ⟨k, T, cap, hk, rfl, rfl, hown, hx⟩ := hrel
    by_cases h1 : k < na
    · obtain ⟨j, hj⟩ : ∃ j : Nat, (na : Int) - 1 - k = j := ⟨na - 1 - k, by omega⟩
      obtain ⟨ad, x, rfl, hxj, hc⟩ := (ha.ext hx).int (k := j) (by omega)
      have hrev : Hid (a.reverse[k]? = some x) := by
        show a.reverse[k]? = some x
        rw [List.getElem?_reverse (by have := HAL.out; omega), show a.length - 1 - k = j by have := HAL.out; omega]
        exact hxj.out
      have HJ := Lib.hid hj
      have hjl : j < na := by omega
      rw [hj]
      clear hj ha hb
      go_wp2_with (at_builtin; refine held ?_)
      refine Held.go (wp_app (m := 1) (news := ints [x]) eltInt (hown.alloc _) (Rd.new _ _ _ _) (ints_one _) (by omega) (.inr ⟨by omega, by omega⟩) (by simp; have := hx.size; omega) _ _ rfl rfl rfl rfl ?_)
      intro A2 c2 w2 hown2 hg2 _ _
      rw [← ints_append] at hown2
      have hx2 := hg2.ext (hx.alloc _) hown.base_le
      clear hown hg2
      go_wp2_with fail
      go_roundw
      case rel => exact ⟨k + 1, A2, c2, by omega, by have := HJ.out; congr 1; omega, rfl, by rw [take_succ' hrev.out]; exact hown2, hx2⟩
      case measure => have := HJ.out; simp [intOf]
    · obtain rfl : k = na := by omega
      rw [show (k : Int) - 1 - k = -1 by omega]
      rw [List.take_of_length_le (by rw [List.length_reverse, HAL.out]; omega)] at hown
      clear ha
      go_wp2_with fail
      refine (S1.out _ hx).mono ?_
      rintro e w2 ⟨rfl, rfl⟩
      unfold Pair
      go_wp2_with fail
      refine (S2.out T cap _ hown.rd).mono ?_
      rintro e w2 ⟨rfl, rfl⟩
      unfold Pair
      go_wp2_with fail
      refine (S3.out _ hx).mono ?_
      rintro e w2 ⟨rfl, rfl⟩
      unfold Pair
      by_cases h2 : okB sa = true
      · by_cases h3 : okB sb = true
        · have f1 : okV sa = sa := by unfold okV; rw [if_pos h2]
          have f2 : okV sb = sb := by unfold okV; rw [if_pos h3]
          have g1 : I64 sa := by unfold I64; simpa [okB] using h2
          have g2 : I64 sb := by unfold I64; simpa [okB] using h3
          have AD := Lib.hid (fun w => add_any sa sb w g1 g2)
          rw [h2, h3, f1, f2]
          clear f1 f2 g1 g2 h2 h3
          go_wp2_with (at_builtin; refine held ?_)
          refine Held.go (wp_app (m := nb) (news := ints b) eltInt hown (hb.ext hx) (ints_one _) (by omega) (.inr ⟨by omega, by omega⟩) hx.size _ _ rfl rfl rfl rfl ?_)
          intro A2 c2 w2 hown2 hg2 _ _
          rw [← ints_append] at hown2
          have hx2 := hg2.ext hx hown.base_le
          clear hown hg2
          go_wp2_with fail
          refine (S4.out A2 c2 _ hown2.rd).mono ?_
          rintro e w3 ⟨rfl, rfl⟩
          unfold Pair
          go_wp2_with fail
          refine (AD.out _).mono ?_
          rintro e w3 ⟨rfl, rfl⟩
          unfold Pair
          go_wp2_with fail
          go_ret
          exact ⟨rfl, hx2⟩
        · rw [h2, Bool.eq_false_iff.2 h3]
          clear h2 h3
          go_wp2_with fail
          go_ret
          exact ⟨rfl, hx⟩
      · rw [Bool.eq_false_iff.2 h2]
        clear h2
        go_wp2_with fail
        go_ret
        exact ⟨rfl, hx⟩
end Go.Proofs.Ytbbkkdbgaoidgaa
