/-
  waits, walked: both nets have the same numbers.
-/
import Derived.Test.YteaainepnelehaaDoorNpPair
import Derived.Test.YteaainepnelehaaDoorSameInts
namespace Go.Proofs.YteaainepnelehaaDoor
set_option maxRecDepth 100000
open Go.RowKit
set_option linter.unusedVariables false
section
variable {w : World} {g q last : Nat} {U : Nat → Prop} {ls : List LetV}
set_option maxHeartbeats 3200000 in
theorem waits_any (h : Pair w g q U ls last) :
    Calls Tryd.prog 7 #[.pointer (some ⟨g, 0, none⟩), .pointer (some ⟨q, 0, none⟩)] w fun e w' => e = .returned (.bool true) ∧ Ext w w' := by
  obtain ⟨F0, M0, hG, hM, _, _⟩ := h.ex
  obtain ⟨B1, A, m, c, h1, _⟩ := hM.ex
  obtain ⟨A2, m2, c2, h2, _⟩ := hG.ex
  have hmm : m2 = m := by have := h1.len; have := h2.len; omega
  subst hmm
  have hfew := h1.few
  have XB := (Ext.refl w).alloc (.cells #[] 3)
  have HX := Lib.hid XB
  have HM := Lib.hid (And.intro h1 h1.len)
  have HN := Lib.hid h2
  have c0 := (h1.ex XB).c0
  clear h hG hM h1 h2 XB
  go_enter Tryd.func7, Tryd.ntmps7
  go_upto_region 2 with (fail)
  have HO := Lib.hid (World.ownsRow_lit (size := 1) w #[] 0 (Nat.le_refl _) (by simp [maxLen]) rfl : Own (w.alloc (.cells #[] 3)) w.heap.size 3 1 (some ⟨w.heap.size, 0, none⟩) 0 0 [])
  generalize w.alloc (.cells #[] 3) = V at *
  generalize hb0 : w.heap.size = b0 at *
  have HB0 := Lib.hid hb0
  clear hb0
  go_wp2_with fail
  clear c0
  go_loopw [5, 14] (fun v5 v14 wr => ∃ (k : Nat) (B : Option Addr) (d : Nat), v5 = .slice B k d ∧ v14 = .int .i64 (k : Int) ∧ k ≤ m2 ∧ Hid (Own wr b0 3 1 B k d (ints (nums (ls.take k))) ∧ Ext w wr)) (fun _ v14 _ => m2 - (intOf v14).toNat)
  case atStart => exact ⟨0, _, 0, rfl, rfl, by omega, HO.out, HX.out⟩
  case round =>
    obtain ⟨k, B, d, rfl, rfl, hk, HI⟩ := hrel
    by_cases hlt : k < m2
    · obtain ⟨x, hx⟩ : ∃ x, ls[k]? = some x := ⟨ls[k]'(by have := HM.out.2; omega), List.getElem?_eq_getElem _⟩
      obtain ⟨k4, h4⟩ : ∃ k4, k * 4 = k4 := ⟨_, rfl⟩
      obtain ⟨S, rfl, _, _, e0, e1, e2, e3⟩ := (HM.out.1.ex HI.out.2).lcell hx h4
      have z0 : (0 : Int) ≤ k := by omega
      have z1 : (k : Int) < m2 := by omega
      have HX2 := Lib.hid (nums_take hx)
      clear hx
      have RN : Rd ((wr.alloc (.cells #[.int .i64 (x.N : Int), .int .i64 x.F, .int .i64 x.T, .string (str x.l)] 38)).alloc (.cells #[.int .i64 (x.N : Int)] 3)) 1 (some ⟨wr.heap.size + 1, 0, none⟩) 1 (ints [(x.N : Int)]) := by
        have := Rd.new (wr.alloc (.cells #[.int .i64 (x.N : Int), .int .i64 x.F, .int .i64 x.T, .string (str x.l)] 38)) #[.int .i64 (x.N : Int)] 3 (0, 0)
        rwa [World.size_alloc] at this
      go_wp2_with (at_builtin; refine held ?_)
      refine Held.go (wp_app (m := 1) (news := ints [(x.N : Int)]) eltIn ((HI.out.1.alloc _).alloc _) RN (ints_one _) (by omega) (.inr ⟨by omega, by omega⟩) (by have := HI.out.2.size; have := HB0.out; simp; omega) _ _ rfl rfl rfl rfl ?_)
      intro B2 d2 w2 o2 g2 hB2 _
      have y2 : Ext w w2 := ((HI.out.1.alloc _).alloc _).fr_ext ((HI.out.2.alloc _).alloc _) (by rw [HB0.out]; exact Nat.le_refl _) (Fr.grows g2)
      have o2 : Own w2 b0 3 1 B2 (k + 1) d2 (ints (nums (ls.take (k + 1)))) := by
        rw [HX2.out, show ints (nums (ls.take k) ++ [(x.N : Int)]) = ints (nums (ls.take k)) ++ ints [(x.N : Int)] by simp [ints]]
        exact o2
      have H2 := Lib.hid (And.intro o2 y2)
      clear o2 y2 g2 e0 e1 e2 e3
      go_wp2_with fail
      go_roundw
      case rel => exact ⟨k + 1, B2, d2, rfl, by go_num, by omega, H2.out.1, H2.out.2⟩
      case measure => simp [intOf]; omega
    · obtain rfl : m2 = k := by omega
      have WT := Lib.hid (waiting_any (HN.out.ex HI.out.2))
      have HL := HM.out.2
      go_wp2_with fail
      refine WT.out.mono ?_
      rintro e w2 ⟨B2, d2, rfl, o2, x2⟩
      have hls := HI.out.1
      rw [List.take_of_length_le (by omega)] at hls
      have SI := Lib.hid (same_ints B2 B m2 d2 d (nums ls) w2 o2.rd (hls.rd.ext x2) (by omega))
      have X2 := Lib.hid (HI.out.2.trans x2)
      clear WT o2 x2 hls HL
      go_wp2_with fail
      refine SI.out.mono ?_
      rintro e w3 ⟨rfl, x3⟩
      have X3 := Lib.hid (X2.out.trans x3)
      clear SI x3
      go_wp2_with fail
      go_returns
      exact ⟨rfl, X3.out⟩
end
end Go.Proofs.YteaainepnelehaaDoor
