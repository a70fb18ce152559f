/-
  Package almonerref03: Num, Bytes, walked.
-/
import Derived.Test.YteflnnlihblpgaaDoorRWrite
namespace Go.Proofs.YteflnnlihblpgaaDoor
open Go.RowKit
set_option linter.unusedVariables false
theorem numlen9 {x : Nat} (hx : x ≤ 9223372036854775807) : (Wr.num x).length ≤ 9 := Wr.num_len 8 x (by rw [show (128 : Nat) ^ (8 + 1) = 9223372036854775808 by decide]; omega)
set_option maxHeartbeats 1600000 in
theorem refnum_any (x : Nat) (w : World) (hx : x ≤ 9223372036854775807) :
    Calls Tryd.prog 60 #[.int .i64 (x : Int)] w fun e w' => ∃ A c, e = .returned (.slice A (Wr.num x).length c) ∧ Own w' w.heap.size 5 1 A (Wr.num x).length c (u8s (Wr.num x)) ∧ Ext w w' := by
  have HL := Lib.hid (numlen9 hx)
  have hsz : w.heap.size ≤ w.heap.size := Nat.le_refl _
  go_enter Tryd.func60, Tryd.ntmps60
  go_wp2_with fail
  have o0 : Own (w.alloc (.cells #[] 5)) w.heap.size 5 1 (some ⟨w.heap.size, 0, none⟩) 0 0 (u8s []) := World.ownsRow_lit (size := 1) _ #[] 0 (Nat.le_refl _) (by simp [maxLen]) rfl
  have x0 := (Ext.refl w).alloc (.cells #[] 5)
  go_loopw [0, 3, 4] (fun v0 v3 _ wr => ∃ (k : Nat) (pre : List Nat) (A : Option Addr) (n c : Nat), v0 = .int .i64 (k : Int) ∧ v3 = .slice A n c ∧ k ≤ 9223372036854775807 ∧ Hid (Wr.num x = pre ++ Wr.num k) ∧ n ≤ 9 ∧
      Hid (Own wr w.heap.size 5 1 A n c (u8s pre) ∧ Ext w wr)) (fun v0 _ _ _ => (intOf v0).toNat)
  case atStart => exact ⟨x, [], _, 0, 0, rfl, rfl, hx, rfl, by omega, o0, x0⟩
  case round =>
    obtain ⟨k, pre, A, n, c, rfl, rfl, hk, hp, hn, HO⟩ := hrel
    have hpl : pre.length + (Wr.num k).length ≤ 9 := by have := HL.out; rw [hp.out, List.length_append] at this; exact this
    have hkp := Wr.num_pos k
    have hln : pre.length = n := by have h := HO.out.1.rd.len; rwa [u8s_len] at h
    have hcap : n ≤ 8 := by omega
    have hws := HO.out.2.size
    clear hpl hkp o0 x0
    by_cases h1 : k < 128
    · have e1 := Wr.num_small h1
      have E1 := Lib.hid e1
      have k1 : (k : Int) / 128 = 0 := by omega
      have k2 : (k : Int) % 128 = (k : Int) := by omega
      have k3 : IntKind.u8.wrap (k : Int) = (k : Int) := by rw [IntKind.wrap_u8]; omega
      clear e1
      go_wp2_with (at_builtin; refine held ?_)
      refine Held.go (wp_app (m := 1) (news := u8s [k]) eltU8 (HO.out.1.alloc _) (Rd.new _ _ _ _) (u8s_one _) (by omega) (.inr ⟨by omega, by omega⟩) (by rw [World.size_alloc]; omega) _ _ rfl rfl rfl rfl ?_)
      intro A2 c2 w2 o2 g2 _ _
      rw [← u8s_append] at o2
      have x2 := (HO.out.1.alloc (.cells #[.int .u8 (k : Int)] 5)).fr_ext (HO.out.2.alloc _) (Nat.le_refl _) (Fr.grows g2)
      have e2 : Wr.num x = pre ++ [k] := by rw [hp.out, E1.out]
      have hl2 : (Wr.num x).length = n + 1 := by rw [e2, List.length_append, hln]; rfl
      have HF := Lib.hid (And.intro o2 (And.intro x2 e2))
      clear o2 g2 x2 e2
      go_wp2_with fail
      go_returns
      rw [hl2]
      refine ⟨A2, c2, rfl, ?_, HF.out.2.1⟩
      rw [HF.out.2.2]
      exact HF.out.1
    · have e1 := Wr.num_big h1
      have E1 := Lib.hid e1
      have k1 : (k : Int) / 128 = ((k / 128 : Nat) : Int) := by omega
      have k0 : ((k / 128 : Nat) : Int) ≠ 0 := by omega
      have k2 : (k : Int) % 128 = ((k % 128 : Nat) : Int) := by omega
      have k3 : IntKind.u8.wrap ((k % 128 : Nat) : Int) = ((k % 128 : Nat) : Int) := by rw [IntKind.wrap_u8]; omega
      have k4 : IntKind.u8.wrap (((k % 128 : Nat) : Int) + 128) = ((k % 128 + 128 : Nat) : Int) := by rw [IntKind.wrap_u8]; omega
      have k5 : k / 128 ≤ 9223372036854775807 := by omega
      have k6 : k / 128 < k := by omega
      clear e1
      generalize k / 128 = q at *
      generalize k % 128 = r at *
      go_wp2_with (at_builtin; refine held ?_)
      refine Held.go (wp_app (m := 1) (news := u8s [r + 128]) eltU8 (HO.out.1.alloc _) (Rd.new _ _ _ _) (u8s_one _) (by omega) (.inr ⟨by omega, by omega⟩) (by rw [World.size_alloc]; omega) _ _ rfl rfl rfl rfl ?_)
      intro A2 c2 w2 o2 g2 _ _
      rw [← u8s_append] at o2
      have x2 := (HO.out.1.alloc (.cells #[.int .u8 ((r + 128 : Nat) : Int)] 5)).fr_ext (HO.out.2.alloc _) (Nat.le_refl _) (Fr.grows g2)
      have HF := Lib.hid (And.intro o2 x2)
      clear o2 g2 x2
      go_wp2_with fail
      go_roundw
      case rel =>
        refine ⟨q, pre ++ [r + 128], A2, n + 1, c2, rfl, rfl, by omega, ?_, by omega, HF.out.1, HF.out.2⟩
        show Wr.num x = _
        rw [hp.out, E1.out, List.append_assoc]
        rfl
      case measure => simp [intOf]; omega
set_option maxHeartbeats 800000 in
theorem refbytes_any (B : Option Addr) (m d : Nat) (l : List Nat) (w : World) (hr : Rd w 1 B m (u8s l)) (hm : m ≤ 140737488351232) :
    Calls Tryd.prog 65 #[.slice B m d] w fun e w' => ∃ A c, e = .returned (.slice A ((Wr.num m).length + m) c) ∧ Own w' w.heap.size 5 1 A ((Wr.num m).length + m) c (u8s (Wr.num m ++ l)) ∧ Ext w w' := by
  have R := Lib.hid (refnum_any m w (by omega))
  have HL := numlen9 (x := m) (by omega)
  have HR := Lib.hid hr
  clear hr
  go_enter Tryd.func65, Tryd.ntmps65
  go_wp2_with fail
  refine R.out.mono ?_
  rintro e w1 ⟨A, c, rfl, o1, x1⟩
  have hz := x1.size
  go_wp2_with (at_builtin; refine held ?_)
  refine Held.go (wp_app (m := m) (news := u8s l) eltU8 o1 (HR.out.ext x1) (u8s_one _) (by omega) (.inr ⟨by omega, by omega⟩) (by omega) _ _ rfl rfl rfl rfl ?_)
  intro A2 c2 w2 o2 g2 _ _
  rw [← u8s_append] at o2
  have x2 := o1.fr_ext x1 (Nat.le_refl _) (Fr.grows g2)
  have HF := Lib.hid (And.intro o2 x2)
  clear o2 g2 x2 o1 x1
  go_wp2_with fail
  go_returns
  exact ⟨A2, c2, rfl, HF.out.1, HF.out.2⟩
end Go.Proofs.YteflnnlihblpgaaDoor
