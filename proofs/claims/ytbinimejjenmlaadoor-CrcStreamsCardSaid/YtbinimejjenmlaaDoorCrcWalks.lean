/-
  What the functions of package crc that only reckon come to: step, Update, Sum, and the document's Update and Sum.
-/
import Derived.Test.YtbinimejjenmlaaDoorLib
import Derived.Test.YtbinimejjenmlaaDoorCrcPlain
import Derived.Laws.BitsAllLaws
namespace Go.Proofs.YtbinimejjenmlaaDoor
open Go.RowKit

theorem crc_bit_i (n : Nat) (h : n < 4294967296) :
    bits .xor .u32 ((n : Int) / 2) (bits .and .u32 3988292384 (-bits .and .u32 (n : Int) 1 % 4294967296)) = ((Crc.bit n : Nat) : Int) := by
  have h1 : bits .and .u32 (n : Int) 1 = ((n % 2 : Nat) : Int) := by
    have := u32_and_nat n 1 h (by decide)
    rw [nat_mask1] at this
    exact this
  rw [h1]
  unfold Crc.bit
  rcases (by omega : n % 2 = 0 ∨ n % 2 = 1) with h2 | h2
  · rw [h2, if_neg (by decide)]
    have h3 := u32_and_nat 3988292384 0 (by decide) (by decide)
    have h4 := u32_xor_nat (n / 2) 0 (by omega) (by decide)
    simp only [Nat.and_zero] at h3
    rw [show (-((0 : Nat) : Int) % 4294967296) = ((0 : Nat) : Int) from by decide, show (3988292384 : Int) = ((3988292384 : Nat) : Int) from rfl, h3]
    exact h4
  · rw [h2, if_pos (by decide)]
    have h3 := u32_and_nat 3988292384 4294967295 (by decide) (by decide)
    have h4 := u32_xor_nat (n / 2) 3988292384 (by omega) (by decide)
    rw [show (-((1 : Nat) : Int) % 4294967296) = ((4294967295 : Nat) : Int) from by decide, show (3988292384 : Int) = ((3988292384 : Nat) : Int) from rfl, h3]
    exact h4

set_option maxHeartbeats 400000 in
theorem step_any (n : Nat) (w : World) (h : n < 4294967296) :
    Calls Tryd.prog 27 #[.int .u32 (n : Int)] w fun e w' => e = .returned (.int .u32 (Crc.bits 8 n : Nat)) ∧ w = w' := by
  go_enter Tryd.func27, Tryd.ntmps27
  go_wp2
  go_loop [0, 3, 4] (fun x _ i => ∃ k : Nat, k ≤ 8 ∧ i = .int .i64 k ∧ x = .int .u32 (Crc.bits k n : Nat)) (fun _ _ i => 8 - (intOf i).toNat)
  case atStart => exact ⟨0, by omega, rfl, rfl⟩
  case round =>
    obtain ⟨k, hk, rfl, rfl⟩ := hrel
    have hl := Crc.bits_lt k n h
    have hb := Lib.hid (crc_bit_i _ hl)
    by_cases hlt : k < 8
    · go_wp2
      go_round
      case rel => exact ⟨k + 1, by omega, by go_num, by rw [hb.out]; rfl⟩
      case measure => simp [intOf]; omega
    · have : k = 8 := by omega
      subst this
      go_wp2
      go_ret
      exact ⟨rfl, rfl⟩

set_option maxHeartbeats 400000 in
theorem update_any (n : Nat) (A : Option Addr) (m c : Nat) (l : List Nat) (w : World) (h : n < 4294967296) (hm : m ≤ 9223372036854775807) (hr : Rd w 1 A m (u8s l)) (hl : ∀ x ∈ l, x < 256) :
    Calls Tryd.prog 25 #[.int .u32 (n : Int), .slice A m c] w fun e w' => e = .returned (.int .u32 (Crc.upd n l : Nat)) ∧ w = w' := by
  go_enter Tryd.func25, Tryd.ntmps25
  go_wp2
  go_loop [0, 6, 9] (fun x _ i => ∃ k : Nat, k ≤ m ∧ i = .int .i64 k ∧ x = .int .u32 (Crc.upd n (l.take k) : Nat)) (fun _ _ i => m - (intOf i).toNat)
  case atStart => exact ⟨0, by omega, rfl, rfl⟩
  case round =>
    obtain ⟨k, hk, rfl, rfl⟩ := hrel
    by_cases hlt : k < m
    · obtain ⟨ad, x, rfl, hx, hc⟩ := hr.byte hlt
      have hu := Crc.upd_lt n (l.take k) h (fun x hx => hl x (List.mem_of_mem_take hx))
      have hx8 := hl x (mem_of_at hx.out)
      generalize hU : Crc.upd n (l.take k) = U at hu ⊢
      have HU := Lib.hid hU; clear hU
      obtain ⟨y, hy⟩ : ∃ y, U % 256 ^^^ x = y := ⟨_, rfl⟩
      have hy8 : y < 256 := by rw [← hy]; exact Nat.xor_lt_two_pow (n := 8) (by omega) hx8
      have e2 : Go.bits .xor .u8 ((U : Int) % 256) (x : Int) = (y : Int) := by rw [← hy]; exact u8_xor_nat (U % 256) x (by omega) hx8
      have hz : Crc.bits 8 y < 4294967296 := Crc.bits_lt 8 y (by omega)
      have e3 : Go.bits .xor .u32 ((U : Int) / 256) (Crc.bits 8 y : Nat) = (Crc.byte U x : Nat) := by
        unfold Crc.byte; rw [hy]; exact u32_xor_nat (U / 256) _ (by omega) hz
      clear hy
      clear hl hr
      go_wp2_with (go_at_call 27; refine (step_any y _ (by omega)).mono ?_; rintro e w' ⟨rfl, rfl⟩)
      go_round
      case rel => exact ⟨k + 1, by omega, by go_num, by rw [take_succ' hx.out, Crc.upd_snoc, HU.out]⟩
      case measure => simp [intOf]; omega
    · have : k = m := by omega
      subst this
      go_wp2
      go_ret
      exact ⟨by rw [List.take_of_length_le (by have := hr.len; rw [u8s_len] at this; omega)]; rfl, rfl⟩

theorem ref_bit_odd (n : Nat) (h : n < 4294967296) (h1 : n % 2 = 1) : Go.bits .xor .u32 ((n : Int) / 2) 3988292384 = (Crc.bit n : Nat) := by
  unfold Crc.bit; rw [if_pos h1]; exact u32_xor_nat (n / 2) 3988292384 (by omega) (by decide)
theorem ref_bit_even (n : Nat) (h1 : ¬ n % 2 = 1) : ((n : Int) / 2) = (Crc.bit n : Nat) := by
  unfold Crc.bit; rw [if_neg h1, Nat.xor_zero]; omega

set_option maxHeartbeats 400000 in
theorem rupdate_any (n : Nat) (A : Option Addr) (m c : Nat) (l : List Nat) (w : World) (h : n < 4294967296) (hm : m ≤ 9223372036854775807) (hr : Rd w 1 A m (u8s l)) (hl : ∀ x ∈ l, x < 256) :
    Calls Tryd.prog 26 #[.int .u32 (n : Int), .slice A m c] w fun e w' => e = .returned (.int .u32 (Crc.upd n l : Nat)) ∧ w = w' := by
  go_enter Tryd.func26, Tryd.ntmps26
  go_wp2
  go_loop [0, 6, 7, 10] (fun x _ _ i => ∃ k : Nat, k ≤ m ∧ i = .int .i64 k ∧ x = .int .u32 (Crc.upd n (l.take k) : Nat)) (fun _ _ _ i => m - (intOf i).toNat)
  case atStart => exact ⟨0, by omega, rfl, rfl⟩
  case round =>
    obtain ⟨k, hk, rfl, rfl⟩ := hrel
    by_cases hlt : k < m
    · obtain ⟨ad, x, rfl, hx, hc⟩ := hr.byte hlt
      have hu := Crc.upd_lt n (l.take k) h (fun x hx => hl x (List.mem_of_mem_take hx))
      have hx8 := hl x (mem_of_at hx.out)
      generalize hU : Crc.upd n (l.take k) = U at hu ⊢
      have HU := Lib.hid hU; clear hU
      have hy : U ^^^ x < 4294967296 := Nat.xor_lt_two_pow (n := 32) (by omega) (by omega)
      have e2 : Go.bits .xor .u32 (U : Int) (x : Int) = ((U ^^^ x : Nat) : Int) := u32_xor_nat U x hu (by omega)
      clear hl hr
      go_wp2
      go_loop [0, 7] (fun x' i => ∃ j : Nat, j ≤ 8 ∧ i = .int .i64 j ∧ x' = .int .u32 (Crc.bits j (U ^^^ x) : Nat)) (fun _ i => 8 - (intOf i).toNat)
      case atStart => exact ⟨0, by omega, rfl, rfl⟩
      case round =>
        obtain ⟨j, hj, rfl, rfl⟩ := hrel
        have hv := Crc.bits_lt j (U ^^^ x) hy
        have hs : Crc.bits (j + 1) (U ^^^ x) = Crc.bit (Crc.bits j (U ^^^ x)) := rfl
        generalize hV : Crc.bits j (U ^^^ x) = V at hv hs ⊢
        have HV := Lib.hid hV; clear hV
        have HS := Lib.hid hs; clear hs
        by_cases hlt' : j < 8
        · by_cases ho : V % 2 = 1
          · have e3 := ref_bit_odd V hv ho
            have ho' : (V : Int) % 2 = 1 := by omega
            go_wp2
            go_round
            case rel => exact ⟨j + 1, by omega, by go_num, by rw [HS.out]⟩
            case measure => simp [intOf]; omega
          · have e3 := ref_bit_even V ho
            have ho' : (V : Int) % 2 = 0 := by omega
            go_wp2
            go_round
            case rel => exact ⟨j + 1, by omega, by go_num, by rw [HS.out]⟩
            case measure => simp [intOf]; omega
        · obtain rfl : j = 8 := by omega
          go_wp2
          go_round
          case rel => exact ⟨k + 1, by omega, by go_num, by rw [take_succ' hx.out, Crc.upd_snoc, Crc.byte_eq, HU.out]; unfold Crc.rbyte; rw [HV.out]⟩
          case measure => simp [intOf]; omega
    · have : k = m := by omega
      subst this
      go_wp2
      go_ret
      exact ⟨by rw [List.take_of_length_le (by have := hr.len; rw [u8s_len] at this; omega)]; rfl, rfl⟩
end Go.Proofs.YtbinimejjenmlaaDoor
