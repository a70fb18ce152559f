/-
  Package disk: Crash, walked.
-/
import Derived.Test.YtchkeclhnbekkaaDoorDkFlush
namespace Go.Proofs.YtchkeclhnbekkaaDoor
set_option maxRecDepth 100000
open Go.RowKit Go.Maps
set_option linter.unusedVariables false
theorem and1_u64 (x : Nat) (hx : x < 18446744073709551616) : Go.bits .and .u64 (x : Int) 1 = ((x % 2 : Nat) : Int) := by
  have h1 : (BitVec.ofInt 64 (x : Int)).toNat = x := by
    rw [BitVec.toNat_ofInt]
    show ((x : Int) % 18446744073709551616).toNat = x
    omega
  have h2 : (BitVec.ofInt 64 (1 : Int)).toNat = 1 := by decide
  have h3 : Go.bits .and .u64 (x : Int) 1 = IntKind.u64.wrap ((x &&& 1 : Nat) : Int) := by
    have e : x &&& 1 = (BitVec.ofInt 64 (x : Int)).toNat &&& (BitVec.ofInt 64 (1 : Int)).toNat := by rw [h1, h2]
    rw [e, ← BitVec.toNat_and]
    rfl
  rw [h3, Nat.and_one_is_mod, IntKind.wrap_u64]
  omega
theorem bit_u64 (kp k : Nat) (hkp : kp < 18446744073709551616) : Go.bits .and .u64 ((kp : Int) / 2 ^ (k % 64)) 1 = if bitK kp k = true then 1 else 0 := by
  have e : (kp : Int) / 2 ^ (k % 64) = ((kp >>> (k % 64) : Nat) : Int) := by
    rw [Nat.shiftRight_eq_div_pow, Int.natCast_ediv]
    rfl
  have hl : kp >>> (k % 64) < 18446744073709551616 := by
    rw [Nat.shiftRight_eq_div_pow]
    exact Nat.lt_of_le_of_lt (Nat.div_le_self _ _) hkp
  rw [e, and1_u64 _ hl]
  unfold bitK
  rcases Nat.mod_two_eq_zero_or_one (kp >>> (k % 64)) with h | h <;> simp [h]
section
variable {w w' : World} {g b m c Z : Nat} {A : Option Addr} {S nw : Int} {f : Int → List Nat} {l : List WrV} {lost : Bool}
set_option maxHeartbeats 6400000 in
theorem crash_any (h : DS w g b A m c S f l nw lost Z) (hZ : Z + l.length < 4611686018427387904) (kp : Nat) (hkp : kp < 18446744073709551616) (torn : Int) :
    Calls Tryd.prog 12 #[.pointer (some ⟨g, 0, none⟩), .int .u64 (kp : Int), .int .i64 torn] w fun e w' => e = .returned (.tuple #[]) ∧ DStep w w' g b A S (crashW kp torn 0 f l) [] nw lost (Z + l.length) := by
  obtain ⟨c0, c1, c2, c3, c4⟩ := h.cells
  have hlen := h.len
  have hmm : m < 4611686018427387904 := by omega
  have HD := Lib.hid h
  have HL := Lib.hid (And.intro hlen hZ)
  have HKP := Lib.hid hkp
  clear h hlen hZ hkp
  go_enter Tryd.func12, Tryd.ntmps12
  go_wp2_with fail
  clear c0 c1 c2 c3 c4
  go_loopw [13] (fun v13 wr => ∃ k : Nat, v13 = .int .i64 (k : Int) ∧ k ≤ m ∧ Hid (∃ Z', Z' ≤ Z + k ∧ KStep w wr g b m c A S (crashW kp torn 0 f (l.take k)) l nw lost Z')) (fun v13 _ => m - (intOf v13).toNat)
  case atStart => exact ⟨0, rfl, by omega, Z, by omega, HD.out, Fr.refl w _⟩
  case round =>
    obtain ⟨k, rfl, hk, HI'⟩ := hrel
    obtain ⟨Z', hZ', HI0⟩ := HI'.out
    have HI := Lib.hid HI0
    clear HI' HI0
    by_cases hlt : k < m
    · obtain ⟨x, hx⟩ : ∃ x, l[k]? = some x := ⟨l[k]'(by have := HL.out.1; omega), List.getElem?_eq_getElem _⟩
      obtain ⟨k65, h65⟩ : ∃ k65, k * 65 = k65 := ⟨_, rfl⟩
      obtain ⟨T, rfl, hTw, hTg, hTb, hr⟩ := HI.out.ds.cell hx h65
      have hsx := HD.out.lsec x (List.mem_of_getElem? hx)
      have hrx := HD.out.lrng x (List.mem_of_getElem? hx)
      have BX := Lib.hid (boxW wr hsx)
      have hzw := zeroWr
      have HR := Lib.hid hr
      have z0 : (0 : Int) ≤ k := by omega
      have z1 : (k : Int) < m := by omega
      have HX2 := Lib.hid (And.intro hx (And.intro hsx hrx))
      have K1 := Lib.hid (HI.out.ext BX.out.ext)
      clear hx hsx hrx hr hTb hTg hTw
      go_upto_region 3 with (first | (refine wpList_load_mid rfl 63 _ rfl T k65 rfl (wrow x) _ HR.out BX.out.un rfl BX.out.i1 ?_) | (refine wpList_store_mid rfl 63 _ _ rfl wr.heap.size 0 (wrow x).toArray rfl rfl BX.out.th BX.out.i2 BX.out.al ?_))
      have HW := Lib.hid (range_block BX.out.blk (o := 0) (ds := wrow x) (fun j v hv => by rw [Nat.zero_add]; exact hv))
      have HUN := Lib.hid (And.intro BX.out.un BX.out.i1)
      clear hzw BX HR
      try rw [show (wrow x).toArray.toList = wrow x from rfl]
      generalize (wr.alloc (.cells (wrow ⟨0, z64⟩).toArray 63)).setCells wr.heap.size 0 (wrow x) = V2 at *
      generalize wr.heap.size = wb at *
      have hbit := bit_u64 kp k HKP.out
      have SN := crashW_snoc kp torn (l.take k) x 0 f
      rw [Nat.zero_add, List.length_take, Nat.min_eq_left (by have := HL.out; omega)] at SN
      by_cases hb : bitK kp k = true
      · rw [if_pos hb] at hbit
        rw [if_pos hb] at SN
        by_cases ht : (k : Int) = torn
        · have hte : ((k : Int) == torn) = true := by simpa using ht
          rw [if_pos ht] at SN
          have HSN := Lib.hid SN
          clear SN hb ht
          have KP := Lib.hid (keep_32 K1.out.ds HX2.out.2.1 HX2.out.2.2 (by have := HL.out; omega))
          go_wp2_with (refine wpList_load_mid rfl 63 _ rfl wb 0 rfl (wrow x) _ HW.out HUN.out.1 rfl HUN.out.2 ?_)
          refine KP.out.mono ?_
          rintro e w3 ⟨rfl, k3⟩
          have HN : Hid (∃ Z', Z' ≤ Z + (k + 1) ∧ KStep w w3 g b m c (some ⟨T, 0, none⟩) S (crashW kp torn 0 f (l.take (k + 1))) l nw lost Z') := Lib.hid ⟨Z' + 1, by omega, by
            rw [take_succ' HX2.out.1, HSN.out]
            exact K1.out.trans k3⟩
          clear KP k3 HW hbit hte
          go_wp2_with fail
          go_roundw
          case rel => exact ⟨k + 1, by go_num, by omega, HN.out⟩
          case measure => simp [intOf]; omega
        · have hte : ((k : Int) == torn) = false := by simpa using ht
          rw [if_neg ht] at SN
          have HSN := Lib.hid SN
          clear SN hb ht
          have KP := Lib.hid (keep_64 K1.out.ds HX2.out.2.1 HX2.out.2.2 (by have := HL.out; omega))
          go_wp2_with (refine wpList_load_mid rfl 63 _ rfl wb 0 rfl (wrow x) _ HW.out HUN.out.1 rfl HUN.out.2 ?_)
          refine KP.out.mono ?_
          rintro e w3 ⟨rfl, k3⟩
          have HN : Hid (∃ Z', Z' ≤ Z + (k + 1) ∧ KStep w w3 g b m c (some ⟨T, 0, none⟩) S (crashW kp torn 0 f (l.take (k + 1))) l nw lost Z') := Lib.hid ⟨Z' + 1, by omega, by
            rw [take_succ' HX2.out.1, HSN.out]
            exact K1.out.trans k3⟩
          clear KP k3 HW hbit hte
          go_wp2_with fail
          go_roundw
          case rel => exact ⟨k + 1, by go_num, by omega, HN.out⟩
          case measure => simp [intOf]; omega
      · rw [if_neg hb] at hbit
        rw [if_neg hb] at SN
        have HN : Hid (∃ Z', Z' ≤ Z + (k + 1) ∧ KStep w V2 g b m c (some ⟨T, 0, none⟩) S (crashW kp torn 0 f (l.take (k + 1))) l nw lost Z') := Lib.hid ⟨Z', by omega, by
          rw [take_succ' HX2.out.1, SN]
          exact K1.out⟩
        clear SN hb HW
        go_wp2_with fail
        go_roundw
        case rel => exact ⟨k + 1, by go_num, by omega, HN.out⟩
        case measure => simp [intOf]; omega
    · obtain rfl : m = k := by omega
      obtain ⟨_, _, c2, _, _⟩ := HI.out.ds.cells
      have z2 : wr.frozen? ⟨g, 2, none⟩ = false := block_fz HI.out.ds.blk 2
      have HC := Lib.hid (show DStep w (wr.setCell ⟨g, 2, none⟩ (.slice none 0 0)) g b A S (crashW kp torn 0 f l) [] nw lost (Z + l.length) from by
        have h1 := HI.out.clear
        rw [List.take_of_length_le (by have := HL.out; omega)] at h1
        obtain ⟨⟨A', m', c', hd, ha⟩, hf⟩ := h1
        obtain ⟨h2, n, hm, hn, hx⟩ := hd.map
        exact ⟨⟨A', m', c', ⟨hd.blk, ⟨h2, n, hm, by have := HL.out.1; omega, hx⟩, hd.own, hd.sec, hd.lsec, hd.lrng, hd.srng, hd.bg, hd.ag⟩, ha⟩, hf⟩)
      go_wp2_with fail
      go_returns
      exact ⟨rfl, HC.out⟩
end
end Go.Proofs.YtchkeclhnbekkaaDoor
