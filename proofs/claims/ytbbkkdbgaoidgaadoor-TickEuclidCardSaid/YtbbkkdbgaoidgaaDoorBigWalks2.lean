/-
  The document's numbers of digits, walked further: at, Fits, Amount, Whole, Times.
-/
import Derived.Test.YtbbkkdbgaoidgaaDoorBigWalks
namespace Go.Proofs.YtbbkkdbgaoidgaaDoor
open Go.RowKit
set_option maxHeartbeats 400000 in
theorem at_any (A : Option Addr) (la ca : Nat) (a : List Nat) (i : Int) (w : World) (ha : Rd w 1 A la (ns .u32 a)) (_hla : la ≤ 1099511627776) (h0 : 0 ≤ i) :
    Calls Tryd.prog 21 #[.slice A la ca, .int .i64 i] w fun e w' => e = .returned (.int .u32 (a.getD i.toNat 0 : Nat)) ∧ w = w' := by
  obtain ⟨k, rfl⟩ := Int.eq_ofNat_of_zero_le h0
  rw [Int.toNat_natCast]
  have hl := ha.len
  rw [ns_len] at hl
  by_cases h : k < la
  · obtain ⟨ad, x, rfl, hx, hc⟩ := ha.num h
    rw [getD_at hx.out]
    clear ha hl
    go_enter Tryd.func21, Tryd.ntmps21
    go_wp2
    go_ret
    exact ⟨rfl, rfl⟩
  · rw [getD_past (by omega)]
    clear ha hl
    go_enter Tryd.func21, Tryd.ntmps21
    go_wp2
    go_ret
    exact ⟨rfl, rfl⟩

/-- A number of 64 bits, or that it is greater. -/
def FitsE (n : Nat) : Ending := if n < 18446744073709551616 then .returned (.tuple #[.int .u64 (n : Int), .bool true]) else .returned (.tuple #[.int .u64 0, .bool false])

theorem or4 {x0 x1 x2 x3 : Nat} (h0 : x0 < 65536) (h1 : x1 < 65536) (h2 : x2 < 65536) :
    x0 ||| x1 * 65536 = x0 + x1 * 65536 ∧ (x0 + x1 * 65536) ||| x2 * 4294967296 = x0 + x1 * 65536 + x2 * 4294967296 ∧
    (x0 + x1 * 65536 + x2 * 4294967296) ||| x3 * 281474976710656 = x0 + x1 * 65536 + x2 * 4294967296 + x3 * 281474976710656 := by
  refine ⟨?_, ?_, ?_⟩
  · rw [Nat.or_comm, nat_join 16 _ _ (by omega) (by omega)]; omega
  · rw [Nat.or_comm, nat_join 32 _ _ (by omega) (by omega)]; omega
  · rw [Nat.or_comm, nat_join 48 _ _ (by omega) (by omega)]; omega

set_option maxHeartbeats 800000 in
theorem fits_any (A : Option Addr) (la ca : Nat) (a : List Nat) (w : World) (ha : Rd w 1 A la (ns .u32 a)) (hla : la ≤ 1099511627776) (hda : Big.Dig a) :
    Calls Tryd.prog 19 #[.slice A la ca] w fun e w' => e = FitsE (Big.val a) ∧ w = w' := by
  have hl := ha.len
  rw [ns_len] at hl
  have HL := Lib.hid hl
  clear hl
  go_enter Tryd.func19, Tryd.ntmps19
  go_wp2
  go_loop [4] (fun vi => ∃ k : Nat, vi = .int .i64 k ∧ 4 ≤ k ∧ (k ≤ la ∨ k = 4) ∧ Hid (∀ j, 4 ≤ j → j < k → a.getD j 0 = 0)) (fun i => la - (intOf i).toNat)
  case atStart => exact ⟨4, rfl, Nat.le_refl _, .inr rfl, fun j h1 h2 => by omega⟩
  case round =>
    obtain ⟨k, rfl, hk4, hk, hz⟩ := hrel
    by_cases h : k < la
    · obtain ⟨ad, x, rfl, hx, hc⟩ := ha.num h
      have hgx := Lib.hid (getD_at hx.out)
      by_cases h1 : x = 0
      · subst h1
        clear ha
        go_wp2
        go_round
        case rel =>
          refine ⟨k + 1, by go_num, by omega, .inl (by omega), fun j h1 h2 => ?_⟩
          by_cases h3 : j = k
          · subst h3; exact hgx.out
          · exact hz.out j h1 (by omega)
        case measure => simp [intOf]; omega
      · have hno : FitsE (Big.val a) = .returned (.tuple #[.int .u64 0, .bool false]) := by
          have := Big.fits_no (a := a) hk4 (by rw [hgx.out]; exact h1)
          unfold FitsE
          rw [if_neg (by omega)]
        have HNO := Lib.hid hno
        clear ha hno
        go_wp2
        go_ret2
        exact ⟨by rw [HNO.out]; rfl, rfl⟩
    · have hyes := Big.fits_yes (a := a) (n := k) hz.out (by rw [HL.out]; omega)
      have d0 := Big.dig_getD hda 0
      have d1 := Big.dig_getD hda 1
      have d2 := Big.dig_getD hda 2
      have d3 := Big.dig_getD hda 3
      have k0 := fun w' (hx : Ext w w') => at_any A la ca a 0 w' (ha.ext hx) hla (by omega)
      have k1 := fun w' (hx : Ext w w') => at_any A la ca a 1 w' (ha.ext hx) hla (by omega)
      have k2 := fun w' (hx : Ext w w') => at_any A la ca a 2 w' (ha.ext hx) hla (by omega)
      have k3 := fun w' (hx : Ext w w') => at_any A la ca a 3 w' (ha.ext hx) hla (by omega)
      simp only [show (0 : Int).toNat = 0 from rfl, show (1 : Int).toNat = 1 from rfl, show (2 : Int).toNat = 2 from rfl, show (3 : Int).toNat = 3 from rfl] at k0 k1 k2 k3
      generalize a.getD 0 0 = x0 at *
      generalize a.getD 1 0 = x1 at *
      generalize a.getD 2 0 = x2 at *
      generalize a.getD 3 0 = x3 at *
      have hval : FitsE (Big.val a) = .returned (.tuple #[.int .u64 (Big.val a : Nat), .bool true]) := by
        unfold FitsE
        rw [if_pos (by omega)]
      obtain ⟨o1, o2, o3⟩ := or4 (x3 := x3) d0 d1 d2
      have b1 : Go.bits .or .u64 (x0 : Int) ((x1 : Int) * 65536) = ((x0 + x1 * 65536 : Nat) : Int) := by
        rw [← o1]; exact u64_or_nat x0 (x1 * 65536) (by omega) (by omega)
      have b2 : Go.bits .or .u64 ((x0 + x1 * 65536 : Nat) : Int) ((x2 : Int) * 4294967296) = ((x0 + x1 * 65536 + x2 * 4294967296 : Nat) : Int) := by
        rw [← o2]; exact u64_or_nat _ (x2 * 4294967296) (by omega) (by omega)
      have b3 : Go.bits .or .u64 ((x0 + x1 * 65536 + x2 * 4294967296 : Nat) : Int) ((x3 : Int) * 281474976710656) = (Big.val a : Int) := by
        rw [hyes, ← o3]; exact u64_or_nat _ (x3 * 281474976710656) (by omega) (by omega)
      generalize hVV : Big.val a = V at *
      have HVV := Lib.hid hVV
      clear hVV
      obtain ⟨s1, hs1⟩ : ∃ s, x0 + x1 * 65536 = s := ⟨_, rfl⟩
      obtain ⟨s2, hs2⟩ : ∃ s, s1 + x2 * 4294967296 = s := ⟨_, rfl⟩
      rw [hs1] at b1 b2 b3
      rw [hs2] at b2 b3
      have HV := Lib.hid hval
      have K0 := Lib.hid k0; have K1 := Lib.hid k1; have K2 := Lib.hid k2; have K3 := Lib.hid k3
      clear hval k0 k1 k2 k3 hyes o1 o2 o3 hs1 hs2 ha hda
      go_wp2_with fail
      refine (K0.out _ (Ext.refl w)).mono ?_
      rintro e w' ⟨rfl, rfl⟩
      go_wp2_with fail
      refine (K1.out _ (Ext.refl w)).mono ?_
      rintro e w' ⟨rfl, rfl⟩
      go_wp2_with fail
      refine (K2.out _ (Ext.refl w)).mono ?_
      rintro e w' ⟨rfl, rfl⟩
      go_wp2_with fail
      refine (K3.out _ (Ext.refl w)).mono ?_
      rintro e w' ⟨rfl, rfl⟩
      go_wp2_with fail
      go_ret2
      exact ⟨by rw [HVV.out, HV.out]; rfl, rfl⟩

set_option maxHeartbeats 400000 in
theorem amount_any (a : Int) (w : World) (ha : I64 a) :
    Calls Tryd.prog 8 #[.int .i64 a] w fun e w' => e = .returned (.int .u64 (a.natAbs : Nat)) ∧ w = w' := by
  obtain ⟨a1, a2⟩ := ha
  by_cases h : a < 0
  · obtain ⟨n, hn⟩ : ∃ n : Nat, (a.natAbs : Int) = n := ⟨_, rfl⟩
    rw [hn]
    have h1 : a = -(n : Int) := by omega
    subst h1
    clear hn
    go_enter Tryd.func8, Tryd.ntmps8
    go_wp2
    go_ret
    refine ⟨?_, rfl⟩
    simp
    omega
  · obtain ⟨n, rfl⟩ := Int.eq_ofNat_of_zero_le (a := a) (by omega)
    rw [Int.natAbs_natCast]
    go_enter Tryd.func8, Tryd.ntmps8
    go_wp2
    go_ret
    exact ⟨rfl, rfl⟩

set_option maxHeartbeats 800000 in
theorem whole_any (A : Option Addr) (la ca : Nat) (a : List Nat) (m : Bool) (w : World) (ha : Rd w 1 A la (ns .u32 a)) (hla : la ≤ 1099511627776) (hda : Big.Dig a) :
    Calls Tryd.prog 11 #[.slice A la ca, .bool m] w fun e w' => e = Pair (okV (if m then -(Big.val a : Int) else Big.val a)) (okB (if m then -(Big.val a : Int) else Big.val a)) ∧ w = w' := by
  have F := fits_any A la ca a w ha hla hda
  generalize Big.val a = V at *
  have FF := Lib.hid F
  clear F ha hda
  by_cases h1 : V < 18446744073709551616
  · have e1 : FitsE V = .returned (.tuple #[.int .u64 (V : Int), .bool true]) := by unfold FitsE; rw [if_pos h1]
    have E1 := Lib.hid e1
    clear e1
    cases m
    · rw [if_neg (by simp)]
      by_cases h2 : (V : Int) ≤ 9223372036854775807
      · rw [okV_yes (by omega), okB_yes (by omega)]
        have g1 : ¬ (9223372036854775807 : Int) < V := by omega
        go_enter Tryd.func11, Tryd.ntmps11
        go_wp2_with fail
        refine FF.out.mono ?_
        rintro e w' ⟨rfl, rfl⟩
        rw [E1.out]
        go_wp2_with fail
        go_ret2
        exact ⟨rfl, rfl⟩
      · rw [okV_no (by omega), okB_no (by omega)]
        go_enter Tryd.func11, Tryd.ntmps11
        go_wp2_with fail
        refine FF.out.mono ?_
        rintro e w' ⟨rfl, rfl⟩
        rw [E1.out]
        go_wp2_with fail
        go_ret2
        exact ⟨rfl, rfl⟩
    · rw [if_pos rfl]
      by_cases h2 : (V : Int) ≤ 9223372036854775808
      · rw [okV_yes (by omega), okB_yes (by omega)]
        by_cases h3 : V = 0
        · subst h3
          go_enter Tryd.func11, Tryd.ntmps11
          go_wp2_with fail
          refine FF.out.mono ?_
          rintro e w' ⟨rfl, rfl⟩
          rw [E1.out]
          go_wp2_with fail
          go_ret2
          exact ⟨rfl, rfl⟩
        · have g3 : ((V : Int) == 0) = false := by simp; omega
          have g4 : (1 : Int) ≤ V := by omega
          go_enter Tryd.func11, Tryd.ntmps11
          go_wp2_with fail
          refine FF.out.mono ?_
          rintro e w' ⟨rfl, rfl⟩
          rw [E1.out]
          go_wp2_with fail
          go_ret2
          refine ⟨?_, rfl⟩
          simp [Pair]
          omega
      · rw [okV_no (by omega), okB_no (by omega)]
        go_enter Tryd.func11, Tryd.ntmps11
        go_wp2_with fail
        refine FF.out.mono ?_
        rintro e w' ⟨rfl, rfl⟩
        rw [E1.out]
        go_wp2_with fail
        go_ret2
        exact ⟨rfl, rfl⟩
  · have e1 : FitsE V = .returned (.tuple #[.int .u64 0, .bool false]) := by unfold FitsE; rw [if_neg h1]
    have E1 := Lib.hid e1
    clear e1
    rw [okV_no (by split <;> omega), okB_no (by split <;> omega)]
    go_enter Tryd.func11, Tryd.ntmps11
    go_wp2_with fail
    refine FF.out.mono ?_
    rintro e w' ⟨rfl, rfl⟩
    rw [E1.out]
    go_wp2_with fail
    go_ret2
    exact ⟨rfl, rfl⟩

theorem whole_pos (A : Option Addr) (la ca : Nat) (a : List Nat) (w : World) (ha : Rd w 1 A la (ns .u32 a)) (hla : la ≤ 1099511627776) (hda : Big.Dig a) :
    Calls Tryd.prog 11 #[.slice A la ca, .bool false] w fun e w' => e = Pair (okV (Big.val a : Int)) (okB (Big.val a : Int)) ∧ w = w' := by
  have h := whole_any A la ca a false w ha hla hda
  simpa only [Bool.false_eq_true, if_false] using h
theorem whole_neg (A : Option Addr) (la ca : Nat) (a : List Nat) (w : World) (ha : Rd w 1 A la (ns .u32 a)) (hla : la ≤ 1099511627776) (hda : Big.Dig a) :
    Calls Tryd.prog 11 #[.slice A la ca, .bool true] w fun e w' => e = Pair (okV (-(Big.val a : Int))) (okB (-(Big.val a : Int))) ∧ w = w' := by
  have h := whole_any A la ca a true w ha hla hda
  simpa only [if_true] using h

theorem zeros_ns (n : Nat) : List.replicate n (Value.int .u32 0) = ns .u32 (List.replicate n 0) := by simp [ns]

set_option maxHeartbeats 1600000 in
theorem times_any (A B : Option Addr) (la ca lb cb : Nat) (a b : List Nat) (w : World) (hla : la ≤ 1048576) (hlb : lb ≤ 1048576)
    (ha : Rd w 1 A la (ns .u32 a)) (hb : Rd w 1 B lb (ns .u32 b)) (hda : Big.Dig a) (hdb : Big.Dig b) :
    Calls Tryd.prog 12 #[.slice A la ca, .slice B lb cb] w (BigIs (Big.val a * Big.val b) (la + lb + 1) w) := by
  have hal := ha.len
  have hbl := hb.len
  rw [ns_len] at hal hbl
  have HAL := Lib.hid hal
  have HBL := Lib.hid hbl
  clear hal hbl
  go_enter Tryd.func12, Tryd.ntmps12
  go_wp2
  go_loopw [5, 6, 7, 8, 9, 11, 12, 16] (fun vo _ _ _ _ _ _ vi wr => ∃ (i : Nat) (C : Option Addr) (cap : Nat) (o : List Nat), i ≤ lb ∧ vi = .int .i64 i ∧ vo = .slice C o.length cap ∧ Rd wr 1 C o.length (ns .u32 o) ∧ Big.Dig o ∧
      Big.val o = Big.val a * Big.vl b i ∧ o.length ≤ i + la + 1 ∧ Ext w wr) (fun _ _ _ _ _ _ _ vi _ => lb - (intOf vi).toNat)
  case atStart =>
    refine ⟨0, some ⟨w.heap.size, 0, none⟩, 0, [], by omega, rfl, rfl, Rd.nil_, Big.dig_nil, by simp [Big.vl, Big.val], by simp, (Ext.refl w).alloc _⟩
  case round =>
    obtain ⟨i, C, cap, o, hi, rfl, rfl, hro, hdo, hv, hol, hx⟩ := hrel
    by_cases h1 : i < lb
    · obtain ⟨ad2, x, rfl, hxb, hc2⟩ := (hb.ext hx).num h1
      have hx1 := hdb x (mem_of_at hxb.out)
      have HV := Lib.hid hv
      clear hv hb
      obtain ⟨wo, hwo⟩ : ∃ wo : World, wo = wr := ⟨_, rfl⟩
      subst hwo
      go_wp2_with fail
      obtain ⟨w2, hrun, hown, hx2, _⟩ := run_mkn (w := wo) eltBig rfl wo.heap.size .i64 .i64 (i : Int) (by omega) (by omega) (by omega) (Nat.le_refl _)
      refine upon_ok hrun ?_
      clear hrun
      rw [Int.toNat_natCast, zeros_ns] at hown
      rw [Int.toNat_natCast]
      generalize (some ⟨wo.heap.size, 0, none⟩ : Option Addr) = R0 at hown ⊢
      go_wp2_with fail
      go_loopw [8, 9, 11, 12, 25] (fun vr vc _ _ vj wr => ∃ (j c : Nat) (R : Option Addr) (cap' : Nat) (row : List Nat), j ≤ la ∧ vj = .int .i64 j ∧ vc = .int .u32 c ∧ c < 65536 ∧ vr = .slice R (i + j) cap' ∧ row.length = i + j ∧ Own wr wo.heap.size 41 1 R (i + j) cap' (ns .u32 row) ∧ Big.Dig row ∧
          Big.val row + c * 65536 ^ (i + j) = Big.vl a j * x * 65536 ^ i ∧ Ext wo wr) (fun _ _ _ _ vj _ => la - (intOf vj).toNat)
      case atStart =>
        exact ⟨0, 0, R0, i, List.replicate i 0, by omega, rfl, rfl, by omega, rfl, by simp, hown, fun y hy => by have := List.eq_of_mem_replicate hy; omega, by simp [Big.vl, Big.val_zeros], hx2⟩
      case round =>
        obtain ⟨j, c, R, cap', row, hj, rfl, rfl, hc, rfl, hrl, hrown, hdr, hrv, hx3⟩ := hrel
        have step := Big.times_step hrl hrv
        have HRL := Lib.hid hrl
        have HRV := Lib.hid hrv
        have HST := Lib.hid step
        clear hrl hrv step hown hx2
        by_cases h2 : j < la
        · obtain ⟨ad1, y, rfl, hya, hc1⟩ := (ha.ext (hx.trans hx3)).num h2
          have hy1 := hda y (mem_of_at hya.out)
          obtain ⟨p, hp⟩ : ∃ p, x * y = p := ⟨_, rfl⟩
          have hp1 : p ≤ 65535 * 65535 := by rw [← hp]; exact Nat.mul_le_mul (by omega) (by omega)
          have e1 : (x : Int) * (y : Int) = (p : Int) := by rw [← hp]; simp
          have e2 : (p : Int) + (c : Int) = ((p + c : Nat) : Int) := by omega
          obtain ⟨s, hs⟩ : ∃ s, p + c = s := ⟨_, rfl⟩
          rw [hs] at e2
          have e3 := and16_u32 s (by omega)
          have HP := Lib.hid hp
          clear ha hp
          go_wp2_with (at_builtin; refine held ?_)
          refine Held.go (wp_app (m := 1) (news := ns .u32 [s % 65536]) eltBig (hrown.alloc _) (Rd.new _ _ _ _) (ns_one _ _) (by omega) (.inr ⟨by omega, by omega⟩) (by simp; have := hx3.size; omega) _ _ rfl rfl rfl rfl ?_)
          intro A3 c3 w3 hown3 hg3 _ _
          rw [← ns_append] at hown3
          have hx4 := hg3.ext (hx3.alloc _) hrown.base_le
          clear hrown hg3
          go_wp2_with fail
          go_roundw
          case rel =>
            refine ⟨j + 1, s / 65536, A3, c3, row ++ [s % 65536], by omega, by go_num, by congr 1, by omega, rfl, by simp [HRL.out]; omega, hown3, Big.dig_snoc hdr (Nat.mod_lt _ (by omega)), ?_, hx4⟩
            have h := HST.out
            rw [getD_at hya.out, HP.out, hs] at h
            exact h
          case measure => simp [intOf]; omega
        · obtain rfl : j = la := by omega
          clear HST
          go_wp2_with (at_builtin; refine held ?_)
          refine Held.go (wp_app (m := 1) (news := ns .u32 [c]) eltBig (hrown.alloc _) (Rd.new _ _ _ _) (ns_one _ _) (by omega) (.inr ⟨by omega, by omega⟩) (by simp; have := hx3.size; omega) _ _ rfl rfl rfl rfl ?_)
          intro A3 c3 w3 hown3 hg3 _ _
          rw [← ns_append] at hown3
          have hx4 := hg3.ext (hx3.alloc _) hrown.base_le
          have hrd3 := hown3.rd
          clear hrown hg3 hown3
          go_wp2_with fail
          refine (plus_any C A3 o.length cap (i + j + 1) c3 o (row ++ [c]) w3 (by omega) (by omega) (hro.ext hx4) hrd3 hdo (Big.dig_snoc hdr hc)).mono ?_
          rintro e w4 ⟨C4, cap4, l4, rfl, hr4, hd4, hv4, hl4, hx5⟩
          go_wp2_with fail
          go_roundw
          case rel =>
            refine ⟨i + 1, C4, cap4, l4, by omega, by go_num, rfl, hr4, hd4, ?_, by omega, hx.trans (hx4.trans hx5)⟩
            have h1 := HRV.out
            rw [hv4, HV.out, Big.val_snoc, HRL.out, h1, Big.vl_succ, getD_at hxb.out, Big.vl_beyond a j (by have := HAL.out; omega), Nat.mul_add, Nat.mul_assoc]
          case measure => simp [intOf]; omega
    · obtain rfl : i = lb := by omega
      go_wp2_with fail
      go_ret
      refine ⟨C, cap, o, rfl, hro, hdo, ?_, by omega, hx⟩
      rw [hv, Big.vl_beyond b i (by have := HBL.out; omega)]
end Go.Proofs.YtbbkkdbgaoidgaaDoor
