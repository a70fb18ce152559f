/-
  The document's numbers of digits (almonerref01), as other layers use them: Of, Plus, at, Fits, Times, Less, Minus, walked; lengths from below.
-/
import Derived.Test.YtbclkhkpmdbedaaMem
import Derived.Test.YtbclkhkpmdbedaaBigPlain
import Derived.Laws.BitsAllLaws
import Derived.Laws.Externs
import Derived.Laws.Bits64
namespace Go.Proofs.Ytbclkhkpmdbedaa
open Go.RowKit
theorem Own.cap_le {w : World} {base n c : Nat} {e : TypeId} {size : Nat} {A : Option Addr} {xs : List Value} (h : Own w base e size A n c xs) : n ≤ c := by
  rcases h.2 with ⟨h', h0⟩ | ⟨g', cap, cur, h', _, _, hnc, _⟩
  · injection h' with _ h1 h2; omega
  · injection h' with _ h1 h2; omega
theorem eltBig : Elt Try.prog 59 73 1 4 (.int .u32 0) := ⟨Try.underlying59, by kernel_rfl, rfl, by omega⟩
theorem and16_u32 (n : Nat) (h : n < 4294967296) : Go.bits .and .u32 (n : Int) 65535 = ((n % 65536 : Nat) : Int) := by
  have := u32_and_nat n 65535 h (by decide)
  rw [nat_mask16] at this
  exact this
theorem and16_u64 (n : Nat) (h : n < 18446744073709551616) : Go.bits .and .u64 (n : Int) 65535 = ((n % 65536 : Nat) : Int) := by
  have := u64_and_nat n 65535 h (by decide)
  rw [nat_mask16] at this
  exact this

/-- What a call of almonerref01 hands back: a new number of value n, of at most m digits. -/
def BigAt (n lo hi : Nat) (w : World) (e : Ending) (w' : World) : Prop :=
  ∃ (A : Option Addr) (c : Nat) (l : List Nat), e = .returned (.slice A l.length c) ∧ Rd w' 1 A l.length (ns .u32 l) ∧ Big.Dig l ∧ Big.val l = n ∧ lo ≤ l.length ∧ l.length ≤ hi ∧ l.length ≤ c ∧ Ext w w'

set_option maxHeartbeats 400000 in
theorem of_any4 (n : Nat) (w : World) (h : n < 18446744073709551616) :
    Calls Try.prog 34 #[.int .u64 (n : Int)] w fun e w' => e = .returned (.slice (some ⟨w.heap.size, 0, none⟩) 4 4) ∧ Rd w' 1 (some ⟨w.heap.size, 0, none⟩) 4 (ns .u32 (Big.of n)) ∧ Ext w w' := by
  have e1 := and16_u64 n h
  have e2 : Go.bits .and .u64 ((n : Int) / 65536) 65535 = ((n / 65536 % 65536 : Nat) : Int) := and16_u64 (n / 65536) (by omega)
  have e3 : Go.bits .and .u64 ((n : Int) / 4294967296) 65535 = ((n / 4294967296 % 65536 : Nat) : Int) := and16_u64 (n / 4294967296) (by omega)
  go_enter Try.func34, Try.ntmps34
  go_wp2
  go_ret
  exact ⟨rfl, Rd.block (g := w.heap.size) (heap_alloc_new w _) (by simp [ns, Big.of]) (by simp [ns, Big.of]), (Ext.refl w).alloc _⟩
theorem of_any (n : Nat) (w : World) (h : n < 18446744073709551616) :
    Calls Try.prog 34 #[.int .u64 (n : Int)] w (BigAt n 4 4 w) :=
  (of_any4 n w h).mono fun _ _ ⟨he, hr, hx⟩ => ⟨_, 4, Big.of n, he, hr, Big.of_dig n h, Big.of_val n, Nat.le_refl _, Nat.le_refl _, Nat.le_refl 4, hx⟩

set_option maxHeartbeats 1000000 in
theorem plus_any (A B : Option Addr) (la ca lb cb : Nat) (a b : List Nat) (w : World) (hla : la ≤ 1099511627776) (hlb : lb ≤ 1099511627776)
    (ha : Rd w 1 A la (ns .u32 a)) (hb : Rd w 1 B lb (ns .u32 b)) (hda : Big.Dig a) (hdb : Big.Dig b) :
    Calls Try.prog 35 #[.slice A la ca, .slice B lb cb] w fun e w' => ∃ (C : Option Addr) (c : Nat) (l : List Nat), e = .returned (.slice C l.length c) ∧ Rd w' 1 C l.length (ns .u32 l) ∧ Big.Dig l ∧ Big.val l = Big.val a + Big.val b ∧ max la lb ≤ l.length ∧ l.length ≤ c ∧
      (l.length ≤ max la lb ∨ l.length = max la lb + 1 ∧ 65536 ^ (max la lb) ≤ Big.val l) ∧ Ext w w' := by
  have hal := ha.len
  have hbl := hb.len
  rw [ns_len] at hal hbl
  obtain ⟨M, hM⟩ : ∃ M, M = max la lb := ⟨_, rfl⟩
  rw [← hM]
  have HM := Lib.hid hM
  have hMa : la ≤ M := by omega
  have hMb : lb ≤ M := by omega
  have hMM : M ≤ 1099511627776 := by omega
  have HAL := Lib.hid hal
  have HBL := Lib.hid hbl
  clear hM hal hbl
  go_enter Try.func35, Try.ntmps35
  go_wp2
  go_loopw [5, 6, 7, 8] (fun vo vc vi _ wr => ∃ (i c : Nat) (C : Option Addr) (cap : Nat) (o : List Nat), vi = .int .i64 i ∧ vc = .int .u32 c ∧ vo = .slice C i cap ∧ c ≤ 1 ∧ o.length = i ∧ Own wr w.heap.size 73 1 C i cap (ns .u32 o) ∧ Big.Dig o ∧
      Big.val o + c * 65536 ^ i = Big.vl a i + Big.vl b i ∧ Ext w wr ∧ (i ≤ M ∨ i = M + 1 ∧ c = 0 ∧ 65536 ^ M ≤ Big.val o)) (fun _ _ i _ _ => M + 1 - (intOf i).toNat)
  case atStart =>
    refine ⟨0, 0, _, _, [], rfl, rfl, rfl, by omega, rfl, ?_, Big.dig_nil, by simp [Big.vl, Big.val], (Ext.refl w).alloc _, .inl (by omega)⟩
    exact World.ownsRow_lit (size := 1) w #[] 0 (Nat.le_refl _) (by simp [maxLen]) rfl
  case round =>
    obtain ⟨i, c, C, cap, o, rfl, rfl, rfl, hc, hol, hown, hdo, hv, hx, hi⟩ := hrel
    have step := Big.plus_step hol hv
    have HV := Lib.hid hv
    have HS := Lib.hid step
    have HO := Lib.hid hol
    clear hv step hol
    by_cases h1 : i < la <;> by_cases h2 : i < lb
    · obtain ⟨ad1, x, rfl, hxa, hc1⟩ := (ha.ext hx).num h1
      obtain ⟨ad2, y, rfl, hyb, hc2⟩ := (hb.ext hx).num h2
      have hx1 := hda x (mem_of_at hxa.out)
      have hy1 := hdb y (mem_of_at hyb.out)
      obtain ⟨s, hs⟩ : ∃ s, c + x + y = s := ⟨_, rfl⟩
      have e1 : (c : Int) + (x : Int) + (y : Int) = (s : Int) := by omega
      have e2 := and16_u32 s (by omega)
      clear ha hb
      go_wp2_with (at_builtin; refine held ?_)
      refine Held.go (wp_app (m := 1) (news := ns .u32 [s % 65536]) eltBig (hown.alloc _) (Rd.new _ _ _ _) (ns_one _ _) (by omega) (.inr ⟨by omega, by omega⟩) (by simp; have := hx.size; omega) _ _ rfl rfl rfl rfl ?_)
      intro A2 c2 w2 hown2 hg2 _ _
      rw [← ns_append] at hown2
      have hx2 := hg2.ext (hx.alloc _) hown.base_le
      clear hown hg2
      go_wp2_with fail
      go_roundw
      case rel =>
        refine ⟨i + 1, s / 65536, A2, c2, o ++ [s % 65536], by go_num, by congr 1, rfl, by omega, by simp [HO.out], hown2, Big.dig_snoc hdo (Nat.mod_lt _ (by omega)), ?_, hx2, ?_⟩
        · have h := HS.out
          rw [getD_at hxa.out, getD_at hyb.out, hs] at h
          exact h
        · exact .inl (by omega)
      case measure => simp [intOf]; omega
    · obtain ⟨ad1, x, rfl, hxa, hc1⟩ := (ha.ext hx).num h1
      have hx1 := hda x (mem_of_at hxa.out)
      obtain ⟨s, hs⟩ : ∃ s, c + x = s := ⟨_, rfl⟩
      have e1 : (c : Int) + (x : Int) = (s : Int) := by omega
      have e2 := and16_u32 s (by omega)
      clear ha hb
      go_wp2_with (at_builtin; refine held ?_)
      refine Held.go (wp_app (m := 1) (news := ns .u32 [s % 65536]) eltBig (hown.alloc _) (Rd.new _ _ _ _) (ns_one _ _) (by omega) (.inr ⟨by omega, by omega⟩) (by simp; have := hx.size; omega) _ _ rfl rfl rfl rfl ?_)
      intro A2 c2 w2 hown2 hg2 _ _
      rw [← ns_append] at hown2
      have hx2 := hg2.ext (hx.alloc _) hown.base_le
      clear hown hg2
      go_wp2_with fail
      go_roundw
      case rel =>
        refine ⟨i + 1, s / 65536, A2, c2, o ++ [s % 65536], by go_num, by congr 1, rfl, by omega, by simp [HO.out], hown2, Big.dig_snoc hdo (Nat.mod_lt _ (by omega)), ?_, hx2, ?_⟩
        · have h := HS.out
          rw [getD_at hxa.out, getD_past (l := b) (by have := HBL.out; omega), Nat.add_zero, hs] at h
          exact h
        · exact .inl (by omega)
      case measure => simp [intOf]; omega
    · obtain ⟨ad2, y, rfl, hyb, hc2⟩ := (hb.ext hx).num h2
      have hy1 := hdb y (mem_of_at hyb.out)
      obtain ⟨s, hs⟩ : ∃ s, c + y = s := ⟨_, rfl⟩
      have e1 : (c : Int) + (y : Int) = (s : Int) := by omega
      have e2 := and16_u32 s (by omega)
      clear ha hb
      go_wp2_with (at_builtin; refine held ?_)
      refine Held.go (wp_app (m := 1) (news := ns .u32 [s % 65536]) eltBig (hown.alloc _) (Rd.new _ _ _ _) (ns_one _ _) (by omega) (.inr ⟨by omega, by omega⟩) (by simp; have := hx.size; omega) _ _ rfl rfl rfl rfl ?_)
      intro A2 c2 w2 hown2 hg2 _ _
      rw [← ns_append] at hown2
      have hx2 := hg2.ext (hx.alloc _) hown.base_le
      clear hown hg2
      go_wp2_with fail
      go_roundw
      case rel =>
        refine ⟨i + 1, s / 65536, A2, c2, o ++ [s % 65536], by go_num, by congr 1, rfl, by omega, by simp [HO.out], hown2, Big.dig_snoc hdo (Nat.mod_lt _ (by omega)), ?_, hx2, ?_⟩
        · have h := HS.out
          rw [getD_at hyb.out, getD_past (l := a) (by have := HAL.out; omega), Nat.add_zero, hs] at h
          exact h
        · exact .inl (by omega)
      case measure => simp [intOf]; omega
    · by_cases h3 : c = 0
      · subst h3
        go_wp2_with fail
        go_ret
        have hv := HV.out
        have e1 := HM.out
        have e2 := HO.out
        have e3 := HAL.out
        have e4 := HBL.out
        rw [Nat.zero_mul, Nat.add_zero, Big.vl_beyond a i (by omega), Big.vl_beyond b i (by omega)] at hv
        refine ⟨C, cap, o, by rw [e2]; rfl, by rw [e2]; exact hown.rd, hdo, hv, by rw [e2, e1]; omega, by rw [e2]; exact hown.cap_le, ?_, hx⟩
        rw [e2]
        rcases hi with h | ⟨h, _, h'⟩
        · exact .inl h
        · exact .inr ⟨h, h'⟩
      · obtain rfl : c = 1 := by omega
        have HiM : Hid (i = M) := by have := HM.out; show i = M; omega
        have hiM : i ≤ M := by have := HiM.out; omega
        have e2 : Go.bits .and .u32 1 65535 = 1 := and16_u32 1 (by omega)
        clear ha hb
        go_wp2_with (at_builtin; refine held ?_)
        refine Held.go (wp_app (m := 1) (news := ns .u32 [1]) eltBig (hown.alloc _) (Rd.new _ _ _ _) (ns_one _ _) (by omega) (.inr ⟨by omega, by omega⟩) (by simp; have := hx.size; omega) _ _ rfl rfl rfl rfl ?_)
        intro A2 c2 w2 hown2 hg2 _ _
        rw [← ns_append] at hown2
        have hx2 := hg2.ext (hx.alloc _) hown.base_le
        clear hown hg2
        go_wp2_with fail
        go_roundw
        case rel =>
          have hst := HS.out
          have e3 := HAL.out
          have e4 := HBL.out
          rw [getD_past (l := a) (by omega), getD_past (l := b) (by omega)] at hst
          have hval : Big.val (o ++ [1]) = Big.val o + 1 * 65536 ^ i := by rw [Big.val_snoc, HO.out]
          refine ⟨i + 1, 0, A2, c2, o ++ [1], by go_num, rfl, rfl, by omega, by simp [HO.out], hown2, Big.dig_snoc hdo (by omega), hst, hx2, .inr ⟨by have := HiM.out; omega, rfl, ?_⟩⟩
          rw [hval, HiM.out]
          omega
        case measure => simp [intOf]; omega
set_option maxHeartbeats 400000 in
theorem at_any (A : Option Addr) (la ca : Nat) (a : List Nat) (i : Int) (w : World) (ha : Rd w 1 A la (ns .u32 a)) (_hla : la ≤ 1099511627776) (h0 : 0 ≤ i) :
    Calls Try.prog 49 #[.slice A la ca, .int .i64 i] w fun e w' => e = .returned (.int .u32 (a.getD i.toNat 0 : Nat)) ∧ w = w' := by
  obtain ⟨k, rfl⟩ := Int.eq_ofNat_of_zero_le h0
  rw [Int.toNat_natCast]
  have hl := ha.len
  rw [ns_len] at hl
  by_cases h : k < la
  · obtain ⟨ad, x, rfl, hx, hc⟩ := ha.num h
    rw [getD_at hx.out]
    clear ha hl
    go_enter Try.func49, Try.ntmps49
    go_wp2
    go_ret
    exact ⟨rfl, rfl⟩
  · rw [getD_past (by omega)]
    clear ha hl
    go_enter Try.func49, Try.ntmps49
    go_wp2
    go_ret
    exact ⟨rfl, rfl⟩

/-- A number of 64 bits, or that it is greater. -/
def FitsE (n : Nat) : Ending := if n < 18446744073709551616 then .returned (.tuple #[.int .u64 (n : Int), .bool true]) else .returned (.tuple #[.int .u64 0, .bool false])

theorem or4 {x0 x1 x2 x3 : Nat} (h0 : x0 < 65536) (h1 : x1 < 65536) (h2 : x2 < 65536) :
    x0 ||| x1 * 65536 = x0 + x1 * 65536 ∧ (x0 + x1 * 65536) ||| x2 * 4294967296 = x0 + x1 * 65536 + x2 * 4294967296 ∧
    (x0 + x1 * 65536 + x2 * 4294967296) ||| x3 * 281474976710656 = x0 + x1 * 65536 + x2 * 4294967296 + x3 * 281474976710656 := by
  refine ⟨?_, ?_, ?_⟩
  · rw [Nat.or_comm, nat_join 16 _ _ (by omega) (by omega)]; omega
  · rw [Nat.or_comm, nat_join 32 _ _ (by omega) (by omega)]; omega
  · rw [Nat.or_comm, nat_join 48 _ _ (by omega) (by omega)]; omega

set_option maxHeartbeats 800000 in
theorem fits_any (A : Option Addr) (la ca : Nat) (a : List Nat) (w : World) (ha : Rd w 1 A la (ns .u32 a)) (hla : la ≤ 1099511627776) (hda : Big.Dig a) :
    Calls Try.prog 39 #[.slice A la ca] w fun e w' => e = FitsE (Big.val a) ∧ w = w' := by
  have hl := ha.len
  rw [ns_len] at hl
  have HL := Lib.hid hl
  clear hl
  go_enter Try.func39, Try.ntmps39
  go_wp2
  go_loop [4] (fun vi => ∃ k : Nat, vi = .int .i64 k ∧ 4 ≤ k ∧ (k ≤ la ∨ k = 4) ∧ Hid (∀ j, 4 ≤ j → j < k → a.getD j 0 = 0)) (fun i => la - (intOf i).toNat)
  case atStart => exact ⟨4, rfl, Nat.le_refl _, .inr rfl, fun j h1 h2 => by omega⟩
  case round =>
    obtain ⟨k, rfl, hk4, hk, hz⟩ := hrel
    by_cases h : k < la
    · obtain ⟨ad, x, rfl, hx, hc⟩ := ha.num h
      have hgx := Lib.hid (getD_at hx.out)
      by_cases h1 : x = 0
      · subst h1
        clear ha
        go_wp2
        go_round
        case rel =>
          refine ⟨k + 1, by go_num, by omega, .inl (by omega), fun j h1 h2 => ?_⟩
          by_cases h3 : j = k
          · subst h3; exact hgx.out
          · exact hz.out j h1 (by omega)
        case measure => simp [intOf]; omega
      · have hno : FitsE (Big.val a) = .returned (.tuple #[.int .u64 0, .bool false]) := by
          have := Big.fits_no (a := a) hk4 (by rw [hgx.out]; exact h1)
          unfold FitsE
          rw [if_neg (by omega)]
        have HNO := Lib.hid hno
        clear ha hno
        go_wp2
        go_ret2
        exact ⟨by rw [HNO.out]; rfl, rfl⟩
    · have hyes := Big.fits_yes (a := a) (n := k) hz.out (by rw [HL.out]; omega)
      have d0 := Big.dig_getD hda 0
      have d1 := Big.dig_getD hda 1
      have d2 := Big.dig_getD hda 2
      have d3 := Big.dig_getD hda 3
      have k0 := fun w' (hx : Ext w w') => at_any A la ca a 0 w' (ha.ext hx) hla (by omega)
      have k1 := fun w' (hx : Ext w w') => at_any A la ca a 1 w' (ha.ext hx) hla (by omega)
      have k2 := fun w' (hx : Ext w w') => at_any A la ca a 2 w' (ha.ext hx) hla (by omega)
      have k3 := fun w' (hx : Ext w w') => at_any A la ca a 3 w' (ha.ext hx) hla (by omega)
      simp only [show (0 : Int).toNat = 0 from rfl, show (1 : Int).toNat = 1 from rfl, show (2 : Int).toNat = 2 from rfl, show (3 : Int).toNat = 3 from rfl] at k0 k1 k2 k3
      generalize a.getD 0 0 = x0 at *
      generalize a.getD 1 0 = x1 at *
      generalize a.getD 2 0 = x2 at *
      generalize a.getD 3 0 = x3 at *
      have hval : FitsE (Big.val a) = .returned (.tuple #[.int .u64 (Big.val a : Nat), .bool true]) := by
        unfold FitsE
        rw [if_pos (by omega)]
      obtain ⟨o1, o2, o3⟩ := or4 (x3 := x3) d0 d1 d2
      have b1 : Go.bits .or .u64 (x0 : Int) ((x1 : Int) * 65536) = ((x0 + x1 * 65536 : Nat) : Int) := by
        rw [← o1]; exact u64_or_nat x0 (x1 * 65536) (by omega) (by omega)
      have b2 : Go.bits .or .u64 ((x0 + x1 * 65536 : Nat) : Int) ((x2 : Int) * 4294967296) = ((x0 + x1 * 65536 + x2 * 4294967296 : Nat) : Int) := by
        rw [← o2]; exact u64_or_nat _ (x2 * 4294967296) (by omega) (by omega)
      have b3 : Go.bits .or .u64 ((x0 + x1 * 65536 + x2 * 4294967296 : Nat) : Int) ((x3 : Int) * 281474976710656) = (Big.val a : Int) := by
        rw [hyes, ← o3]; exact u64_or_nat _ (x3 * 281474976710656) (by omega) (by omega)
      generalize hVV : Big.val a = V at *
      have HVV := Lib.hid hVV
      clear hVV
      obtain ⟨s1, hs1⟩ : ∃ s, x0 + x1 * 65536 = s := ⟨_, rfl⟩
      obtain ⟨s2, hs2⟩ : ∃ s, s1 + x2 * 4294967296 = s := ⟨_, rfl⟩
      rw [hs1] at b1 b2 b3
      rw [hs2] at b2 b3
      have HV := Lib.hid hval
      have K0 := Lib.hid k0; have K1 := Lib.hid k1; have K2 := Lib.hid k2; have K3 := Lib.hid k3
      clear hval k0 k1 k2 k3 hyes o1 o2 o3 hs1 hs2 ha hda
      go_wp2_with fail
      refine (K0.out _ (Ext.refl w)).mono ?_
      rintro e w' ⟨rfl, rfl⟩
      go_wp2_with fail
      refine (K1.out _ (Ext.refl w)).mono ?_
      rintro e w' ⟨rfl, rfl⟩
      go_wp2_with fail
      refine (K2.out _ (Ext.refl w)).mono ?_
      rintro e w' ⟨rfl, rfl⟩
      go_wp2_with fail
      refine (K3.out _ (Ext.refl w)).mono ?_
      rintro e w' ⟨rfl, rfl⟩
      go_wp2_with fail
      go_ret2
      exact ⟨by rw [HVV.out, HV.out]; rfl, rfl⟩

theorem zeros_ns (n : Nat) : List.replicate n (Value.int .u32 0) = ns .u32 (List.replicate n 0) := by simp [ns]

set_option maxHeartbeats 1600000 in
theorem times_any (A B : Option Addr) (la ca lb cb : Nat) (a b : List Nat) (w : World) (hla : la ≤ 1048576) (hlb : lb ≤ 1048576)
    (ha : Rd w 1 A la (ns .u32 a)) (hb : Rd w 1 B lb (ns .u32 b)) (hda : Big.Dig a) (hdb : Big.Dig b) (hlb0 : 1 ≤ lb) :
    Calls Try.prog 32 #[.slice A la ca, .slice B lb cb] w (BigAt (Big.val a * Big.val b) (la + lb) (la + lb + 1) w) := by
  have hal := ha.len
  have hbl := hb.len
  rw [ns_len] at hal hbl
  have HAL := Lib.hid hal
  have HBL := Lib.hid hbl
  clear hal hbl
  go_enter Try.func32, Try.ntmps32
  go_wp2
  go_loopw [5, 6, 7, 8, 9, 11, 12, 16] (fun vo _ _ _ _ _ _ vi wr => ∃ (i : Nat) (C : Option Addr) (cap : Nat) (o : List Nat), i ≤ lb ∧ vi = .int .i64 i ∧ vo = .slice C o.length cap ∧ Rd wr 1 C o.length (ns .u32 o) ∧ Big.Dig o ∧
      Big.val o = Big.val a * Big.vl b i ∧ o.length ≤ i + la + 1 ∧ (i = 0 ∨ i + la ≤ o.length) ∧ o.length ≤ cap ∧ Ext w wr) (fun _ _ _ _ _ _ _ vi _ => lb - (intOf vi).toNat)
  case atStart =>
    refine ⟨0, some ⟨w.heap.size, 0, none⟩, 0, [], by omega, rfl, rfl, Rd.nil_, Big.dig_nil, by simp [Big.vl, Big.val], by simp, .inl rfl, by simp, (Ext.refl w).alloc _⟩
  case round =>
    obtain ⟨i, C, cap, o, hi, rfl, rfl, hro, hdo, hv, hol, hlo, hcp, hx⟩ := hrel
    by_cases h1 : i < lb
    · obtain ⟨ad2, x, rfl, hxb, hc2⟩ := (hb.ext hx).num h1
      have hx1 := hdb x (mem_of_at hxb.out)
      have HV := Lib.hid hv
      clear hv hb
      obtain ⟨wo, hwo⟩ : ∃ wo : World, wo = wr := ⟨_, rfl⟩
      subst hwo
      go_wp2_with fail
      obtain ⟨w2, hrun, hown, hx2, _⟩ := run_mkn (w := wo) eltBig rfl wo.heap.size .i64 .i64 (i : Int) (by omega) (by omega) (by omega) (Nat.le_refl _)
      refine upon_ok hrun ?_
      clear hrun
      rw [Int.toNat_natCast, zeros_ns] at hown
      rw [Int.toNat_natCast]
      generalize (some ⟨wo.heap.size, 0, none⟩ : Option Addr) = R0 at hown ⊢
      go_wp2_with fail
      go_loopw [8, 9, 11, 12, 25] (fun vr vc _ _ vj wr => ∃ (j c : Nat) (R : Option Addr) (cap' : Nat) (row : List Nat), j ≤ la ∧ vj = .int .i64 j ∧ vc = .int .u32 c ∧ c < 65536 ∧ vr = .slice R (i + j) cap' ∧ row.length = i + j ∧ Own wr wo.heap.size 73 1 R (i + j) cap' (ns .u32 row) ∧ Big.Dig row ∧
          Big.val row + c * 65536 ^ (i + j) = Big.vl a j * x * 65536 ^ i ∧ Ext wo wr) (fun _ _ _ _ vj _ => la - (intOf vj).toNat)
      case atStart =>
        exact ⟨0, 0, R0, i, List.replicate i 0, by omega, rfl, rfl, by omega, rfl, by simp, hown, fun y hy => by have := List.eq_of_mem_replicate hy; omega, by simp [Big.vl, Big.val_zeros], hx2⟩
      case round =>
        obtain ⟨j, c, R, cap', row, hj, rfl, rfl, hc, rfl, hrl, hrown, hdr, hrv, hx3⟩ := hrel
        have step := Big.times_step hrl hrv
        have HRL := Lib.hid hrl
        have HRV := Lib.hid hrv
        have HST := Lib.hid step
        clear hrl hrv step hown hx2
        by_cases h2 : j < la
        · obtain ⟨ad1, y, rfl, hya, hc1⟩ := (ha.ext (hx.trans hx3)).num h2
          have hy1 := hda y (mem_of_at hya.out)
          obtain ⟨p, hp⟩ : ∃ p, x * y = p := ⟨_, rfl⟩
          have hp1 : p ≤ 65535 * 65535 := by rw [← hp]; exact Nat.mul_le_mul (by omega) (by omega)
          have e1 : (x : Int) * (y : Int) = (p : Int) := by rw [← hp]; simp
          have e2 : (p : Int) + (c : Int) = ((p + c : Nat) : Int) := by omega
          obtain ⟨s, hs⟩ : ∃ s, p + c = s := ⟨_, rfl⟩
          rw [hs] at e2
          have e3 := and16_u32 s (by omega)
          have HP := Lib.hid hp
          clear ha hp
          go_wp2_with (at_builtin; refine held ?_)
          refine Held.go (wp_app (m := 1) (news := ns .u32 [s % 65536]) eltBig (hrown.alloc _) (Rd.new _ _ _ _) (ns_one _ _) (by omega) (.inr ⟨by omega, by omega⟩) (by simp; have := hx3.size; omega) _ _ rfl rfl rfl rfl ?_)
          intro A3 c3 w3 hown3 hg3 _ _
          rw [← ns_append] at hown3
          have hx4 := hg3.ext (hx3.alloc _) hrown.base_le
          clear hrown hg3
          go_wp2_with fail
          go_roundw
          case rel =>
            refine ⟨j + 1, s / 65536, A3, c3, row ++ [s % 65536], by omega, by go_num, by congr 1, by omega, rfl, by simp [HRL.out]; omega, hown3, Big.dig_snoc hdr (Nat.mod_lt _ (by omega)), ?_, hx4⟩
            have h := HST.out
            rw [getD_at hya.out, HP.out, hs] at h
            exact h
          case measure => simp [intOf]; omega
        · obtain rfl : j = la := by omega
          clear HST
          go_wp2_with (at_builtin; refine held ?_)
          refine Held.go (wp_app (m := 1) (news := ns .u32 [c]) eltBig (hrown.alloc _) (Rd.new _ _ _ _) (ns_one _ _) (by omega) (.inr ⟨by omega, by omega⟩) (by simp; have := hx3.size; omega) _ _ rfl rfl rfl rfl ?_)
          intro A3 c3 w3 hown3 hg3 _ _
          rw [← ns_append] at hown3
          have hx4 := hg3.ext (hx3.alloc _) hrown.base_le
          have hrd3 := hown3.rd
          clear hrown hg3 hown3
          go_wp2_with fail
          refine (plus_any C A3 o.length cap (i + j + 1) c3 o (row ++ [c]) w3 (by omega) (by omega) (hro.ext hx4) hrd3 hdo (Big.dig_snoc hdr hc)).mono ?_
          rintro e w4 ⟨C4, cap4, l4, rfl, hr4, hd4, hv4, hg4, hcp4, hl4, hx5⟩
          go_wp2_with fail
          go_roundw
          case rel =>
            refine ⟨i + 1, C4, cap4, l4, by omega, by go_num, rfl, hr4, hd4, ?_, by omega, .inr (by omega), hcp4, hx.trans (hx4.trans hx5)⟩
            have h1 := HRV.out
            rw [hv4, HV.out, Big.val_snoc, HRL.out, h1, Big.vl_succ, getD_at hxb.out, Big.vl_beyond a j (by have := HAL.out; omega), Nat.mul_add, Nat.mul_assoc]
          case measure => simp [intOf]; omega
    · obtain rfl : i = lb := by omega
      go_wp2_with fail
      go_ret
      refine ⟨C, cap, o, rfl, hro, hdo, ?_, by omega, by omega, hcp, hx⟩
      rw [hv, Big.vl_beyond b i (by have := HBL.out; omega)]
set_option maxHeartbeats 800000 in
theorem less_any (A B : Option Addr) (la ca lb cb : Nat) (a b : List Nat) (w : World) (hla : la ≤ 1048576) (hlb : lb ≤ 1048576)
    (ha : Rd w 1 A la (ns .u32 a)) (hb : Rd w 1 B lb (ns .u32 b)) (hda : Big.Dig a) (hdb : Big.Dig b) :
    Calls Try.prog 37 #[.slice A la ca, .slice B lb cb] w fun e w' => e = .returned (.bool (decide (Big.val a < Big.val b))) ∧ w = w' := by
  have hal := ha.len
  have hbl := hb.len
  rw [ns_len] at hal hbl
  obtain ⟨M, hM⟩ : ∃ M : Nat, (if (la : Int) < (lb : Int) then (lb : Int) else (la : Int)) = M := ⟨max la lb, by split <;> omega⟩
  have hMa : la ≤ M := by split at hM <;> omega
  have hMb : lb ≤ M := by split at hM <;> omega
  have hMM : M ≤ 1048576 := by split at hM <;> omega
  have hva := Big.vl_beyond a M (by omega)
  have hvb := Big.vl_beyond b M (by omega)
  have HVA := Lib.hid hva
  have HVB := Lib.hid hvb
  have KA := Lib.hid (fun i h0 => at_any A la ca a i w ha (by omega) h0)
  have KB := Lib.hid (fun i h0 => at_any B lb cb b i w hb (by omega) h0)
  have HDA := Lib.hid hda
  have HDB := Lib.hid hdb
  have hmax : ∀ w, (Builtin.max_ #[3, 3] 3 #[.int .i64 (la : Int), .int .i64 (lb : Int)]).run Try.prog w = .ok (.int .i64 (M : Int)) w := by
    intro w
    rw [run_max_int2, hM]
  clear hal hbl hva hvb hda hdb ha hb hM
  go_enter Try.func37, Try.ntmps37
  go_wp2
  clear hmax
  go_loop [5] (fun vi => ∃ k : Nat, k ≤ M ∧ vi = .int .i64 ((k : Int) - 1) ∧ Hid (∀ j, k ≤ j → j < M → a.getD j 0 = b.getD j 0)) (fun i => (intOf i + 1).toNat)
  case atStart => exact ⟨M, Nat.le_refl _, rfl, fun j h1 h2 => by omega⟩
  case round =>
    obtain ⟨k, hk, rfl, hs⟩ := hrel
    by_cases h1 : 1 ≤ k
    · obtain ⟨i, rfl⟩ : ∃ i, k = i + 1 := ⟨k - 1, by omega⟩
      have ei : (((i + 1 : Nat) : Int) - 1) = (i : Int) := by omega
      rw [ei]
      have ka := fun w' (hw : w = w') => KA.out (i : Int) (by omega)
      have kb := fun w' (hw : w = w') => KB.out (i : Int) (by omega)
      rw [Int.toNat_natCast] at ka kb
      have da := Big.dig_getD HDA.out i
      have db := Big.dig_getD HDB.out i
      obtain ⟨x, hx⟩ : ∃ x, a.getD i 0 = x := ⟨_, rfl⟩
      obtain ⟨y, hy⟩ : ∃ y, b.getD i 0 = y := ⟨_, rfl⟩
      rw [hx] at ka da
      rw [hy] at kb db
      have K1 := Lib.hid ka
      have K2 := Lib.hid kb
      have HX := Lib.hid hx
      have HY := Lib.hid hy
      clear ka kb hx hy ei
      by_cases h2 : x = y
      · subst h2
        go_wp2_with fail
        refine (K1.out _ rfl).mono ?_
        rintro e w' ⟨rfl, rfl⟩
        go_wp2_with fail
        refine (K2.out _ rfl).mono ?_
        rintro e w' ⟨rfl, rfl⟩
        go_wp2_with fail
        go_round
        case rel =>
          refine ⟨i, by omega, rfl, fun j h3 h4 => ?_⟩
          by_cases h5 : j = i
          · subst h5; rw [HX.out, HY.out]
          · exact hs.out j (by omega) h4
        case measure => simp [intOf]
      · have h3 : ((x : Int) == (y : Int)) = false := by simp; omega
        have hres : decide (Big.val a < Big.val b) = decide (x < y) := by
          rw [← HVA.out, ← HVB.out]
          by_cases h4 : x < y
          · have := Big.less_at HDA.out (n := M) (i := i) (by omega) (fun j g1 g2 => hs.out j (by omega) g2) (by rw [HX.out, HY.out]; exact h4)
            simp [h4, this]
          · have := Big.less_at HDB.out (n := M) (i := i) (by omega) (fun j g1 g2 => (hs.out j (by omega) g2).symm) (by rw [HX.out, HY.out]; omega)
            rw [decide_eq_false (show ¬ Big.vl a M < Big.vl b M by omega), decide_eq_false h4]
        have HRES := Lib.hid hres
        clear hres h2
        go_wp2_with fail
        refine (K1.out _ rfl).mono ?_
        rintro e w' ⟨rfl, rfl⟩
        go_wp2_with fail
        refine (K2.out _ rfl).mono ?_
        rintro e w' ⟨rfl, rfl⟩
        go_wp2_with fail
        refine (K1.out _ rfl).mono ?_
        rintro e w' ⟨rfl, rfl⟩
        go_wp2_with fail
        refine (K2.out _ rfl).mono ?_
        rintro e w' ⟨rfl, rfl⟩
        go_wp2_with fail
        go_ret
        refine ⟨?_, rfl⟩
        rw [HRES.out]
        simp
    · obtain rfl : k = 0 := by omega
      have hres : decide (Big.val a < Big.val b) = false := by
        rw [← HVA.out, ← HVB.out, Big.same_all fun j hj => hs.out j (by omega) hj]
        simp
      have HRES := Lib.hid hres
      clear hres
      go_wp2_with fail
      go_ret
      exact ⟨by rw [HRES.out]; rfl, rfl⟩

set_option maxHeartbeats 1000000 in
theorem minus_any (A B : Option Addr) (la ca lb cb : Nat) (a b : List Nat) (w : World) (hla : la ≤ 1048576) (hlb : lb ≤ 1048576)
    (ha : Rd w 1 A la (ns .u32 a)) (hb : Rd w 1 B lb (ns .u32 b)) (hda : Big.Dig a) (hdb : Big.Dig b) (hle : Big.val b ≤ Big.val a) :
    Calls Try.prog 38 #[.slice A la ca, .slice B lb cb] w (BigAt (Big.val a - Big.val b) (max la lb) (max la lb) w) := by
  have hal := ha.len
  have hbl := hb.len
  rw [ns_len] at hal hbl
  obtain ⟨M, hM⟩ : ∃ M, M = max la lb := ⟨_, rfl⟩
  rw [← hM]
  have HM := Lib.hid hM
  have hMa : la ≤ M := by omega
  have hMb : lb ≤ M := by omega
  have hMM : M ≤ 1048576 := by omega
  have HAL := Lib.hid hal
  have HBL := Lib.hid hbl
  have HLE := Lib.hid hle
  have KA := Lib.hid (fun i h0 w' hx => at_any A la ca a i w' (ha.ext hx) (by omega) h0)
  have KB := Lib.hid (fun i h0 w' hx => at_any B lb cb b i w' (hb.ext hx) (by omega) h0)
  clear hM hal hbl hle ha hb
  go_enter Try.func38, Try.ntmps38
  go_wp2
  go_loopw [5, 6, 7, 8] (fun vo vc vi _ wr => ∃ (i c : Nat) (C : Option Addr) (cap : Nat) (o : List Nat), vi = .int .i64 i ∧ vc = .int .u32 c ∧ vo = .slice C i cap ∧ c ≤ 1 ∧ o.length = i ∧ Own wr w.heap.size 73 1 C i cap (ns .u32 o) ∧ Big.Dig o ∧
      Big.val o + Big.vl b i = Big.vl a i + c * 65536 ^ i ∧ Ext w wr ∧ i ≤ M) (fun _ _ i _ _ => M - (intOf i).toNat)
  case atStart =>
    refine ⟨0, 0, _, _, [], rfl, rfl, rfl, by omega, rfl, ?_, Big.dig_nil, by simp [Big.vl, Big.val], (Ext.refl w).alloc _, by omega⟩
    exact World.ownsRow_lit (size := 1) w #[] 0 (Nat.le_refl _) (by simp [maxLen]) rfl
  case round =>
    obtain ⟨i, c, C, cap, o, rfl, rfl, rfl, hc, hol, hown, hdo, hv, hx, hi⟩ := hrel
    by_cases h1 : i < M
    · have step := Big.minus_step hc hda hdb hol hv
      have HO := Lib.hid hol
      have da := Big.dig_getD hda i
      have db := Big.dig_getD hdb i
      have ka := KA.out (i : Int) (by omega) wr hx
      have kb := KB.out (i : Int) (by omega) wr hx
      rw [Int.toNat_natCast] at ka kb
      obtain ⟨x, hxx⟩ : ∃ x, a.getD i 0 = x := ⟨_, rfl⟩
      obtain ⟨y, hyy⟩ : ∃ y, b.getD i 0 = y := ⟨_, rfl⟩
      rw [hxx] at ka da step
      rw [hyy] at kb db step
      obtain ⟨s, hs⟩ : ∃ s, x + 65536 - y - c = s := ⟨_, rfl⟩
      rw [hs] at step
      have e1 : (x : Int) + 65536 - (y : Int) - (c : Int) = (s : Int) := by omega
      have e2 := and16_u32 s (by omega)
      have hq : s / 65536 ≤ 1 := by omega
      have e3 : (1 : Int) - (s : Int) / 65536 = ((1 - s / 65536 : Nat) : Int) := by omega
      have K1 := Lib.hid ka
      have K2 := Lib.hid kb
      have HS := Lib.hid step
      have HOR : i < la ∨ i < lb := by have := HM.out; omega
      clear ka kb step hv hol hs hxx hyy
      rcases HOR with h2 | h2
      · go_wp2_with fail
        refine K1.out.mono ?_
        rintro e w' ⟨rfl, rfl⟩
        go_wp2_with fail
        refine K2.out.mono ?_
        rintro e w' ⟨rfl, rfl⟩
        go_wp2_with (at_builtin; refine held ?_)
        refine Held.go (wp_app (m := 1) (news := ns .u32 [s % 65536]) eltBig (hown.alloc _) (Rd.new _ _ _ _) (ns_one _ _) (by omega) (.inr ⟨by omega, by omega⟩) (by simp; have := hx.size; omega) _ _ rfl rfl rfl rfl ?_)
        intro A2 c2 w2 hown2 hg2 _ _
        rw [← ns_append] at hown2
        have hx2 := hg2.ext (hx.alloc _) hown.base_le
        clear hown hg2
        go_wp2_with fail
        go_roundw
        case rel => exact ⟨i + 1, 1 - s / 65536, A2, c2, o ++ [s % 65536], by go_num, rfl, rfl, by omega, by simp [HO.out], hown2, Big.dig_snoc hdo (Nat.mod_lt _ (by omega)), HS.out, hx2, by omega⟩
        case measure => simp [intOf]; omega
      · by_cases h3 : i < la
        all_goals
          go_wp2_with fail
          refine K1.out.mono ?_
          rintro e w' ⟨rfl, rfl⟩
          go_wp2_with fail
          refine K2.out.mono ?_
          rintro e w' ⟨rfl, rfl⟩
          go_wp2_with (at_builtin; refine held ?_)
          refine Held.go (wp_app (m := 1) (news := ns .u32 [s % 65536]) eltBig (hown.alloc _) (Rd.new _ _ _ _) (ns_one _ _) (by omega) (.inr ⟨by omega, by omega⟩) (by simp; have := hx.size; omega) _ _ rfl rfl rfl rfl ?_)
          intro A2 c2 w2 hown2 hg2 _ _
          rw [← ns_append] at hown2
          have hx2 := hg2.ext (hx.alloc _) hown.base_le
          clear hown hg2
          go_wp2_with fail
          go_roundw
          case rel => exact ⟨i + 1, 1 - s / 65536, A2, c2, o ++ [s % 65536], by go_num, rfl, rfl, by omega, by simp [HO.out], hown2, Big.dig_snoc hdo (Nat.mod_lt _ (by omega)), HS.out, hx2, by omega⟩
          case measure => simp [intOf]; omega
    · have hiM : ¬ i < la ∧ ¬ i < lb := by omega
      obtain ⟨g1, g2⟩ := hiM
      have HV := Lib.hid hv
      have HO := Lib.hid hol
      clear hv hol
      go_wp2_with fail
      go_ret
      have hv := HV.out
      have e2 := HO.out
      have hal := HAL.out
      have hbl := HBL.out
      have hle := HLE.out
      have hlt := Big.val_lt hdo
      have hla' := Big.vl_lt hda i
      rw [e2] at hlt
      rw [Big.vl_beyond a i (by omega), Big.vl_beyond b i (by omega)] at hv
      rw [Big.vl_beyond a i (by omega)] at hla'
      have hc0 : c = 0 := by
        rcases (by omega : c = 0 ∨ c = 1) with h | h
        · exact h
        · subst h; omega
      subst hc0
      exact ⟨C, cap, o, by rw [e2]; rfl, by rw [e2]; exact hown.rd, hdo, by omega, by omega, by omega, by rw [e2]; exact hown.cap_le, hx⟩

end Go.Proofs.Ytbclkhkpmdbedaa
