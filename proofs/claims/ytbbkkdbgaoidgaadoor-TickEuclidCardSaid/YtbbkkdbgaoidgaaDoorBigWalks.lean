/-
  The document's numbers of digits (almonerref01): Of, Plus, Times, at, Less, Minus, Fits, Amount, Whole, walked.
-/
import Derived.Test.YtbbkkdbgaoidgaaDoorMem
import Derived.Test.YtbbkkdbgaoidgaaDoorBigPlain
import Derived.Test.YtbbkkdbgaoidgaaDoorTickAdd
import Derived.Laws.BitsAllLaws
namespace Go.Proofs.YtbbkkdbgaoidgaaDoor
open Go.RowKit

theorem eltBig : Elt Tryd.prog 32 41 1 4 (.int .u32 0) := ⟨Tryd.underlying32, by kernel_rfl, rfl, by omega⟩
theorem and16_u32 (n : Nat) (h : n < 4294967296) : Go.bits .and .u32 (n : Int) 65535 = ((n % 65536 : Nat) : Int) := by
  have := u32_and_nat n 65535 h (by decide)
  rw [nat_mask16] at this
  exact this
theorem and16_u64 (n : Nat) (h : n < 18446744073709551616) : Go.bits .and .u64 (n : Int) 65535 = ((n % 65536 : Nat) : Int) := by
  have := u64_and_nat n 65535 h (by decide)
  rw [nat_mask16] at this
  exact this

/-- What a call of almonerref01 hands back: a new number of value n, of at most m digits. -/
def BigIs (n m : Nat) (w : World) (e : Ending) (w' : World) : Prop :=
  ∃ (A : Option Addr) (c : Nat) (l : List Nat), e = .returned (.slice A l.length c) ∧ Rd w' 1 A l.length (ns .u32 l) ∧ Big.Dig l ∧ Big.val l = n ∧ l.length ≤ m ∧ Ext w w'

set_option maxHeartbeats 400000 in
theorem of_any4 (n : Nat) (w : World) (h : n < 18446744073709551616) :
    Calls Tryd.prog 13 #[.int .u64 (n : Int)] w fun e w' => e = .returned (.slice (some ⟨w.heap.size, 0, none⟩) 4 4) ∧ Rd w' 1 (some ⟨w.heap.size, 0, none⟩) 4 (ns .u32 (Big.of n)) ∧ Ext w w' := by
  have e1 := and16_u64 n h
  have e2 : Go.bits .and .u64 ((n : Int) / 65536) 65535 = ((n / 65536 % 65536 : Nat) : Int) := and16_u64 (n / 65536) (by omega)
  have e3 : Go.bits .and .u64 ((n : Int) / 4294967296) 65535 = ((n / 4294967296 % 65536 : Nat) : Int) := and16_u64 (n / 4294967296) (by omega)
  go_enter Tryd.func13, Tryd.ntmps13
  go_wp2
  go_ret
  exact ⟨rfl, Rd.block (g := w.heap.size) (heap_alloc_new w _) (by simp [ns, Big.of]) (by simp [ns, Big.of]), (Ext.refl w).alloc _⟩
theorem of_any (n : Nat) (w : World) (h : n < 18446744073709551616) :
    Calls Tryd.prog 13 #[.int .u64 (n : Int)] w (BigIs n 4 w) :=
  (of_any4 n w h).mono fun _ _ ⟨he, hr, hx⟩ => ⟨_, 4, Big.of n, he, hr, Big.of_dig n h, Big.of_val n, Nat.le_refl _, hx⟩

set_option maxHeartbeats 1000000 in
theorem plus_any (A B : Option Addr) (la ca lb cb : Nat) (a b : List Nat) (w : World) (hla : la ≤ 1099511627776) (hlb : lb ≤ 1099511627776)
    (ha : Rd w 1 A la (ns .u32 a)) (hb : Rd w 1 B lb (ns .u32 b)) (hda : Big.Dig a) (hdb : Big.Dig b) :
    Calls Tryd.prog 20 #[.slice A la ca, .slice B lb cb] w fun e w' => ∃ (C : Option Addr) (c : Nat) (l : List Nat), e = .returned (.slice C l.length c) ∧ Rd w' 1 C l.length (ns .u32 l) ∧ Big.Dig l ∧ Big.val l = Big.val a + Big.val b ∧
      (l.length ≤ max la lb ∨ l.length = max la lb + 1 ∧ 65536 ^ (max la lb) ≤ Big.val l) ∧ Ext w w' := by
  have hal := ha.len
  have hbl := hb.len
  rw [ns_len] at hal hbl
  obtain ⟨M, hM⟩ : ∃ M, M = max la lb := ⟨_, rfl⟩
  rw [← hM]
  have HM := Lib.hid hM
  have hMa : la ≤ M := by omega
  have hMb : lb ≤ M := by omega
  have hMM : M ≤ 1099511627776 := by omega
  have HAL := Lib.hid hal
  have HBL := Lib.hid hbl
  clear hM hal hbl
  go_enter Tryd.func20, Tryd.ntmps20
  go_wp2
  go_loopw [5, 6, 7, 8] (fun vo vc vi _ wr => ∃ (i c : Nat) (C : Option Addr) (cap : Nat) (o : List Nat), vi = .int .i64 i ∧ vc = .int .u32 c ∧ vo = .slice C i cap ∧ c ≤ 1 ∧ o.length = i ∧ Own wr w.heap.size 41 1 C i cap (ns .u32 o) ∧ Big.Dig o ∧
      Big.val o + c * 65536 ^ i = Big.vl a i + Big.vl b i ∧ Ext w wr ∧ (i ≤ M ∨ i = M + 1 ∧ c = 0 ∧ 65536 ^ M ≤ Big.val o)) (fun _ _ i _ _ => M + 1 - (intOf i).toNat)
  case atStart =>
    refine ⟨0, 0, _, _, [], rfl, rfl, rfl, by omega, rfl, ?_, Big.dig_nil, by simp [Big.vl, Big.val], (Ext.refl w).alloc _, .inl (by omega)⟩
    exact World.ownsRow_lit (size := 1) w #[] 0 (Nat.le_refl _) (by simp [maxLen]) rfl
  case round =>
    obtain ⟨i, c, C, cap, o, rfl, rfl, rfl, hc, hol, hown, hdo, hv, hx, hi⟩ := hrel
    have step := Big.plus_step hol hv
    have HV := Lib.hid hv
    have HS := Lib.hid step
    have HO := Lib.hid hol
    clear hv step hol
    by_cases h1 : i < la <;> by_cases h2 : i < lb
    · obtain ⟨ad1, x, rfl, hxa, hc1⟩ := (ha.ext hx).num h1
      obtain ⟨ad2, y, rfl, hyb, hc2⟩ := (hb.ext hx).num h2
      have hx1 := hda x (mem_of_at hxa.out)
      have hy1 := hdb y (mem_of_at hyb.out)
      obtain ⟨s, hs⟩ : ∃ s, c + x + y = s := ⟨_, rfl⟩
      have e1 : (c : Int) + (x : Int) + (y : Int) = (s : Int) := by omega
      have e2 := and16_u32 s (by omega)
      clear ha hb
      go_wp2_with (at_builtin; refine held ?_)
      refine Held.go (wp_app (m := 1) (news := ns .u32 [s % 65536]) eltBig (hown.alloc _) (Rd.new _ _ _ _) (ns_one _ _) (by omega) (.inr ⟨by omega, by omega⟩) (by simp; have := hx.size; omega) _ _ rfl rfl rfl rfl ?_)
      intro A2 c2 w2 hown2 hg2 _ _
      rw [← ns_append] at hown2
      have hx2 := hg2.ext (hx.alloc _) hown.base_le
      clear hown hg2
      go_wp2_with fail
      go_roundw
      case rel =>
        refine ⟨i + 1, s / 65536, A2, c2, o ++ [s % 65536], by go_num, by congr 1, rfl, by omega, by simp [HO.out], hown2, Big.dig_snoc hdo (Nat.mod_lt _ (by omega)), ?_, hx2, ?_⟩
        · have h := HS.out
          rw [getD_at hxa.out, getD_at hyb.out, hs] at h
          exact h
        · exact .inl (by omega)
      case measure => simp [intOf]; omega
    · obtain ⟨ad1, x, rfl, hxa, hc1⟩ := (ha.ext hx).num h1
      have hx1 := hda x (mem_of_at hxa.out)
      obtain ⟨s, hs⟩ : ∃ s, c + x = s := ⟨_, rfl⟩
      have e1 : (c : Int) + (x : Int) = (s : Int) := by omega
      have e2 := and16_u32 s (by omega)
      clear ha hb
      go_wp2_with (at_builtin; refine held ?_)
      refine Held.go (wp_app (m := 1) (news := ns .u32 [s % 65536]) eltBig (hown.alloc _) (Rd.new _ _ _ _) (ns_one _ _) (by omega) (.inr ⟨by omega, by omega⟩) (by simp; have := hx.size; omega) _ _ rfl rfl rfl rfl ?_)
      intro A2 c2 w2 hown2 hg2 _ _
      rw [← ns_append] at hown2
      have hx2 := hg2.ext (hx.alloc _) hown.base_le
      clear hown hg2
      go_wp2_with fail
      go_roundw
      case rel =>
        refine ⟨i + 1, s / 65536, A2, c2, o ++ [s % 65536], by go_num, by congr 1, rfl, by omega, by simp [HO.out], hown2, Big.dig_snoc hdo (Nat.mod_lt _ (by omega)), ?_, hx2, ?_⟩
        · have h := HS.out
          rw [getD_at hxa.out, getD_past (l := b) (by have := HBL.out; omega), Nat.add_zero, hs] at h
          exact h
        · exact .inl (by omega)
      case measure => simp [intOf]; omega
    · obtain ⟨ad2, y, rfl, hyb, hc2⟩ := (hb.ext hx).num h2
      have hy1 := hdb y (mem_of_at hyb.out)
      obtain ⟨s, hs⟩ : ∃ s, c + y = s := ⟨_, rfl⟩
      have e1 : (c : Int) + (y : Int) = (s : Int) := by omega
      have e2 := and16_u32 s (by omega)
      clear ha hb
      go_wp2_with (at_builtin; refine held ?_)
      refine Held.go (wp_app (m := 1) (news := ns .u32 [s % 65536]) eltBig (hown.alloc _) (Rd.new _ _ _ _) (ns_one _ _) (by omega) (.inr ⟨by omega, by omega⟩) (by simp; have := hx.size; omega) _ _ rfl rfl rfl rfl ?_)
      intro A2 c2 w2 hown2 hg2 _ _
      rw [← ns_append] at hown2
      have hx2 := hg2.ext (hx.alloc _) hown.base_le
      clear hown hg2
      go_wp2_with fail
      go_roundw
      case rel =>
        refine ⟨i + 1, s / 65536, A2, c2, o ++ [s % 65536], by go_num, by congr 1, rfl, by omega, by simp [HO.out], hown2, Big.dig_snoc hdo (Nat.mod_lt _ (by omega)), ?_, hx2, ?_⟩
        · have h := HS.out
          rw [getD_at hyb.out, getD_past (l := a) (by have := HAL.out; omega), Nat.add_zero, hs] at h
          exact h
        · exact .inl (by omega)
      case measure => simp [intOf]; omega
    · by_cases h3 : c = 0
      · subst h3
        go_wp2_with fail
        go_ret
        have hv := HV.out
        have e1 := HM.out
        have e2 := HO.out
        have e3 := HAL.out
        have e4 := HBL.out
        rw [Nat.zero_mul, Nat.add_zero, Big.vl_beyond a i (by omega), Big.vl_beyond b i (by omega)] at hv
        refine ⟨C, cap, o, by rw [e2]; rfl, by rw [e2]; exact hown.rd, hdo, hv, ?_, hx⟩
        rw [e2]
        rcases hi with h | ⟨h, _, h'⟩
        · exact .inl h
        · exact .inr ⟨h, h'⟩
      · obtain rfl : c = 1 := by omega
        have HiM : Hid (i = M) := by have := HM.out; show i = M; omega
        have hiM : i ≤ M := by have := HiM.out; omega
        have e2 : Go.bits .and .u32 1 65535 = 1 := and16_u32 1 (by omega)
        clear ha hb
        go_wp2_with (at_builtin; refine held ?_)
        refine Held.go (wp_app (m := 1) (news := ns .u32 [1]) eltBig (hown.alloc _) (Rd.new _ _ _ _) (ns_one _ _) (by omega) (.inr ⟨by omega, by omega⟩) (by simp; have := hx.size; omega) _ _ rfl rfl rfl rfl ?_)
        intro A2 c2 w2 hown2 hg2 _ _
        rw [← ns_append] at hown2
        have hx2 := hg2.ext (hx.alloc _) hown.base_le
        clear hown hg2
        go_wp2_with fail
        go_roundw
        case rel =>
          have hst := HS.out
          have e3 := HAL.out
          have e4 := HBL.out
          rw [getD_past (l := a) (by omega), getD_past (l := b) (by omega)] at hst
          have hval : Big.val (o ++ [1]) = Big.val o + 1 * 65536 ^ i := by rw [Big.val_snoc, HO.out]
          refine ⟨i + 1, 0, A2, c2, o ++ [1], by go_num, rfl, rfl, by omega, by simp [HO.out], hown2, Big.dig_snoc hdo (by omega), hst, hx2, .inr ⟨by have := HiM.out; omega, rfl, ?_⟩⟩
          rw [hval, HiM.out]
          omega
        case measure => simp [intOf]; omega
end Go.Proofs.YtbbkkdbgaoidgaaDoor
