/-
  The document's Minus once more: its digits lie in a new block.
-/
import Derived.Test.YtbclkhkpmdbedaaWBig
namespace Go.Proofs.Ytbclkhkpmdbedaa
open Go.RowKit
set_option maxHeartbeats 1000000 in
theorem minus_fresh (A B : Option Addr) (la ca lb cb : Nat) (a b : List Nat) (w : World) (hla : la ≤ 1048576) (hlb : lb ≤ 1048576)
    (ha : Rd w 1 A la (ns .u32 a)) (hb : Rd w 1 B lb (ns .u32 b)) (hda : Big.Dig a) (hdb : Big.Dig b) (hle : Big.val b ≤ Big.val a) :
    Calls Try.prog 38 #[.slice A la ca, .slice B lb cb] w (fun e w' => ∃ (A : Option Addr) (c : Nat) (l : List Nat), e = .returned (.slice A l.length c) ∧ Rd w' 1 A l.length (ns .u32 l) ∧ Big.Dig l ∧ Big.val l = Big.val a - Big.val b ∧ max la lb ≤ l.length ∧ l.length ≤ max la lb ∧ (∀ a, A = some a → w.heap.size ≤ a.block) ∧ Ext w w') := by
  have hal := ha.len
  have hbl := hb.len
  rw [ns_len] at hal hbl
  obtain ⟨M, hM⟩ : ∃ M, M = max la lb := ⟨_, rfl⟩
  rw [← hM]
  have HM := Lib.hid hM
  have hMa : la ≤ M := by omega
  have hMb : lb ≤ M := by omega
  have hMM : M ≤ 1048576 := by omega
  have HAL := Lib.hid hal
  have HBL := Lib.hid hbl
  have HLE := Lib.hid hle
  have KA := Lib.hid (fun i h0 w' hx => at_any A la ca a i w' (ha.ext hx) (by omega) h0)
  have KB := Lib.hid (fun i h0 w' hx => at_any B lb cb b i w' (hb.ext hx) (by omega) h0)
  clear hM hal hbl hle ha hb
  go_enter Try.func38, Try.ntmps38
  go_wp2
  go_loopw [5, 6, 7, 8] (fun vo vc vi _ wr => ∃ (i c : Nat) (C : Option Addr) (cap : Nat) (o : List Nat), vi = .int .i64 i ∧ vc = .int .u32 c ∧ vo = .slice C i cap ∧ c ≤ 1 ∧ o.length = i ∧ Own wr w.heap.size 73 1 C i cap (ns .u32 o) ∧ Big.Dig o ∧
      Big.val o + Big.vl b i = Big.vl a i + c * 65536 ^ i ∧ Ext w wr ∧ i ≤ M) (fun _ _ i _ _ => M - (intOf i).toNat)
  case atStart =>
    refine ⟨0, 0, _, _, [], rfl, rfl, rfl, by omega, rfl, ?_, Big.dig_nil, by simp [Big.vl, Big.val], (Ext.refl w).alloc _, by omega⟩
    exact World.ownsRow_lit (size := 1) w #[] 0 (Nat.le_refl _) (by simp [maxLen]) rfl
  case round =>
    obtain ⟨i, c, C, cap, o, rfl, rfl, rfl, hc, hol, hown, hdo, hv, hx, hi⟩ := hrel
    by_cases h1 : i < M
    · have step := Big.minus_step hc hda hdb hol hv
      have HO := Lib.hid hol
      have da := Big.dig_getD hda i
      have db := Big.dig_getD hdb i
      have ka := KA.out (i : Int) (by omega) wr hx
      have kb := KB.out (i : Int) (by omega) wr hx
      rw [Int.toNat_natCast] at ka kb
      obtain ⟨x, hxx⟩ : ∃ x, a.getD i 0 = x := ⟨_, rfl⟩
      obtain ⟨y, hyy⟩ : ∃ y, b.getD i 0 = y := ⟨_, rfl⟩
      rw [hxx] at ka da step
      rw [hyy] at kb db step
      obtain ⟨s, hs⟩ : ∃ s, x + 65536 - y - c = s := ⟨_, rfl⟩
      rw [hs] at step
      have e1 : (x : Int) + 65536 - (y : Int) - (c : Int) = (s : Int) := by omega
      have e2 := and16_u32 s (by omega)
      have hq : s / 65536 ≤ 1 := by omega
      have e3 : (1 : Int) - (s : Int) / 65536 = ((1 - s / 65536 : Nat) : Int) := by omega
      have K1 := Lib.hid ka
      have K2 := Lib.hid kb
      have HS := Lib.hid step
      have HOR : i < la ∨ i < lb := by have := HM.out; omega
      clear ka kb step hv hol hs hxx hyy
      rcases HOR with h2 | h2
      · go_wp2_with fail
        refine K1.out.mono ?_
        rintro e w' ⟨rfl, rfl⟩
        go_wp2_with fail
        refine K2.out.mono ?_
        rintro e w' ⟨rfl, rfl⟩
        go_wp2_with (at_builtin; refine held ?_)
        refine Held.go (wp_app (m := 1) (news := ns .u32 [s % 65536]) eltBig (hown.alloc _) (Rd.new _ _ _ _) (ns_one _ _) (by omega) (.inr ⟨by omega, by omega⟩) (by simp; have := hx.size; omega) _ _ rfl rfl rfl rfl ?_)
        intro A2 c2 w2 hown2 hg2 _ _
        rw [← ns_append] at hown2
        have hx2 := hg2.ext (hx.alloc _) hown.base_le
        clear hown hg2
        go_wp2_with fail
        go_roundw
        case rel => exact ⟨i + 1, 1 - s / 65536, A2, c2, o ++ [s % 65536], by go_num, rfl, rfl, by omega, by simp [HO.out], hown2, Big.dig_snoc hdo (Nat.mod_lt _ (by omega)), HS.out, hx2, by omega⟩
        case measure => simp [intOf]; omega
      · by_cases h3 : i < la
        all_goals
          go_wp2_with fail
          refine K1.out.mono ?_
          rintro e w' ⟨rfl, rfl⟩
          go_wp2_with fail
          refine K2.out.mono ?_
          rintro e w' ⟨rfl, rfl⟩
          go_wp2_with (at_builtin; refine held ?_)
          refine Held.go (wp_app (m := 1) (news := ns .u32 [s % 65536]) eltBig (hown.alloc _) (Rd.new _ _ _ _) (ns_one _ _) (by omega) (.inr ⟨by omega, by omega⟩) (by simp; have := hx.size; omega) _ _ rfl rfl rfl rfl ?_)
          intro A2 c2 w2 hown2 hg2 _ _
          rw [← ns_append] at hown2
          have hx2 := hg2.ext (hx.alloc _) hown.base_le
          clear hown hg2
          go_wp2_with fail
          go_roundw
          case rel => exact ⟨i + 1, 1 - s / 65536, A2, c2, o ++ [s % 65536], by go_num, rfl, rfl, by omega, by simp [HO.out], hown2, Big.dig_snoc hdo (Nat.mod_lt _ (by omega)), HS.out, hx2, by omega⟩
          case measure => simp [intOf]; omega
    · have hiM : ¬ i < la ∧ ¬ i < lb := by omega
      obtain ⟨g1, g2⟩ := hiM
      have HV := Lib.hid hv
      have HO := Lib.hid hol
      clear hv hol
      go_wp2_with fail
      go_ret
      have hv := HV.out
      have e2 := HO.out
      have hal := HAL.out
      have hbl := HBL.out
      have hle := HLE.out
      have hlt := Big.val_lt hdo
      have hla' := Big.vl_lt hda i
      rw [e2] at hlt
      rw [Big.vl_beyond a i (by omega), Big.vl_beyond b i (by omega)] at hv
      rw [Big.vl_beyond a i (by omega)] at hla'
      have hc0 : c = 0 := by
        rcases (by omega : c = 0 ∨ c = 1) with h | h
        · exact h
        · subst h; omega
      subst hc0
      exact ⟨C, cap, o, by rw [e2]; rfl, by rw [e2]; exact hown.rd, hdo, by omega, by omega, by omega, fun a ea => hown.base_le _ (by rw [ea]; rfl), hx⟩

end Go.Proofs.Ytbclkhkpmdbedaa
