/-
  Package tick: Sum (with math/bits.Add64); the document's Less, Minus, Sum; the statement TickSums, walked.
-/
import Derived.Test.YtbbkkdbgaoidgaaBigWalks2
import Derived.Laws.Externs
import Derived.Laws.Bits64
import Derived.Test.YtbbkkdbgaoidgaaOpen
namespace Go.Proofs.Ytbbkkdbgaoidgaa
open Go.RowKit

/-! ### the document's side -/
set_option maxHeartbeats 800000 in
theorem less_any (A B : Option Addr) (la ca lb cb : Nat) (a b : List Nat) (w : World) (hla : la ≤ 1048576) (hlb : lb ≤ 1048576)
    (ha : Rd w 1 A la (ns .u32 a)) (hb : Rd w 1 B lb (ns .u32 b)) (hda : Big.Dig a) (hdb : Big.Dig b) :
    Calls Try.prog 26 #[.slice A la ca, .slice B lb cb] w fun e w' => e = .returned (.bool (decide (Big.val a < Big.val b))) ∧ w = w' := by
  have hal := ha.len
  have hbl := hb.len
  rw [ns_len] at hal hbl
  obtain ⟨M, hM⟩ : ∃ M : Nat, (if (la : Int) < (lb : Int) then (lb : Int) else (la : Int)) = M := ⟨max la lb, by split <;> omega⟩
  have hMa : la ≤ M := by split at hM <;> omega
  have hMb : lb ≤ M := by split at hM <;> omega
  have hMM : M ≤ 1048576 := by split at hM <;> omega
  have hva := Big.vl_beyond a M (by omega)
  have hvb := Big.vl_beyond b M (by omega)
  have HVA := Lib.hid hva
  have HVB := Lib.hid hvb
  have KA := Lib.hid (fun i h0 => at_any A la ca a i w ha (by omega) h0)
  have KB := Lib.hid (fun i h0 => at_any B lb cb b i w hb (by omega) h0)
  have HDA := Lib.hid hda
  have HDB := Lib.hid hdb
  have hmax : ∀ w, (Builtin.max_ #[3, 3] 3 #[.int .i64 (la : Int), .int .i64 (lb : Int)]).run Try.prog w = .ok (.int .i64 (M : Int)) w := by
    intro w
    rw [run_max_int2, hM]
  clear hal hbl hva hvb hda hdb ha hb hM
  go_enter Try.func26, Try.ntmps26
  go_wp2
  clear hmax
  go_loop [5] (fun vi => ∃ k : Nat, k ≤ M ∧ vi = .int .i64 ((k : Int) - 1) ∧ Hid (∀ j, k ≤ j → j < M → a.getD j 0 = b.getD j 0)) (fun i => (intOf i + 1).toNat)
  case atStart => exact ⟨M, Nat.le_refl _, rfl, fun j h1 h2 => by omega⟩
  case round =>
    obtain ⟨k, hk, rfl, hs⟩ := hrel
    by_cases h1 : 1 ≤ k
    · obtain ⟨i, rfl⟩ : ∃ i, k = i + 1 := ⟨k - 1, by omega⟩
      have ei : (((i + 1 : Nat) : Int) - 1) = (i : Int) := by omega
      rw [ei]
      have ka := fun w' (hw : w = w') => KA.out (i : Int) (by omega)
      have kb := fun w' (hw : w = w') => KB.out (i : Int) (by omega)
      rw [Int.toNat_natCast] at ka kb
      have da := Big.dig_getD HDA.out i
      have db := Big.dig_getD HDB.out i
      obtain ⟨x, hx⟩ : ∃ x, a.getD i 0 = x := ⟨_, rfl⟩
      obtain ⟨y, hy⟩ : ∃ y, b.getD i 0 = y := ⟨_, rfl⟩
      rw [hx] at ka da
      rw [hy] at kb db
      have K1 := Lib.hid ka
      have K2 := Lib.hid kb
      have HX := Lib.hid hx
      have HY := Lib.hid hy
      clear ka kb hx hy ei
      by_cases h2 : x = y
      · subst h2
        go_wp2_with fail
        refine (K1.out _ rfl).mono ?_
        rintro e w' ⟨rfl, rfl⟩
        go_wp2_with fail
        refine (K2.out _ rfl).mono ?_
        rintro e w' ⟨rfl, rfl⟩
        go_wp2_with fail
        go_round
        case rel =>
          refine ⟨i, by omega, rfl, fun j h3 h4 => ?_⟩
          by_cases h5 : j = i
          · subst h5; rw [HX.out, HY.out]
          · exact hs.out j (by omega) h4
        case measure => simp [intOf]
      · have h3 : ((x : Int) == (y : Int)) = false := by simp; omega
        have hres : decide (Big.val a < Big.val b) = decide (x < y) := by
          rw [← HVA.out, ← HVB.out]
          by_cases h4 : x < y
          · have := Big.less_at HDA.out (n := M) (i := i) (by omega) (fun j g1 g2 => hs.out j (by omega) g2) (by rw [HX.out, HY.out]; exact h4)
            simp [h4, this]
          · have := Big.less_at HDB.out (n := M) (i := i) (by omega) (fun j g1 g2 => (hs.out j (by omega) g2).symm) (by rw [HX.out, HY.out]; omega)
            rw [decide_eq_false (show ¬ Big.vl a M < Big.vl b M by omega), decide_eq_false h4]
        have HRES := Lib.hid hres
        clear hres h2
        go_wp2_with fail
        refine (K1.out _ rfl).mono ?_
        rintro e w' ⟨rfl, rfl⟩
        go_wp2_with fail
        refine (K2.out _ rfl).mono ?_
        rintro e w' ⟨rfl, rfl⟩
        go_wp2_with fail
        refine (K1.out _ rfl).mono ?_
        rintro e w' ⟨rfl, rfl⟩
        go_wp2_with fail
        refine (K2.out _ rfl).mono ?_
        rintro e w' ⟨rfl, rfl⟩
        go_wp2_with fail
        go_ret
        refine ⟨?_, rfl⟩
        rw [HRES.out]
        simp
    · obtain rfl : k = 0 := by omega
      have hres : decide (Big.val a < Big.val b) = false := by
        rw [← HVA.out, ← HVB.out, Big.same_all fun j hj => hs.out j (by omega) hj]
        simp
      have HRES := Lib.hid hres
      clear hres
      go_wp2_with fail
      go_ret
      exact ⟨by rw [HRES.out]; rfl, rfl⟩

set_option maxHeartbeats 1000000 in
theorem minus_any (A B : Option Addr) (la ca lb cb : Nat) (a b : List Nat) (w : World) (hla : la ≤ 1048576) (hlb : lb ≤ 1048576)
    (ha : Rd w 1 A la (ns .u32 a)) (hb : Rd w 1 B lb (ns .u32 b)) (hda : Big.Dig a) (hdb : Big.Dig b) (hle : Big.val b ≤ Big.val a) :
    Calls Try.prog 27 #[.slice A la ca, .slice B lb cb] w (BigIs (Big.val a - Big.val b) (max la lb) w) := by
  have hal := ha.len
  have hbl := hb.len
  rw [ns_len] at hal hbl
  obtain ⟨M, hM⟩ : ∃ M, M = max la lb := ⟨_, rfl⟩
  rw [← hM]
  have HM := Lib.hid hM
  have hMa : la ≤ M := by omega
  have hMb : lb ≤ M := by omega
  have hMM : M ≤ 1048576 := by omega
  have HAL := Lib.hid hal
  have HBL := Lib.hid hbl
  have HLE := Lib.hid hle
  have KA := Lib.hid (fun i h0 w' hx => at_any A la ca a i w' (ha.ext hx) (by omega) h0)
  have KB := Lib.hid (fun i h0 w' hx => at_any B lb cb b i w' (hb.ext hx) (by omega) h0)
  clear hM hal hbl hle ha hb
  go_enter Try.func27, Try.ntmps27
  go_wp2
  go_loopw [5, 6, 7, 8] (fun vo vc vi _ wr => ∃ (i c : Nat) (C : Option Addr) (cap : Nat) (o : List Nat), vi = .int .i64 i ∧ vc = .int .u32 c ∧ vo = .slice C i cap ∧ c ≤ 1 ∧ o.length = i ∧ Own wr w.heap.size 47 1 C i cap (ns .u32 o) ∧ Big.Dig o ∧
      Big.val o + Big.vl b i = Big.vl a i + c * 65536 ^ i ∧ Ext w wr ∧ i ≤ M) (fun _ _ i _ _ => M - (intOf i).toNat)
  case atStart =>
    refine ⟨0, 0, _, _, [], rfl, rfl, rfl, by omega, rfl, ?_, Big.dig_nil, by simp [Big.vl, Big.val], (Ext.refl w).alloc _, by omega⟩
    exact World.ownsRow_lit (size := 1) w #[] 0 (Nat.le_refl _) (by simp [maxLen]) rfl
  case round =>
    obtain ⟨i, c, C, cap, o, rfl, rfl, rfl, hc, hol, hown, hdo, hv, hx, hi⟩ := hrel
    by_cases h1 : i < M
    · have step := Big.minus_step hc hda hdb hol hv
      have HO := Lib.hid hol
      have da := Big.dig_getD hda i
      have db := Big.dig_getD hdb i
      have ka := KA.out (i : Int) (by omega) wr hx
      have kb := KB.out (i : Int) (by omega) wr hx
      rw [Int.toNat_natCast] at ka kb
      obtain ⟨x, hxx⟩ : ∃ x, a.getD i 0 = x := ⟨_, rfl⟩
      obtain ⟨y, hyy⟩ : ∃ y, b.getD i 0 = y := ⟨_, rfl⟩
      rw [hxx] at ka da step
      rw [hyy] at kb db step
      obtain ⟨s, hs⟩ : ∃ s, x + 65536 - y - c = s := ⟨_, rfl⟩
      rw [hs] at step
      have e1 : (x : Int) + 65536 - (y : Int) - (c : Int) = (s : Int) := by omega
      have e2 := and16_u32 s (by omega)
      have hq : s / 65536 ≤ 1 := by omega
      have e3 : (1 : Int) - (s : Int) / 65536 = ((1 - s / 65536 : Nat) : Int) := by omega
      have K1 := Lib.hid ka
      have K2 := Lib.hid kb
      have HS := Lib.hid step
      have HOR : i < la ∨ i < lb := by have := HM.out; omega
      clear ka kb step hv hol hs hxx hyy
      rcases HOR with h2 | h2
      · go_wp2_with fail
        refine K1.out.mono ?_
        rintro e w' ⟨rfl, rfl⟩
        go_wp2_with fail
        refine K2.out.mono ?_
        rintro e w' ⟨rfl, rfl⟩
        go_wp2_with (at_builtin; refine held ?_)
        refine Held.go (wp_app (m := 1) (news := ns .u32 [s % 65536]) eltBig (hown.alloc _) (Rd.new _ _ _ _) (ns_one _ _) (by omega) (.inr ⟨by omega, by omega⟩) (by simp; have := hx.size; omega) _ _ rfl rfl rfl rfl ?_)
        intro A2 c2 w2 hown2 hg2 _ _
        rw [← ns_append] at hown2
        have hx2 := hg2.ext (hx.alloc _) hown.base_le
        clear hown hg2
        go_wp2_with fail
        go_roundw
        case rel => exact ⟨i + 1, 1 - s / 65536, A2, c2, o ++ [s % 65536], by go_num, rfl, rfl, by omega, by simp [HO.out], hown2, Big.dig_snoc hdo (Nat.mod_lt _ (by omega)), HS.out, hx2, by omega⟩
        case measure => simp [intOf]; omega
      · by_cases h3 : i < la
        all_goals
          go_wp2_with fail
          refine K1.out.mono ?_
          rintro e w' ⟨rfl, rfl⟩
          go_wp2_with fail
          refine K2.out.mono ?_
          rintro e w' ⟨rfl, rfl⟩
          go_wp2_with (at_builtin; refine held ?_)
          refine Held.go (wp_app (m := 1) (news := ns .u32 [s % 65536]) eltBig (hown.alloc _) (Rd.new _ _ _ _) (ns_one _ _) (by omega) (.inr ⟨by omega, by omega⟩) (by simp; have := hx.size; omega) _ _ rfl rfl rfl rfl ?_)
          intro A2 c2 w2 hown2 hg2 _ _
          rw [← ns_append] at hown2
          have hx2 := hg2.ext (hx.alloc _) hown.base_le
          clear hown hg2
          go_wp2_with fail
          go_roundw
          case rel => exact ⟨i + 1, 1 - s / 65536, A2, c2, o ++ [s % 65536], by go_num, rfl, rfl, by omega, by simp [HO.out], hown2, Big.dig_snoc hdo (Nat.mod_lt _ (by omega)), HS.out, hx2, by omega⟩
          case measure => simp [intOf]; omega
    · have hiM : ¬ i < la ∧ ¬ i < lb := by omega
      obtain ⟨g1, g2⟩ := hiM
      have HV := Lib.hid hv
      have HO := Lib.hid hol
      clear hv hol
      go_wp2_with fail
      go_ret
      have hv := HV.out
      have e2 := HO.out
      have hal := HAL.out
      have hbl := HBL.out
      have hle := HLE.out
      have hlt := Big.val_lt hdo
      have hla' := Big.vl_lt hda i
      rw [e2] at hlt
      rw [Big.vl_beyond a i (by omega), Big.vl_beyond b i (by omega)] at hv
      rw [Big.vl_beyond a i (by omega)] at hla'
      have hc0 : c = 0 := by
        rcases (by omega : c = 0 ∨ c = 1) with h | h
        · exact h
        · subst h; omega
      subst hc0
      exact ⟨C, cap, o, by rw [e2]; rfl, by rw [e2]; exact hown.rd, hdo, by omega, by omega, hx⟩

/-! ### the program's Sum: a word's low part and its carries -/
theorem add64_run (x y : Int) (w : World) (hx : 0 ≤ x) (hy : 0 ≤ y) :
    (callFunc 24 #[.int .u64 x, .int .u64 y, .int .u64 0]).run Try.prog w = .ok (.value (.tuple #[.int .u64 ((x + y) % 18446744073709551616), .int .u64 ((x + y) / 18446744073709551616)])) w := by
  rw [run_callFunc_extern Try.func24 (by kernel_rfl) (by kernel_rfl) (by kernel_rfl) (e := add64Entry) (by kernel_rfl), run_add64 x y 0 hx hy (by omega) (by omega)]
  simp only [Result.andThen, Int.add_zero]

/-- The sum of a list, of its first k. -/
def sm (l : List Int) (k : Nat) : Int := (l.take k).sum
theorem sm_succ {l : List Int} {k : Nat} {x : Int} (h : l[k]? = some x) : sm l (k + 1) = sm l k + x := by
  unfold sm; rw [take_succ' h, List.sum_append]; simp
theorem sm_bound {l : List Int} (h : Fits64 l) (k : Nat) : -(9223372036854775808 * (k : Int)) ≤ sm l k ∧ sm l k ≤ 9223372036854775808 * (k : Int) := by
  induction k with
  | zero => simp [sm]
  | succ k ih =>
    by_cases hk : k < l.length
    · have hx := h l[k] (List.getElem_mem hk)
      rw [sm_succ (List.getElem?_eq_getElem hk)]
      omega
    · have : sm l (k + 1) = sm l k := by unfold sm; rw [List.take_of_length_le (by omega), List.take_of_length_le (by omega)]
      omega

/-- One int of a slice that reads as a list of ints. -/
theorem Rd.int {w : World} {A : Option Addr} {n k : Nat} {l : List Int} (h : Rd w 1 A n (ints l)) (hk : k < n) :
    ∃ ad x, A = some ad ∧ Hid (l[k]? = some x) ∧ w.cell? (ad.add k) = some (.int .i64 x) := by
  obtain ⟨ad, e, _, hc⟩ := h.at_ hk
  have hl : k < l.length := by have := h.len; rw [ints_len] at this; omega
  refine ⟨ad, l[k], e, List.getElem?_eq_getElem hl, hc k _ ?_⟩
  simp [ints, hl]

/-- The invariant of the program's Sum: the sum, as a low word and a count of carries. -/
theorem carry_step {S lo hi x : Int} (hlo : lo = S % 18446744073709551616) (hhi : hi = S / 18446744073709551616 % 18446744073709551616) (hx : I64 x) :
    ((lo + x % 18446744073709551616) % 18446744073709551616 = (S + x) % 18446744073709551616) ∧
    (hi + ((lo + x % 18446744073709551616) / 18446744073709551616 + x / 9223372036854775808 % 18446744073709551616) % 18446744073709551616) % 18446744073709551616 = (S + x) / 18446744073709551616 % 18446744073709551616 := by
  unfold I64 at hx
  obtain ⟨q, hq⟩ : ∃ q, S / 18446744073709551616 = q := ⟨_, rfl⟩
  have e1 : (S + x) / 18446744073709551616 = q + (lo + x) / 18446744073709551616 := by omega
  refine ⟨by omega, ?_⟩
  rw [e1, hhi, hq]
  have l1 : 0 ≤ lo := by omega
  have l2 : lo < 18446744073709551616 := by omega
  clear e1 hhi hlo hq
  by_cases h : x < 0
  · have h1 : x / 9223372036854775808 = -1 := by omega
    have h2 : x % 18446744073709551616 = x + 18446744073709551616 := by omega
    rw [h1, h2]
    have h3 : (lo + (x + 18446744073709551616)) / 18446744073709551616 = (lo + x) / 18446744073709551616 + 1 := by omega
    rw [h3]
    omega
  · have h1 : x / 9223372036854775808 = 0 := by omega
    have h2 : x % 18446744073709551616 = x := by omega
    rw [h1, h2]
    omega

set_option maxHeartbeats 800000 in
theorem sum_any (A : Option Addr) (n c : Nat) (l : List Int) (w : World) (hn : n * 8 ≤ 140737488351232) (hr : Rd w 1 A n (ints l)) (hl : Fits64 l) :
    Calls Try.prog 12 #[.slice A n c] w fun e w' => e = Pair (okV (sm l n)) (okB (sm l n)) ∧ w = w' := by
  have HB := Lib.hid (sm_bound hl n)
  have HL := Lib.hid hl
  obtain ⟨V, hV⟩ : ∃ V, okV (sm l n) = V := ⟨_, rfl⟩
  obtain ⟨O, hO⟩ : ∃ O, okB (sm l n) = O := ⟨_, rfl⟩
  rw [hV, hO]
  have HV := Lib.hid hV
  have HO := Lib.hid hO
  clear hV hO
  go_enter Try.func12, Try.ntmps12
  go_wp2
  go_loop [4, 5, 7, 8, 12, 16] (fun vh vl _ _ vi _ => ∃ (k : Nat) (hi lo : Int), k ≤ n ∧ vi = .int .i64 k ∧ vh = .int .u64 hi ∧ vl = .int .u64 lo ∧ Hid (lo = sm l k % 18446744073709551616) ∧ Hid (hi = sm l k / 18446744073709551616 % 18446744073709551616)) (fun _ _ _ _ i _ => n - (intOf i).toNat)
  case atStart => exact ⟨0, 0, 0, by omega, rfl, rfl, rfl, by simp [Hid, sm], by simp [Hid, sm]⟩
  case round =>
    obtain ⟨k, hi, lo, hk, rfl, rfl, rfl, hlo, hhi⟩ := hrel
    have l1 : 0 ≤ lo := by have := hlo.out; omega
    have l2 : lo < 18446744073709551616 := by have := hlo.out; omega
    have i1 : 0 ≤ hi := by have := hhi.out; omega
    have i2 : hi < 18446744073709551616 := by have := hhi.out; omega
    by_cases h1 : k < n
    · obtain ⟨ad, x, rfl, hx, hc⟩ := hr.int h1
      have hx1 := HL.out x (mem_of_at hx.out)
      obtain ⟨s1, s2⟩ := carry_step hlo.out hhi.out hx1
      obtain ⟨x1, x2⟩ := hx1
      rw [← IntKind.wrap_u64 x, ← IntKind.wrap_u64 (x / 9223372036854775808)] at s2
      rw [← IntKind.wrap_u64 x] at s1
      have y1 : 0 ≤ IntKind.u64.wrap x := by rw [IntKind.wrap_u64]; omega
      have y2 : IntKind.u64.wrap x < 18446744073709551616 := by rw [IntKind.wrap_u64]; omega
      obtain ⟨y, hy⟩ : ∃ y, IntKind.u64.wrap x = y := ⟨_, rfl⟩
      obtain ⟨z, hz⟩ : ∃ z, IntKind.u64.wrap (x / 9223372036854775808) = z := ⟨_, rfl⟩
      rw [hy] at s1 s2 y1 y2
      rw [hz, ← IntKind.wrap_u64 (_ + z), ← IntKind.wrap_u64 (hi + _)] at s2
      obtain ⟨s, hs⟩ : ∃ s, IntKind.u64.wrap ((lo + y) / 18446744073709551616 + z) = s := ⟨_, rfl⟩
      rw [hs] at s2
      have S1 := Lib.hid s1
      have S2 := Lib.hid s2
      have AD := Lib.hid (fun w => add64_run lo y w l1 y1)
      clear s1 s2 hl hr
      go_wp2_with (simp only [AD.out])
      go_round
      case rel => exact ⟨k + 1, _, _, by omega, by go_num, rfl, rfl, by rw [sm_succ hx.out]; exact S1.out, by rw [sm_succ hx.out]; exact S2.out⟩
      case measure => simp [intOf]; omega
    · obtain rfl : k = n := by omega
      have hb := HB.out
      have hlo' := hlo.out
      have hhi' := hhi.out
      have hv' := HV.out
      have ho' := HO.out
      clear hl hr HV HO
      generalize sm l k = S at *
      by_cases h2 : lo < 9223372036854775808
      · have w1 : wrap64 lo = lo := by unfold wrap64; omega
        have w2 : lo / 9223372036854775808 = 0 := by omega
        by_cases h3 : hi = 0
        · have r1 : S = lo := by omega
          subst h3
          rw [okV_yes (by omega)] at hv'
          rw [okB_yes (by omega)] at ho'
          subst ho'
          obtain rfl : V = lo := by omega
          clear HB hb hlo' hhi' r1 hlo hhi hv'
          go_wp2
          go_ret2
          exact ⟨rfl, rfl⟩
        · have h3' : (hi == 0) = false := by simp [h3]
          rw [okV_no (by omega)] at hv'
          rw [okB_no (by omega)] at ho'
          subst hv'
          subst ho'
          clear HB hb hlo' hhi' hlo hhi h3
          go_wp2
          go_ret2
          exact ⟨rfl, rfl⟩
      · obtain ⟨v, hv⟩ : ∃ v, lo - 18446744073709551616 = v := ⟨_, rfl⟩
        have w1 : wrap64 lo = v := by unfold wrap64; omega
        have w2 : v / 9223372036854775808 = -1 := by omega
        by_cases h3 : hi = 18446744073709551615
        · have r1 : S = v := by omega
          have h3' : (hi == IntKind.u64.wrap (-1)) = true := by rw [IntKind.wrap_u64]; simp [h3]
          rw [okV_yes (by omega)] at hv'
          rw [okB_yes (by omega)] at ho'
          subst ho'
          obtain rfl : V = v := by omega
          clear HB hb hlo' hhi' r1 hlo hhi hv h3 hv'
          go_wp2
          go_ret2
          exact ⟨rfl, rfl⟩
        · have h3' : (hi == IntKind.u64.wrap (-1)) = false := by rw [IntKind.wrap_u64]; simp [h3]
          rw [okV_no (by omega)] at hv'
          rw [okB_no (by omega)] at ho'
          subst hv'
          subst ho'
          clear HB hb hlo' hhi' hlo hhi h3 hv
          go_wp2
          go_ret2
          exact ⟨rfl, rfl⟩

/-! ### the document's Sum -/
/-- The sums of the positive ones, and of the amounts of the negative ones, of the first k. -/
def ups (l : List Int) (k : Nat) : Nat := ((l.take k).map fun x => if x < 0 then 0 else x.natAbs).sum
def dns (l : List Int) (k : Nat) : Nat := ((l.take k).map fun x => if x < 0 then x.natAbs else 0).sum
theorem ups_succ {l : List Int} {k : Nat} {x : Int} (h : l[k]? = some x) : ups l (k + 1) = ups l k + (if x < 0 then 0 else x.natAbs) := by
  unfold ups; rw [take_succ' h, List.map_append, List.sum_append]; simp
theorem dns_succ {l : List Int} {k : Nat} {x : Int} (h : l[k]? = some x) : dns l (k + 1) = dns l k + (if x < 0 then x.natAbs else 0) := by
  unfold dns; rw [take_succ' h, List.map_append, List.sum_append]; simp
theorem sm_ups (l : List Int) (k : Nat) : sm l k = (ups l k : Int) - (dns l k : Int) := by
  induction k with
  | zero => simp [sm, ups, dns]
  | succ k ih =>
    by_cases hk : k < l.length
    · have h := List.getElem?_eq_getElem hk
      rw [sm_succ h, ups_succ h, dns_succ h, ih]
      split <;> omega
    · have e : l.take (k + 1) = l.take k := by rw [List.take_of_length_le (by omega), List.take_of_length_le (by omega)]
      unfold sm ups dns at *
      rw [e]
      exact ih
theorem ups_bound {l : List Int} (h : Fits64 l) (k : Nat) : ups l k ≤ 9223372036854775808 * k ∧ dns l k ≤ 9223372036854775808 * k := by
  induction k with
  | zero => simp [ups, dns]
  | succ k ih =>
    by_cases hk : k < l.length
    · have hx := h l[k] (List.getElem_mem hk)
      have h := List.getElem?_eq_getElem hk
      rw [ups_succ h, dns_succ h]
      split <;> omega
    · have e : l.take (k + 1) = l.take k := by rw [List.take_of_length_le (by omega), List.take_of_length_le (by omega)]
      unfold ups dns at *
      rw [e]
      omega

/-- A number of digits that is no longer than its value wants. -/
def Tight (l : List Nat) : Prop := l.length ≤ 4 ∨ 65536 ^ (l.length - 1) ≤ Big.val l
theorem tight_plus {l o : List Nat} {M : Nat} (hM : M = max l.length 4) (ht : Tight l) (hv : Big.val l ≤ Big.val o) (h : o.length ≤ M ∨ o.length = M + 1 ∧ 65536 ^ M ≤ Big.val o) : Tight o := by
  rcases h with h | ⟨h, h'⟩
  · by_cases h4 : o.length ≤ 4
    · exact .inl h4
    · rcases ht with ht | ht
      · omega
      · right
        have : 65536 ^ (o.length - 1) ≤ 65536 ^ (l.length - 1) := Nat.pow_le_pow_right (by omega) (by omega)
        omega
  · right
    rw [h, Nat.add_sub_cancel]
    exact h'
theorem tight_len {l : List Nat} (ht : Tight l) (hv : Big.val l ≤ 9223372036854775808 * 17592186044416) : l.length ≤ 8 := by
  rcases ht with ht | ht
  · omega
  · refine Nat.le_of_not_lt fun h => ?_
    have h1 : 65536 ^ 8 ≤ 65536 ^ (l.length - 1) := Nat.pow_le_pow_right (by omega) (by omega)
    have h2 : 9223372036854775808 * 17592186044416 < 65536 ^ 8 := by decide
    omega

set_option maxHeartbeats 1600000 in
theorem rsum_any (A : Option Addr) (n c : Nat) (l : List Int) (w : World) (hn : n * 8 ≤ 140737488351232) (hr : Rd w 1 A n (ints l)) (hl : Fits64 l) :
    Calls Try.prog 14 #[.slice A n c] w fun e w' => e = Pair (okV (sm l n)) (okB (sm l n)) ∧ Ext w w' := by
  have HL := Lib.hid hl
  have HB := Lib.hid (ups_bound hl)
  have HS := Lib.hid (sm_ups l n)
  obtain ⟨V, hV⟩ : ∃ V, okV (sm l n) = V := ⟨_, rfl⟩
  obtain ⟨O, hO⟩ : ∃ O, okB (sm l n) = O := ⟨_, rfl⟩
  rw [hV, hO]
  have HV := Lib.hid hV
  have HO := Lib.hid hO
  clear hV hO hl
  go_enter Try.func14, Try.ntmps14
  go_wp2
  go_loopw [4, 5, 7, 12] (fun vu vd _ vi wr => ∃ (k : Nat) (U D : Option Addr) (cu cd : Nat) (u d : List Nat), k ≤ n ∧ vi = .int .i64 k ∧ vu = .slice U u.length cu ∧ vd = .slice D d.length cd ∧ Rd wr 1 U u.length (ns .u32 u) ∧ Rd wr 1 D d.length (ns .u32 d) ∧
      Big.Dig u ∧ Big.Dig d ∧ Hid (Big.val u = ups l k) ∧ Hid (Big.val d = dns l k) ∧ Tight u ∧ Tight d ∧ Ext w wr) (fun _ _ _ i _ => n - (intOf i).toNat)
  case atStart =>
    exact ⟨0, _, _, 0, 0, [], [], by omega, rfl, rfl, rfl, Rd.nil_, Rd.nil_, Big.dig_nil, Big.dig_nil, by simp [Hid, ups, Big.val, Big.vl], by simp [Hid, dns, Big.val, Big.vl], .inl (by simp), .inl (by simp), ((Ext.refl w).alloc _).alloc _⟩
  case round =>
    obtain ⟨k, U, D, cu, cd, u, d, hk, rfl, rfl, rfl, hru, hrd, hdu, hdd, hvu, hvd, htu, htd, hx⟩ := hrel
    have hb := HB.out k
    have lu := tight_len htu (by rw [hvu.out]; omega)
    have ld := tight_len htd (by rw [hvd.out]; omega)
    clear hb
    by_cases h1 : k < n
    · obtain ⟨ad, x, rfl, hxk, hc⟩ := (hr.ext hx).int h1
      have hx1 := HL.out x (mem_of_at hxk.out)
      clear hr
      by_cases h2 : x < 0
      · go_wp2_with fail
        refine (amount_any x _ hx1).mono ?_
        rintro e w1 ⟨rfl, rfl⟩
        go_wp2_with fail
        refine (of_any4 x.natAbs _ (by omega)).mono ?_
        rintro e w1 ⟨rfl, hr1, hx2⟩
        have HV1 := Lib.hid (Big.of_val x.natAbs)
        have hd1 := Big.of_dig x.natAbs (by omega)
        generalize hA1 : (some ⟨wr.heap.size, 0, none⟩ : Option Addr) = A1 at *
        generalize Big.of x.natAbs = l1 at *
        clear hA1
        go_wp2_with fail
        refine (plus_any D A1 d.length cd 4 4 d l1 _ (by omega) (by omega) (hrd.ext hx2) hr1 hdd hd1).mono ?_
        rintro e w2 ⟨A2, c2, l2, rfl, hr2, hd2, hv2, hn2, hx3⟩
        have HV2 := Lib.hid hv2
        clear hv2
        go_wp2_with fail
        go_roundw
        case rel =>
          have e1 : Big.val l2 = dns l (k + 1) := by rw [HV2.out, dns_succ hxk.out, if_pos h2, hvd.out, HV1.out]
          have e2 : ups l (k + 1) = ups l k := by rw [ups_succ hxk.out, if_pos h2, Nat.add_zero]
          exact ⟨k + 1, U, A2, cu, c2, u, l2, by omega, by go_num, rfl, rfl, hru.ext (hx2.trans hx3), hr2, hdu, hd2, by rw [e2]; exact hvu, e1, htu, tight_plus rfl htd (by rw [HV2.out]; omega) hn2, hx.trans (hx2.trans hx3)⟩
        case measure => simp [intOf]; omega
      · go_wp2_with fail
        refine (amount_any x _ hx1).mono ?_
        rintro e w1 ⟨rfl, rfl⟩
        go_wp2_with fail
        refine (of_any4 x.natAbs _ (by omega)).mono ?_
        rintro e w1 ⟨rfl, hr1, hx2⟩
        have HV1 := Lib.hid (Big.of_val x.natAbs)
        have hd1 := Big.of_dig x.natAbs (by omega)
        generalize hA1 : (some ⟨wr.heap.size, 0, none⟩ : Option Addr) = A1 at *
        generalize Big.of x.natAbs = l1 at *
        clear hA1
        go_wp2_with fail
        refine (plus_any U A1 u.length cu 4 4 u l1 _ (by omega) (by omega) (hru.ext hx2) hr1 hdu hd1).mono ?_
        rintro e w2 ⟨A2, c2, l2, rfl, hr2, hd2, hv2, hn2, hx3⟩
        have HV2 := Lib.hid hv2
        clear hv2
        go_wp2_with fail
        go_roundw
        case rel =>
          have e1 : Big.val l2 = ups l (k + 1) := by rw [HV2.out, ups_succ hxk.out, if_neg (show ¬ x < 0 by omega), hvu.out, HV1.out]
          have e2 : dns l (k + 1) = dns l k := by rw [dns_succ hxk.out, if_neg (show ¬ x < 0 by omega), Nat.add_zero]
          exact ⟨k + 1, A2, D, c2, cd, l2, d, by omega, by go_num, rfl, rfl, hr2, hrd.ext (hx2.trans hx3), hd2, hdd, e1, by rw [e2]; exact hvd, tight_plus rfl htu (by rw [HV2.out]; omega) hn2, htd, hx.trans (hx2.trans hx3)⟩
        case measure => simp [intOf]; omega
    · obtain rfl : k = n := by omega
      clear hr
      have hs := HS.out
      rw [← hvu.out, ← hvd.out] at hs
      go_wp2_with fail
      refine (less_any U D u.length cu d.length cd u d _ (by omega) (by omega) hru hrd hdu hdd).mono ?_
      rintro e w1 ⟨rfl, rfl⟩
      by_cases h2 : Big.val u < Big.val d
      · have h3 : decide (Big.val u < Big.val d) = true := by simp [h2]
        rw [h3]
        have e1 : -((Big.val d - Big.val u : Nat) : Int) = sm l k := by omega
        have E1 := Lib.hid e1
        have HLE : Hid (Big.val u ≤ Big.val d) := Nat.le_of_lt h2
        clear e1 h3 hs h2
        go_wp2_with fail
        refine (minus_any D U d.length cd u.length cu d u _ (by omega) (by omega) hrd hru hdd hdu HLE.out).mono ?_
        rintro e w2 ⟨A2, c2, l2, rfl, hr2, hd2, hv2, hn2, hx3⟩
        have HV2 := Lib.hid hv2
        clear hv2
        go_wp2_with fail
        refine (whole_neg A2 l2.length c2 l2 _ hr2 (by omega) hd2).mono ?_
        rintro e w3 ⟨rfl, rfl⟩
        rw [HV2.out, E1.out, HV.out, HO.out]
        unfold Pair
        go_wp2_with fail
        go_ret2
        exact ⟨rfl, hx.trans hx3⟩
      · have h3 : decide (Big.val u < Big.val d) = false := by simp [h2]
        rw [h3]
        have e1 : ((Big.val u - Big.val d : Nat) : Int) = sm l k := by omega
        have E1 := Lib.hid e1
        have HLE : Hid (Big.val d ≤ Big.val u) := Nat.le_of_not_lt h2
        clear e1 h3 hs h2
        go_wp2_with fail
        refine (minus_any U D u.length cu d.length cd u d _ (by omega) (by omega) hru hrd hdu hdd HLE.out).mono ?_
        rintro e w2 ⟨A2, c2, l2, rfl, hr2, hd2, hv2, hn2, hx3⟩
        have HV2 := Lib.hid hv2
        clear hv2
        go_wp2_with fail
        refine (whole_pos A2 l2.length c2 l2 _ hr2 (by omega) hd2).mono ?_
        rintro e w3 ⟨rfl, rfl⟩
        rw [HV2.out, E1.out, HV.out, HO.out]
        unfold Pair
        go_wp2_with fail
        go_ret2
        exact ⟨rfl, hx.trans hx3⟩
end Go.Proofs.Ytbbkkdbgaoidgaa
