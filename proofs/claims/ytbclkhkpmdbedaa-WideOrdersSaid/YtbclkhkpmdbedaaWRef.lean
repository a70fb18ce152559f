/-
  The document's layer 2: Of, Back, walked.
-/
import Derived.Test.YtbclkhkpmdbedaaWAgainst
import Derived.Test.YtbclkhkpmdbedaaWBig
import Derived.Test.YtbclkhkpmdbedaaWPlain
import Derived.Deep.RegionHeld3
import Derived.Deep.AppendLies
namespace Go.Proofs.Ytbclkhkpmdbedaa
open Go.RowKit
set_option linter.unusedVariables false
theorem infoU32 : (Try.prog.info? 73).map (fun i => (i.zero, i.size, i.bytes)) = some (some (.int .u32 0), 1, 4) := by kernel_rfl
/-- The eight digits of two words. -/
def of2 (h l : Nat) : List Nat := Big.of l ++ Big.of h
theorem of2_len (h l : Nat) : (of2 h l).length = 8 := rfl
theorem of2_dig {h l : Nat} (hh : h < 18446744073709551616) (hl : l < 18446744073709551616) : Big.Dig (of2 h l) := Big.dig_append (Big.of_dig l hl) (Big.of_dig h hh)
theorem of2_val (h l : Nat) : Big.val (of2 h l) = N2 h l := by
  unfold of2 N2
  rw [Big.val_append, Big.of_val, Big.of_val]
  have : (65536 : Nat) ^ (Big.of l).length = 18446744073709551616 := by show (65536 : Nat) ^ 4 = _; decide
  rw [this]
  omega
theorem own_cells {w : World} {base n c g : Nat} {e : TypeId} {size : Nat} {xs : List Value} (h : Own w base e size (some ⟨g, 0, none⟩) n c xs) : ∀ j u, xs[j]? = some u → w.cell? ((⟨g, 0, none⟩ : Addr).add j) = some u := World.ownsRow.cells h rfl
set_option maxHeartbeats 400000 in
theorem of_own (n : Nat) (w : World) (h : n < 18446744073709551616) :
    Calls Try.prog 34 #[.int .u64 (n : Int)] w fun e w' => e = .returned (.slice (some ⟨w.heap.size, 0, none⟩) 4 4) ∧ Own w' w.heap.size 73 1 (some ⟨w.heap.size, 0, none⟩) 4 4 (ns .u32 (Big.of n)) ∧ Ext w w' := by
  have e1 := and16_u64 n h
  have e2 : Go.bits .and .u64 ((n : Int) / 65536) 65535 = ((n / 65536 % 65536 : Nat) : Int) := and16_u64 (n / 65536) (by omega)
  have e3 : Go.bits .and .u64 ((n : Int) / 4294967296) 65535 = ((n / 4294967296 % 65536 : Nat) : Int) := and16_u64 (n / 4294967296) (by omega)
  go_enter Try.func34, Try.ntmps34
  go_wp2
  go_ret
  exact ⟨rfl, World.ownsRow_lit (base := w.heap.size) (e := 73) (size := 1) w _ 4 (Nat.le_refl _) (by simp [maxLen]) rfl, (Ext.refl w).alloc _⟩
set_option maxRecDepth 100000 in
set_option maxHeartbeats 3200000 in
theorem ofw_any (h l : Nat) (w : World) (hh : h < 18446744073709551616) (hl : l < 18446744073709551616) :
    Calls Try.prog 33 #[wv h l] w fun e w' => ∃ A c, e = .returned (.slice A 8 c) ∧ Rd w' 1 A 8 (ns .u32 (of2 h l)) ∧ Ext w w' := by
  obtain ⟨i0, hi0, hz0, hz1, hz2⟩ := info_parts infoU32
  have L1 := Lib.hid (fun w => of_own l w hl)
  have L2 := Lib.hid (fun w => of_own h w hh)
  unfold wv
  go_enter Try.func33, Try.ntmps33
  go_wp2_with fail
  obtain ⟨c0, c1, hlt⟩ := box2 (Ext.refl (w.alloc (.cells #[.int .u64 (h : Int), .int .u64 (l : Int)] 24)))
  have hw := (Ext.refl w).alloc (.cells #[.int .u64 (h : Int), .int .u64 (l : Int)] 24)
  have B2 := Lib.hid (fun W (hx : Ext (w.alloc (.cells #[.int .u64 (h : Int), .int .u64 (l : Int)] 24)) W) => box2 hx)
  generalize hB : w.alloc (.cells #[.int .u64 (h : Int), .int .u64 (l : Int)] 24) = B at *
  have x0 := Ext.refl B
  clear hB
  go_region_held3 (fun w' => w'.cell? ⟨w.heap.size, 0, none⟩ = some (.int .u64 (h : Int)) ∧ w'.cell? ⟨w.heap.size, 1, none⟩ = some (.int .u64 (l : Int)) ∧ Ext B w')
    (first | (refine ⟨?_, ?_, ?_⟩ <;> first | assumption | (apply Ext.drew; assumption)))
    (first
      | (go_at_call 34; (with_reducible refine (L1.out _).mono ?_); rintro e w1 ⟨rfl, ho, hx1⟩; have x1 : Ext B w1 := Ext.trans (by first | assumption | exact (by assumption : _ ∧ _ ∧ _).2.2) hx1; obtain ⟨d0, d1, _⟩ := B2.out _ x1)
      | (go_at_call 34; (with_reducible refine (L2.out _).mono ?_); rintro e w2 ⟨rfl, ho2, hx2⟩; have x2 : Ext B w2 := Ext.trans (by first | assumption | exact (by assumption : _ ∧ _ ∧ _).2.2) hx2; obtain ⟨d0, d1, _⟩ := B2.out _ x2)
      | (have hq := ho.ext hx2
         have hc2 := own_cells ho2
         have hb1 := hx1.size
         have hb2 := hx2.size
         refine step_append_lies _ (by rfl) _ _ _ (by rfl) _ 73 i0 _ 1 4 Try.underlying59 hi0 hz0 hz1 hz2 rfl (by omega) _ 4 _ (by rfl) hq _ 4 4 (ns .u32 (Big.of h)) (by rfl) rfl hc2 (ns_one _ _) (by omega) (by decide) (by omega) (by omega) _ rfl ?_
         intro g cap w3 hown3 hgrow hat hlt3
         have x3 : Ext B w3 := Grows.ext (A := some ⟨_, 0, none⟩) hgrow x2 (fun g hg => by cases hg; exact Nat.le_refl _)
         obtain ⟨d0, d1, _⟩ := B2.out _ x3))
  all_goals
    go_wp2_with fail
    go_ret
    have hr := Own.rd (w := w3) (n := 8) (c := cap) hown3
    rw [← ns_append] at hr
    exact ⟨_, _, rfl, hr, hw.trans x3⟩
theorem ns_take (k : IntKind) (l : List Nat) (n : Nat) : (ns k l).take n = ns k (l.take n) := by simp [ns, List.map_take]
theorem ns_drop (k : IntKind) (l : List Nat) (n : Nat) : (ns k l).drop n = ns k (l.drop n) := by simp [ns, List.map_drop]
set_option maxHeartbeats 3200000 in
theorem back_any (A : Option Addr) (la ca : Nat) (a : List Nat) (w : World) (hla : la ≤ 1048576) (h8 : 8 ≤ la) (hca : la ≤ ca) (ha : Rd w 1 A la (ns .u32 a)) (hda : Big.Dig a) :
    Calls Try.prog 31 #[.slice A la ca] w fun e w' => e = WOk (Big.val a) ∧ Ext w w' := by
  have hal := ha.len
  rw [ns_len] at hal
  obtain ⟨b1, b2, b3⟩ := Big.two_words hda (by omega)
  have r1 := ha.take_ (k := 4) (by omega)
  have r2 := (ha.cut (k := 4) (cap := ca) (by omega) hca).take_ (k := 4) (by omega)
  rw [if_neg (by omega)] at r2
  simp only [Nat.mul_one] at r1 r2
  rw [ns_take] at r1
  rw [ns_drop, ns_take] at r2
  have F1 := Lib.hid (fun w' (hx : Ext w w') => fits_any A 4 ca (a.take 4) w' (r1.ext hx) (by omega) (Big.dig_take hda 4))
  have F2 := Lib.hid (fun w' (hx : Ext w w') => fits_any (A.map (·.add 4)) 4 (ca - 4) ((a.drop 4).take 4) w' (r2.ext hx) (by omega) (Big.dig_take (Big.dig_drop hda 4) 4))
  unfold FitsE at F1 F2
  simp only [b1, b2, if_true] at F1 F2
  have EY := Lib.hid (fun h => Big.eight_yes (a := a) (by omega) h)
  have EN := Lib.hid (fun j hj h => Big.eight_no (a := a) (j := j) hj h)
  rw [b3] at EY
  obtain ⟨lo, hlo⟩ : ∃ lo, Big.val (a.take 4) = lo := ⟨_, rfl⟩
  obtain ⟨hi, hhi⟩ : ∃ hi, Big.val ((a.drop 4).take 4) = hi := ⟨_, rfl⟩
  rw [hlo] at F1 b1 EY
  rw [hhi] at F2 b2 EY
  have HAL := Lib.hid hal
  clear hal b3 r1 r2 hlo hhi
  go_enter Try.func31, Try.ntmps31
  go_wp2_with fail
  have hx0 : Ext w (w.alloc (.cells #[.int .u64 0, .int .u64 0] 24)) := (Ext.refl w).alloc _
  have ha' := ha.ext hx0
  go_loop [4] (fun vi => ∃ k : Nat, vi = .int .i64 k ∧ 8 ≤ k ∧ k ≤ la ∧ Hid (∀ j, 8 ≤ j → j < k → a.getD j 0 = 0)) (fun i => la - (intOf i).toNat)
  case atStart => exact ⟨8, rfl, Nat.le_refl _, h8, fun j h1 h2 => by omega⟩
  case round =>
    obtain ⟨k, rfl, hk8, hk, hz⟩ := hrel
    by_cases h : k < la
    · obtain ⟨ad, x, rfl, hx, hc⟩ := ha'.num h
      have hgx := Lib.hid (getD_at hx.out)
      by_cases h1 : x = 0
      · subst h1
        clear ha ha'
        go_wp2_with fail
        go_round
        case rel =>
          refine ⟨k + 1, by go_num, by omega, by omega, fun j h1 h2 => ?_⟩
          by_cases h3 : j = k
          · subst h3; exact hgx.out
          · exact hz.out j h1 (by omega)
        case measure => simp [intOf]; omega
      · have hne : ((x : Int) != 0) = true := by simp; omega
        have hno := Lib.hid (wok_no (EN.out k hk8 (by rw [hgx.out]; exact h1)))
        clear ha ha'
        go_wp2_with fail
        go_returns
        exact ⟨by rw [hno.out]; rfl, hx0⟩
    · obtain rfl : k = la := by omega
      have hyes := EY.out (fun j h1 h2 => hz.out j h1 (by rw [HAL.out] at h2; exact h2))
      have hv : Big.val a = N2 hi lo := hyes
      have HV := Lib.hid hv
      have h0 : ¬ (k : Int) < 8 := by omega
      have h4 : (4 : Int) ≤ ca := by omega
      have h5 : (8 : Int) ≤ ca := by omega
      have h6 : ¬ (ca = 4) := by omega
      clear ha ha' hyes hv hz EY EN
      go_wp2_with fail
      refine wp_loop_rounds 1 ?_
      rw [rounds_succ]
      go_wp2_with fail
      refine (F1.out _ hx0).mono ?_
      rintro e w1 ⟨rfl, rfl⟩
      go_wp2_with fail
      refine (F2.out _ hx0).mono ?_
      rintro e w1 ⟨rfl, rfl⟩
      go_wp2_with fail
      go_returns
      exact ⟨by rw [HV.out, wok_yes b2 b1]; rfl, (Ext.refl w).alloc _⟩
end Go.Proofs.Ytbclkhkpmdbedaa
