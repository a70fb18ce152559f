/-
  The document's Bound, walked.
-/
import Derived.Test.YtakilnelbmbjdaaDoorSvPer
import Derived.Deep.RegionHeld3
namespace Go.Proofs.YtakilnelbmbjdaaDoor
open Go.RowKit
set_option linter.unusedVariables false
theorem box3 {w w1 : World} {a b c : Value} {t : TypeId} (hx : Ext (w.alloc (.cells #[a, b, c] t)) w1) :
    w1.cell? ⟨w.heap.size, 0, none⟩ = some a ∧ w1.cell? ⟨w.heap.size, 1, none⟩ = some b ∧ w1.cell? ⟨w.heap.size, 2, none⟩ = some c := by
  have h0 : w.heap.size < (w.alloc (.cells #[a, b, c] t)).heap.size := by show w.heap.size < (w.heap.push _).size; simp
  have h : (w.alloc (.cells #[a, b, c] t)).heap[w.heap.size]? = some (.cells #[a, b, c] t) := heap_alloc_new w _
  refine ⟨(hx.cell h0).trans ?_, (hx.cell h0).trans ?_, (hx.cell h0).trans ?_⟩ <;> simp only [World.cell?, h] <;> rfl
set_option maxHeartbeats 800000 in
theorem gap_legal (K Q T : Int) (w : World) (h : Legal K Q T) :
    Calls Tryd.prog 34 #[srv K Q T] w fun e w' => e = .returned (.int .i64 (gapOf K Q T)) ∧ w' = w.alloc (.cells #[.int .i64 K, .int .i64 Q, .int .i64 T] 23) := by
  obtain ⟨h1, h2, h3, h4, h5⟩ := h
  have h0 : (K == 0) = false := by simp; omega
  unfold srv gapOf
  by_cases h6 : K = 3
  · subst h6
    go_enter Tryd.func34, Tryd.ntmps34
    go_wp2_with fail
    go_returns
    exact ⟨rfl, rfl⟩
  · have h7 : (K == 3) = false := by simpa using h6
    rw [if_neg h6]
    go_enter Tryd.func34, Tryd.ntmps34
    go_wp2_with fail
    go_returns
    exact ⟨rfl, rfl⟩

theorem last4 {A B C D : Prop} (h : A ∧ B ∧ C ∧ D) : D := h.2.2.2
/-- Is tick i given? -/
def atB (g q t i : Int) : Bool := decide (g ≤ i ∧ t - q ≤ (i - g) % t)
set_option maxHeartbeats 3200000 in
theorem at_legal (K Q T i : Int) (w : World) (h : Legal K Q T) (hi0 : 0 ≤ i) (hi : i ≤ 1099511627776) :
    Calls Tryd.prog 30 #[srv K Q T, .int .i64 i] w fun e w' => e = .returned (.bool (atB (gapOf K Q T) Q T i)) ∧ Ext w w' := by
  have GA := Lib.hid (fun w => gap_legal K Q T w h)
  obtain ⟨h1, h2, h3, h4, h5⟩ := h
  have h0 : (K == 0) = false := by simp; omega
  have ht : (T == 0) = false := by simp; omega
  obtain ⟨g, hg, hg0, hg1⟩ : ∃ g, gapOf K Q T = g ∧ 0 ≤ g ∧ g ≤ 256 := ⟨_, rfl, by unfold gapOf; split <;> omega, by unfold gapOf; split <;> omega⟩
  rw [hg] at GA ⊢
  clear hg
  unfold srv at *
  by_cases h6 : i < g
  · have e : atB g Q T i = false := by unfold atB; rw [decide_eq_false_iff_not]; omega
    rw [e]
    go_enter Tryd.func30, Tryd.ntmps30
    go_wp2_with fail
    refine (GA.out _).mono ?_
    rintro e w1 ⟨rfl, rfl⟩
    go_wp2_with fail
    go_returns
    exact ⟨rfl, ((Ext.refl w).alloc _).alloc _⟩
  · have hR : Int.tmod (i - g) T = (i - g) % T := Int.tmod_eq_emod_of_nonneg (by omega)
    obtain ⟨R, hR2, r0, r1⟩ : ∃ R, (i - g) % T = R ∧ 0 ≤ R ∧ R < T := ⟨_, rfl, Int.emod_nonneg _ (by omega), Int.emod_lt_of_pos _ (by omega)⟩
    rw [hR2] at hR
    have e : atB g Q T i = decide (T - Q ≤ R) := by
      unfold atB
      rw [hR2]
      exact decide_eq_decide.2 ⟨fun h => h.2, fun h => ⟨by omega, h⟩⟩
    rw [e]
    have HR2 := Lib.hid hR2
    have hTn : ¬ (T = 0) := by omega
    have hwq : IntKind.i64.wrap (T - Q) = T - Q := by rw [IntKind.wrap_i64]; omega
    have hwr : IntKind.i64.wrap (i - g) = i - g := by rw [IntKind.wrap_i64]; omega
    clear hR2
    go_enter Tryd.func30, Tryd.ntmps30
    go_wp2_with fail
    refine (GA.out _).mono ?_
    rintro e w1 ⟨rfl, rfl⟩
    go_wp2_with fail
    obtain ⟨c0, c1, c2⟩ := box3 (w := w) (a := .int .i64 K) (b := .int .i64 Q) (c := .int .i64 T) (t := 23) ((Ext.refl _).alloc (.cells #[.int .i64 K, .int .i64 Q, .int .i64 T] 23))
    have hx : Ext (w.alloc (.cells #[.int .i64 K, .int .i64 Q, .int .i64 T] 23)) ((w.alloc (.cells #[.int .i64 K, .int .i64 Q, .int .i64 T] 23)).alloc (.cells #[.int .i64 K, .int .i64 Q, .int .i64 T] 23)) := (Ext.refl _).alloc _
    have GB := Lib.hid (fun w' (hx : Ext (w.alloc (.cells #[.int .i64 K, .int .i64 Q, .int .i64 T] 23)) w') => (GA.out w').mono fun e w'' (h : e = .returned (.int .i64 g) ∧ w'' = w'.alloc (.cells #[.int .i64 K, .int .i64 Q, .int .i64 T] 23)) =>
      (⟨h.1, (box3 (hx.trans (h.2 ▸ (Ext.refl w').alloc _))).1, (box3 (hx.trans (h.2 ▸ (Ext.refl w').alloc _))).2.1, (box3 (hx.trans (h.2 ▸ (Ext.refl w').alloc _))).2.2, hx.trans (h.2 ▸ (Ext.refl w').alloc _)⟩ :
        e = .returned (.int .i64 g) ∧ w''.cell? ⟨w.heap.size, 0, none⟩ = some (.int .i64 K) ∧ w''.cell? ⟨w.heap.size, 1, none⟩ = some (.int .i64 Q) ∧ w''.cell? ⟨w.heap.size, 2, none⟩ = some (.int .i64 T) ∧ Ext (w.alloc (.cells #[.int .i64 K, .int .i64 Q, .int .i64 T] 23)) w''))
    generalize (w.alloc (.cells #[.int .i64 K, .int .i64 Q, .int .i64 T] 23)).alloc (.cells #[.int .i64 K, .int .i64 Q, .int .i64 T] 23) = w1 at *
    go_region_held3 (fun w' => w'.cell? ⟨w.heap.size, 0, none⟩ = some (.int .i64 K) ∧ w'.cell? ⟨w.heap.size, 1, none⟩ = some (.int .i64 Q) ∧ w'.cell? ⟨w.heap.size, 2, none⟩ = some (.int .i64 T) ∧ Ext (w.alloc (.cells #[.int .i64 K, .int .i64 Q, .int .i64 T] 23)) w')
      (first | (refine ⟨?_, ?_, ?_, ?_⟩ <;> first | assumption | (apply Ext.drew; assumption)))
      (first | (go_at_call 34; refine (GB.out _ ?_).mono ?_; (first | assumption | exact last4 (by assumption)); rintro e w' ⟨rfl, d0, d1, d2, dx⟩))
    all_goals
      go_wp2_with fail
      go_returns
      refine ⟨?_, ((Ext.refl w).alloc _).trans (by first | assumption | exact last4 (by assumption))⟩
      first
        | rfl
        | (show Ending.returned (Value.bool (decide (T - Q ≤ (i - g) % T))) = _; rw [HR2.out])
theorem per_tick {q t : Int} (hq : 1 ≤ q) (hqt : q ≤ t) (m : Int) : per q t (m + 1) = per q t m + (if t - q ≤ m % t then 1 else 0) := by
  obtain ⟨D, R, rfl, h0, h1, _⟩ := split (t := t) (by omega) m
  have e : (D * t + R) % t = R := by rw [Int.add_comm, Int.add_mul_emod_self_right, Int.emod_eq_of_lt h0 h1]
  rw [per_at hq hqt D R h0 h1, e]
  by_cases h : R + 1 < t
  · rw [Int.add_assoc, per_at hq hqt D (R + 1) (by omega) h]
    split <;> omega
  · have e : D * t + R + 1 = (D + 1) * t + 0 := by rw [Int.add_mul]; omega
    rw [e, per_at hq hqt (D + 1) 0 (by omega) (by omega), Int.add_mul]
    split <;> omega
theorem given_geR {g q t l : Int} (hq : 1 ≤ q) (hqt : q ≤ t) (h : g ≤ l) : given g q t l = per q t (l - g) := by
  rw [given_per]
  split
  · rw [show l - g = 0 by omega, per_zero hq hqt]
  · rfl
theorem given_tick {g q t i : Int} (hq : 1 ≤ q) (hqt : q ≤ t) : given g q t (i + 1) = given g q t i + (if atB g q t i = true then 1 else 0) := by
  unfold atB
  by_cases h : g ≤ i
  · rw [given_geR hq hqt h, given_geR hq hqt (show g ≤ i + 1 by omega), show i + 1 - g = i - g + 1 by omega, per_tick hq hqt]
    simp [h]
  · rw [given_per, given_per, if_pos (by omega), if_pos (by omega), if_neg (by simp; omega)]
    rfl
theorem given_cut {g q t l p : Int} (hq : 1 ≤ q) (hqt : q ≤ t) (h : g ≤ l - p * t) (h2 : g ≤ l) : given g q t l = p * q + given g q t (l - p * t) := by
  rw [given_geR hq hqt h, given_geR hq hqt h2, ← per_period hq hqt]
  congr 1
  omega

set_option maxHeartbeats 3200000 in
/-- The loop, whatever was taken off first. -/
theorem rbound_legal (K Q T l : Int) (w : World) (h : Legal K Q T) (hl0 : 0 ≤ l) (hl : l ≤ 1099511627776) :
    Calls Tryd.prog 18 #[srv K Q T, .int .i64 l] w fun e w' => e = .returned (.int .i64 (given (gapOf K Q T) Q T l)) ∧ Ext w w' := by
  have AT := Lib.hid (fun i w => at_legal K Q T i w h)
  have h' := h
  obtain ⟨h1, h2, h3, h4, h5⟩ := h'
  have h0 : (K == 0) = false := by simp; omega
  have ht : (T == 0) = false := by simp; omega
  obtain ⟨g, hg, hg0, hg1⟩ : ∃ g, gapOf K Q T = g ∧ 0 ≤ g ∧ g < T := ⟨_, rfl, by unfold gapOf; split <;> omega, by unfold gapOf; split <;> omega⟩
  rw [hg] at AT ⊢
  have fin : ∀ N i : Int, 0 ≤ i → i ≤ 1099511627776 → True := fun _ _ _ _ => trivial
  clear hg fin
  by_cases hbig : 4 * T < l
  · have hd : Int.tdiv (l - 3 * T) T = (l - 3 * T) / T := Int.tdiv_eq_ediv_of_nonneg (by omega)
    obtain ⟨p, hp⟩ : ∃ p, (l - 3 * T) / T = p := ⟨_, rfl⟩
    have hp0 : 0 ≤ p := by rw [← hp]; exact Int.ediv_nonneg (by omega) (by omega)
    have hm0 := Int.emod_nonneg (l - 3 * T) (show T ≠ 0 by omega)
    have hm1 := Int.emod_lt_of_pos (l - 3 * T) (show 0 < T by omega)
    have hdm := Int.ediv_mul_add_emod (l - 3 * T) T
    rw [hp] at hd hdm
    have hpq : p * Q ≤ p * T := Int.mul_le_mul_of_nonneg_left h4 hp0
    have hpq0 : 0 ≤ p * Q := Int.mul_nonneg hp0 (by omega)
    have hpp : p ≤ p * Q := by
      have := Int.mul_le_mul_of_nonneg_left h3 hp0
      omega
    obtain ⟨L, hL⟩ : ∃ L, l - p * T = L := ⟨_, rfl⟩
    have hL1 : 3 * T ≤ L ∧ L ≤ 1100 := by omega
    have hcut : given g Q T l = p * Q + given g Q T L := by rw [← hL]; exact given_cut h3 h4 (by omega) (by omega)
    have hGL := (given_le (g := g) (q := Q) (t := T) (l := L) hg0 h3 h4 (by omega)).2
    rw [hcut]
    obtain ⟨n0, hn0⟩ : ∃ n0, p * Q = n0 := ⟨_, rfl⟩
    obtain ⟨m0, hm00⟩ : ∃ m0, p * T = m0 := ⟨_, rfl⟩
    have w1 : wrap64 (p * Q) = n0 := by rw [hn0]; unfold wrap64; omega
    have w2 : wrap64 (p * T) = m0 := by rw [hm00]; unfold wrap64; omega
    have w3 : l - m0 = L := by omega
    rw [hn0] at hpq hpq0 hpp ⊢
    rw [hm00] at hpq
    have HB := Lib.hid (And.intro hpq0 (show n0 ≤ 1099511627776 by omega))
    have hpu : p ≤ 1099511627776 := by omega
    have hmu : 0 ≤ m0 ∧ m0 ≤ 1099511627776 := by omega
    have hnu : 0 ≤ n0 ∧ n0 ≤ 1099511627776 := by omega
    clear hcut hL hp hm0 hm1 hdm hn0 hm00 hpq hpq0 hpp
    unfold srv at *
    go_enter Tryd.func18, Tryd.ntmps18
    go_wp2_with fail
    try simp only [w1, w2]
    try clear w1 w2 w3 hd
    go_loopw [5, 7] (fun vn vi wr => ∃ i : Int, 0 ≤ i ∧ i ≤ L ∧ vi = .int .i64 i ∧ vn = .int .i64 (n0 + given g Q T i) ∧ Ext (w.alloc (.cells #[.int .i64 K, .int .i64 Q, .int .i64 T] 23)) wr) (fun _ vi _ => (L - intOf vi).toNat)
    case atStart => exact ⟨0, by omega, by omega, rfl, by rw [given_per, if_pos hg0]; congr 1; try omega, Ext.refl _⟩
    case round =>
      obtain ⟨i, hi0, hi1, rfl, rfl, hx⟩ := hrel
      obtain ⟨c0, c1, c2⟩ := box3 hx
      have hb := HB.out
      by_cases hlt : i < L
      · have hc := given_le (g := g) (q := Q) (t := T) (l := i) hg0 h3 h4 hi0
        have htk := given_tick (g := g) (q := Q) (t := T) (i := i) h3 h4
        have AI := Lib.hid (fun w => AT.out i w hi0 (by omega))
        generalize given g Q T i = c at *
        generalize hc2 : given g Q T (i + 1) = c' at *
        have HC2 := Lib.hid hc2
        clear hc2
        by_cases hat : atB g Q T i = true
        · rw [hat] at AI
          rw [if_pos hat] at htk
          have HTK := Lib.hid htk
          clear htk hat
          go_wp2_with fail
          refine (AI.out _).mono ?_
          rintro e w1 ⟨rfl, hx1⟩
          go_wp2_with fail
          go_roundw
          case rel => exact ⟨i + 1, by omega, by omega, rfl, by rw [HC2.out, HTK.out]; congr 1; omega, hx.trans hx1⟩
          case measure => simp [intOf]; omega
        · rw [Bool.eq_false_iff.2 hat] at AI
          rw [if_neg hat] at htk
          have HTK := Lib.hid htk
          clear htk hat
          go_wp2_with fail
          refine (AI.out _).mono ?_
          rintro e w1 ⟨rfl, hx1⟩
          go_wp2_with fail
          go_roundw
          case rel => exact ⟨i + 1, by omega, by omega, rfl, by rw [HC2.out, HTK.out]; congr 1; omega, hx.trans hx1⟩
          case measure => simp [intOf]; omega
      · obtain rfl : i = L := by omega
        go_wp2_with fail
        go_returns
        exact ⟨rfl, ((Ext.refl w).alloc _).trans hx⟩
  · have hb0 : given g Q T l = 0 + given g Q T l := by omega
    rw [hb0]
    clear hb0
    have HB := Lib.hid (And.intro (show (0 : Int) ≤ 0 by omega) (show (0 : Int) ≤ 1099511627776 by omega))
    unfold srv at *
    go_enter Tryd.func18, Tryd.ntmps18
    go_wp2_with fail
    go_loopw [5, 7] (fun vn vi wr => ∃ i : Int, 0 ≤ i ∧ i ≤ l ∧ vi = .int .i64 i ∧ vn = .int .i64 (0 + given g Q T i) ∧ Ext (w.alloc (.cells #[.int .i64 K, .int .i64 Q, .int .i64 T] 23)) wr) (fun _ vi _ => (l - intOf vi).toNat)
    case atStart => exact ⟨0, by omega, by omega, rfl, by rw [given_per, if_pos hg0]; congr 1; try omega, Ext.refl _⟩
    case round =>
      obtain ⟨i, hi0, hi1, rfl, rfl, hx⟩ := hrel
      obtain ⟨c0, c1, c2⟩ := box3 hx
      have hb := HB.out
      by_cases hlt : i < l
      · have hc := given_le (g := g) (q := Q) (t := T) (l := i) hg0 h3 h4 hi0
        have htk := given_tick (g := g) (q := Q) (t := T) (i := i) h3 h4
        have AI := Lib.hid (fun w => AT.out i w hi0 (by omega))
        generalize given g Q T i = c at *
        generalize hc2 : given g Q T (i + 1) = c' at *
        have HC2 := Lib.hid hc2
        clear hc2
        by_cases hat : atB g Q T i = true
        · rw [hat] at AI
          rw [if_pos hat] at htk
          have HTK := Lib.hid htk
          clear htk hat
          go_wp2_with fail
          refine (AI.out _).mono ?_
          rintro e w1 ⟨rfl, hx1⟩
          go_wp2_with fail
          go_roundw
          case rel => exact ⟨i + 1, by omega, by omega, rfl, by rw [HC2.out, HTK.out]; congr 1; omega, hx.trans hx1⟩
          case measure => simp [intOf]; omega
        · rw [Bool.eq_false_iff.2 hat] at AI
          rw [if_neg hat] at htk
          have HTK := Lib.hid htk
          clear htk hat
          go_wp2_with fail
          refine (AI.out _).mono ?_
          rintro e w1 ⟨rfl, hx1⟩
          go_wp2_with fail
          go_roundw
          case rel => exact ⟨i + 1, by omega, by omega, rfl, by rw [HC2.out, HTK.out]; congr 1; omega, hx.trans hx1⟩
          case measure => simp [intOf]; omega
      · obtain rfl : i = l := by omega
        go_wp2_with fail
        go_returns
        exact ⟨rfl, ((Ext.refl w).alloc _).trans hx⟩
end Go.Proofs.YtakilnelbmbjdaaDoor
