/-
  The statement WideOrdered, walked.
-/
import Derived.Test.YtbclkhkpmdbedaaWCross
import Derived.Deep.Cut
namespace Go.Proofs.Ytbclkhkpmdbedaa
open Go.RowKit
set_option linter.unusedVariables false
theorem cmpI_swap (x y : Nat) : cmpI x y = -cmpI y x := by
  unfold cmpI
  repeat' split
  all_goals omega
theorem cmpI_range (x y : Nat) : -1 ≤ cmpI x y ∧ cmpI x y ≤ 1 := by
  unfold cmpI
  repeat' split
  all_goals omega
theorem cmpI_le {x y : Nat} : cmpI x y ≤ 0 ↔ x ≤ y := by
  unfold cmpI
  repeat' split
  all_goals omega
theorem cmpI_same (x : Nat) : cmpI x x = 0 := by
  unfold cmpI
  rw [if_neg (by omega), if_neg (by omega)]
theorem crB_swap (a b c d : Int) : crB a b c d = crB c d a b := by
  unfold crB
  exact decide_eq_decide.2 ⟨fun h => ⟨h.2.2.1, h.2.2.2, h.1, h.2.1⟩, fun h => ⟨h.2.2.1, h.2.2.2, h.1, h.2.1⟩⟩
theorem crV_swap (a b c d : Int) : crV a b c d = -crV c d a b := by
  unfold crV
  rw [crB_swap a b c d]
  split
  · rw [cmpI_swap, Nat.mul_comm b.toNat, Nat.mul_comm a.toNat]
  · rfl
theorem crV_range (a b c d : Int) : -1 ≤ crV a b c d ∧ crV a b c d ≤ 1 := by
  unfold crV
  split
  · exact cmpI_range _ _
  · omega
theorem crV_trans {a b c d e f : Int} (h1 : crB a b c d = true) (h3 : crB c d e f = true) (h4 : crB a b e f = true) (hx : crV a b c d ≤ 0) (hz : crV c d e f ≤ 0) : crV a b e f ≤ 0 := by
  unfold crV at *
  rw [if_pos h1] at hx
  rw [if_pos h3] at hz
  rw [if_pos h4]
  rw [cmpI_le] at hx hz ⊢
  have hd : 1 ≤ d.toNat := by
    unfold crB at h1
    have := of_decide_eq_true h1
    omega
  generalize a.toNat = a at *
  generalize b.toNat = b at *
  generalize c.toNat = c at *
  generalize d.toNat = d at *
  generalize e.toNat = e at *
  generalize f.toNat = f at *
  have g1 : a * d * f ≤ b * c * f := Nat.mul_le_mul_right f hx
  have g2 : c * f * b ≤ d * e * b := Nat.mul_le_mul_right b hz
  have g3 : d * (a * f) ≤ d * (b * e) := by
    have e1 : d * (a * f) = a * d * f := by rw [Nat.mul_comm a d, Nat.mul_assoc]
    have e2 : b * c * f = c * f * b := by rw [Nat.mul_comm b c, Nat.mul_right_comm]
    have e3 : d * e * b = d * (b * e) := by rw [Nat.mul_assoc, Nat.mul_comm e b]
    omega
  exact Nat.le_of_mul_le_mul_left g3 (by omega)
theorem crV_widened {a b : Int} (ha : 0 ≤ a) (hb : 1 ≤ b) : crB a b (7 * a) (7 * b) = true ∧ crV a b (7 * a) (7 * b) = 0 := by
  have h : crB a b (7 * a) (7 * b) = true := by unfold crB; exact decide_eq_true ⟨ha, hb, by omega, by omega⟩
  refine ⟨h, ?_⟩
  unfold crV
  rw [if_pos h]
  obtain ⟨a, rfl⟩ := Int.eq_ofNat_of_zero_le ha
  obtain ⟨b, rfl⟩ := Int.eq_ofNat_of_zero_le (show 0 ≤ b by omega)
  rw [show (7 * (a : Int)).toNat = 7 * a by omega, show (7 * (b : Int)).toNat = 7 * b by omega, Int.toNat_natCast, Int.toNat_natCast]
  rw [show a * (7 * b) = b * (7 * a) by rw [Nat.mul_left_comm, Nat.mul_left_comm b, Nat.mul_comm a]]
  exact cmpI_same _
/-- Two ints that came in as an array. -/
def two (a b : Int) : Value := .agg #[.int .i64 a, .int .i64 b]
theorem three {w u : World} {a b c d e f : Value} {t : TypeId} (hx : Ext (((w.alloc (.cells #[a, b] t)).alloc (.cells #[c, d] t)).alloc (.cells #[e, f] t)) u) :
    u.cell? ⟨w.heap.size, 0, none⟩ = some a ∧ u.cell? ⟨w.heap.size, 1, none⟩ = some b ∧ u.cell? ⟨w.heap.size + 1, 0, none⟩ = some c ∧ u.cell? ⟨w.heap.size + 1, 1, none⟩ = some d ∧
    u.cell? ⟨w.heap.size + 1 + 1, 0, none⟩ = some e ∧ u.cell? ⟨w.heap.size + 1 + 1, 1, none⟩ = some f := by
  have s1 : (w.alloc (.cells #[a, b] t)).heap.size = w.heap.size + 1 := by simp
  have s2 : ((w.alloc (.cells #[a, b] t)).alloc (.cells #[c, d] t)).heap.size = w.heap.size + 1 + 1 := by simp
  have h1 := boxAt (((Ext.refl _).alloc _).trans hx) (k := 0) (v := c) rfl
  have h2 := boxAt (((Ext.refl _).alloc _).trans hx) (k := 1) (v := d) rfl
  have h3 := boxAt hx (k := 0) (v := e) rfl
  have h4 := boxAt hx (k := 1) (v := f) rfl
  rw [s1] at h1 h2
  rw [s2] at h3 h4
  exact ⟨boxAt ((((Ext.refl _).alloc _).alloc _).trans hx) rfl, boxAt ((((Ext.refl _).alloc _).alloc _).trans hx) rfl, h1, h2, h3, h4⟩
set_option maxRecDepth 8000 in
set_option maxHeartbeats 12800000 in
theorem ordered_out (a b c d e f : Int) (o1 o3 o4 : Bool) (x z v : Int) (w : World) (hr : (¬ 0 ≤ a) ∨ (0 ≤ a ∧ ¬ a < 1073741824) ∨ (0 ≤ a ∧ a < 1073741824 ∧ ¬ 1 ≤ b) ∨ (0 ≤ a ∧ a < 1073741824 ∧ 1 ≤ b ∧ ¬ b < 1073741824))
    (AL : Hid (∀ w : World, Calls Try.prog 10 #[] w fun en w' => en = .returned (.bool true) ∧ Ext w w'))
    (C1 : Hid (∀ w : World, Calls Try.prog 22 #[.int .i64 a, .int .i64 b, .int .i64 c, .int .i64 d] w fun en w' => en = .returned (.tuple #[.int .i64 x, .bool o1]) ∧ Ext w w'))
    (C2 : Hid (∀ w : World, Calls Try.prog 22 #[.int .i64 c, .int .i64 d, .int .i64 a, .int .i64 b] w fun en w' => en = .returned (.tuple #[.int .i64 (-x), .bool o1]) ∧ Ext w w'))
    (C3 : Hid (∀ w : World, Calls Try.prog 22 #[.int .i64 c, .int .i64 d, .int .i64 e, .int .i64 f] w fun en w' => en = .returned (.tuple #[.int .i64 z, .bool o3]) ∧ Ext w w'))
    (C4 : Hid (∀ w : World, Calls Try.prog 22 #[.int .i64 a, .int .i64 b, .int .i64 e, .int .i64 f] w fun en w' => en = .returned (.tuple #[.int .i64 v, .bool o4]) ∧ Ext w w'))
    (TT : Hid (o1 = true → o3 = true → o4 = true → x ≤ 0 → z ≤ 0 → v ≤ 0)) (r0 : -1 ≤ x) (r1 : x ≤ 1) :
    Calls Try.prog 5 #[.agg #[.int .i64 a, .int .i64 b], .agg #[.int .i64 c, .int .i64 d], .agg #[.int .i64 e, .int .i64 f]] w fun en w' => en = .returned (.bool true) ∧ Ext w w' := by
  rcases hr with g1 | ⟨g1, g2⟩ | ⟨g1, g2, g3⟩ | ⟨g1, g2, g3, g4⟩ <;> cases o1
  all_goals
    go_enter Try.func5, Try.ntmps5
    go_wp2_with fail
    refine (AL.out _).mono ?_
    rintro en u0 ⟨rfl, hx⟩
    obtain ⟨c0, c1, c2, c3, c4, c5⟩ := three hx
    go_wp2_with fail
    refine (C1.out _).mono ?_
    rintro en u1 ⟨rfl, hy⟩
    have hx := hx.trans hy
    clear hy c0 c1 c2 c3 c4 c5
    obtain ⟨c0, c1, c2, c3, c4, c5⟩ := three hx
    go_wp2_with fail
    refine (C2.out _).mono ?_
    rintro en u2 ⟨rfl, hy⟩
    have hx := hx.trans hy
    clear hy c0 c1 c2 c3 c4 c5
    obtain ⟨c0, c1, c2, c3, c4, c5⟩ := three hx
    go_wp2_with fail
    refine (C3.out _).mono ?_
    rintro en u3 ⟨rfl, hy⟩
    have hx := hx.trans hy
    clear hy c0 c1 c2 c3 c4 c5
    obtain ⟨c0, c1, c2, c3, c4, c5⟩ := three hx
    go_wp2_with fail
    refine (C4.out _).mono ?_
    rintro en u4 ⟨rfl, hy⟩
    have hx := hx.trans hy
    clear hy c0 c1 c2 c3 c4 c5
    obtain ⟨c0, c1, c2, c3, c4, c5⟩ := three hx
    have hx' := ((((Ext.refl w).alloc _).alloc _).alloc _).trans hx
    go_upto_region 13 with (fail)
    cases o3
    · go_wp2_with fail
      go_ret
      exact ⟨rfl, hx'⟩
    · cases o4
      · go_wp2_with fail
        go_ret
        exact ⟨rfl, hx'⟩
      · by_cases hx0 : x ≤ 0
        · by_cases hz0 : z ≤ 0
          · first
              | (have hv : v ≤ 0 := TT.out (by trivial) (by trivial) (by trivial) hx0 hz0
                 go_wp2_with fail
                 go_ret
                 exact ⟨rfl, hx'⟩)
              | (go_wp2_with fail
                 go_ret
                 exact ⟨rfl, hx'⟩)
          · go_wp2_with fail
            go_ret
            exact ⟨rfl, hx'⟩
        · go_wp2_with fail
          go_ret
          exact ⟨rfl, hx'⟩
set_option maxRecDepth 8000 in
set_option maxHeartbeats 6400000 in
theorem ordered_any (a b c d e f : Int) (w : World) (ha : I64 a) (hb : I64 b) (hc : I64 c) (hd : I64 d) (he : I64 e) (hf : I64 f) :
    Calls Try.prog 5 #[two a b, two c d, two e f] w fun en w' => en = .returned (.bool true) ∧ Ext w w' := by
  have AL := Lib.hid alive_any
  have C1 := Lib.hid (fun w => cross_any a b c d w ha hb hc hd)
  have C2 := Lib.hid (fun w => cross_any c d a b w hc hd ha hb)
  have C3 := Lib.hid (fun w => cross_any c d e f w hc hd he hf)
  have C4 := Lib.hid (fun w => cross_any a b e f w ha hb he hf)
  have C5 := Lib.hid (fun (h : 0 ≤ a ∧ a < 1073741824 ∧ 1 ≤ b ∧ b < 1073741824) w => cross_any a b (7 * a) (7 * b) w ha hb (by unfold I64; omega) (by unfold I64; omega))
  have W5 : 0 ≤ a ∧ a < 1073741824 ∧ 1 ≤ b ∧ b < 1073741824 → CrE a b (7 * a) (7 * b) = .returned (.tuple #[.int .i64 0, .bool true]) := fun h => by
    unfold CrE
    rw [(crV_widened h.1 h.2.2.1).1, (crV_widened h.1 h.2.2.1).2]
  have T := fun h1 h3 h4 => crV_trans (a := a) (b := b) (c := c) (d := d) (e := e) (f := f) h1 h3 h4
  have R := crV_range a b c d
  unfold CrE at C1 C2 C3 C4
  rw [crB_swap c d a b, crV_swap c d a b] at C2
  generalize crB a b c d = o1 at *
  generalize crV a b c d = x at *
  generalize crB c d e f = o3 at *
  generalize crV c d e f = z at *
  generalize crB a b e f = o4 at *
  generalize crV a b e f = v at *
  obtain ⟨r0, r1⟩ := R
  have TT := Lib.hid T
  unfold two
  by_cases hr : 0 ≤ a ∧ a < 1073741824 ∧ 1 ≤ b ∧ b < 1073741824
  · have C5 := C5.out hr
    rw [W5 hr] at C5
    have C5 := Lib.hid C5
    obtain ⟨g1, g2, g3, g4⟩ := hr
    clear W5 T ha hb hc hd he hf
    cases o1
    all_goals
      go_enter Try.func5, Try.ntmps5
      go_wp2_with fail
      refine (AL.out _).mono ?_
      rintro en u0 ⟨rfl, hx⟩
      obtain ⟨c0, c1, c2, c3, c4, c5⟩ := three hx
      go_wp2_with fail
      refine (C1.out _).mono ?_
      rintro en u1 ⟨rfl, hy⟩
      have hx := hx.trans hy
      clear hy c0 c1 c2 c3 c4 c5
      obtain ⟨c0, c1, c2, c3, c4, c5⟩ := three hx
      go_wp2_with fail
      refine (C2.out _).mono ?_
      rintro en u2 ⟨rfl, hy⟩
      have hx := hx.trans hy
      clear hy c0 c1 c2 c3 c4 c5
      obtain ⟨c0, c1, c2, c3, c4, c5⟩ := three hx
      go_wp2_with fail
      refine (C3.out _).mono ?_
      rintro en u3 ⟨rfl, hy⟩
      have hx := hx.trans hy
      clear hy c0 c1 c2 c3 c4 c5
      obtain ⟨c0, c1, c2, c3, c4, c5⟩ := three hx
      go_wp2_with fail
      refine (C4.out _).mono ?_
      rintro en u4 ⟨rfl, hy⟩
      have hx := hx.trans hy
      clear hy c0 c1 c2 c3 c4 c5
      obtain ⟨c0, c1, c2, c3, c4, c5⟩ := three hx
      go_wp2_with fail
      refine (C5.out _).mono ?_
      rintro en u5 ⟨rfl, hy⟩
      have hx := hx.trans hy
      have hx' := ((((Ext.refl w).alloc _).alloc _).alloc _).trans hx
      clear hy c0 c1 c2 c3 c4 c5
    · go_wp2_with fail
      go_ret
      exact ⟨rfl, hx'⟩
    · go_upto_region 13 with (fail)
      cases o3
      · go_wp2_with fail
        go_ret
        exact ⟨rfl, hx'⟩
      · cases o4
        · go_wp2_with fail
          go_ret
          exact ⟨rfl, hx'⟩
        · by_cases hx0 : x ≤ 0
          · by_cases hz0 : z ≤ 0
            · have hv : v ≤ 0 := TT.out (by trivial) (by trivial) (by trivial) hx0 hz0
              go_wp2_with fail
              go_ret
              exact ⟨rfl, hx'⟩
            · go_wp2_with fail
              go_ret
              exact ⟨rfl, hx'⟩
          · go_wp2_with fail
            go_ret
            exact ⟨rfl, hx'⟩
  · by_cases g1 : 0 ≤ a
    · by_cases g2 : a < 1073741824
      · by_cases g3 : 1 ≤ b
        · have g4 : ¬ b < 1073741824 := fun h => hr ⟨g1, g2, g3, h⟩
          exact ordered_out a b c d e f o1 o3 o4 x z v w (.inr (.inr (.inr ⟨g1, g2, g3, g4⟩))) AL C1 C2 C3 C4 TT r0 r1
        · exact ordered_out a b c d e f o1 o3 o4 x z v w (.inr (.inr (.inl ⟨g1, g2, g3⟩))) AL C1 C2 C3 C4 TT r0 r1
      · exact ordered_out a b c d e f o1 o3 o4 x z v w (.inr (.inl ⟨g1, g2⟩)) AL C1 C2 C3 C4 TT r0 r1
    · exact ordered_out a b c d e f o1 o3 o4 x z v w (.inl g1) AL C1 C2 C3 C4 TT r0 r1
end Go.Proofs.Ytbclkhkpmdbedaa
