/-
  Package wide: legal, Against, Cross, walked; alive.
-/
import Derived.Test.YtbclkhkpmdbedaaWCmp
namespace Go.Proofs.Ytbclkhkpmdbedaa
open Go.RowKit
set_option linter.unusedVariables false
/-- A fraction's value. -/
def pv (a b c d : Nat) : Value := .agg #[.int .u64 (a : Int), .int .u64 (b : Int), .int .u64 (c : Int), .int .u64 (d : Int)]
theorem wok_or (n : Nat) : (∃ h l, h < 18446744073709551616 ∧ l < 18446744073709551616 ∧ n = N2 h l ∧ WOk n = .returned (.tuple #[wv h l, .bool true])) ∨ (¬ n < 340282366920938463463374607431768211456 ∧ WOk n = WNo) := by
  by_cases h : n < 340282366920938463463374607431768211456
  · left
    refine ⟨n / 18446744073709551616, n % 18446744073709551616, by omega, by omega, by unfold N2; omega, ?_⟩
    unfold WOk wn
    rw [if_pos h]
  · exact .inr ⟨h, wok_no (by omega)⟩
theorem n2_lt {h l : Nat} (hh : h < 18446744073709551616) (hl : l < 18446744073709551616) : N2 h l < 340282366920938463463374607431768211456 := by unfold N2; omega
/-- The cells of a block of four that a call made. -/
theorem box4 {w w1 : World} {a b c d : Value} {t : TypeId} (hx : Ext (w.alloc (.cells #[a, b, c, d] t)) w1) :
    w1.cell? ⟨w.heap.size, 0, none⟩ = some a ∧ w1.cell? ⟨w.heap.size, 1, none⟩ = some b ∧ w1.cell? ⟨w.heap.size, 2, none⟩ = some c ∧ w1.cell? ⟨w.heap.size, 3, none⟩ = some d ∧ w.heap.size < w1.heap.size :=
  ⟨boxAt hx rfl, boxAt hx rfl, boxAt hx rfl, boxAt hx rfl, by have := hx.size; simp at this; omega⟩
theorem box2 {w w1 : World} {a b : Value} {t : TypeId} (hx : Ext (w.alloc (.cells #[a, b] t)) w1) :
    w1.cell? ⟨w.heap.size, 0, none⟩ = some a ∧ w1.cell? ⟨w.heap.size, 1, none⟩ = some b ∧ w.heap.size < w1.heap.size :=
  ⟨boxAt hx rfl, boxAt hx rfl, by have := hx.size; simp at this; omega⟩
set_option maxHeartbeats 800000 in
theorem legal_yes (a b c d : Nat) (q t : Int) (w : World) (hD : c ≠ 0 ∨ d ≠ 0) (hq : 0 ≤ q) (ht : 1 ≤ t) :
    Calls Try.prog 45 #[pv a b c d, .int .i64 q, .int .i64 t] w fun e w' => e = .returned (.bool true) ∧ Ext w w' := by
  unfold pv
  by_cases hc : c = 0
  · subst hc
    have hd : ((d : Int) == 0) = false := by simp; omega
    clear hD
    go_enter Try.func45, Try.ntmps45
    go_wp2_with fail
    go_ret
    exact ⟨rfl, (Ext.refl w).alloc _⟩
  · have hd : ((c : Int) == 0) = false := by simp; omega
    clear hD hc
    go_enter Try.func45, Try.ntmps45
    go_wp2_with fail
    go_ret
    exact ⟨rfl, (Ext.refl w).alloc _⟩
set_option maxHeartbeats 800000 in
theorem legal_no (a b c d : Nat) (q t : Int) (w : World) (h : (c = 0 ∧ d = 0) ∨ q < 0 ∨ t < 1) :
    Calls Try.prog 45 #[pv a b c d, .int .i64 q, .int .i64 t] w fun e w' => e = .returned (.bool false) ∧ Ext w w' := by
  unfold pv
  by_cases hc : c = 0
  · subst hc
    by_cases hd : d = 0
    · subst hd
      clear h
      go_enter Try.func45, Try.ntmps45
      go_wp2_with fail
      go_ret
      exact ⟨rfl, (Ext.refl w).alloc _⟩
    · have hd' : ((d : Int) == 0) = false := by simp; omega
      by_cases hq : 0 ≤ q
      · have ht : ¬ 1 ≤ t := by omega
        clear h hd
        go_enter Try.func45, Try.ntmps45
        go_wp2_with fail
        go_ret
        exact ⟨rfl, (Ext.refl w).alloc _⟩
      · clear h hd
        go_enter Try.func45, Try.ntmps45
        go_wp2_with fail
        go_ret
        exact ⟨rfl, (Ext.refl w).alloc _⟩
  · have hd' : ((c : Int) == 0) = false := by simp; omega
    by_cases hq : 0 ≤ q
    · have ht : ¬ 1 ≤ t := by omega
      clear h hc
      go_enter Try.func45, Try.ntmps45
      go_wp2_with fail
      go_ret
      exact ⟨rfl, (Ext.refl w).alloc _⟩
    · clear h hc
      go_enter Try.func45, Try.ntmps45
      go_wp2_with fail
      go_ret
      exact ⟨rfl, (Ext.refl w).alloc _⟩

/-- A fraction n / d against q / t. -/
def Ag (n d q t : Nat) : Ending :=
  if n * t < 340282366920938463463374607431768211456 ∧ d * q < 340282366920938463463374607431768211456 then .returned (.tuple #[.int .i64 (cmpI (n * t) (d * q)), .bool true]) else .returned (.tuple #[.int .i64 0, .bool false])
set_option maxHeartbeats 1600000 in
theorem against_no (a b c d : Nat) (q t : Int) (w : World) (h : (c = 0 ∧ d = 0) ∨ q < 0 ∨ t < 1) :
    Calls Try.prog 25 #[pv a b c d, .int .i64 q, .int .i64 t] w fun e w' => e = .returned (.tuple #[.int .i64 0, .bool false]) ∧ Ext w w' := by
  have L := Lib.hid (fun w => legal_no a b c d q t w h)
  clear h
  unfold pv at *
  go_enter Try.func25, Try.ntmps25
  go_wp2_with fail
  refine (L.out _).mono ?_
  rintro e w1 ⟨rfl, hx⟩
  go_wp2_with fail
  go_ret2
  exact ⟨rfl, ((Ext.refl w).alloc _).trans hx⟩
set_option maxHeartbeats 1600000 in
theorem against_any (a b c d q t : Nat) (w : World) (ha : a < 18446744073709551616) (hb : b < 18446744073709551616) (hc : c < 18446744073709551616) (hd : d < 18446744073709551616)
    (hD : c ≠ 0 ∨ d ≠ 0) (hq : q ≤ 9223372036854775807) (ht0 : 1 ≤ t) (ht : t ≤ 9223372036854775807) :
    Calls Try.prog 25 #[pv a b c d, .int .i64 (q : Int), .int .i64 (t : Int)] w fun e w' => e = Ag (N2 a b) (N2 c d) q t ∧ Ext w w' := by
  have L := Lib.hid (fun w => legal_yes a b c d q t w hD (by omega) (by omega))
  have M1 := Lib.hid (fun w => wmul_any a b t w ha hb (by omega))
  have M2 := Lib.hid (fun w => wmul_any c d q w hc hd (by omega))
  unfold Ag
  generalize N2 a b * t = X at *
  generalize N2 c d * q = Y at *
  clear hD
  rcases wok_or X with ⟨h1, l1, bh1, bl1, rfl, e1⟩ | ⟨g1, e1⟩ <;> rcases wok_or Y with ⟨h2, l2, bh2, bl2, rfl, e2⟩ | ⟨g2, e2⟩
  · rw [if_pos ⟨n2_lt bh1 bl1, n2_lt bh2 bl2⟩]
    simp only [e1] at M1
    simp only [e2] at M2
    have C := Lib.hid (fun w => wcmp_any h1 l1 h2 l2 w bh1 bl1 bh2 bl2)
    generalize cmpI (N2 h1 l1) (N2 h2 l2) = z at *
    clear e1 e2
    unfold pv wv at *
    go_enter Try.func25, Try.ntmps25
    go_wp2_with fail
    refine (L.out _).mono ?_
    rintro e w1 ⟨rfl, hx⟩
    obtain ⟨c0, c1, c2, c3, hz⟩ := box4 hx
    go_wp2_with fail
    refine (M1.out _).mono ?_
    rintro e w2 ⟨rfl, hy⟩
    have hx := hx.trans hy
    clear hy c0 c1 c2 c3 hz
    obtain ⟨c0, c1, c2, c3, hz⟩ := box4 hx
    go_wp2_with fail
    refine (M2.out _).mono ?_
    rintro e w3 ⟨rfl, hy⟩
    obtain ⟨d0, d1, hz2⟩ := box2 hy
    have hx' := (((Ext.refl w).alloc _).trans hx).trans (((Ext.refl _).alloc _).trans hy)
    clear c0 c1 c2 c3 hz hx
    go_wp2_with fail
    refine (C.out _).mono ?_
    rintro e w4 ⟨rfl, hu⟩
    go_wp2_with fail
    go_ret2
    exact ⟨rfl, (hx'.alloc _).trans hu⟩
  · rw [if_neg (fun h => g2 h.2)]
    simp only [e1] at M1
    simp only [e2] at M2
    clear e1 e2 g2
    unfold WNo pv wv at *
    go_enter Try.func25, Try.ntmps25
    go_wp2_with fail
    refine (L.out _).mono ?_
    rintro e w1 ⟨rfl, hx⟩
    obtain ⟨c0, c1, c2, c3, hz⟩ := box4 hx
    go_wp2_with fail
    refine (M1.out _).mono ?_
    rintro e w2 ⟨rfl, hy⟩
    have hx := hx.trans hy
    clear hy c0 c1 c2 c3 hz
    obtain ⟨c0, c1, c2, c3, hz⟩ := box4 hx
    go_wp2_with fail
    refine (M2.out _).mono ?_
    rintro e w3 ⟨rfl, hy⟩
    obtain ⟨d0, d1, hz2⟩ := box2 hy
    have hx' := (((Ext.refl w).alloc _).trans hx).trans (((Ext.refl _).alloc _).trans hy)
    clear c0 c1 c2 c3 hz hx
    go_wp2_with fail
    go_ret2
    exact ⟨rfl, hx'.alloc _⟩
  · rw [if_neg (fun h => g1 h.1)]
    simp only [e1] at M1
    simp only [e2] at M2
    clear e1 e2 g1
    unfold WNo pv wv at *
    go_enter Try.func25, Try.ntmps25
    go_wp2_with fail
    refine (L.out _).mono ?_
    rintro e w1 ⟨rfl, hx⟩
    obtain ⟨c0, c1, c2, c3, hz⟩ := box4 hx
    go_wp2_with fail
    refine (M1.out _).mono ?_
    rintro e w2 ⟨rfl, hy⟩
    have hx := hx.trans hy
    clear hy c0 c1 c2 c3 hz
    obtain ⟨c0, c1, c2, c3, hz⟩ := box4 hx
    go_wp2_with fail
    refine (M2.out _).mono ?_
    rintro e w3 ⟨rfl, hy⟩
    obtain ⟨d0, d1, hz2⟩ := box2 hy
    have hx' := (((Ext.refl w).alloc _).trans hx).trans (((Ext.refl _).alloc _).trans hy)
    clear c0 c1 c2 c3 hz hx
    go_wp2_with fail
    go_ret2
    exact ⟨rfl, hx'.alloc _⟩
  · rw [if_neg (fun h => g1 h.1)]
    simp only [e1] at M1
    simp only [e2] at M2
    clear e1 e2 g1 g2
    unfold WNo pv wv at *
    go_enter Try.func25, Try.ntmps25
    go_wp2_with fail
    refine (L.out _).mono ?_
    rintro e w1 ⟨rfl, hx⟩
    obtain ⟨c0, c1, c2, c3, hz⟩ := box4 hx
    go_wp2_with fail
    refine (M1.out _).mono ?_
    rintro e w2 ⟨rfl, hy⟩
    have hx := hx.trans hy
    clear hy c0 c1 c2 c3 hz
    obtain ⟨c0, c1, c2, c3, hz⟩ := box4 hx
    go_wp2_with fail
    refine (M2.out _).mono ?_
    rintro e w3 ⟨rfl, hy⟩
    obtain ⟨d0, d1, hz2⟩ := box2 hy
    have hx' := (((Ext.refl w).alloc _).trans hx).trans (((Ext.refl _).alloc _).trans hy)
    clear c0 c1 c2 c3 hz hx
    go_wp2_with fail
    go_ret2
    exact ⟨rfl, hx'.alloc _⟩
end Go.Proofs.Ytbclkhkpmdbedaa
