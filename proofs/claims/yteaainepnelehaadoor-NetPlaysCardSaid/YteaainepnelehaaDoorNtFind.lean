/-
  Package net: letters in a row of rising numbers; the search for a number, walked.
-/
import Derived.Test.YteaainepnelehaaDoorRow
import Derived.Test.YteaainepnelehaaDoorErr
import Derived.Handy
namespace Go.Proofs.YteaainepnelehaaDoor
set_option maxRecDepth 100000
open Go.RowKit
set_option linter.unusedVariables false
/-- A letter: number, from, to, bytes. -/
structure LetV where
  N : Nat
  F : Int
  T : Int
  A : Option Addr
  n : Nat
  c : Nat
  l : List Nat
def LetV.cells (x : LetV) : List Value := [.int .i64 (x.N : Int), .int .i64 x.F, .int .i64 x.T, .slice x.A x.n x.c]
def LetV.val (x : LetV) : Value := .agg #[.int .i64 (x.N : Int), .int .i64 x.F, .int .i64 x.T, .slice x.A x.n x.c]
def lrows (ls : List LetV) : List (List Value) := ls.map LetV.cells
theorem lrows_even (ls : List LetV) : Even 4 (lrows ls) := by
  intro r hr
  obtain ⟨x, _, rfl⟩ := List.mem_map.1 hr
  rfl
theorem lrows_at {ls : List LetV} {k : Nat} {x : LetV} (h : ls[k]? = some x) : (lrows ls)[k]? = some x.cells := by simp [lrows, h]
theorem lrows_len (ls : List LetV) : (lrows ls).length = ls.length := by simp [lrows]
/-- The letters are in the slice '.slice A m c'. -/
abbrev RdL (w : World) (A : Option Addr) (m : Nat) (ls : List LetV) : Prop := Rd w 4 A m (lrows ls).flatten
theorem Rd.len_l {w : World} {A : Option Addr} {m : Nat} {ls : List LetV} (h : Rd w 4 A m (lrows ls).flatten) : ls.length = m := by
  have h1 := h.1
  rw [(lrows_even ls).len, lrows_len] at h1
  omega
def Rising (ls : List LetV) : Prop := ∀ (i j : Nat) (x y : LetV), i < j → ls[i]? = some x → ls[j]? = some y → x.N < y.N
theorem Rising.inj {ls : List LetV} (h : Rising ls) {i j : Nat} {x y : LetV} (hi : ls[i]? = some x) (hj : ls[j]? = some y) (e : x.N = y.N) : i = j := by
  rcases Nat.lt_trichotomy i j with h1 | h1 | h1
  · have := h i j x y h1 hi hj; omega
  · exact h1
  · have := h j i y x h1 hj hi; omega
set_option maxHeartbeats 800000 in
theorem nan_any (a : Int) (w : World) : Calls Tryd.prog 36 #[.int .i64 a] w fun e w' => e = .returned (.bool false) ∧ w = w' := by
  go_enter Tryd.func36, Tryd.ntmps36
  go_wp2
  go_returns
  exact ⟨rfl, rfl⟩
/-- -1, 0, 1. -/
def cmpI (a b : Int) : Int := if a < b then -1 else if b < a then 1 else 0
theorem cmpI_lt {a b : Int} (h : a < b) : cmpI a b = -1 := by simp [cmpI, h]
theorem cmpI_gt {a b : Int} (h : b < a) : cmpI a b = 1 := by rw [cmpI, if_neg (by omega), if_pos h]
theorem cmpI_eq (a : Int) : cmpI a a = 0 := by simp [cmpI]
set_option maxHeartbeats 800000 in
theorem cmp_any (a b : Int) (w : World) : Calls Tryd.prog 34 #[.int .i64 a, .int .i64 b] w fun e w' => e = .returned (.int .i64 (cmpI a b)) ∧ w = w' := by
  have H := Lib.hid (And.intro (cmpI_lt (a := a) (b := b)) (And.intro (cmpI_gt (a := a) (b := b)) (fun h : a = b => show cmpI a b = 0 by rw [h]; exact cmpI_eq b)))
  rcases Int.lt_trichotomy a b with h | h | h
  · have h1 : ¬ b < a := by omega
    go_enter Tryd.func34, Tryd.ntmps34
    go_wp2_with (go_at_call 36; refine (nan_any _ _).mono ?_; rintro e w' ⟨rfl, rfl⟩)
    go_returns
    exact ⟨by rw [H.out.1 h]; rfl, rfl⟩
  · have h0 := H.out.2.2 h
    have H0 := Lib.hid h0
    subst h
    clear h0 H
    go_enter Tryd.func34, Tryd.ntmps34
    go_wp2_with (go_at_call 36; refine (nan_any _ _).mono ?_; rintro e w' ⟨rfl, rfl⟩)
    go_returns
    exact ⟨by rw [H0.out]; rfl, rfl⟩
  · have h1 : ¬ a < b := by omega
    go_enter Tryd.func34, Tryd.ntmps34
    go_wp2_with (go_at_call 36; refine (nan_any _ _).mono ?_; rintro e w' ⟨rfl, rfl⟩)
    go_returns
    exact ⟨by rw [H.out.2.1 h]; rfl, rfl⟩
set_option maxHeartbeats 800000 in
theorem key_any (N F T y : Int) (A : Option Addr) (n c : Nat) (w : World) : Calls Tryd.prog 33 #[.agg #[.int .i64 N, .int .i64 F, .int .i64 T, .slice A n c], .int .i64 y] w fun e w' => e = .returned (.int .i64 (cmpI N y)) ∧ Ext w w' := by
  have C := Lib.hid (fun w' => cmp_any N y w')
  go_enter Tryd.func33, Tryd.ntmps33
  go_wp2_with fail
  refine (C.out _).mono ?_
  rintro e w1 ⟨rfl, rfl⟩
  go_wp2_with fail
  go_returns
  exact ⟨rfl, (Ext.refl w).alloc _⟩
/-- The function value of the search's key. -/
abbrev keyF : Value := .func (.func 33) #[] #[]
set_option maxHeartbeats 1600000 in
theorem bsf_any (A : Option Addr) (m c : Nat) (y : Int) (ls : List LetV) (w : World) {base : Nat} (hr : Own w base 46 4 A m c (lrows ls).flatten) (hs : Rising ls) (hm : m ≤ 4611686018427387904) :
    Calls Tryd.prog 32 #[.slice A m c, .int .i64 y, keyF] w fun e w' => ∃ i : Nat, i ≤ m ∧ Ext w w' ∧
      ((∃ x, ls[i]? = some x ∧ (x.N : Int) = y ∧ e = .returned (.tuple #[.int .i64 (i : Int), .bool true])) ∨ ((∀ x ∈ ls, (x.N : Int) ≠ y) ∧ e = .returned (.tuple #[.int .i64 (i : Int), .bool false]))) := by
  have hlen := hr.rd.len_l
  have HR := Lib.hid (And.intro hr (And.intro hs hlen))
  have HK := Lib.hid (fun (x : LetV) (w' : World) => key_any (x.N : Int) x.F x.T y x.A x.n x.c w')
  clear hr hs hlen
  go_enter Tryd.func32, Tryd.ntmps32
  go_wp2_with fail
  go_loopw [9, 10] (fun v9 v10 wr => ∃ i j : Nat, v9 = .int .i64 (i : Int) ∧ v10 = .int .i64 (j : Int) ∧ i ≤ j ∧ j ≤ m ∧ Hid (Ext w wr ∧ (∀ k x, k < i → ls[k]? = some x → (x.N : Int) < y) ∧ ∀ k x, j ≤ k → ls[k]? = some x → y ≤ (x.N : Int))) (fun v9 v10 _ => (intOf v10).toNat - (intOf v9).toNat)
  case atStart => exact ⟨0, m, rfl, rfl, by omega, by omega, Ext.refl w, fun k x h => absurd h (by omega), fun k x h hx => by have := (List.getElem?_eq_some_iff.1 hx).1; have := HR.out.2.2; omega⟩
  case round =>
    obtain ⟨i, j, rfl, rfl, hij, hjm, HI⟩ := hrel
    by_cases hlt : i < j
    · obtain ⟨h, hh⟩ : ∃ h, (i + j) / 2 = h := ⟨_, rfl⟩
      have hq : ((i : Int) + (j : Int)) / 2 = (h : Int) := by omega
      have hih : i ≤ h := by omega
      have hhj : h < j := by omega
      obtain ⟨x, hx⟩ : ∃ x, ls[h]? = some x := ⟨ls[h]'(by have := HR.out.2.2; omega), List.getElem?_eq_getElem _⟩
      obtain ⟨h4, hh4⟩ : ∃ h4, h * 4 = h4 := ⟨_, rfl⟩
      obtain ⟨S, rfl⟩ := HR.out.1.head (by omega)
      have hrr := HR.out.1.ext HI.out.1
      have k0 : wr.cell? ⟨S, h4, none⟩ = some (.int .i64 (x.N : Int)) := hrr.rowAt (lrows_even ls) (lrows_at hx) hh4 (i := 0) rfl
      have k1 := hrr.rowAt (lrows_even ls) (lrows_at hx) hh4 (i := 1) rfl
      have k2 := hrr.rowAt (lrows_even ls) (lrows_at hx) hh4 (i := 2) rfl
      have k3 := hrr.rowAt (lrows_even ls) (lrows_at hx) hh4 (i := 3) rfl
      have h0 : (0 : Int) ≤ h := by omega
      have h1 : (h : Int) < m := by omega
      have HH := Lib.hid (And.intro hh hx)
      clear hh hx hrr
      go_wp2_with fail
      refine (HK.out x wr).mono ?_
      rintro e w1 ⟨rfl, x1⟩
      have X1 := Lib.hid (HI.out.1.trans x1)
      clear k0 k1 k2 k3 x1
      by_cases hlt2 : (x.N : Int) < y
      · have hc := cmpI_lt (a := (x.N : Int)) (b := y) (by omega)
        generalize cmpI (x.N : Int) y = ci at *
        subst hc
        go_wp2_with fail
        go_roundw
        case rel => exact ⟨h + 1, j, by go_num, rfl, by omega, by omega, X1.out, fun k z hk hz => by
          rcases Nat.lt_trichotomy k h with h5 | h5 | h5
          · have := HR.out.2.1 k h z x h5 hz HH.out.2; omega
          · subst h5; have := HH.out.2; rw [hz] at this; injection this with this; subst this; exact hlt2
          · omega, HI.out.2.2⟩
        case measure => simp [intOf]; omega
      · have hc : ¬ cmpI (x.N : Int) y < 0 := by
          rcases Int.lt_trichotomy (x.N : Int) y with h5 | h5 | h5
          · omega
          · rw [h5, cmpI_eq]; omega
          · rw [cmpI_gt h5]; omega
        generalize cmpI (x.N : Int) y = ci at *
        go_wp2_with fail
        go_roundw
        case rel => exact ⟨i, h, rfl, rfl, by omega, by omega, X1.out, HI.out.2.1, fun k z hk hz => by
          rcases Nat.lt_trichotomy k h with h5 | h5 | h5
          · omega
          · subst h5; have := HH.out.2; rw [hz] at this; injection this with this; subst this; omega
          · have := HR.out.2.1 h k x z h5 HH.out.2 hz; omega⟩
        case measure => simp [intOf]; omega
    · obtain rfl : i = j := by omega
      by_cases him : i < m
      · obtain ⟨x, hx⟩ : ∃ x, ls[i]? = some x := ⟨ls[i]'(by have := HR.out.2.2; omega), List.getElem?_eq_getElem _⟩
        obtain ⟨h4, hh4⟩ : ∃ h4, i * 4 = h4 := ⟨_, rfl⟩
        obtain ⟨S, rfl⟩ := HR.out.1.head (by omega)
        have hrr := HR.out.1.ext HI.out.1
        have k0 : wr.cell? ⟨S, h4, none⟩ = some (.int .i64 (x.N : Int)) := hrr.rowAt (lrows_even ls) (lrows_at hx) hh4 (i := 0) rfl
        have k1 := hrr.rowAt (lrows_even ls) (lrows_at hx) hh4 (i := 1) rfl
        have k2 := hrr.rowAt (lrows_even ls) (lrows_at hx) hh4 (i := 2) rfl
        have k3 := hrr.rowAt (lrows_even ls) (lrows_at hx) hh4 (i := 3) rfl
        have h0 : (0 : Int) ≤ i := by omega
        have h1 : (i : Int) < m := by omega
        have HH := Lib.hid hx
        have hge := HI.out.2.2 i x (Nat.le_refl _) hx
        clear hx hrr
        go_wp2_with fail
        refine (HK.out x wr).mono ?_
        rintro e w1 ⟨rfl, x1⟩
        have X1 := Lib.hid (HI.out.1.trans x1)
        clear k0 k1 k2 k3 x1
        by_cases he : (x.N : Int) = y
        · have hc : cmpI (x.N : Int) y = 0 := by rw [he]; exact cmpI_eq _
          have HE := Lib.hid he
          clear he
          generalize cmpI (x.N : Int) y = ci at *
          subst hc
          go_wp2_with fail
          go_returns
          exact ⟨i, by omega, X1.out, .inl ⟨x, HH.out, HE.out, rfl⟩⟩
        · have hc : (cmpI (x.N : Int) y == 0) = false := by rw [cmpI_gt (by omega)]; rfl
          generalize cmpI (x.N : Int) y = ci at *
          go_wp2_with fail
          go_returns
          refine ⟨i, by omega, X1.out, .inr ⟨fun z hz e => ?_, rfl⟩⟩
          obtain ⟨k, hk⟩ := List.getElem?_of_mem hz
          rcases Nat.lt_trichotomy k i with h5 | h5 | h5
          · have := HI.out.2.1 k z h5 hk; omega
          · subst h5; have := HH.out; rw [hk] at this; injection this with this; subst this; omega
          · have := HR.out.2.1 i k x z h5 HH.out hk; omega
      · go_wp2_with fail
        go_returns
        refine ⟨i, by omega, HI.out.1, .inr ⟨fun z hz e => ?_, rfl⟩⟩
        obtain ⟨k, hk⟩ := List.getElem?_of_mem hz
        have h5 := (List.getElem?_eq_some_iff.1 hk).1
        have h6 := HR.out.2.2
        have := HI.out.2.1 k z (by omega) hk
        omega
end Go.Proofs.YteaainepnelehaaDoor
