/-
  Packages plan and almonerref08: legal tasks and guests, walked.
-/
import Derived.Test.YtbpbmelfhgbogaaDoorGsPlain
import Derived.Test.YtbpbmelfhgbogaaDoorErr
import Derived.Test.YtbpbmelfhgbogaaDoorRow
import Derived.Handy
namespace Go.Proofs.YtbpbmelfhgbogaaDoor
set_option maxRecDepth 100000
open Go.RowKit
set_option linter.unusedVariables false
abbrev TaskV.val (t : TaskV) : Value := .agg #[.int .i64 t.C, .int .i64 t.P, .int .i64 t.D, .int .i64 t.S]
def TaskV.cells (t : TaskV) : List Value := [.int .i64 t.C, .int .i64 t.P, .int .i64 t.D, .int .i64 t.S]
def trows (ts : List TaskV) : List (List Value) := ts.map TaskV.cells
theorem trows_even (ts : List TaskV) : Even 4 (trows ts) := by
  intro r hr
  obtain ⟨x, _, rfl⟩ := List.mem_map.1 hr
  rfl
theorem trows_at {ts : List TaskV} {k : Nat} {x : TaskV} (h : ts[k]? = some x) : (trows ts)[k]? = some x.cells := by simp [trows, h]
theorem trows_len (ts : List TaskV) : (trows ts).length = ts.length := by simp [trows]
theorem Rd.len_t {w : World} {A : Option Addr} {m : Nat} {ts : List TaskV} (h : Rd w 4 A m (trows ts).flatten) : ts.length = m := by
  have h1 := h.1
  rw [(trows_even ts).len, trows_len] at h1
  omega
theorem add_lit' (a : Addr) {k : Nat} (hk : k ≠ 0) : a.add k = ⟨a.block, a.off + k, none⟩ := by unfold Addr.add; rw [if_neg hk]
/-- A guest is legal. -/
def LG (p : Int) (ts : List TaskV) : Prop := (p = 1 ∨ p = 2) ∧ 1 ≤ ts.length ∧ ts.length ≤ 8 ∧ ∀ t ∈ ts, t.legal
abbrev errE (p : Addr) : Value := .iface 85 (.pointer (some p))
set_option maxHeartbeats 1600000 in
theorem ltask_yes (t : TaskV) (w : World) (h : t.legal) : Calls Tryd.prog 37 #[t.val] w fun e w' => e = .returned (.bool true) ∧ Ext w w' := by
  obtain ⟨C, P, D, S⟩ := t
  obtain ⟨h1, h2, h3, h4, h5, h6⟩ := h
  dsimp only at h1 h2 h3 h4 h5 h6
  unfold TaskV.val
  go_enter Tryd.func37, Tryd.ntmps37
  go_wp2_with fail
  go_returns
  exact ⟨rfl, (Ext.refl w).alloc _⟩
set_option maxHeartbeats 1600000 in
theorem ltask_no (t : TaskV) (w : World) (h : ¬ t.legal) : Calls Tryd.prog 37 #[t.val] w fun e w' => e = .returned (.bool false) ∧ Ext w w' := by
  obtain ⟨C, P, D, S⟩ := t
  unfold TaskV.legal at h
  dsimp only at h
  unfold TaskV.val
  by_cases g0 : C < 1
  · clear h
    have k0 : ¬ 1 ≤ C := by omega
    go_enter Tryd.func37, Tryd.ntmps37
    go_wp2_with fail
    go_returns
    exact ⟨rfl, (Ext.refl w).alloc _⟩
  replace g0 : 1 ≤ C := by omega
  by_cases g1 : D < C
  · clear h
    have k1 : ¬ C ≤ D := by omega
    go_enter Tryd.func37, Tryd.ntmps37
    go_wp2_with fail
    go_returns
    exact ⟨rfl, (Ext.refl w).alloc _⟩
  replace g1 : C ≤ D := by omega
  by_cases g2 : P < D
  · clear h
    have k2 : ¬ D ≤ P := by omega
    go_enter Tryd.func37, Tryd.ntmps37
    go_wp2_with fail
    go_returns
    exact ⟨rfl, (Ext.refl w).alloc _⟩
  replace g2 : D ≤ P := by omega
  by_cases g3 : 256 < P
  · clear h
    have k3 : ¬ P ≤ 256 := by omega
    go_enter Tryd.func37, Tryd.ntmps37
    go_wp2_with fail
    go_returns
    exact ⟨rfl, (Ext.refl w).alloc _⟩
  replace g3 : P ≤ 256 := by omega
  by_cases g4 : S < 0
  · clear h
    have k4 : ¬ 0 ≤ S := by omega
    go_enter Tryd.func37, Tryd.ntmps37
    go_wp2_with fail
    go_returns
    exact ⟨rfl, (Ext.refl w).alloc _⟩
  replace g4 : 0 ≤ S := by omega
  have k5 : ¬ S ≤ C := by omega
  clear h
  go_enter Tryd.func37, Tryd.ntmps37
  go_wp2_with fail
  go_returns
  exact ⟨rfl, (Ext.refl w).alloc _⟩
set_option maxHeartbeats 1600000 in
theorem rtask_yes (t : TaskV) (w : World) (h : t.legal) : Calls Tryd.prog 23 #[t.val] w fun e w' => e = .returned (.bool true) ∧ Ext w w' := by
  obtain ⟨C, P, D, S⟩ := t
  obtain ⟨h1, h2, h3, h4, h5, h6⟩ := h
  dsimp only at h1 h2 h3 h4 h5 h6
  unfold TaskV.val
  go_enter Tryd.func23, Tryd.ntmps23
  go_wp2_with fail
  go_returns
  exact ⟨rfl, (Ext.refl w).alloc _⟩
set_option maxHeartbeats 1600000 in
theorem rtask_no (t : TaskV) (w : World) (h : ¬ t.legal) : Calls Tryd.prog 23 #[t.val] w fun e w' => e = .returned (.bool false) ∧ Ext w w' := by
  obtain ⟨C, P, D, S⟩ := t
  unfold TaskV.legal at h
  dsimp only at h
  unfold TaskV.val
  by_cases g0 : C < 1
  · clear h
    have k0 : ¬ 1 ≤ C := by omega
    go_enter Tryd.func23, Tryd.ntmps23
    go_wp2_with fail
    go_returns
    exact ⟨rfl, (Ext.refl w).alloc _⟩
  replace g0 : 1 ≤ C := by omega
  by_cases g1 : D < C
  · clear h
    have k1 : ¬ C ≤ D := by omega
    go_enter Tryd.func23, Tryd.ntmps23
    go_wp2_with fail
    go_returns
    exact ⟨rfl, (Ext.refl w).alloc _⟩
  replace g1 : C ≤ D := by omega
  by_cases g2 : P < D
  · clear h
    have k2 : ¬ D ≤ P := by omega
    go_enter Tryd.func23, Tryd.ntmps23
    go_wp2_with fail
    go_returns
    exact ⟨rfl, (Ext.refl w).alloc _⟩
  replace g2 : D ≤ P := by omega
  by_cases g3 : 256 < P
  · clear h
    have k3 : ¬ P ≤ 256 := by omega
    go_enter Tryd.func23, Tryd.ntmps23
    go_wp2_with fail
    go_returns
    exact ⟨rfl, (Ext.refl w).alloc _⟩
  replace g3 : P ≤ 256 := by omega
  by_cases g4 : S < 0
  · clear h
    have k4 : ¬ 0 ≤ S := by omega
    go_enter Tryd.func23, Tryd.ntmps23
    go_wp2_with fail
    go_returns
    exact ⟨rfl, (Ext.refl w).alloc _⟩
  replace g4 : 0 ≤ S := by omega
  have k5 : ¬ S ≤ C := by omega
  clear h
  go_enter Tryd.func23, Tryd.ntmps23
  go_wp2_with fail
  go_returns
  exact ⟨rfl, (Ext.refl w).alloc _⟩

set_option maxHeartbeats 1600000 in
theorem ctasks_any (A : Option Addr) (n c : Nat) (ts : List TaskV) (w : World) (hr : Rd w 4 A n (trows ts).flatten) (hn : n ≤ 4611686018427387904) {q : Addr} (hS : Sen w 3 q) (R : Value) (hR : Hid ((((∀ t ∈ ts, t.legal) ∧ n ≤ 8) → R = .nilIface) ∧ (¬ ((∀ t ∈ ts, t.legal) ∧ n ≤ 8) → R = errE q))) :
    Calls Tryd.prog 31 #[.slice A n c] w fun e w' => e = .returned R ∧ Ext w w' := by
  have HO := Lib.hid (And.intro hr hr.len_t)
  have SG := Lib.hid (fun w' (hx : Ext w w') => (hS.ext hx).2.1)
  clear hr hS
  go_enter Tryd.func31, Tryd.ntmps31
  go_wp2_with fail
  go_loopw [4, 7] (fun _ v7 wr => ∃ k : Nat, v7 = .int .i64 (k : Int) ∧ k ≤ n ∧ Hid (Ext w wr ∧ ∀ i t, i < k → ts[i]? = some t → t.legal)) (fun _ v7 _ => n - (intOf v7).toNat)
  case atStart => exact ⟨0, rfl, by omega, Ext.refl w, fun i t h => absurd h (by omega)⟩
  case round =>
    obtain ⟨k, rfl, hk, HI⟩ := hrel
    by_cases hlt : k < n
    · obtain ⟨t, ht⟩ : ∃ t, ts[k]? = some t := ⟨ts[k]'(by have := HO.out.2; omega), List.getElem?_eq_getElem _⟩
      obtain ⟨k4, hk4⟩ : ∃ k4, k * 4 = k4 := ⟨_, rfl⟩
      obtain ⟨ad, rfl, _, _⟩ := HO.out.1.2 (show 0 < n by omega)
      have hrr := HO.out.1.ext HI.out.1
      have k0 := hrr.rowAt (trows_even ts) (trows_at ht) hk4 (i := 0) rfl
      have k1 := hrr.rowAt (trows_even ts) (trows_at ht) hk4 (i := 1) rfl
      have k2 := hrr.rowAt (trows_even ts) (trows_at ht) hk4 (i := 2) rfl
      have k3 := hrr.rowAt (trows_even ts) (trows_at ht) hk4 (i := 3) rfl
      rw [Nat.add_zero] at k0
      rw [← add_add', add_lit' _ (by omega)] at k1 k2 k3
      have z0 : (0 : Int) ≤ k := by omega
      have z1 : (k : Int) < n := by omega
      have HT := Lib.hid ht
      have X1 := (Ext.refl wr).alloc (.cells #[.int .i64 t.C, .int .i64 t.P, .int .i64 t.D, .int .i64 t.S] 41)
      have e3 := SG.out _ (HI.out.1.trans X1)
      have XX := Lib.hid X1
      clear hrr ht X1
      by_cases hl : t.legal
      · have C := Lib.hid (fun w' => ltask_yes t w' hl)
        unfold TaskV.val at C
        have HL := Lib.hid hl
        clear hl
        go_wp2_with fail
        refine (C.out _).mono ?_
        rintro e w1 ⟨rfl, x1⟩
        have X1 := Lib.hid (HI.out.1.trans (XX.out.trans x1))
        clear x1 k0 k1 k2 k3 e3 hk4
        go_wp2_with fail
        go_roundw
        case rel => exact ⟨k + 1, by go_num, by omega, X1.out, fun i u hi hu => by
          rcases Nat.lt_or_ge i k with h5 | h5
          · exact HI.out.2 i u h5 hu
          · obtain rfl : i = k := by omega
            have := HT.out; rw [hu] at this; injection this with this; subst this; exact HL.out⟩
        case measure => simp [intOf]; omega
      · have C := Lib.hid (fun w' => ltask_no t w' hl)
        unfold TaskV.val at C
        have HL := Lib.hid hl
        clear hl
        go_wp2_with fail
        refine (C.out _).mono ?_
        rintro e w1 ⟨rfl, x1⟩
        have e4 := SG.out _ (HI.out.1.trans (XX.out.trans x1))
        have X1 := Lib.hid (HI.out.1.trans (XX.out.trans x1))
        clear x1 k0 k1 k2 k3 e3 hk4
        go_wp2_with fail
        go_returns
        exact ⟨by rw [hR.out.2 (fun h => HL.out (h.1 t (List.mem_of_getElem? HT.out)))]; rfl, X1.out⟩
    · obtain rfl : n = k := by omega
      have hall : ∀ t ∈ ts, t.legal := fun t ht => by
        obtain ⟨i, hi⟩ := List.getElem?_of_mem ht
        exact HI.out.2 i t (by have := (List.getElem?_eq_some_iff.1 hi).1; have := HO.out.2; omega) hi
      have HA := Lib.hid hall
      have e3 := SG.out _ HI.out.1
      clear hall
      by_cases h8 : n ≤ 8
      · have h8' : ¬ (8 : Int) < (n : Int) := by omega
        go_wp2_with fail
        go_returns
        exact ⟨by rw [hR.out.1 ⟨HA.out, h8⟩]; rfl, HI.out.1⟩
      · have h8' : (8 : Int) < (n : Int) := by omega
        go_wp2_with fail
        go_returns
        exact ⟨by rw [hR.out.2 (fun h => h8 h.2)]; rfl, HI.out.1⟩
set_option maxHeartbeats 1600000 in
theorem cguest_any (p : Int) (A : Option Addr) (n c : Nat) (ts : List TaskV) (w : World) (hr : Rd w 4 A n (trows ts).flatten) (hn : n ≤ 4611686018427387904) {q : Addr} (hS : Sen w 3 q) (R : Value) (hR : Hid ((LG p ts → R = .nilIface) ∧ (¬ LG p ts → R = errE q))) :
    Calls Tryd.prog 20 #[.int .i64 p, .slice A n c] w fun e w' => e = .returned R ∧ Ext w w' := by
  have hl := hr.len_t
  have e3 := hS.2.1
  by_cases hp : (p = 1 ∨ p = 2) ∧ 1 ≤ n
  · have C := Lib.hid (ctasks_any A n c ts w hr hn hS R (Lib.hid ⟨fun h => hR.out.1 ⟨hp.1, by omega, by omega, h.1⟩, fun h => hR.out.2 (fun h1 => h ⟨h1.2.2.2, by have := h1.2.2.1; omega⟩)⟩))
    obtain ⟨hp, hn1⟩ := hp
    have n0 : ((n : Int) == 0) = false := by rw [beq_eq_false_iff_ne]; omega
    clear hr hS hl
    rcases hp with rfl | rfl
    · go_enter Tryd.func20, Tryd.ntmps20
      go_wp2_with fail
      refine C.out.mono ?_
      rintro e w1 ⟨rfl, x1⟩
      go_wp2_with fail
      go_returns
      exact ⟨rfl, x1⟩
    · go_enter Tryd.func20, Tryd.ntmps20
      go_wp2_with fail
      refine C.out.mono ?_
      rintro e w1 ⟨rfl, x1⟩
      go_wp2_with fail
      go_returns
      exact ⟨rfl, x1⟩
  · have hRR := hR.out.2 (fun h => hp ⟨h.1, by have := h.2.1; omega⟩)
    have HP := Lib.hid hp
    subst hRR
    clear hR hr hS
    by_cases h12 : p = 1 ∨ p = 2
    · obtain rfl : n = 0 := by have := HP.out; rcases Nat.eq_zero_or_pos n with h | h; exact h; exact absurd ⟨h12, h⟩ this
      clear HP hp hl
      rcases h12 with rfl | rfl
      · go_enter Tryd.func20, Tryd.ntmps20
        go_wp2_with fail
        go_returns
        exact ⟨rfl, Ext.refl w⟩
      · go_enter Tryd.func20, Tryd.ntmps20
        go_wp2_with fail
        go_returns
        exact ⟨rfl, Ext.refl w⟩
    · have p1 : (p != 1) = true := by simp only [bne_iff_ne, ne_eq]; omega
      have p2 : (p != 2) = true := by simp only [bne_iff_ne, ne_eq]; omega
      clear HP hp h12 hl
      go_enter Tryd.func20, Tryd.ntmps20
      go_wp2_with fail
      go_returns
      exact ⟨rfl, Ext.refl w⟩
end Go.Proofs.YtbpbmelfhgbogaaDoor
