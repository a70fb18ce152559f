/-
  Package server: the functions that begin a tick, walked.
-/
import Derived.Test.YtakilnelbmbjdaaDoorSrv
namespace Go.Proofs.YtakilnelbmbjdaaDoor
open Go.RowKit
set_option linter.unusedVariables false
set_option maxHeartbeats 1600000 in
theorem boundary_any (w : World) {g : Nat} {x : Kd} {c : Ck} {wk : Bool} (now : Int) (h : Sv w g x c wk) (hn : x.s ≤ now ∧ now ≤ 2199023255552) (hs : 0 ≤ x.s) (ht : 1 ≤ x.t ∧ x.t ≤ 256) :
    Calls Tryd.prog 32 #[.pointer (some ⟨g, 0, none⟩), .int .i64 now] w fun e w' => e = .returned (.bool ((now - x.s) % x.t == 0)) ∧ Ext w w' := by
  obtain ⟨c0, c1, c2, c3, c4, c5, c6, c7, c8⟩ := h.cells
  have hl := h.lt
  have e1 : IntKind.i64.wrap (now - x.s) = now - x.s := by rw [IntKind.wrap_i64]; omega
  have e2 : (now - x.s).tmod x.t = (now - x.s) % x.t := Int.tmod_eq_emod_of_nonneg (by omega)
  have e3 : 0 ≤ (now - x.s) % x.t := Int.emod_nonneg _ (by omega)
  have e4 : (now - x.s) % x.t < x.t := Int.emod_lt_of_pos _ (by omega)
  have e5 : x.t ≠ 0 := by omega
  clear h
  go_enter Tryd.func32, Tryd.ntmps32
  go_wp2_with fail
  go_quiet (fail)
  go_wp2_with fail
  go_returns
  exact ⟨rfl, (Ext.refl w).drewN _⟩
/-- A budget begins. -/
def Ck.full (x : Kd) (now : Int) : Ck := ⟨x.q, now + x.t, true⟩
def polC (x : Kd) (c : Ck) (now : Int) (wk : Bool) : Ck := if wk = false then ⟨0, c.d, false⟩ else if ((now - x.s) % x.t == 0) = true then Ck.full x now else c
def spoC (x : Kd) (c : Ck) (now : Int) (wk : Bool) : Ck := if wk = false then ⟨0, c.d, false⟩ else if c.d ≤ now then Ck.full x now else c
def defC (x : Kd) (c : Ck) (now : Int) : Ck := if ((now - x.s) % x.t == 0) = true then Ck.full x now else c
/-- What a call on a server leaves. -/
def SvOut (w : World) (g : Nat) (x : Kd) (c : Ck) (wk : Bool) (w' : World) : Prop := Sv w' g x c wk ∧ Fr w w' (· = g)
theorem SvOut.mono {a b c : World} {g : Nat} {x : Kd} {k : Ck} {wk : Bool} (h : Fr a b (· = g)) (hk : SvOut b g x k wk c) : SvOut a g x k wk c := ⟨hk.1, h.trans hk.2 (fun _ _ h => h)⟩
set_option maxHeartbeats 1600000 in
theorem pol_any (w : World) {g : Nat} {x : Kd} {c : Ck} {wk : Bool} (now : Int) (h : Sv w g x c wk) (hn : x.s ≤ now ∧ now ≤ 2199023255552) (hs : 0 ≤ x.s) (ht : 1 ≤ x.t ∧ x.t ≤ 256) :
    Calls Tryd.prog 27 #[.pointer (some ⟨g, 0, none⟩), .int .i64 now] w fun e w' => e = .returned (.tuple #[]) ∧ SvOut w g x (polC x c now wk) wk w' := by
  have H := Lib.hid h
  have B := Lib.hid (fun w' (h : Sv w' g x c wk) => boundary_any w' now h hn hs ht)
  have F := Lib.hid (fun w' (h : Sv w' g x c wk) => fill_any w' now h (by omega) ht)
  obtain ⟨c0, c1, c2, c3, c4, c5, c6, c7, c8⟩ := h.cells
  have hl := h.lt
  clear h hn hs ht
  cases wk
  · go_enter Tryd.func27, Tryd.ntmps27
    go_wp2_with fail
    refine (off_any w H.out).mono ?_
    rintro e w1 ⟨rfl, h1, f1⟩
    go_wp2_with fail
    go_returns
    exact ⟨rfl, h1, f1⟩
  · unfold polC
    cases hb : ((now - x.s) % x.t == 0)
    · go_enter Tryd.func27, Tryd.ntmps27
      go_wp2_with fail
      refine (B.out w H.out).mono ?_
      rintro e w1 ⟨rfl, hx⟩
      rw [hb]
      go_wp2_with fail
      go_returns
      exact ⟨rfl, H.out.ext hx, Fr.of_ext hx _⟩
    · go_enter Tryd.func27, Tryd.ntmps27
      go_wp2_with fail
      refine (B.out w H.out).mono ?_
      rintro e w1 ⟨rfl, hx⟩
      rw [hb]
      go_wp2_with fail
      refine (F.out w1 (H.out.ext hx)).mono ?_
      rintro e w2 ⟨rfl, h1, f1⟩
      go_wp2_with fail
      go_returns
      exact ⟨rfl, h1, (Fr.of_ext hx _).trans f1 (fun _ _ h => h)⟩
set_option maxHeartbeats 1600000 in
theorem spo_any (w : World) {g : Nat} {x : Kd} {c : Ck} {wk : Bool} (now : Int) (h : Sv w g x c wk) (hn : x.s ≤ now ∧ now ≤ 2199023255552) (hs : 0 ≤ x.s) (ht : 1 ≤ x.t ∧ x.t ≤ 256) :
    Calls Tryd.prog 28 #[.pointer (some ⟨g, 0, none⟩), .int .i64 now] w fun e w' => e = .returned (.tuple #[]) ∧ SvOut w g x (spoC x c now wk) wk w' := by
  have H := Lib.hid h
  have F := Lib.hid (fun w' (h : Sv w' g x c wk) => fill_any w' now h (by omega) ht)
  obtain ⟨c0, c1, c2, c3, c4, c5, c6, c7, c8⟩ := h.cells
  have hl := h.lt
  clear h hn hs ht
  cases wk
  · go_enter Tryd.func28, Tryd.ntmps28
    go_wp2_with fail
    refine (off_any w H.out).mono ?_
    rintro e w1 ⟨rfl, h1, f1⟩
    go_wp2_with fail
    go_returns
    exact ⟨rfl, h1, f1⟩
  · unfold spoC
    by_cases hb : c.d ≤ now
    · rw [if_pos hb]
      go_enter Tryd.func28, Tryd.ntmps28
      go_wp2_with fail
      refine (F.out w H.out).mono ?_
      rintro e w2 ⟨rfl, h1, f1⟩
      go_wp2_with fail
      go_returns
      exact ⟨rfl, h1, f1⟩
    · rw [if_neg hb]
      go_enter Tryd.func28, Tryd.ntmps28
      go_wp2_with fail
      go_returns
      exact ⟨rfl, H.out, Fr.refl _ _⟩
set_option maxHeartbeats 1600000 in
theorem def_any (w : World) {g : Nat} {x : Kd} {c : Ck} {wk : Bool} (now : Int) (h : Sv w g x c wk) (hn : x.s ≤ now ∧ now ≤ 2199023255552) (hs : 0 ≤ x.s) (ht : 1 ≤ x.t ∧ x.t ≤ 256) :
    Calls Tryd.prog 29 #[.pointer (some ⟨g, 0, none⟩), .int .i64 now] w fun e w' => e = .returned (.tuple #[]) ∧ SvOut w g x (defC x c now) wk w' := by
  have H := Lib.hid h
  have B := Lib.hid (fun w' (h : Sv w' g x c wk) => boundary_any w' now h hn hs ht)
  have F := Lib.hid (fun w' (h : Sv w' g x c wk) => fill_any w' now h (by omega) ht)
  have hl := h.lt
  clear h hn hs ht
  unfold defC
  cases hb : ((now - x.s) % x.t == 0)
  · go_enter Tryd.func29, Tryd.ntmps29
    go_wp2_with fail
    refine (B.out w H.out).mono ?_
    rintro e w1 ⟨rfl, hx⟩
    rw [hb]
    go_wp2_with fail
    go_returns
    exact ⟨rfl, H.out.ext hx, Fr.of_ext hx _⟩
  · go_enter Tryd.func29, Tryd.ntmps29
    go_wp2_with fail
    refine (B.out w H.out).mono ?_
    rintro e w1 ⟨rfl, hx⟩
    rw [hb]
    go_wp2_with fail
    refine (F.out w1 (H.out.ext hx)).mono ?_
    rintro e w2 ⟨rfl, h1, f1⟩
    go_wp2_with fail
    go_returns
    exact ⟨rfl, h1, (Fr.of_ext hx _).trans f1 (fun _ _ h => h)⟩
set_option maxHeartbeats 1600000 in
theorem ready_any (w : World) {g : Nat} {x : Kd} {c : Ck} {wk : Bool} (h : Sv w g x c wk) :
    Calls Tryd.prog 19 #[.pointer (some ⟨g, 0, none⟩)] w fun e w' => e = .returned (.bool (wk && decide (0 < c.b))) ∧ w = w' := by
  obtain ⟨c0, c1, c2, c3, c4, c5, c6, c7, c8⟩ := h.cells
  clear h
  cases wk
  · go_enter Tryd.func19, Tryd.ntmps19
    go_wp2_with fail
    go_returns
    exact ⟨rfl, rfl⟩
  · go_enter Tryd.func19, Tryd.ntmps19
    go_wp2_with fail
    go_returns
    exact ⟨rfl, rfl⟩
/-- The budget behind the beginning of a tick. -/
def begC (x : Kd) (c : Ck) (now : Int) (wk : Bool) : Ck := if x.k = 1 then polC x c now wk else if x.k = 2 then spoC x c now wk else defC x c now
set_option maxHeartbeats 1600000 in
theorem begin_any (w : World) {g : Nat} {x : Kd} {c : Ck} {wk0 : Bool} (now : Int) (wk : Bool) (h : Sv w g x c wk0) (hn : x.s ≤ now ∧ now ≤ 2199023255552) (hs : 0 ≤ x.s) (ht : 1 ≤ x.t ∧ x.t ≤ 256) :
    Calls Tryd.prog 14 #[.pointer (some ⟨g, 0, none⟩), .int .i64 now, .bool wk] w fun e w' => e = .returned (.bool (wk && decide (0 < (begC x c now wk).b))) ∧ SvOut w g x (begC x c now wk) wk w' := by
  obtain ⟨c0, c1, c2, c3, c4, c5, c6, c7, c8⟩ := h.cells
  have f7 := h.free 7
  have h7 : Sv (w.setCell ⟨g, 7, none⟩ (.bool wk)) g x c wk := heap_setCell_same w g 7 _ _ _ h
  have r7 : Fr w (w.setCell ⟨g, 7, none⟩ (.bool wk)) (· = g) := Fr.store w ⟨g, 7, none⟩ _
  have P := Lib.hid (fun w' (h : Sv w' g x c wk) => pol_any w' now h hn hs ht)
  have S := Lib.hid (fun w' (h : Sv w' g x c wk) => spo_any w' now h hn hs ht)
  have D := Lib.hid (fun w' (h : Sv w' g x c wk) => def_any w' now h hn hs ht)
  have hl := h.lt
  clear h hn hs ht
  unfold fnOf at c8
  unfold begC
  by_cases k1 : x.k = 1
  · rw [if_pos k1] at c8 ⊢
    go_enter Tryd.func14, Tryd.ntmps14
    go_wp2_with fail
    refine (P.out _ h7).mono ?_
    rintro e w1 ⟨rfl, h1, f1⟩
    go_wp2_with fail
    refine (ready_any w1 h1).mono ?_
    rintro e w2 ⟨rfl, rfl⟩
    go_wp2_with fail
    go_returns
    exact ⟨rfl, h1, r7.trans f1 (fun _ _ h => h)⟩
  · by_cases k2 : x.k = 2
    · rw [if_neg k1, if_pos k2] at c8 ⊢
      go_enter Tryd.func14, Tryd.ntmps14
      go_wp2_with fail
      refine (S.out _ h7).mono ?_
      rintro e w1 ⟨rfl, h1, f1⟩
      go_wp2_with fail
      refine (ready_any w1 h1).mono ?_
      rintro e w2 ⟨rfl, rfl⟩
      go_wp2_with fail
      go_returns
      exact ⟨rfl, h1, r7.trans f1 (fun _ _ h => h)⟩
    · rw [if_neg k1, if_neg k2] at c8 ⊢
      go_enter Tryd.func14, Tryd.ntmps14
      go_wp2_with fail
      refine (D.out _ h7).mono ?_
      rintro e w1 ⟨rfl, h1, f1⟩
      go_wp2_with fail
      refine (ready_any w1 h1).mono ?_
      rintro e w2 ⟨rfl, rfl⟩
      go_wp2_with fail
      go_returns
      exact ⟨rfl, h1, r7.trans f1 (fun _ _ h => h)⟩
theorem getter_budget (w : World) {g : Nat} {x : Kd} {c : Ck} {wk : Bool} (h : Sv w g x c wk) :
    Calls Tryd.prog 17 #[.pointer (some ⟨g, 0, none⟩)] w fun e w' => e = .returned (.int .i64 c.b) ∧ w = w' := by
  obtain ⟨c0, c1, c2, c3, c4, c5, c6, c7, c8⟩ := h.cells
  clear h
  go_enter Tryd.func17, Tryd.ntmps17
  go_wp2_with fail
  go_returns
  exact ⟨rfl, rfl⟩
theorem getter_deadline (w : World) {g : Nat} {x : Kd} {c : Ck} {wk : Bool} (h : Sv w g x c wk) :
    Calls Tryd.prog 15 #[.pointer (some ⟨g, 0, none⟩)] w fun e w' => e = .returned (.int .i64 c.d) ∧ w = w' := by
  obtain ⟨c0, c1, c2, c3, c4, c5, c6, c7, c8⟩ := h.cells
  clear h
  go_enter Tryd.func15, Tryd.ntmps15
  go_wp2_with fail
  go_returns
  exact ⟨rfl, rfl⟩
theorem getter_on (w : World) {g : Nat} {x : Kd} {c : Ck} {wk : Bool} (h : Sv w g x c wk) :
    Calls Tryd.prog 20 #[.pointer (some ⟨g, 0, none⟩)] w fun e w' => e = .returned (.bool c.on) ∧ w = w' := by
  obtain ⟨c0, c1, c2, c3, c4, c5, c6, c7, c8⟩ := h.cells
  clear h
  go_enter Tryd.func20, Tryd.ntmps20
  go_wp2_with fail
  go_returns
  exact ⟨rfl, rfl⟩
set_option maxHeartbeats 800000 in
theorem getter_kind (w : World) {g : Nat} {x : Kd} {c : Ck} {wk : Bool} (h : Sv w g x c wk) :
    Calls Tryd.prog 25 #[.pointer (some ⟨g, 0, none⟩)] w fun e w' => e = .returned (srv x.k x.q x.t) ∧ Ext w w' := by
  obtain ⟨c0, c1, c2, c3, c4, c5, c6, c7, c8⟩ := h.cells
  have hl := h.lt
  clear h
  unfold srv
  go_enter Tryd.func25, Tryd.ntmps25
  go_wp2_with fail
  go_returns
  exact ⟨rfl, (Ext.refl w).alloc _⟩
set_option maxHeartbeats 800000 in
theorem charge_yes (w : World) {g : Nat} {x : Kd} {c : Ck} {wk : Bool} (h : Sv w g x c wk) (hw : (wk && decide (0 < c.b)) = true) (hb : c.b ≤ 1024) :
    Calls Tryd.prog 16 #[.pointer (some ⟨g, 0, none⟩)] w fun e w' => e = .returned .nilIface ∧ SvOut w g x ⟨c.b - 1, c.d, c.on⟩ wk w' := by
  obtain ⟨c0, c1, c2, c3, c4, c5, c6, c7, c8⟩ := h.cells
  have f0 := h.free 0
  have R := Lib.hid (ready_any w h)
  have h0 : Sv (w.setCell ⟨g, 0, none⟩ (.int .i64 (c.b - 1))) g x ⟨c.b - 1, c.d, c.on⟩ wk := heap_setCell_same w g 0 _ _ _ h
  have r0 : Fr w (w.setCell ⟨g, 0, none⟩ (.int .i64 (c.b - 1))) (· = g) := Fr.store w ⟨g, 0, none⟩ _
  have hl := h.lt
  have hb0 : 0 < c.b := by simp at hw; exact hw.2
  rw [hw] at R
  clear h hw
  go_enter Tryd.func16, Tryd.ntmps16
  go_wp2_with fail
  refine R.out.mono ?_
  rintro e w2 ⟨rfl, rfl⟩
  go_wp2_with fail
  go_returns
  exact ⟨rfl, h0, r0⟩
set_option maxHeartbeats 800000 in
theorem charge_no (w : World) {g : Nat} {x : Kd} {c : Ck} {wk : Bool} {p : Addr} (hS : Sen w 0 p) (h : Sv w g x c wk) (hw : (wk && decide (0 < c.b)) = false) :
    Calls Tryd.prog 16 #[.pointer (some ⟨g, 0, none⟩)] w fun e w' => e = .returned (.iface 59 (.pointer (some p))) ∧ w = w' := by
  have R := Lib.hid (ready_any w h)
  rw [hw] at R
  have cS := hS.2.1
  clear h hw hS
  go_enter Tryd.func16, Tryd.ntmps16
  go_wp2_with fail
  refine R.out.mono ?_
  rintro e w2 ⟨rfl, rfl⟩
  go_wp2_with fail
  go_returns
  exact ⟨rfl, rfl⟩
end Go.Proofs.YtakilnelbmbjdaaDoor
