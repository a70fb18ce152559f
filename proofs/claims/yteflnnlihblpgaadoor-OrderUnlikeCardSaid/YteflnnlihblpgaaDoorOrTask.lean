/-
  Package order: the test of a task; a row of tasks tested, walked.
-/
import Derived.Test.YteflnnlihblpgaaDoorOrFit
import Derived.Test.YteflnnlihblpgaaDoorMem
namespace Go.Proofs.YteflnnlihblpgaaDoor
set_option maxRecDepth 100000
open Go.RowKit
set_option linter.unusedVariables false
def trow (t : Tk) : List Value := [.int .i64 t.C, .int .i64 t.P, .int .i64 t.D, .int .i64 t.S]
def trows (ts : List Tk) : List (List Value) := ts.map trow
theorem trows_even (ts : List Tk) : Even 4 (trows ts) := by
  intro r hr
  obtain ⟨x, _, rfl⟩ := List.mem_map.1 hr
  rfl
theorem trows_at {ts : List Tk} {k : Nat} {x : Tk} (h : ts[k]? = some x) : (trows ts)[k]? = some (trow x) := by simp [trows, h]
theorem trows_len (ts : List Tk) : (trows ts).length = ts.length := by simp [trows]
theorem trow_one (t : Tk) : ∀ u ∈ trow t, u.oneCell' = true := by
  intro u hu
  simp [trow] at hu
  rcases hu with rfl | rfl | rfl | rfl <;> rfl
theorem trows_one (ts : List Tk) : ∀ u ∈ (trows ts).flatten, u.oneCell' = true := by
  intro u hu
  obtain ⟨r, hr, hur⟩ := List.mem_flatten.1 hu
  obtain ⟨x, _, rfl⟩ := List.mem_map.1 hr
  exact trow_one x u hur
theorem rd_tlen {w : World} {A : Option Addr} {n : Nat} {ts : List Tk} (h : Rd w 4 A n (trows ts).flatten) : ts.length = n := by
  have h1 := h.1
  rw [(trows_even ts).len, trows_len] at h1
  omega
/-- A task's cells in a row. -/
theorem Rd.task {w : World} {A : Option Addr} {n k k4 : Nat} {ts : List Tk} {x : Tk} (h : Rd w 4 A n (trows ts).flatten) (hk : ts[k]? = some x) (h4 : k * 4 = k4) : ∃ ad, A = some ad ∧
    w.cell? (ad.add k4) = some (.int .i64 x.C) ∧ w.cell? ⟨(ad.add k4).block, (ad.add k4).off + 1, none⟩ = some (.int .i64 x.P) ∧ w.cell? ⟨(ad.add k4).block, (ad.add k4).off + 2, none⟩ = some (.int .i64 x.D) ∧ w.cell? ⟨(ad.add k4).block, (ad.add k4).off + 3, none⟩ = some (.int .i64 x.S) := by
  have hkl := (List.getElem?_eq_some_iff.1 hk).1
  have hl := rd_tlen h
  obtain ⟨ad, rfl, _, _⟩ := h.2 (by omega)
  have k0 := h.rowAt (trows_even ts) (trows_at hk) h4 (i := 0) rfl
  have k1 := h.rowAt (trows_even ts) (trows_at hk) h4 (i := 1) rfl
  have k2 := h.rowAt (trows_even ts) (trows_at hk) h4 (i := 2) rfl
  have k3 := h.rowAt (trows_even ts) (trows_at hk) h4 (i := 3) rfl
  have lit : ∀ (a : Addr) {j : Nat}, j ≠ 0 → a.add j = ⟨a.block, a.off + j, none⟩ := fun a j hj => by unfold Addr.add; rw [if_neg hj]
  rw [Nat.add_zero] at k0
  rw [← add_add', lit _ (by omega)] at k1 k2 k3
  exact ⟨ad, rfl, k0, k1, k2, k3⟩
def tkF : Value := .func (.func 79) #[] #[]
set_option maxHeartbeats 1600000 in
theorem tktest_any (t : Tk) (w : World) (b : Bool) (hb : Hid (t.fit = b)) : Calls Tryd.prog 79 #[.agg #[.int .i64 t.C, .int .i64 t.P, .int .i64 t.D, .int .i64 t.S]] w fun e w' => e = .returned (.bool (!b)) ∧ Ext w w' := by
  have X0 := (Ext.refl w).alloc (.cells #[.int .i64 t.C, .int .i64 t.P, .int .i64 t.D, .int .i64 t.S] 47)
  have hob := heap_alloc_new w (.cells #[.int .i64 t.C, .int .i64 t.P, .int .i64 t.D, .int .i64 t.S] 47)
  have HV := Lib.hid (And.intro hob X0)
  clear hob X0
  go_enter Tryd.func79, Tryd.ntmps79
  go_upto_region 1 with (fail)
  generalize w.alloc (.cells #[.int .i64 t.C, .int .i64 t.P, .int .i64 t.D, .int .i64 t.S] 47) = V at *
  generalize w.heap.size = ob at *
  have c0 : V.cell? ⟨ob, 0, none⟩ = some (.int .i64 t.C) := block_cell HV.out.1 0
  have c1 : V.cell? ⟨ob, 1, none⟩ = some (.int .i64 t.P) := block_cell HV.out.1 1
  have c2 : V.cell? ⟨ob, 2, none⟩ = some (.int .i64 t.D) := block_cell HV.out.1 2
  have c3 : V.cell? ⟨ob, 3, none⟩ = some (.int .i64 t.S) := block_cell HV.out.1 3
  have RN : Rd (V.alloc (.cells #[.int .i64 t.C, .int .i64 t.P, .int .i64 t.D, .int .i64 t.S] 3)) 1 (some ⟨V.heap.size, 0, none⟩) 4 (ints t.ns) := Rd.new V #[.int .i64 t.C, .int .i64 t.P, .int .i64 t.D, .int .i64 t.S] 3 (0, 0)
  have CF := Lib.hid (fit_any _ 4 4 t.ns _ RN (by omega) b hb)
  have HX := Lib.hid (HV.out.2.trans ((Ext.refl V).alloc (.cells #[.int .i64 t.C, .int .i64 t.P, .int .i64 t.D, .int .i64 t.S] 3)))
  clear RN
  go_wp2_with (go_at_call 77; refine CF.out.mono ?_; rintro e w1 ⟨rfl, rfl⟩)
  go_returns
  exact ⟨rfl, HX.out⟩
set_option maxHeartbeats 1600000 in
theorem tkidx_any (A : Option Addr) (n c : Nat) (ts : List Tk) (w : World) (hr : Rd w 4 A n (trows ts).flatten) (hn : n ≤ 1000000000000000) : Calls Tryd.prog 88 #[.slice A n c, tkF] w fun e w' => Ext w w' ∧ ((ts.all Tk.fit = true ∧ e = .returned (.int .i64 (-1))) ∨ (ts.all Tk.fit = false ∧ ∃ k : Nat, k < n ∧ e = .returned (.int .i64 (k : Int)))) := by
  have hl := rd_tlen hr
  have HR := Lib.hid hr
  unfold tkF
  clear hr
  go_enter Tryd.func88, Tryd.ntmps88
  go_wp2_with fail
  go_loopw [8] (fun v8 wr => ∃ k : Nat, v8 = .int .i64 (k : Int) ∧ k ≤ n ∧ Hid (Ext w wr ∧ ∀ (j : Nat) (y : Tk), j < k → ts[j]? = some y → y.fit = true)) (fun v8 _ => n - (intOf v8).toNat)
  case atStart => exact ⟨0, rfl, by omega, Ext.refl w, fun j y hj => by omega⟩
  case round =>
    obtain ⟨k, rfl, hk, HI⟩ := hrel
    by_cases hlt : k < n
    · obtain ⟨x, hx⟩ : ∃ x, ts[k]? = some x := ⟨ts[k]'(by omega), List.getElem?_eq_getElem _⟩
      obtain ⟨k4, hk4⟩ : ∃ k4, k * 4 = k4 := ⟨_, rfl⟩
      obtain ⟨ad, rfl, y0, y1, y2, y3⟩ := (HR.out.ext HI.out.1).task hx hk4
      have k0 : (0 : Int) ≤ k := by omega
      have k1 : (k : Int) < n := by omega
      have HX := Lib.hid hx
      obtain ⟨b, hb⟩ : ∃ b, x.fit = b := ⟨_, rfl⟩
      have HB := Lib.hid hb
      have CT := Lib.hid (tktest_any x wr b HB)
      clear hx hb
      go_upto_region 4 with (fail)
      cases b with
      | false =>
        go_wp2_with (refine CT.out.mono ?_; rintro e w1 ⟨rfl, x1⟩)
        go_returns
        exact ⟨HI.out.1.trans x1, .inr ⟨Bool.eq_false_iff.2 (fun h => by
          have h1 := List.all_eq_true.1 h x (List.mem_of_getElem? HX.out)
          rw [HB.out] at h1
          cases h1), k, hlt, rfl⟩⟩
      | true =>
        go_wp2_with (refine CT.out.mono ?_; rintro e w1 ⟨rfl, x1⟩)
        have H1 := Lib.hid (HI.out.1.trans x1)
        clear y0 y1 y2 y3 x1 CT
        go_roundw
        case rel => exact ⟨k + 1, by go_num, by omega, H1.out, fun j y hj hy => by
          by_cases e : j = k
          · rw [e, HX.out] at hy
            injection hy with hy
            rw [← hy]
            exact HB.out
          · exact HI.out.2 j y (by omega) hy⟩
        case measure => simp [intOf]; omega
    · obtain rfl : n = k := by omega
      go_wp2_with fail
      go_returns
      exact ⟨HI.out.1, .inl ⟨List.all_eq_true.2 fun y hy => by
        obtain ⟨j, hj⟩ := List.getElem?_of_mem hy
        exact HI.out.2 j y (by have := (List.getElem?_eq_some_iff.1 hj).1; omega) hj, rfl⟩⟩
set_option maxHeartbeats 1600000 in
theorem tkany_any (A : Option Addr) (n c : Nat) (ts : List Tk) (w : World) (hr : Rd w 4 A n (trows ts).flatten) (hn : n ≤ 1000000000000000) (b : Bool) (hb : Hid (ts.all Tk.fit = b)) : Calls Tryd.prog 78 #[.slice A n c, tkF] w fun e w' => e = .returned (.bool (!b)) ∧ Ext w w' := by
  have C0 := tkidx_any A n c ts w hr hn
  unfold tkF at *
  cases b with
  | true =>
    have C1 := Lib.hid (C0.mono (R' := fun e w' => e = .returned (.int .i64 (-1)) ∧ Ext w w') (by
      rintro e w' ⟨x, ⟨_, rfl⟩ | ⟨h, _⟩⟩
      · exact ⟨rfl, x⟩
      · rw [hb.out] at h; cases h))
    clear hr C0
    go_enter Tryd.func78, Tryd.ntmps78
    go_wp2_with (refine C1.out.mono ?_; rintro e w1 ⟨rfl, x1⟩)
    go_returns
    exact ⟨rfl, x1⟩
  | false =>
    have C1 := Lib.hid (C0.mono (R' := fun e w' => ∃ k : Nat, e = .returned (.int .i64 (k : Int)) ∧ Ext w w') (by
      rintro e w' ⟨x, ⟨h, _⟩ | ⟨_, k, _, rfl⟩⟩
      · rw [hb.out] at h; cases h
      · exact ⟨k, rfl, x⟩))
    clear hr C0
    go_enter Tryd.func78, Tryd.ntmps78
    go_wp2_with (refine C1.out.mono ?_; rintro e w1 ⟨k, rfl, x1⟩)
    go_returns
    exact ⟨rfl, x1⟩
end Go.Proofs.YteflnnlihblpgaaDoor
