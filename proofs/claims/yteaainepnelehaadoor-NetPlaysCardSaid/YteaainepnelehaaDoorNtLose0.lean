/-
  Package net: the test of Lose, and the search for a letter that meets it, walked.
-/
import Derived.Test.YteaainepnelehaaDoorNtOps3
namespace Go.Proofs.YteaainepnelehaaDoor
set_option maxRecDepth 100000
open Go.RowKit
set_option linter.unusedVariables false
/-- The test of Lose: it holds the node in a box. -/
def loseF (tb : Nat) : Value := .func (.func 30) #[] #[.pointer (some ⟨tb, 0, none⟩)]
section
variable {w w' : World} {base m c tb : Nat} {A : Option Addr} {ls : List LetV} {to : Int}
set_option maxHeartbeats 1600000 in
theorem lose1_any (x : LetV) (hc : w.cell? ⟨tb, 0, none⟩ = some (.int .i64 to)) (ht : tb < w.heap.size) (b : Bool) (hb : Hid (decide (x.T = to) = b)) :
    Calls Tryd.prog 30 #[x.val, .pointer (some ⟨tb, 0, none⟩)] w fun e w' => e = .returned (.bool b) ∧ Ext w w' := by
  have X0 := (Ext.refl w).alloc (.cells #[.int .i64 (x.N : Int), .int .i64 x.F, .int .i64 x.T, .slice x.A x.n x.c] 46)
  have hb0 := heap_alloc_new w (.cells #[.int .i64 (x.N : Int), .int .i64 x.F, .int .i64 x.T, .slice x.A x.n x.c] 46)
  have c1 := (X0.cell (p := ⟨tb, 0, none⟩) ht).trans hc
  have HW := Lib.hid (And.intro X0 hb0)
  have hbb : (x.T == to) = b := by
    rw [← hb.out, Bool.eq_iff_iff, beq_iff_eq, decide_eq_true_eq]
  unfold LetV.val
  clear X0 hb0 hc ht hb
  go_enter Tryd.func30, Tryd.ntmps30
  go_upto_region 1 with (fail)
  generalize w.alloc (.cells #[.int .i64 (x.N : Int), .int .i64 x.F, .int .i64 x.T, .slice x.A x.n x.c] 46) = V at *
  generalize w.heap.size = b0 at *
  have d2 : V.cell? ⟨b0, 2, none⟩ = some (.int .i64 x.T) := block_cell HW.out.2 2
  go_wp2_with fail
  go_returns
  exact ⟨rfl, HW.out.1⟩
/-- The first letter to a node, -1: there is none. -/
def firstTo (ls : List LetV) (to : Int) : Int := match ls.findIdx? (fun x => decide (x.T = to)) with
  | some k => (k : Int)
  | none => -1
theorem own_lcell (h : Own w base 46 4 A m c (lrows ls).flatten) {k k4 : Nat} {x : LetV} (hk : ls[k]? = some x) (h4 : k * 4 = k4) : ∃ S, A = some ⟨S, 0, none⟩ ∧
    w.cell? ⟨S, k4, none⟩ = some (.int .i64 (x.N : Int)) ∧ w.cell? ⟨S, k4 + 1, none⟩ = some (.int .i64 x.F) ∧ w.cell? ⟨S, k4 + 2, none⟩ = some (.int .i64 x.T) ∧ w.cell? ⟨S, k4 + 3, none⟩ = some (.slice x.A x.n x.c) := by
  have hkl : k < m := by have := h.rd.len_l; have := (List.getElem?_eq_some_iff.1 hk).1; omega
  obtain ⟨S, rfl⟩ := h.head (by omega)
  exact ⟨S, rfl, h.rowAt (lrows_even ls) (lrows_at hk) h4 (i := 0) rfl, h.rowAt (lrows_even ls) (lrows_at hk) h4 (i := 1) rfl, h.rowAt (lrows_even ls) (lrows_at hk) h4 (i := 2) rfl, h.rowAt (lrows_even ls) (lrows_at hk) h4 (i := 3) rfl⟩
set_option maxHeartbeats 3200000 in
theorem lidx_any (h : Own w base 46 4 A m c (lrows ls).flatten) (hm : m ≤ 4096) (hc : w.cell? ⟨tb, 0, none⟩ = some (.int .i64 to)) (ht : tb < w.heap.size) :
    Calls Tryd.prog 35 #[.slice A m c, loseF tb] w fun e w' => e = .returned (.int .i64 (firstTo ls to)) ∧ Ext w w' := by
  have HG := Lib.hid h
  have HL := Lib.hid h.rd.len_l
  have HC := Lib.hid (fun W (hx : Ext w W) => (show W.cell? ⟨tb, 0, none⟩ = some (.int .i64 to) ∧ tb < W.heap.size from ⟨(hx.cell (p := ⟨tb, 0, none⟩) ht).trans hc, Nat.lt_of_lt_of_le ht hx.size⟩))
  obtain ⟨v, hv⟩ : ∃ v, firstTo ls to = v := ⟨_, rfl⟩
  rw [hv]
  have HV := Lib.hid hv
  unfold loseF
  clear h hc ht hv
  go_enter Tryd.func35, Tryd.ntmps35
  go_wp2_with fail
  go_loopw [5, 8] (fun _ v8 wr => ∃ k : Nat, v8 = .int .i64 (k : Int) ∧ k ≤ m ∧ Hid (Ext w wr ∧ ∀ (i : Nat) (y : LetV), i < k → ls[i]? = some y → decide (y.T = to) = false)) (fun _ v8 _ => m - (intOf v8).toNat)
  case atStart => exact ⟨0, rfl, by omega, Ext.refl w, fun i y h => absurd h (by omega)⟩
  case round =>
    obtain ⟨k, rfl, hk, HI⟩ := hrel
    by_cases hlt : k < m
    · obtain ⟨x, hx⟩ : ∃ x, ls[k]? = some x := ⟨ls[k]'(by have := HL.out; omega), List.getElem?_eq_getElem _⟩
      obtain ⟨k4, hk4⟩ : ∃ k4, k * 4 = k4 := ⟨_, rfl⟩
      obtain ⟨S, rfl, c0, c1, c2, c3⟩ := own_lcell (HG.out.ext HI.out.1) hx hk4
      have z0 : (0 : Int) ≤ k := by omega
      have z1 : (k : Int) < m := by omega
      have HX := Lib.hid hx
      obtain ⟨b, hb⟩ : ∃ b, decide (x.T = to) = b := ⟨_, rfl⟩
      have HB := Lib.hid hb
      have C := lose1_any x (HC.out wr HI.out.1).1 (HC.out wr HI.out.1).2 b HB
      unfold LetV.val at C
      have C := Lib.hid C
      clear hx hb
      go_wp2_with fail
      refine C.out.mono ?_
      rintro e w1 ⟨rfl, x1⟩
      have X1 := Lib.hid (HI.out.1.trans x1)
      clear x1 C c0 c1 c2 c3 hk4
      cases b with
      | true =>
        go_wp2_with fail
        go_returns
        refine ⟨?_, X1.out⟩
        have e : firstTo ls to = (k : Int) := by
          obtain ⟨hl, hxx⟩ := List.getElem?_eq_some_iff.1 HX.out
          have e : ls.findIdx? (fun x => decide (x.T = to)) = some k := List.findIdx?_eq_some_iff_getElem.2 ⟨hl, by rw [hxx]; exact HB.out, fun j hj => by
            have h1 := HI.out.2 j ls[j] hj (List.getElem?_eq_getElem (by omega))
            simpa using h1⟩
          unfold firstTo
          rw [e]
        rw [← HV.out, e]; rfl
      | false =>
        go_wp2_with fail
        go_roundw
        case rel => exact ⟨k + 1, by go_num, by omega, X1.out, fun i y hi hy => by
          rcases Nat.lt_or_ge i k with h5 | h5
          · exact HI.out.2 i y h5 hy
          · obtain rfl : i = k := by omega
            have := HX.out; rw [hy] at this; injection this with this; subst this; exact HB.out⟩
        case measure => simp [intOf]; omega
    · obtain rfl : m = k := by omega
      go_wp2_with fail
      go_returns
      refine ⟨?_, HI.out.1⟩
      have e : firstTo ls to = -1 := by
        have e : ls.findIdx? (fun x => decide (x.T = to)) = none := List.findIdx?_eq_none_iff.2 fun x hx => by
          obtain ⟨q, hq⟩ := List.getElem?_of_mem hx
          exact HI.out.2 q x (by have := HL.out; have := (List.getElem?_eq_some_iff.1 hq).1; omega) hq
        unfold firstTo
        rw [e]
      rw [← HV.out, e]; rfl
end
end Go.Proofs.YteaainepnelehaaDoor
