/-
  Package guest: Next, Late, Jobs, walked.
-/
import Derived.Test.YtbpbmelfhgbogaaDoorGsNext
namespace Go.Proofs.YtbpbmelfhgbogaaDoor
set_option maxRecDepth 100000
open Go.RowKit
set_option linter.unusedVariables false
/-- A block of five cells, written anew. -/
theorem set5_blk {w : World} {b : Nat} {t : TypeId} {o0 o1 o2 o3 o4 : Value} (h : w.heap[b]? = some (.cells #[o0, o1, o2, o3, o4] t (0, 0))) (v0 v1 v2 v3 v4 : Value) :
    (((((w.setCell ⟨b, 0, none⟩ v0).setCell ⟨b, 1, none⟩ v1).setCell ⟨b, 2, none⟩ v2).setCell ⟨b, 3, none⟩ v3).setCell ⟨b, 4, none⟩ v4).heap[b]? = some (.cells #[v0, v1, v2, v3, v4] t (0, 0)) :=
  heap_setCell_same _ b 4 _ _ _ (heap_setCell_same _ b 3 _ _ _ (heap_setCell_same _ b 2 _ _ _ (heap_setCell_same _ b 1 _ _ _ (heap_setCell_same w b 0 _ _ _ h))))
theorem set5_fr (w : World) (b : Nat) (v0 v1 v2 v3 v4 : Value) :
    Fr w (((((w.setCell ⟨b, 0, none⟩ v0).setCell ⟨b, 1, none⟩ v1).setCell ⟨b, 2, none⟩ v2).setCell ⟨b, 3, none⟩ v3).setCell ⟨b, 4, none⟩ v4) (· = b) :=
  ((((Fr.store w ⟨b, 0, none⟩ _).trans (Fr.store _ ⟨b, 1, none⟩ _) (fun _ _ h => h)).trans (Fr.store _ ⟨b, 2, none⟩ _) (fun _ _ h => h)).trans (Fr.store _ ⟨b, 3, none⟩ _) (fun _ _ h => h)).trans (Fr.store _ ⟨b, 4, none⟩ _) (fun _ _ h => h)
theorem eltJob : Elt Tryd.prog 36 46 5 40 (.agg #[.int .i64 0, .int .i64 0, .int .i64 0, .int .i64 0, .int .i64 0]) := ⟨Tryd.underlying36, by kernel_rfl, rfl, by omega⟩
section
variable {w w' : World} {g tn tc jn jc : Nat} {TA JA : Option Addr} {p : Int} {ks : List TkV} {js : List JobV}
set_option maxHeartbeats 1600000 in
theorem Next_has (h : GS w g TA tn tc JA jn jc p ks js) {x : JobV} (hx : js[nextI p (tsk ks) js]? = some x) :
    Calls Tryd.prog 14 #[.pointer (some ⟨g, 0, none⟩)] w fun e w' => e = .returned (.tuple #[x.val, .bool true]) ∧ Ext w w' := by
  have X0 := (Ext.refl w).alloc (.cells #[.int .i64 0, .int .i64 0, .int .i64 0, .int .i64 0, .int .i64 0] 46)
  have hbr := heap_alloc_new w (.cells #[.int .i64 0, .int .i64 0, .int .i64 0, .int .i64 0, .int .i64 0] 46)
  have NX := next_any (h.ex X0)
  have hd : decide (0 < js.length) = true := by rw [decide_eq_true_eq]; have := (List.getElem?_eq_some_iff.1 hx).1; omega
  rw [hd] at NX
  obtain ⟨i, hi⟩ : ∃ i, nextI p (tsk ks) js = i := ⟨_, rfl⟩
  rw [hi] at NX hx
  have NX := Lib.hid NX
  have HW := Lib.hid (And.intro X0 hbr)
  obtain ⟨i5, hi5⟩ : ∃ i5, i * 5 = i5 := ⟨_, rfl⟩
  have CE := Lib.hid (fun w' (hx' : Ext w w') => And.intro (h.ex hx').c1 ((h.ex hx').jcell hx hi5))
  have z0 : (0 : Int) ≤ i := by omega
  have z1 : (i : Int) < jn := by have := h.jlen; have := (List.getElem?_eq_some_iff.1 hx).1; omega
  clear h X0 hbr hd hi hx
  go_enter Tryd.func14, Tryd.ntmps14
  go_wp2_with fail
  refine NX.out.mono ?_
  rintro e w1 ⟨rfl, x1⟩
  have X1 := HW.out.1.trans x1
  have br := (x1.block _ (block_lt HW.out.2)).trans HW.out.2
  generalize hb0 : w.heap.size = b0 at *
  obtain ⟨c1, S, rfl, _, _, e0, e1, e2, e3, e4⟩ := CE.out w1 X1
  have r0 : w1.cell? ⟨b0, 0, none⟩ = some (.int .i64 0) := block_cell br 0
  have r1 : w1.cell? ⟨b0, 1, none⟩ = some (.int .i64 0) := block_cell br 1
  have r2 : w1.cell? ⟨b0, 2, none⟩ = some (.int .i64 0) := block_cell br 2
  have r3 : w1.cell? ⟨b0, 3, none⟩ = some (.int .i64 0) := block_cell br 3
  have r4 : w1.cell? ⟨b0, 4, none⟩ = some (.int .i64 0) := block_cell br 4
  have q0 := block_fz br 0
  have q1 := block_fz br 1
  have q2 := block_fz br 2
  have q3 := block_fz br 3
  have q4 := block_fz br 4
  have HB := Lib.hid (set5_blk br (.int .i64 (x.T : Int)) (.int .i64 x.R) (.int .i64 x.D) (.int .i64 x.L) (.int .i64 x.N))
  have HF := Lib.hid (Fr.ext X1 (set5_fr w1 b0 (.int .i64 (x.T : Int)) (.int .i64 x.R) (.int .i64 x.D) (.int .i64 x.L) (.int .i64 x.N)) (fun i hi => by omega))
  clear X1 x1 br NX HW CE hb0
  go_wp2_with fail
  generalize ((((w1.setCell ⟨b0, 0, none⟩ (.int .i64 (x.T : Int))).setCell ⟨b0, 1, none⟩ (.int .i64 x.R)).setCell ⟨b0, 2, none⟩ (.int .i64 x.D)).setCell ⟨b0, 3, none⟩ (.int .i64 x.L)).setCell ⟨b0, 4, none⟩ (.int .i64 x.N) = w5 at *
  have t0 : w5.cell? ⟨b0, 0, none⟩ = some (.int .i64 (x.T : Int)) := block_cell HB.out 0
  have t1 : w5.cell? ⟨b0, 1, none⟩ = some (.int .i64 x.R) := block_cell HB.out 1
  have t2 : w5.cell? ⟨b0, 2, none⟩ = some (.int .i64 x.D) := block_cell HB.out 2
  have t3 : w5.cell? ⟨b0, 3, none⟩ = some (.int .i64 x.L) := block_cell HB.out 3
  have t4 : w5.cell? ⟨b0, 4, none⟩ = some (.int .i64 x.N) := block_cell HB.out 4
  refine bodyPost_ret (v := .tuple #[.agg #[.int .i64 (x.T : Int), .int .i64 x.R, .int .i64 x.D, .int .i64 x.L, .int .i64 x.N], .bool true]) (by simp [results, Tryd.results14, go_sem, t0, t1, t2, t3, t4]) rfl ?_
  exact ⟨rfl, HF.out⟩
set_option maxHeartbeats 1600000 in
theorem Next_none (h : GS w g TA tn tc JA jn jc p ks []) :
    Calls Tryd.prog 14 #[.pointer (some ⟨g, 0, none⟩)] w fun e w' => e = .returned (.tuple #[.agg #[.int .i64 0, .int .i64 0, .int .i64 0, .int .i64 0, .int .i64 0], .bool false]) ∧ Ext w w' := by
  have X0 := (Ext.refl w).alloc (.cells #[.int .i64 0, .int .i64 0, .int .i64 0, .int .i64 0, .int .i64 0] 46)
  have hbr := heap_alloc_new w (.cells #[.int .i64 0, .int .i64 0, .int .i64 0, .int .i64 0, .int .i64 0] 46)
  have NX := next_any (h.ex X0)
  have hd : decide (0 < ([] : List JobV).length) = false := rfl
  rw [hd] at NX
  generalize nextI p (tsk ks) [] = i at *
  have NX := Lib.hid NX
  have HW := Lib.hid (And.intro X0 hbr)
  clear h X0 hbr hd
  go_enter Tryd.func14, Tryd.ntmps14
  go_wp2_with fail
  refine NX.out.mono ?_
  rintro e w1 ⟨rfl, x1⟩
  have X1 := HW.out.1.trans x1
  have br := (x1.block _ (block_lt HW.out.2)).trans HW.out.2
  generalize hb0 : w.heap.size = b0 at *
  have r0 : w1.cell? ⟨b0, 0, none⟩ = some (.int .i64 0) := block_cell br 0
  have r1 : w1.cell? ⟨b0, 1, none⟩ = some (.int .i64 0) := block_cell br 1
  have r2 : w1.cell? ⟨b0, 2, none⟩ = some (.int .i64 0) := block_cell br 2
  have r3 : w1.cell? ⟨b0, 3, none⟩ = some (.int .i64 0) := block_cell br 3
  have r4 : w1.cell? ⟨b0, 4, none⟩ = some (.int .i64 0) := block_cell br 4
  have q0 := block_fz br 0
  have q1 := block_fz br 1
  have q2 := block_fz br 2
  have q3 := block_fz br 3
  have q4 := block_fz br 4
  have HB := Lib.hid (set5_blk br (.int .i64 0) (.int .i64 0) (.int .i64 0) (.int .i64 0) (.int .i64 0))
  have HF := Lib.hid (Fr.ext X1 (set5_fr w1 b0 (.int .i64 0) (.int .i64 0) (.int .i64 0) (.int .i64 0) (.int .i64 0)) (fun i hi => by omega))
  clear X1 x1 br NX HW hb0
  go_wp2_with fail
  generalize ((((w1.setCell ⟨b0, 0, none⟩ (.int .i64 0)).setCell ⟨b0, 1, none⟩ (.int .i64 0)).setCell ⟨b0, 2, none⟩ (.int .i64 0)).setCell ⟨b0, 3, none⟩ (.int .i64 0)).setCell ⟨b0, 4, none⟩ (.int .i64 0) = w5 at *
  have t0 : w5.cell? ⟨b0, 0, none⟩ = some (.int .i64 0) := block_cell HB.out 0
  have t1 : w5.cell? ⟨b0, 1, none⟩ = some (.int .i64 0) := block_cell HB.out 1
  have t2 : w5.cell? ⟨b0, 2, none⟩ = some (.int .i64 0) := block_cell HB.out 2
  have t3 : w5.cell? ⟨b0, 3, none⟩ = some (.int .i64 0) := block_cell HB.out 3
  have t4 : w5.cell? ⟨b0, 4, none⟩ = some (.int .i64 0) := block_cell HB.out 4
  refine bodyPost_ret (v := .tuple #[.agg #[.int .i64 0, .int .i64 0, .int .i64 0, .int .i64 0, .int .i64 0], .bool false]) (by simp [results, Tryd.results14, go_sem, t0, t1, t2, t3, t4]) rfl ?_
  exact ⟨rfl, HF.out⟩
/-- How many of the first k jobs are late. -/
def lateN (js : List JobV) (now : Int) (k : Nat) : Nat := (js.take k).countP fun j => decide (j.D ≤ now)
theorem lateN_le (js : List JobV) (now : Int) (k : Nat) : lateN js now k ≤ k := Nat.le_trans List.countP_le_length (by rw [List.length_take]; omega)
theorem lateN_succ {now : Int} {k : Nat} {x : JobV} (hx : js[k]? = some x) : lateN js now (k + 1) = lateN js now k + if x.D ≤ now then 1 else 0 := by
  unfold lateN
  rw [take_succ' hx, List.countP_append]
  by_cases h : x.D ≤ now <;> simp [h]
set_option maxHeartbeats 1600000 in
theorem late_any (h : GS w g TA tn tc JA jn jc p ks js) (now : Int) : Calls Tryd.prog 29 #[.pointer (some ⟨g, 0, none⟩), .int .i64 now] w fun e w' => e = .returned (.int .i64 (lateN js now jn : Int)) ∧ Ext w w' := by
  have c1 := h.c1
  have hjn := h.jn64
  have HG := Lib.hid h
  clear h
  go_enter Tryd.func29, Tryd.ntmps29
  go_wp2_with fail
  clear c1
  go_loopw [5, 7, 13] (fun v5 _ v13 wr => ∃ k m : Nat, v5 = .int .i64 (m : Int) ∧ v13 = .int .i64 (k : Int) ∧ k ≤ jn ∧ m ≤ k ∧ Hid (m = lateN js now k ∧ Ext w wr)) (fun _ _ v13 _ => jn - (intOf v13).toNat)
  case atStart => exact ⟨0, 0, rfl, rfl, by omega, by omega, by simp [lateN], Ext.refl w⟩
  case round =>
    obtain ⟨k, m, rfl, rfl, hk, hm, HI⟩ := hrel
    by_cases hlt : k < jn
    · obtain ⟨x, hx⟩ : ∃ x, js[k]? = some x := ⟨js[k]'(by have := HG.out.jlen; omega), List.getElem?_eq_getElem _⟩
      obtain ⟨k5, hk5⟩ : ∃ k5, k * 5 = k5 := ⟨_, rfl⟩
      have h1 := HG.out.ex HI.out.2
      obtain ⟨S, rfl, _, _, c0, c1, c2, c3, c4⟩ := h1.jcell hx hk5
      have z0 : (0 : Int) ≤ k := by omega
      have z1 : (k : Int) < jn := by omega
      have HL := Lib.hid (lateN_succ (now := now) hx)
      clear h1 hx
      by_cases hd : x.D ≤ now
      · have HL2 := Lib.hid (show lateN js now (k + 1) = m + 1 by rw [HL.out, if_pos hd, HI.out.1])
        go_wp2_with fail
        go_roundw
        case rel => exact ⟨k + 1, m + 1, by go_num, by go_num, by omega, by omega, HL2.out.symm, HI.out.2.alloc _⟩
        case measure => simp [intOf]; omega
      · have HL2 := Lib.hid (show lateN js now (k + 1) = m by rw [HL.out, if_neg hd, HI.out.1]; omega)
        go_wp2_with fail
        go_roundw
        case rel => exact ⟨k + 1, m, rfl, by go_num, by omega, by omega, HL2.out.symm, HI.out.2.alloc _⟩
        case measure => simp [intOf]; omega
    · obtain rfl : jn = k := by omega
      go_wp2_with fail
      go_returns
      exact ⟨by rw [← HI.out.1]; rfl, HI.out.2⟩
set_option maxHeartbeats 800000 in
theorem jclone_any (A : Option Addr) (n c : Nat) (js : List JobV) (w : World) (h : Rd w 5 A n (jrows js).flatten) (hn : n ≤ 64) :
    Calls Tryd.prog 24 #[.slice A n c] w fun e w' => ∃ A' c', e = .returned (.slice A' n c') ∧ Own w' w.heap.size 46 5 A' n c' (jrows js).flatten ∧ Ext w w' := by
  cases A with
  | none =>
    have h0 : n = 0 := by
      rcases Nat.eq_zero_or_pos n with e | e
      · exact e
      · obtain ⟨_, h1, _⟩ := h.2 e; cases h1
    subst h0
    have hb : js = [] := List.eq_nil_of_length_eq_zero (by have := h.len_j; omega)
    subst hb
    clear h
    have hq := fun (w : World) (a : Option Addr) (n c : Nat) => Lib.run_eql_slice_nil (P := Tryd.prog) w 36 46 a n c 0 0 Tryd.underlying36
    go_enter Tryd.func24, Tryd.ntmps24
    go_wp2_with fail
    go_ret
    exact ⟨none, 0, rfl, Own.nil_, Ext.refl w⟩
  | some ad =>
    have hq := fun (w : World) (a : Option Addr) (n c : Nat) => Lib.run_eql_slice_nil (P := Tryd.prog) w 36 46 a n c 0 0 Tryd.underlying36
    go_enter Tryd.func24, Tryd.ntmps24
    go_wp2_with (at_builtin; refine held ?_)
    have ho : Own (w.alloc (.cells #[] 46)) w.heap.size 46 5 (some ⟨w.heap.size, 0, none⟩) 0 0 [] := World.ownsRow_lit (size := 5) w #[] 0 (Nat.le_refl _) (by simp [maxLen]) rfl
    refine Held.go (wp_app (m := n) (news := (jrows js).flatten) eltJob ho (h.ext ((Ext.refl w).alloc _)) (jrows_one _) (by omega) (.inr ⟨by omega, by omega⟩) (by simp) _ _ rfl rfl rfl rfl ?_)
    intro A2 c2 w2 hown2 hg2 _ _
    rw [Nat.zero_add, List.nil_append] at hown2
    rw [Nat.zero_add]
    have hx2 := hg2.ext ((Ext.refl w).alloc _) ho.base_le
    clear h ho hg2
    go_wp2_with fail
    go_ret
    exact ⟨A2, c2, rfl, hown2, hx2⟩
set_option maxHeartbeats 800000 in
theorem jobs_any (h : GS w g TA tn tc JA jn jc p ks js) :
    Calls Tryd.prog 11 #[.pointer (some ⟨g, 0, none⟩)] w fun e w' => ∃ A' c', e = .returned (.slice A' jn c') ∧ Own w' w.heap.size 46 5 A' jn c' (jrows js).flatten ∧ Ext w w' := by
  have c1 := h.c1
  have C := Lib.hid (jclone_any JA jn jc js w h.jow.rd h.jn64)
  clear h
  go_enter Tryd.func11, Tryd.ntmps11
  go_wp2_with fail
  refine C.out.mono ?_
  rintro e w1 ⟨A', c', rfl, o1, x1⟩
  have H1 := Lib.hid (And.intro o1 x1)
  clear o1 x1 C
  go_wp2_with fail
  go_returns
  exact ⟨A', c', rfl, H1.out.1, H1.out.2⟩
end
end Go.Proofs.YtbpbmelfhgbogaaDoor
