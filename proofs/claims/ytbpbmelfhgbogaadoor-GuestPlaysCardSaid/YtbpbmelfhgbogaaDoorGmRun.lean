/-
  The document's guest: Run, walked.
-/
import Derived.Test.YtbpbmelfhgbogaaDoorGmRel
import Derived.Test.YtbpbmelfhgbogaaDoorRowAt
namespace Go.Proofs.YtbpbmelfhgbogaaDoor
set_option maxRecDepth 100000
open Go.RowKit
set_option linter.unusedVariables false
section
variable {w w' : World} {B g tn tc lc jn jc : Nat} {TA LA JA : Option Addr} {p : Int} {ks : List TkV} {js : List JobV}
theorem List.map_eraseIdx' {α β : Type} (f : α → β) : ∀ (l : List α) (i : Nat), (l.map f).eraseIdx i = (l.eraseIdx i).map f
  | [], _ => rfl
  | _ :: _, 0 => rfl
  | a :: l, i + 1 => by simp [List.map_eraseIdx' f l i]
/-- What Run leaves. -/
structure MRun (w w' : World) (B g : Nat) (TA : Option Addr) (tn tc : Nat) (LA : Option Addr) (lc : Nat) (JA : Option Addr) (p : Int) (ks : List TkV) (js' : List JobV) : Prop where
  ex : ∃ JA' jn' jc', MS w' B g TA tn tc LA lc JA' jn' jc' p ks js' ∧ ∀ a, JA' = some a → JA.map (·.block) = some a.block ∨ w.heap.size ≤ a.block
  fr : Fr w w' (fun b => b = g ∨ JA.map (·.block) = some b)
set_option maxHeartbeats 1600000 in
theorem rrun_none (h : MS w B g TA tn tc LA lc JA jn jc p ks []) :
    Calls Tryd.prog 18 #[.pointer (some ⟨g, 0, none⟩)] w fun e w' => e = .returned (.tuple #[.agg #[.int .i64 0, .int .i64 0, .int .i64 0, .int .i64 0, .int .i64 0], .bool false, .int .i64 16]) ∧ Ext w w' := by
  have X0 := (Ext.refl w).alloc (.cells #[.int .i64 0, .int .i64 0, .int .i64 0, .int .i64 0, .int .i64 0] 46)
  have hbr := heap_alloc_new w (.cells #[.int .i64 0, .int .i64 0, .int .i64 0, .int .i64 0, .int .i64 0] 46)
  have NX := rnext_any (h.ex X0)
  have hd : nextV p (tsk ks) [] = -1 := rfl
  rw [hd] at NX
  have NX := Lib.hid NX
  have HW := Lib.hid (And.intro X0 hbr)
  clear h X0 hbr hd
  go_enter Tryd.func18, Tryd.ntmps18
  go_wp2_with fail
  refine NX.out.mono ?_
  rintro e w1 ⟨rfl, x1⟩
  have X1 := HW.out.1.trans x1
  have br := (x1.block _ (block_lt HW.out.2)).trans HW.out.2
  generalize hb0 : w.heap.size = b0 at *
  have r0 : w1.cell? ⟨b0, 0, none⟩ = some (.int .i64 0) := block_cell br 0
  have r1 : w1.cell? ⟨b0, 1, none⟩ = some (.int .i64 0) := block_cell br 1
  have r2 : w1.cell? ⟨b0, 2, none⟩ = some (.int .i64 0) := block_cell br 2
  have r3 : w1.cell? ⟨b0, 3, none⟩ = some (.int .i64 0) := block_cell br 3
  have r4 : w1.cell? ⟨b0, 4, none⟩ = some (.int .i64 0) := block_cell br 4
  have q0 := block_fz br 0
  have q1 := block_fz br 1
  have q2 := block_fz br 2
  have q3 := block_fz br 3
  have q4 := block_fz br 4
  have HB := Lib.hid (set5_blk br (.int .i64 0) (.int .i64 0) (.int .i64 0) (.int .i64 0) (.int .i64 0))
  have HF := Lib.hid (Fr.ext X1 (set5_fr w1 b0 (.int .i64 0) (.int .i64 0) (.int .i64 0) (.int .i64 0) (.int .i64 0)) (fun i hi => by omega))
  clear X1 x1 br NX HW hb0
  go_wp2_with fail
  generalize ((((w1.setCell ⟨b0, 0, none⟩ (.int .i64 0)).setCell ⟨b0, 1, none⟩ (.int .i64 0)).setCell ⟨b0, 2, none⟩ (.int .i64 0)).setCell ⟨b0, 3, none⟩ (.int .i64 0)).setCell ⟨b0, 4, none⟩ (.int .i64 0) = w5 at *
  have t0 : w5.cell? ⟨b0, 0, none⟩ = some (.int .i64 0) := block_cell HB.out 0
  have t1 : w5.cell? ⟨b0, 1, none⟩ = some (.int .i64 0) := block_cell HB.out 1
  have t2 : w5.cell? ⟨b0, 2, none⟩ = some (.int .i64 0) := block_cell HB.out 2
  have t3 : w5.cell? ⟨b0, 3, none⟩ = some (.int .i64 0) := block_cell HB.out 3
  have t4 : w5.cell? ⟨b0, 4, none⟩ = some (.int .i64 0) := block_cell HB.out 4
  refine bodyPost_ret (v := .tuple #[.agg #[.int .i64 0, .int .i64 0, .int .i64 0, .int .i64 0, .int .i64 0], .bool false, .int .i64 16]) (by simp [results, Tryd.results18, go_sem, t0, t1, t2, t3, t4]) rfl ?_
  exact ⟨rfl, HF.out⟩
set_option maxHeartbeats 12800000 in
theorem rrun_ok_ (h : MS w B g TA tn tc LA lc JA jn jc p ks js) {x : JobV} (hx : js[nextI p (tsk ks) js]? = some x) {Post : Ending → World → Prop}
    (hPost : Hid (∀ w', MRun w w' B g TA tn tc LA lc JA p ks (ranJ js (nextI p (tsk ks) js)) → Post (.returned (.tuple #[.agg #[.int .i64 (x.T : Int), .int .i64 x.R, .int .i64 x.D, .int .i64 (x.L - 1), .int .i64 (x.N + 1)], .bool (decide (x.L = 1)), .int .i64 0])) w')) :
    Calls Tryd.prog 18 #[.pointer (some ⟨g, 0, none⟩)] w Post := by
  have X0 := (Ext.refl w).alloc (.cells #[.int .i64 0, .int .i64 0, .int .i64 0, .int .i64 0, .int .i64 0] 46)
  have hbr := heap_alloc_new w (.cells #[.int .i64 0, .int .i64 0, .int .i64 0, .int .i64 0, .int .i64 0] 46)
  have NX := rnext_any (h.ex X0)
  have hjp : 0 < js.length := by have := (List.getElem?_eq_some_iff.1 hx).1; omega
  have hgt := h.gi.tick (i := nextI p (tsk ks) js) (List.getElem?_eq_some_iff.1 hx).1
  have hnv : nextV p (tsk ks) js = (nextI p (tsk ks) js : Int) := if_neg (by omega)
  rw [hnv] at NX
  obtain ⟨i, hi⟩ : ∃ i, nextI p (tsk ks) js = i := ⟨_, rfl⟩
  rw [hi] at NX hx hgt hPost
  obtain ⟨d, hdd⟩ : ∃ d, decide (x.L = 1) = d := ⟨_, rfl⟩
  rw [hdd] at hPost
  have HD := Lib.hid hdd
  clear hdd hnv
  have HT := Lib.hid hgt
  have NX := Lib.hid NX
  have HW := Lib.hid (And.intro X0 hbr)
  obtain ⟨i5, hi5⟩ : ∃ i5, i * 5 = i5 := ⟨_, rfl⟩
  have HN := Lib.hid (fun w' (hx' : Ext w w') => h.ex hx')
  have HI5 := Lib.hid (And.intro hi5 (And.intro hx h))
  have hgl := h.lt
  have z0 : (0 : Int) ≤ i := by omega
  have hil : i < jn := by have := h.jlen; have := (List.getElem?_eq_some_iff.1 hx).1; omega
  have z1 : (i : Int) < jn := by omega
  have hjn := h.jn64
  obtain ⟨b1, b2, b3, b4, _, _⟩ := h.gi.bound (List.mem_of_getElem? hx)
  obtain ⟨S, rfl⟩ := h.jow.head (by omega)
  have hSl := h.jow.lt
  have hSg := h.jg _ rfl
  have HR := Lib.hid (jtick_rows hx hi5)
  have HRJ := Lib.hid (show ranJ js i = if x.L = 1 then js.eraseIdx i else js.set i x.tick by unfold ranJ; rw [getD_of hx])
  have cx : ∀ (m : Nat) (u : Value), x.cells[m]? = some u → (jrows js).flatten[i5 + m]? = some u := fun m u hu => by
    rw [← hi5, (jrows_even js).at_ (jrows_at hx) (by have := (List.getElem?_eq_some_iff.1 hu).1; exact this)]
    exact hu
  have CX := Lib.hid cx
  clear cx h X0 hbr hi hx hgt hjp
  go_enter Tryd.func18, Tryd.ntmps18
  go_wp2_with fail
  refine NX.out.mono ?_
  rintro e w1 ⟨rfl, x1⟩
  have X1 := HW.out.1.trans x1
  have br := (x1.block _ (block_lt HW.out.2)).trans HW.out.2
  generalize hb0 : w.heap.size = b0 at *
  have h1 := HN.out w1 X1
  have c3 := h1.c3
  have e3 : w1.cell? ⟨S, i5 + 3, none⟩ = some (.int .i64 x.L) := h1.jow.celln (CX.out 3 _ rfl)
  have f3 : w1.frozen? ⟨S, i5 + 3, none⟩ = false := h1.jow.frozenAt _
  have O2 := h1.jow.stored (i5 + 3) (.int .i64 (x.L - 1))
  have F2 : Fr w1 (w1.setCell ⟨S, i5 + 3, none⟩ (.int .i64 (x.L - 1))) (· = S) := Fr.store w1 ⟨S, i5 + 3, none⟩ _
  have H2 := Lib.hid (And.intro h1 (And.intro X1 (And.intro br (And.intro O2 F2))))
  have HB0 := Lib.hid hb0
  clear x1 NX HW h1 X1 br O2 F2 hb0
  go_upto_region 5 with (fail)
  clear c3 e3 f3
  generalize w1.setCell ⟨S, i5 + 3, none⟩ (.int .i64 (x.L - 1)) = w2 at *
  have bg2 := (H2.out.2.2.2.2.block g H2.out.1.lt (fun e => hSg e.symm)).trans H2.out.1.blk
  have c3 : w2.cell? ⟨g, 3, none⟩ = some (.slice (some ⟨S, 0, none⟩) jn jc) := block_cell bg2 3
  have e4 : w2.cell? ⟨S, i5 + 4, none⟩ = some (.int .i64 x.N) := H2.out.2.2.2.1.celln (by rw [List.getElem?_set_ne (by omega)]; exact CX.out 4 _ rfl)
  have f4 : w2.frozen? ⟨S, i5 + 4, none⟩ = false := H2.out.2.2.2.1.frozenAt _
  have O3 := H2.out.2.2.2.1.stored (i5 + 4) (.int .i64 (x.N + 1))
  rw [HR.out] at O3
  have F3 : Fr w2 (w2.setCell ⟨S, i5 + 4, none⟩ (.int .i64 (x.N + 1))) (· = S) := Fr.store w2 ⟨S, i5 + 4, none⟩ _
  have H3 := Lib.hid (And.intro O3 (And.intro F3 ((F3.block g (block_lt bg2) (fun e => hSg e.symm)).trans bg2)))
  clear O3 F3 bg2
  go_upto_region 6 with (fail)
  clear e4 f4 c3
  generalize w2.setCell ⟨S, i5 + 4, none⟩ (.int .i64 (x.N + 1)) = w3 at *
  have c3 : w3.cell? ⟨g, 3, none⟩ = some (.slice (some ⟨S, 0, none⟩) jn jc) := block_cell H3.out.2.2 3
  have HX3 := Lib.hid (show (js.set i x.tick)[i]? = some x.tick by rw [List.getElem?_set_self (by have := HI5.out.2.2.jlen; omega)])
  have cy : ∀ (m : Nat) (u : Value), x.tick.cells[m]? = some u → w3.cell? ⟨S, i5 + m, none⟩ = some u := fun m u hu => by
    refine H3.out.1.celln ?_
    rw [← HI5.out.1, (jrows_even _).at_ (jrows_at HX3.out) (by have := (List.getElem?_eq_some_iff.1 hu).1; exact this)]
    exact hu
  have e0 : w3.cell? ⟨S, i5, none⟩ = some (.int .i64 (x.T : Int)) := cy 0 _ rfl
  have e1 : w3.cell? ⟨S, i5 + 1, none⟩ = some (.int .i64 x.R) := cy 1 _ rfl
  have e2 : w3.cell? ⟨S, i5 + 2, none⟩ = some (.int .i64 x.D) := cy 2 _ rfl
  have e3 : w3.cell? ⟨S, i5 + 3, none⟩ = some (.int .i64 (x.L - 1)) := cy 3 _ rfl
  have e4 : w3.cell? ⟨S, i5 + 4, none⟩ = some (.int .i64 (x.N + 1)) := cy 4 _ rfl
  clear cy
  have F13 : Fr w1 w3 (· = S) := H2.out.2.2.2.2.trans H3.out.2.1 (fun _ _ h => h)
  have z13 := F13.size
  have zw := H2.out.2.1.size
  rw [HB0.out] at zw
  have X4 := (Ext.refl w3).alloc (.cells #[.int .i64 (x.T : Int), .int .i64 x.R, .int .i64 x.D, .int .i64 (x.L - 1), .int .i64 (x.N + 1)] 46)
  have b8 := heap_alloc_new w3 (.cells #[.int .i64 (x.T : Int), .int .i64 x.R, .int .i64 x.D, .int .i64 (x.L - 1), .int .i64 (x.N + 1)] 46)
  have hbr1 := block_lt H2.out.2.2.1
  have br4 := (X4.block _ (Nat.lt_of_lt_of_le hbr1 z13)).trans ((F13.block _ hbr1 (by omega)).trans H2.out.2.2.1)
  have F4 : Fr w1 (w3.alloc (.cells #[.int .i64 (x.T : Int), .int .i64 x.R, .int .i64 x.D, .int .i64 (x.L - 1), .int .i64 (x.N + 1)] 46)) (fun b => b = g ∨ (some (⟨S, 0, none⟩ : Addr)).map (·.block) = some b) := (F13.mono (fun i _ e => .inr (by rw [e]; rfl))).trans (Fr.of_ext X4 _) (fun _ _ h => h)
  have hS3 : S < w3.heap.size := H3.out.1.lt
  have H4 := Lib.hid (And.intro br4 (And.intro b8 (And.intro F4 (And.intro (H3.out.1.ext X4) ((X4.block g (block_lt H3.out.2.2)).trans H3.out.2.2)))))
  have hz8 : b0 < w3.heap.size := by omega
  have hg3 : g < w3.heap.size := block_lt H3.out.2.2
  clear F13 X4 br4 b8 F4 H3 hbr1
  by_cases hL : x.L = 1
  · have hL1 : (x.L - 1 == 0) = true := by rw [beq_iff_eq]; omega
    have hde : d = true := by rw [← HD.out]; simpa using hL
    subst hde
    have HL := Lib.hid hL
    clear hL
    go_upto_region 8 with (fail)
    clear e0 e1 e2 e3 e4
    generalize w3.heap.size = n8 at *
    generalize w3.alloc (.cells #[.int .i64 (x.T : Int), .int .i64 x.R, .int .i64 x.D, .int .i64 (x.L - 1), .int .i64 (x.N + 1)] 46) = w4 at *
    have hSn : S ≠ n8 := by omega
    have hbn : b0 ≠ n8 := by omega
    have hgn : g ≠ n8 := by omega
    have O4 := H4.out.2.2.2.1
    have z4 := block_lt H4.out.2.1
    have c3 : w4.cell? ⟨g, 3, none⟩ = some (.slice (some ⟨S, 0, none⟩) jn jc) := block_cell H4.out.2.2.2.2 3
    have hcap : jn ≤ jc := O4.cap_le
    have hBw : B ≤ w4.heap.size := by have h1 := H2.out.1.bg; have h2 := block_lt H4.out.2.2.2.2; omega
    have hcap2 : (jn : Int) ≤ (jc : Int) := by omega
    have hic : i ≤ jc := by omega
    obtain ⟨i1, hi1⟩ : ∃ i1, i + 1 = i1 := ⟨_, rfl⟩
    obtain ⟨X, hX⟩ : ∃ X, (if jc = i1 then some (⟨S, 0, none⟩ : Addr) else (some (⟨S, 0, none⟩ : Addr)).map (·.add (i1 * 5))) = X := ⟨_, rfl⟩
    have hsl : ∀ w, (Instr.slice 36 (.slice (some ⟨S, 0, none⟩) jn jc) (some (.int .i64 (i1 : Int))) none none).run Tryd.prog w = .ok (.slice X (jn - i1) (jc - i1)) w := fun w => run_slice_at (P := Tryd.prog) eltJob (some ⟨S, 0, none⟩) jn jc .i64 i1 (by omega) hX w
    have wr3 : IntKind.i64.wrap ((i : Int) + 1) = (i1 : Int) := by rw [IntKind.wrap_i64]; omega
    have R1 := O4.rd.take_ (k := i) (by omega)
    have R2 := O4.rd.cut (k := i1) (by omega) hcap
    rw [hX] at R2
    rw [(jrows_even _).take i] at R1
    rw [(jrows_even _).drop i1] at R2
    have X0' := (Ext.refl w4).alloc (.cells #[] 46)
    have oE : Own (w4.alloc (.cells #[] 46)).drew B 46 5 (some ⟨w4.heap.size, 0, none⟩) 0 0 [] := (World.ownsRow_lit (size := 5) w4 #[] 0 hBw (by simp [maxLen]) rfl)
    have rows1 : ∀ u ∈ ((jrows (js.set i x.tick)).take i).flatten, u.oneCell' = true := fun u hu => jrows_one (js.set i x.tick) u (by
      obtain ⟨r, hr, hu⟩ := List.mem_flatten.1 hu
      exact List.mem_flatten.2 ⟨r, List.mem_of_mem_take hr, hu⟩)
    have rows2 : ∀ u ∈ ((jrows (js.set i x.tick)).drop i1).flatten, u.oneCell' = true := fun u hu => jrows_one (js.set i x.tick) u (by
      obtain ⟨r, hr, hu⟩ := List.mem_flatten.1 hu
      exact List.mem_flatten.2 ⟨r, List.mem_of_mem_drop hr, hu⟩)
    have hg4 := H4.out.2.2.2.2
    have hgl4 := block_lt hg4
    have hb84 := H4.out.2.1
    have hbr4 := H4.out.1
    have HX4 := Lib.hid (And.intro hBw (And.intro R1 (And.intro R2 (And.intro oE (And.intro rows1 (And.intro rows2 hX))))))
    have XD := X0'.drew
    have HBL := Lib.hid (And.intro hg4 (And.intro hb84 (And.intro hbr4 XD)))
    have e4 := (XD.cell (p := ⟨g, 3, none⟩) hgl4).trans c3
    have HS : w4.drew.cell? ⟨g, 3, none⟩ = some (.slice (some ⟨S, 0, none⟩) jn jc) := c3
    have HS2 : (w4.alloc (.cells #[] 46)).drew.cell? ⟨g, 3, none⟩ = some (.slice (some ⟨S, 0, none⟩) jn jc) := e4
    have HNUM := Lib.hid hi1
    clear O4 R1 R2 X0' oE rows1 rows2 hg4 hb84 hbr4 XD e4 hX hi1
    refine d_region (fun W : World => W.cell? ⟨g, 3, none⟩ = some (.slice (some ⟨S, 0, none⟩) jn jc)) [17, 18, 19] (by kernel_rfl) ?_
    refine d_take (i := 0) (v := ?_) [17, 18, 19] (some 44) rfl (by rfl) (by kernel_rfl) (by kernel_rfl) (by kernel_rfl) (by kernel_rfl) (by kernel_rfl) (by kernel_rfl) (fun _ _ _ h => h) (.inl ⟨by rfl, ?_⟩) HS ?_
    rotate_left 1
    · (intro W hW; (try dsimp only at hW); go_simp; try with_reducible rfl)
    try simp only [Act.put, List.setIfInBounds_toArray, List.set_cons_zero, List.set_cons_succ]
    refine d_take (i := 2) (v := ?_) [3, 4, 5, 7, 8, 16, 17, 18, 19] (some 46) rfl (by rfl) (by kernel_rfl) (by kernel_rfl) (by kernel_rfl) (by kernel_rfl) (by kernel_rfl) (by kernel_rfl) (fun _ _ _ h => h) (.inl ⟨by rfl, ?_⟩) HS ?_
    rotate_left 1
    · (intro W hW; (try dsimp only at hW); go_simp; try with_reducible rfl)
    try simp only [Act.put, List.setIfInBounds_toArray, List.set_cons_zero, List.set_cons_succ]
    refine d_take (i := 3) (v := ?_) [4, 5, 7, 8, 16, 17, 18, 19] (some 47) rfl (by rfl) (by kernel_rfl) (by kernel_rfl) (by kernel_rfl) (by kernel_rfl) (by kernel_rfl) (by kernel_rfl) (fun _ _ _ h => h) (.inl ⟨by rfl, ?_⟩) HS ?_
    rotate_left 1
    · (intro W hW; (try dsimp only at hW); go_simp; try with_reducible rfl)
    try simp only [Act.put, List.setIfInBounds_toArray, List.set_cons_zero, List.set_cons_succ]
    refine d_take (i := 4) (v := ?_) [5, 7, 8, 16, 17, 18, 19] (some 48) rfl (by rfl) (by kernel_rfl) (by kernel_rfl) (by kernel_rfl) (by kernel_rfl) (by kernel_rfl) (by kernel_rfl) (fun _ _ _ h => h) (.inl ⟨by rfl, ?_⟩) HS ?_
    rotate_left 1
    · (intro W hW; (try dsimp only at hW); go_simp; try with_reducible rfl)
    try simp only [Act.put, List.setIfInBounds_toArray, List.set_cons_zero, List.set_cons_succ]
    refine d_take (i := 5) (v := ?_) [7, 8, 16, 17, 18, 19] (some 49) rfl (by rfl) (by kernel_rfl) (by kernel_rfl) (by kernel_rfl) (by kernel_rfl) (by kernel_rfl) (by kernel_rfl) (fun _ _ _ h => h) (.inl ⟨by rfl, ?_⟩) HS ?_
    rotate_left 1
    · (intro W hW; (try dsimp only at hW); go_simp; try with_reducible rfl)
    try simp only [Act.put, List.setIfInBounds_toArray, List.set_cons_zero, List.set_cons_succ]
    refine d_take (i := 6) (v := ?_) [7, 8, 16, 17, 18, 19] (some 50) rfl (by rfl) (by kernel_rfl) (by kernel_rfl) (by kernel_rfl) (by kernel_rfl) (by kernel_rfl) (by kernel_rfl) (fun _ _ _ h => h) (.inl ⟨by rfl, ?_⟩) HS ?_
    rotate_left 1
    · (intro W hW; (try dsimp only at hW); go_simp; try with_reducible rfl)
    try simp only [Act.put, List.setIfInBounds_toArray, List.set_cons_zero, List.set_cons_succ]
    refine d_take (i := 7) (v := ?_) [8, 16, 17, 18, 19] (some 51) rfl (by rfl) (by kernel_rfl) (by kernel_rfl) (by kernel_rfl) (by kernel_rfl) (by kernel_rfl) (by kernel_rfl) (fun _ _ _ h => h) (.inl ⟨by rfl, ?_⟩) HS ?_
    rotate_left 1
    · (intro W hW; (try dsimp only at hW); go_simp; try with_reducible rfl)
    try simp only [Act.put, List.setIfInBounds_toArray, List.set_cons_zero, List.set_cons_succ]
    refine d_take (i := 9) (v := ?_) [10, 11, 12, 15, 16, 17, 18, 19] (some 53) rfl (by rfl) (by kernel_rfl) (by kernel_rfl) (by kernel_rfl) (by kernel_rfl) (by kernel_rfl) (by kernel_rfl) (fun _ _ _ h => h) (.inl ⟨by rfl, ?_⟩) HS ?_
    rotate_left 1
    · (intro W hW; (try dsimp only at hW); go_simp; try with_reducible rfl)
    try simp only [Act.put, List.setIfInBounds_toArray, List.set_cons_zero, List.set_cons_succ]
    refine d_take (i := 10) (v := ?_) [11, 12, 15, 16, 17, 18, 19] (some 54) rfl (by rfl) (by kernel_rfl) (by kernel_rfl) (by kernel_rfl) (by kernel_rfl) (by kernel_rfl) (by kernel_rfl) (fun _ _ _ h => h) (.inl ⟨by rfl, ?_⟩) HS ?_
    rotate_left 1
    · (intro W hW; (try dsimp only at hW); go_simp; try with_reducible rfl)
    try simp only [Act.put, List.setIfInBounds_toArray, List.set_cons_zero, List.set_cons_succ]
    refine d_take (i := 11) (v := ?_) [12, 15, 16, 17, 18, 19] (some 55) rfl (by rfl) (by kernel_rfl) (by kernel_rfl) (by kernel_rfl) (by kernel_rfl) (by kernel_rfl) (by kernel_rfl) (fun _ _ _ h => h) (.inl ⟨by rfl, ?_⟩) HS ?_
    rotate_left 1
    · (intro W hW; (try dsimp only at hW); go_simp; try with_reducible rfl)
    try simp only [Act.put, List.setIfInBounds_toArray, List.set_cons_zero, List.set_cons_succ]
    refine d_take (i := 12) (v := ?_) [15, 16, 17, 18, 19] (some 56) rfl (by rfl) (by kernel_rfl) (by kernel_rfl) (by kernel_rfl) (by kernel_rfl) (by kernel_rfl) (by kernel_rfl) (fun _ _ _ h => h) (.inl ⟨by rfl, ?_⟩) HS ?_
    rotate_left 1
    · (intro W hW; (try dsimp only at hW); go_simp; try with_reducible rfl)
    try simp only [Act.put, List.setIfInBounds_toArray, List.set_cons_zero, List.set_cons_succ]
    refine d_take (i := 13) (v := ?_) [14, 15, 16, 17, 18, 19] (some 57) rfl (by rfl) (by kernel_rfl) (by kernel_rfl) (by kernel_rfl) (by kernel_rfl) (by kernel_rfl) (by kernel_rfl) (fun _ _ _ h => h) (.inl ⟨by rfl, ?_⟩) HS ?_
    rotate_left 1
    · (intro W hW; (try dsimp only at hW); go_simp; try with_reducible rfl)
    try simp only [Act.put, List.setIfInBounds_toArray, List.set_cons_zero, List.set_cons_succ]
    refine d_take (i := 14) (v := ?_) [15, 16, 17, 18, 19] (some 58) rfl (by rfl) (by kernel_rfl) (by kernel_rfl) (by kernel_rfl) (by kernel_rfl) (by kernel_rfl) (by kernel_rfl) (fun _ _ _ h => h) (.inl ⟨by rfl, ?_⟩) HS ?_
    rotate_left 1
    · (intro W hW; (try dsimp only at hW); go_simp; try with_reducible rfl)
    try simp only [Act.put, List.setIfInBounds_toArray, List.set_cons_zero, List.set_cons_succ]
    refine d_take (i := 15) (v := ?_) [16, 17, 18, 19] (some 59) rfl (by rfl) (by kernel_rfl) (by kernel_rfl) (by kernel_rfl) (by kernel_rfl) (by kernel_rfl) (by kernel_rfl) (fun _ _ _ h => h) (.inl ⟨by rfl, ?_⟩) HS ?_
    rotate_left 1
    · (intro W hW; (try dsimp only at hW); go_simp; try with_reducible rfl)
    try simp only [Act.put, List.setIfInBounds_toArray, List.set_cons_zero, List.set_cons_succ]
    refine d_one (i := 1) (by kernel_rfl) rfl rfl (fun K hK => ?_)
    simp only [List.getElem_toArray, List.getElem_cons_succ, List.getElem_cons_zero]
    go_simp
    refine hK.out _ _ (fun _ => HS2) ?_
    clear hK K
    try simp only [Act.put, List.setIfInBounds_toArray, List.set_cons_zero, List.set_cons_succ]
    refine d_one (i := 8) (by kernel_rfl) rfl rfl (fun K hK => ?_)
    simp only [List.getElem_toArray, List.getElem_cons_succ, List.getElem_cons_zero]
    refine oper_app (w := (w4.alloc (.cells #[] 46)).drew) (m := i) (d := jc) (news := ((jrows (js.set i x.tick)).take i).flatten) eltJob HX4.out.2.2.2.1 (HX4.out.2.1.ext HBL.out.2.2.2) HX4.out.2.2.2.2.1 (by omega) (.inr ⟨by omega, by omega⟩) (by have h1 := HX4.out.1; have h2 := HBL.out.2.2.2.size; omega) (.tmp 45) (.tmp 51) rfl rfl rfl ?_
    intro A5 c5 w5 o5 g5 hA5 _
    rw [List.nil_append, Nat.zero_add] at o5
    rw [Nat.zero_add]
    have x5 : Ext w4 w5 := g5.ext HBL.out.2.2.2 (fun g hg => by injection hg with hg; rw [← hg]; exact Nat.le_refl _)
    have HS5 : w5.cell? ⟨g, 3, none⟩ = some (.slice (some ⟨S, 0, none⟩) jn jc) := (x5.cell (p := ⟨g, 3, none⟩) hgl4).trans c3
    have hA5b : ∀ a, A5 = some a → w4.heap.size ≤ a.block := fun a ha => by
      rcases hA5 with e | e
      · rw [ha] at e; injection e with e; rw [e]; exact Nat.le_refl _
      · rw [ha] at e; injection e with e; rw [e]; exact HBL.out.2.2.2.size
    have H5 := Lib.hid (And.intro o5 (And.intro x5 hA5b))
    clear o5 g5 hA5 x5 hA5b
    refine hK.out _ _ (fun _ => HS5) ?_
    clear hK K
    try simp only [Act.put, List.setIfInBounds_toArray, List.set_cons_zero, List.set_cons_succ]
    refine d_one (i := 16) (by kernel_rfl) rfl rfl (fun K hK => ?_)
    simp only [List.getElem_toArray, List.getElem_cons_succ, List.getElem_cons_zero]
    refine oper_app (w := w5) (m := jn - i1) (d := jc - i1) (news := ((jrows (js.set i x.tick)).drop i1).flatten) eltJob H5.out.1 (HX4.out.2.2.1.ext H5.out.2.1) HX4.out.2.2.2.2.2.1 (by omega) (.inr ⟨by omega, by omega⟩) (by have h1 := HX4.out.1; have h2 := H5.out.2.1.size; omega) (.tmp 52) (.tmp 59) rfl rfl rfl ?_
    intro A6 c6 w6' o6 g6 hA6 _
    have x6 : Ext w4 w6' := g6.ext H5.out.2.1 (fun b hb => by
      obtain ⟨a, ha, rfl⟩ := Option.map_eq_some_iff.1 hb
      exact H5.out.2.2 a ha)
    have hA6b : ∀ a, A6 = some a → w4.heap.size ≤ a.block := fun a ha => by
      rcases hA6 with e | e
      · exact H5.out.2.2 a (e ▸ ha)
      · rw [ha] at e; injection e with e; rw [e]; exact H5.out.2.1.size
    have HS6 : w6'.cell? ⟨g, 3, none⟩ = some (.slice (some ⟨S, 0, none⟩) jn jc) := (x6.cell (p := ⟨g, 3, none⟩) hgl4).trans c3
    have fz6 := block_fz ((x6.block g hgl4).trans HBL.out.1) 3
    refine hK.out _ _ (fun _ => HS6) ?_
    clear hK K
    try simp only [Act.put, List.setIfInBounds_toArray, List.set_cons_zero, List.set_cons_succ]
    refine d_pure (i := 17) (v := ?_) (some 61) rfl (by rfl) (by kernel_rfl) (by kernel_rfl) (by kernel_rfl) (by kernel_rfl) (fun _ _ _ h => h) (.inl ⟨by rfl, ?_⟩) ?_
    rotate_left 1
    · (intro W hW; go_simp; try with_reducible rfl)
    try simp only [Act.put, List.setIfInBounds_toArray, List.set_cons_zero, List.set_cons_succ]
    refine d_pure (i := 18) (v := ?_) (some 62) rfl (by rfl) (by kernel_rfl) (by kernel_rfl) (by kernel_rfl) (by kernel_rfl) (fun _ _ _ h => h) (.inl ⟨by rfl, ?_⟩) ?_
    rotate_left 1
    · (intro W hW; go_simp; try with_reducible rfl)
    try simp only [Act.put, List.setIfInBounds_toArray, List.set_cons_zero, List.set_cons_succ]
    refine d_one (i := 19) (by kernel_rfl) rfl rfl (fun K hK => ?_)
    simp only [List.getElem_toArray, List.getElem_cons_succ, List.getElem_cons_zero]
    go_simp
    refine hK.out _ _ (fun h => absurd h (by decide)) ?_
    clear hK K
    try simp only [Act.put, List.setIfInBounds_toArray, List.set_cons_zero, List.set_cons_succ]
    refine d_done (by kernel_rfl) ?_ _
    obtain ⟨n6, hn6⟩ : ∃ n6, i + (jn - i1) = n6 := ⟨_, rfl⟩
    rw [hn6] at o6 ⊢
    have bg6 := (x6.block g hgl4).trans HBL.out.1
    have fs := Fr.store w6' ⟨g, 3, none⟩ (.slice A6 n6 c6)
    have F6 : Fr w4 (w6'.setCell ⟨g, 3, none⟩ (.slice A6 n6 c6)) (fun b => b = g ∨ (some (⟨S, 0, none⟩ : Addr)).map (·.block) = some b) := (Fr.of_ext x6 _).trans fs (fun i _ h => .inl h)
    have eR : ((jrows (js.set i x.tick)).take i).flatten ++ ((jrows (js.set i x.tick)).drop i1).flatten = (jrows (js.eraseIdx i)).flatten := by
      rw [← HNUM.out, ← List.flatten_append, ← List.eraseIdx_eq_take_drop_succ, ← set_erase js i x.tick]
      unfold jrows
      rw [List.map_eraseIdx']
    rw [eR] at o6
    have F46 := H4.out.2.2.1.trans F6 (fun i _ e => e)
    have hw14 := H4.out.2.2.1.size
    have G6 := H2.out.1.turn F46 (heap_setCell_same w6' g 3 _ _ _ bg6) (fs.own o6 (fun a ha e => by
      have h1 := hA6b a ha
      have e : a.block = g := e
      omega)) (by rw [← if_pos (c := x.L = 1) HL.out (t := js.eraseIdx i) (e := js.set i x.tick), ← HRJ.out]; exact HT.out) (fun a ha => .inr (Nat.le_trans hw14 (hA6b a ha)))
    have hrj := HRJ.out
    rw [if_pos HL.out] at hrj
    rw [← hrj] at G6
    have b86 := (fs.block n8 (Nat.lt_of_lt_of_le z4 x6.size) (fun e => hgn e.symm)).trans ((x6.block n8 z4).trans HBL.out.2.1)
    have br6 := (fs.block b0 (Nat.lt_of_lt_of_le (block_lt HBL.out.2.2.1) x6.size) (by show ¬ b0 = g; omega)).trans ((x6.block b0 (block_lt HBL.out.2.2.1)).trans HBL.out.2.2.1)
    have hA6c : ∀ a, A6 = some a → a = ⟨S, 0, none⟩ ∨ b0 < a.block := fun a ha => .inr (by have := hA6b a ha; have := block_lt HBL.out.2.2.1; omega)
    have H6 := Lib.hid (And.intro (And.intro G6 hA6c) (And.intro (H4.out.2.2.1.trans F6 (fun i _ e => e)) (And.intro b86 br6)))
    clear o6 g6 hA6 x6 hA6b bg6 fs F6 F46 hw14 hBw eR G6 hrj b86 br6 hA6c H4 c3 HS HS2 HS5 HS6 fz6 hsl wr3 H5 HX4 HBL
    go_upto_region 9 with (fail)
    generalize w6'.setCell ⟨g, 3, none⟩ (.slice A6 n6 c6) = w6 at *
    have bw := H6.out.2.2.2
    have b8 := H6.out.2.2.1
    have r0 : w6.cell? ⟨b0, 0, none⟩ = some (.int .i64 0) := block_cell bw 0
    have r1 : w6.cell? ⟨b0, 1, none⟩ = some (.int .i64 0) := block_cell bw 1
    have r2 : w6.cell? ⟨b0, 2, none⟩ = some (.int .i64 0) := block_cell bw 2
    have r3 : w6.cell? ⟨b0, 3, none⟩ = some (.int .i64 0) := block_cell bw 3
    have r4 : w6.cell? ⟨b0, 4, none⟩ = some (.int .i64 0) := block_cell bw 4
    have q0 := block_fz bw 0
    have q1 := block_fz bw 1
    have q2 := block_fz bw 2
    have q3 := block_fz bw 3
    have q4 := block_fz bw 4
    have m0 : w6.cell? ⟨n8, 0, none⟩ = some (.int .i64 (x.T : Int)) := block_cell b8 0
    have m1 : w6.cell? ⟨n8, 1, none⟩ = some (.int .i64 x.R) := block_cell b8 1
    have m2 : w6.cell? ⟨n8, 2, none⟩ = some (.int .i64 x.D) := block_cell b8 2
    have m3 : w6.cell? ⟨n8, 3, none⟩ = some (.int .i64 (x.L - 1)) := block_cell b8 3
    have m4 : w6.cell? ⟨n8, 4, none⟩ = some (.int .i64 (x.N + 1)) := block_cell b8 4
    have HB := Lib.hid (set5_blk bw (.int .i64 (x.T : Int)) (.int .i64 x.R) (.int .i64 x.D) (.int .i64 (x.L - 1)) (.int .i64 (x.N + 1)))
    have F7 := set5_fr w6 b0 (.int .i64 (x.T : Int)) (.int .i64 x.R) (.int .i64 x.D) (.int .i64 (x.L - 1)) (.int .i64 (x.N + 1))
    have HG := Lib.hid (H6.out.1.1.fr F7 (by omega) (fun a ha e => by
      have := HI5.out.2.2.tow.lt_at ha
      rw [HB0.out] at this
      omega) (fun a ha e => by
      have := HI5.out.2.2.low.lt_at ha
      rw [HB0.out] at this
      omega) (fun a ha e => by
      rcases H6.out.1.2 a ha with e2 | e2
      · rw [e2] at e; have e : S = b0 := e; omega
      · have e : a.block = b0 := e; omega))
    have HF := Lib.hid (((Fr.of_ext H2.out.2.1 _).trans H6.out.2.1 (fun _ _ h => h)).trans F7 (fun i hi e => by rw [HB0.out] at hi; omega))
    have HJ := Lib.hid (fun (a : Addr) (ha : _ = some a) => (show (some (⟨S, 0, none⟩ : Addr)).map (·.block) = some a.block ∨ w.heap.size ≤ a.block from by
      rcases H6.out.1.2 a ha with e2 | e2
      · left; rw [e2]; rfl
      · right; rw [HB0.out]; omega))
    clear bw b8 F7
    go_region
    clear m0 m1 m2 m3 m4
    go_wp2_with fail
    generalize ((((w6.setCell ⟨b0, 0, none⟩ (.int .i64 (x.T : Int))).setCell ⟨b0, 1, none⟩ (.int .i64 x.R)).setCell ⟨b0, 2, none⟩ (.int .i64 x.D)).setCell ⟨b0, 3, none⟩ (.int .i64 (x.L - 1))).setCell ⟨b0, 4, none⟩ (.int .i64 (x.N + 1)) = w7 at *
    have t0 : w7.cell? ⟨b0, 0, none⟩ = some (.int .i64 (x.T : Int)) := block_cell HB.out 0
    have t1 : w7.cell? ⟨b0, 1, none⟩ = some (.int .i64 x.R) := block_cell HB.out 1
    have t2 : w7.cell? ⟨b0, 2, none⟩ = some (.int .i64 x.D) := block_cell HB.out 2
    have t3 : w7.cell? ⟨b0, 3, none⟩ = some (.int .i64 (x.L - 1)) := block_cell HB.out 3
    have t4 : w7.cell? ⟨b0, 4, none⟩ = some (.int .i64 (x.N + 1)) := block_cell HB.out 4
    refine bodyPost_ret (v := .tuple #[.agg #[.int .i64 (x.T : Int), .int .i64 x.R, .int .i64 x.D, .int .i64 (x.L - 1), .int .i64 (x.N + 1)], .bool true, .int .i64 0]) (by simp [results, Tryd.results18, go_sem, t0, t1, t2, t3, t4]) rfl ?_
    exact hPost.out _ ⟨⟨_, _, _, HG.out.ex ((Ext.refl _).drew), HJ.out⟩, HF.out.drew⟩
  · have hL1 : (x.L - 1 == 0) = false := by rw [beq_eq_false_iff_ne]; omega
    have hde : d = false := by rw [← HD.out]; simpa using hL
    subst hde
    have HL := Lib.hid hL
    clear hL
    go_upto_region 9 with (fail)
    clear e0 e1 e2 e3 e4
    generalize w3.heap.size = n8 at *
    generalize w3.alloc (.cells #[.int .i64 (x.T : Int), .int .i64 x.R, .int .i64 x.D, .int .i64 (x.L - 1), .int .i64 (x.N + 1)] 46) = w6 at *
    have hrj := HRJ.out
    rw [if_neg HL.out] at hrj
    have G6 := H2.out.1.turn H4.out.2.2.1 H4.out.2.2.2.2 H4.out.2.2.2.1 (by rw [← hrj]; exact HT.out) (fun a ha => .inl (by rw [ha]; rfl))
    rw [← hrj] at G6
    have H6 := Lib.hid (And.intro (And.intro G6 (fun (a : Addr) (ha : some (⟨S, 0, none⟩ : Addr) = some a) => (show a = ⟨S, 0, none⟩ ∨ b0 < a.block from .inl (by injection ha with ha; exact ha.symm)))) (And.intro H4.out.2.2.1 (And.intro H4.out.2.1 H4.out.1)))
    clear hrj G6 H4
    have bw := H6.out.2.2.2
    have b8 := H6.out.2.2.1
    have r0 : w6.cell? ⟨b0, 0, none⟩ = some (.int .i64 0) := block_cell bw 0
    have r1 : w6.cell? ⟨b0, 1, none⟩ = some (.int .i64 0) := block_cell bw 1
    have r2 : w6.cell? ⟨b0, 2, none⟩ = some (.int .i64 0) := block_cell bw 2
    have r3 : w6.cell? ⟨b0, 3, none⟩ = some (.int .i64 0) := block_cell bw 3
    have r4 : w6.cell? ⟨b0, 4, none⟩ = some (.int .i64 0) := block_cell bw 4
    have q0 := block_fz bw 0
    have q1 := block_fz bw 1
    have q2 := block_fz bw 2
    have q3 := block_fz bw 3
    have q4 := block_fz bw 4
    have m0 : w6.cell? ⟨n8, 0, none⟩ = some (.int .i64 (x.T : Int)) := block_cell b8 0
    have m1 : w6.cell? ⟨n8, 1, none⟩ = some (.int .i64 x.R) := block_cell b8 1
    have m2 : w6.cell? ⟨n8, 2, none⟩ = some (.int .i64 x.D) := block_cell b8 2
    have m3 : w6.cell? ⟨n8, 3, none⟩ = some (.int .i64 (x.L - 1)) := block_cell b8 3
    have m4 : w6.cell? ⟨n8, 4, none⟩ = some (.int .i64 (x.N + 1)) := block_cell b8 4
    have HB := Lib.hid (set5_blk bw (.int .i64 (x.T : Int)) (.int .i64 x.R) (.int .i64 x.D) (.int .i64 (x.L - 1)) (.int .i64 (x.N + 1)))
    have F7 := set5_fr w6 b0 (.int .i64 (x.T : Int)) (.int .i64 x.R) (.int .i64 x.D) (.int .i64 (x.L - 1)) (.int .i64 (x.N + 1))
    have HG := Lib.hid (H6.out.1.1.fr F7 (by omega) (fun a ha e => by
      have := HI5.out.2.2.tow.lt_at ha
      rw [HB0.out] at this
      omega) (fun a ha e => by
      have := HI5.out.2.2.low.lt_at ha
      rw [HB0.out] at this
      omega) (fun a ha e => by
      rcases H6.out.1.2 a ha with e2 | e2
      · rw [e2] at e; have e : S = b0 := e; omega
      · have e : a.block = b0 := e; omega))
    have HF := Lib.hid (((Fr.of_ext H2.out.2.1 _).trans H6.out.2.1 (fun _ _ h => h)).trans F7 (fun i hi e => by rw [HB0.out] at hi; omega))
    have HJ := Lib.hid (fun (a : Addr) (ha : _ = some a) => (show (some (⟨S, 0, none⟩ : Addr)).map (·.block) = some a.block ∨ w.heap.size ≤ a.block from by
      rcases H6.out.1.2 a ha with e2 | e2
      · left; rw [e2]; rfl
      · right; rw [HB0.out]; omega))
    clear bw b8 F7
    go_region
    clear m0 m1 m2 m3 m4
    go_wp2_with fail
    generalize ((((w6.setCell ⟨b0, 0, none⟩ (.int .i64 (x.T : Int))).setCell ⟨b0, 1, none⟩ (.int .i64 x.R)).setCell ⟨b0, 2, none⟩ (.int .i64 x.D)).setCell ⟨b0, 3, none⟩ (.int .i64 (x.L - 1))).setCell ⟨b0, 4, none⟩ (.int .i64 (x.N + 1)) = w7 at *
    have t0 : w7.cell? ⟨b0, 0, none⟩ = some (.int .i64 (x.T : Int)) := block_cell HB.out 0
    have t1 : w7.cell? ⟨b0, 1, none⟩ = some (.int .i64 x.R) := block_cell HB.out 1
    have t2 : w7.cell? ⟨b0, 2, none⟩ = some (.int .i64 x.D) := block_cell HB.out 2
    have t3 : w7.cell? ⟨b0, 3, none⟩ = some (.int .i64 (x.L - 1)) := block_cell HB.out 3
    have t4 : w7.cell? ⟨b0, 4, none⟩ = some (.int .i64 (x.N + 1)) := block_cell HB.out 4
    refine bodyPost_ret (v := .tuple #[.agg #[.int .i64 (x.T : Int), .int .i64 x.R, .int .i64 x.D, .int .i64 (x.L - 1), .int .i64 (x.N + 1)], .bool false, .int .i64 0]) (by simp [results, Tryd.results18, go_sem, t0, t1, t2, t3, t4]) rfl ?_
    exact hPost.out _ ⟨⟨_, _, _, HG.out.ex ((Ext.refl _).drew), HJ.out⟩, HF.out.drew⟩
theorem rrun_ok (h : MS w B g TA tn tc LA lc JA jn jc p ks js) {x : JobV} (hx : js[nextI p (tsk ks) js]? = some x) :
    Calls Tryd.prog 18 #[.pointer (some ⟨g, 0, none⟩)] w fun e w' => e = .returned (.tuple #[x.tick.val, .bool (decide (x.L = 1)), .int .i64 0]) ∧ MRun w w' B g TA tn tc LA lc JA p ks (ranJ js (nextI p (tsk ks) js)) :=
  rrun_ok_ h hx (Lib.hid fun w' hr => ⟨rfl, hr⟩)
end
end Go.Proofs.YtbpbmelfhgbogaaDoor
