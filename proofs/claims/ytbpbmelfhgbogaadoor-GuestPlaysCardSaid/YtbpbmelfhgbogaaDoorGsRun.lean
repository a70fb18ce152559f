/-
  Package guest: Run, walked.
-/
import Derived.Test.YtbpbmelfhgbogaaDoorGsDel
import Derived.Deep.Cut
import Derived.BigRegion
namespace Go.Proofs.YtbpbmelfhgbogaaDoor
set_option maxRecDepth 100000
open Go.RowKit
set_option linter.unusedVariables false
theorem flatten_set {size : Nat} : ∀ {rs : List (List Value)} {k i : Nat} {r : List Value} (v : Value), Even size rs → rs[k]? = some r → i < size → rs.flatten.set (k * size + i) v = (rs.set k (r.set i v)).flatten
  | [], _, _, _, _, _, h, _ => by simp at h
  | x :: rs, k, i, r, v, he, h, hi => by
    have hx := he x (by simp)
    cases k with
    | zero =>
      simp at h
      subst h
      rw [List.flatten_cons, List.set_append_left _ _ (by omega), List.set_cons_zero, List.flatten_cons]
      congr 2
      omega
    | succ k =>
      rw [List.flatten_cons, List.set_append_right _ _ (by rw [hx, Nat.succ_mul]; omega), List.set_cons_succ, List.flatten_cons, ← flatten_set (rs := rs) v (fun y hy => he y (by simp [hy])) (by simpa using h) hi]
      congr 2
      rw [hx, Nat.succ_mul]
      omega
theorem Own.celln {w : World} {base n c g : Nat} {e : TypeId} {size : Nat} {xs : List Value} (h : Own w base e size (some ⟨g, 0, none⟩) n c xs) {k : Nat} {u : Value} (hu : xs[k]? = some u) : w.cell? ⟨g, k, none⟩ = some u := by
  have := World.ownsRow.cells (g := g) h rfl k u hu
  rwa [show (⟨g, 0, none⟩ : Addr).add k = ⟨g, k, none⟩ by unfold Addr.add; split <;> simp_all] at this
theorem jtick_rows {js : List JobV} {i i5 : Nat} {x : JobV} (hx : js[i]? = some x) (h5 : i * 5 = i5) :
    ((jrows js).flatten.set (i5 + 3) (.int .i64 (x.L - 1))).set (i5 + 4) (.int .i64 (x.N + 1)) = (jrows (js.set i x.tick)).flatten := by
  have hr := jrows_at hx
  have hl : i < (jrows js).length := by rw [jrows_len]; exact (List.getElem?_eq_some_iff.1 hx).1
  rw [← h5, flatten_set _ (jrows_even js) hr (by omega)]
  have hr2 : ((jrows js).set i (x.cells.set 3 (.int .i64 (x.L - 1))))[i]? = some (x.cells.set 3 (.int .i64 (x.L - 1))) := by rw [List.getElem?_set_self hl]
  rw [flatten_set _ (fun r hr => by
    rcases List.mem_or_eq_of_mem_set hr with h | h
    · exact jrows_even js r h
    · rw [h]; rfl) hr2 (by omega), List.set_set]
  congr 1
  show (jrows js).set i x.tick.cells = _
  unfold jrows
  rw [← List.map_set]
theorem set_erase (js : List JobV) (i : Nat) (y : JobV) : (js.set i y).eraseIdx i = js.eraseIdx i := by
  apply List.ext_getElem?
  intro m
  rw [List.getElem?_eraseIdx, List.getElem?_eraseIdx]
  split
  · rw [List.getElem?_set_ne (by omega)]
  · rw [List.getElem?_set_ne (by omega)]
section
variable {w w' : World} {g tn tc jn jc : Nat} {TA JA : Option Addr} {p : Int} {ks : List TkV} {js : List JobV}
/-- The guest behind a change of its jobs. -/
theorem GS.turn {JA' : Option Addr} {jn' jc' : Nat} {js' : List JobV} (h : GS w g TA tn tc JA jn jc p ks js) (hf : Fr w w' (fun b => b = g ∨ JA.map (·.block) = some b)) (blk' : w'.heap[g]? = some (.cells #[.slice TA tn tc, .slice JA' jn' jc', cmpF p] 64 (0, 0)))
    (own' : Own w' (g + 1) 46 5 JA' jn' jc' (jrows js').flatten) (gi' : GI (tsk ks) js') (hJ : ∀ a, JA' = some a → JA.map (·.block) = some a.block ∨ w.heap.size ≤ a.block) : GS w' g TA tn tc JA' jn' jc' p ks js' :=
  ⟨blk', hf.own h.tow (fun a ha e => by
    rcases e with e | e
    · exact h.tg a ha e
    · obtain ⟨b, hb, hab⟩ := Option.map_eq_some_iff.1 e
      exact h.apart a b ha hb hab.symm), own', fun a b ha hb e => by
    have hal := h.tow.lt_at ha
    rcases hJ b hb with h1 | h1
    · obtain ⟨b0, hb0, hab⟩ := Option.map_eq_some_iff.1 h1
      exact h.apart a b0 ha hb0 (e.trans hab.symm)
    · omega, gi', h.pol, h.tn8, h.low⟩
set_option maxHeartbeats 1600000 in
theorem run_none (h : GS w g TA tn tc JA jn jc p ks []) {q : Addr} (hS : Sen w 4 q) :
    Calls Tryd.prog 13 #[.pointer (some ⟨g, 0, none⟩)] w fun e w' => e = .returned (.tuple #[.agg #[.int .i64 0, .int .i64 0, .int .i64 0, .int .i64 0, .int .i64 0], .bool false, errE q]) ∧ Ext w w' := by
  have X0 := (Ext.refl w).alloc (.cells #[.int .i64 0, .int .i64 0, .int .i64 0, .int .i64 0, .int .i64 0] 46)
  have hbr := heap_alloc_new w (.cells #[.int .i64 0, .int .i64 0, .int .i64 0, .int .i64 0, .int .i64 0] 46)
  have NX := next_any (h.ex X0)
  have hd : decide (0 < ([] : List JobV).length) = false := rfl
  rw [hd] at NX
  generalize nextI p (tsk ks) [] = i at *
  have NX := Lib.hid NX
  have HW := Lib.hid (And.intro X0 hbr)
  have SG := Lib.hid (fun w' (hx : Ext w w') => (hS.ext hx).2.1)
  have SL := Lib.hid hS.1
  clear h X0 hbr hd hS
  go_enter Tryd.func13, Tryd.ntmps13
  go_wp2_with fail
  refine NX.out.mono ?_
  rintro e w1 ⟨rfl, x1⟩
  have X1 := Lib.hid (HW.out.1.trans x1)
  have br := Lib.hid ((x1.block _ (block_lt HW.out.2)).trans HW.out.2)
  generalize hb0 : w.heap.size = b0 at *
  have HB0 := Lib.hid hb0
  clear x1 NX hb0 HW
  go_wp2_with fail
  have s0 := SG.out w1 X1.out
  have s1 : (w1.setCell ⟨b0, 0, none⟩ (.int .i64 0)).cell? ⟨4, 0, none⟩ = some (errE q) := ((World.cell?_of_block (heap_setCell_other w1 ⟨b0, 0, none⟩ _ _ (by have := SL.out; have := HB0.out; show 4 ≠ b0; omega)))).trans s0
  have bw := br.out
  have r0 : w1.cell? ⟨b0, 0, none⟩ = some (.int .i64 0) := block_cell bw 0
  have r1 : w1.cell? ⟨b0, 1, none⟩ = some (.int .i64 0) := block_cell bw 1
  have r2 : w1.cell? ⟨b0, 2, none⟩ = some (.int .i64 0) := block_cell bw 2
  have r3 : w1.cell? ⟨b0, 3, none⟩ = some (.int .i64 0) := block_cell bw 3
  have r4 : w1.cell? ⟨b0, 4, none⟩ = some (.int .i64 0) := block_cell bw 4
  have q0 := block_fz bw 0
  have q1 := block_fz bw 1
  have q2 := block_fz bw 2
  have q3 := block_fz bw 3
  have q4 := block_fz bw 4
  have HB := Lib.hid (set5_blk bw (.int .i64 0) (.int .i64 0) (.int .i64 0) (.int .i64 0) (.int .i64 0))
  have HF := Lib.hid (Fr.ext X1.out (set5_fr w1 b0 (.int .i64 0) (.int .i64 0) (.int .i64 0) (.int .i64 0) (.int .i64 0)) (fun i hi => by have := HB0.out; omega))
  clear bw
  go_region
  all_goals
    go_wp2_with fail
    generalize ((((w1.setCell ⟨b0, 0, none⟩ (.int .i64 0)).setCell ⟨b0, 1, none⟩ (.int .i64 0)).setCell ⟨b0, 2, none⟩ (.int .i64 0)).setCell ⟨b0, 3, none⟩ (.int .i64 0)).setCell ⟨b0, 4, none⟩ (.int .i64 0) = w5 at *
    have t0 : w5.cell? ⟨b0, 0, none⟩ = some (.int .i64 0) := block_cell HB.out 0
    have t1 : w5.cell? ⟨b0, 1, none⟩ = some (.int .i64 0) := block_cell HB.out 1
    have t2 : w5.cell? ⟨b0, 2, none⟩ = some (.int .i64 0) := block_cell HB.out 2
    have t3 : w5.cell? ⟨b0, 3, none⟩ = some (.int .i64 0) := block_cell HB.out 3
    have t4 : w5.cell? ⟨b0, 4, none⟩ = some (.int .i64 0) := block_cell HB.out 4
    refine bodyPost_ret (v := .tuple #[.agg #[.int .i64 0, .int .i64 0, .int .i64 0, .int .i64 0, .int .i64 0], .bool false, errE q]) (by simp [results, Tryd.results13, go_sem, t0, t1, t2, t3, t4]) rfl ?_
    exact ⟨rfl, HF.out.drew⟩
/-- What Run leaves. -/
def RunS (w w' : World) (g : Nat) (TA : Option Addr) (tn tc : Nat) (JA : Option Addr) (jc : Nat) (p : Int) (ks : List TkV) (js' : List JobV) : Prop := (∃ jn', GS w' g TA tn tc JA jn' jc p ks js') ∧ Fr w w' (fun b => b = g ∨ JA.map (·.block) = some b)
set_option maxHeartbeats 6400000 in
theorem run_ok (h : GS w g TA tn tc JA jn jc p ks js) {x : JobV} (hx : js[nextI p (tsk ks) js]? = some x) :
    Calls Tryd.prog 13 #[.pointer (some ⟨g, 0, none⟩)] w fun e w' => e = .returned (.tuple #[x.tick.val, .bool (decide (x.L = 1)), .nilIface]) ∧ RunS w w' g TA tn tc JA jc p ks (ranJ js (nextI p (tsk ks) js)) := by
  have X0 := (Ext.refl w).alloc (.cells #[.int .i64 0, .int .i64 0, .int .i64 0, .int .i64 0, .int .i64 0] 46)
  have hbr := heap_alloc_new w (.cells #[.int .i64 0, .int .i64 0, .int .i64 0, .int .i64 0, .int .i64 0] 46)
  have NX := next_any (h.ex X0)
  have hd : decide (0 < js.length) = true := by rw [decide_eq_true_eq]; have := (List.getElem?_eq_some_iff.1 hx).1; omega
  rw [hd] at NX
  have hgt := h.gi.tick (i := nextI p (tsk ks) js) (List.getElem?_eq_some_iff.1 hx).1
  obtain ⟨i, hi⟩ : ∃ i, nextI p (tsk ks) js = i := ⟨_, rfl⟩
  rw [hi] at NX hx hgt
  rw [hi]
  obtain ⟨d, hdd⟩ : ∃ d, decide (x.L = 1) = d := ⟨_, rfl⟩
  rw [hdd]
  have HD := Lib.hid hdd
  clear hdd
  have HT := Lib.hid hgt
  have NX := Lib.hid NX
  have HW := Lib.hid (And.intro X0 hbr)
  obtain ⟨i5, hi5⟩ : ∃ i5, i * 5 = i5 := ⟨_, rfl⟩
  have HN := Lib.hid (fun w' (hx' : Ext w w') => h.ex hx')
  have HI5 := Lib.hid (And.intro hi5 (And.intro hx h))
  have hgl := h.lt
  have z0 : (0 : Int) ≤ i := by omega
  have hil : i < jn := by have := h.jlen; have := (List.getElem?_eq_some_iff.1 hx).1; omega
  have z1 : (i : Int) < jn := by omega
  have hjn := h.jn64
  obtain ⟨b1, b2, b3, b4, _, _⟩ := h.gi.bound (List.mem_of_getElem? hx)
  obtain ⟨S, rfl⟩ := h.jow.head (by omega)
  have hSl := h.jow.lt
  have hSg := h.jg _ rfl
  have HR := Lib.hid (jtick_rows hx hi5)
  have HRJ := Lib.hid (show ranJ js i = if x.L = 1 then js.eraseIdx i else js.set i x.tick by unfold ranJ; rw [getD_of hx])
  have cx : ∀ (m : Nat) (u : Value), x.cells[m]? = some u → (jrows js).flatten[i5 + m]? = some u := fun m u hu => by
    rw [← hi5, (jrows_even js).at_ (jrows_at hx) (by have := (List.getElem?_eq_some_iff.1 hu).1; exact this)]
    exact hu
  have CX := Lib.hid cx
  clear cx h X0 hbr hd hi hx hgt
  go_enter Tryd.func13, Tryd.ntmps13
  go_wp2_with fail
  refine NX.out.mono ?_
  rintro e w1 ⟨rfl, x1⟩
  have X1 := HW.out.1.trans x1
  have br := (x1.block _ (block_lt HW.out.2)).trans HW.out.2
  generalize hb0 : w.heap.size = b0 at *
  have h1 := HN.out w1 X1
  have c1 := h1.c1
  have e3 : w1.cell? ⟨S, i5 + 3, none⟩ = some (.int .i64 x.L) := h1.jow.celln (CX.out 3 _ rfl)
  have f3 : w1.frozen? ⟨S, i5 + 3, none⟩ = false := h1.jow.frozenAt _
  have O2 := h1.jow.stored (i5 + 3) (.int .i64 (x.L - 1))
  have F2 : Fr w1 (w1.setCell ⟨S, i5 + 3, none⟩ (.int .i64 (x.L - 1))) (· = S) := Fr.store w1 ⟨S, i5 + 3, none⟩ _
  have H2 := Lib.hid (And.intro h1 (And.intro X1 (And.intro br (And.intro O2 F2))))
  have HB0 := Lib.hid hb0
  clear x1 NX HW h1 X1 br O2 F2 hb0
  go_upto_region 6 with (fail)
  clear c1 e3 f3
  generalize w1.setCell ⟨S, i5 + 3, none⟩ (.int .i64 (x.L - 1)) = w2 at *
  have e4 : w2.cell? ⟨S, i5 + 4, none⟩ = some (.int .i64 x.N) := H2.out.2.2.2.1.celln (by rw [List.getElem?_set_ne (by omega)]; exact CX.out 4 _ rfl)
  have f4 : w2.frozen? ⟨S, i5 + 4, none⟩ = false := H2.out.2.2.2.1.frozenAt _
  have O3 := H2.out.2.2.2.1.stored (i5 + 4) (.int .i64 (x.N + 1))
  rw [HR.out] at O3
  have F3 : Fr w2 (w2.setCell ⟨S, i5 + 4, none⟩ (.int .i64 (x.N + 1))) (· = S) := Fr.store w2 ⟨S, i5 + 4, none⟩ _
  have H3 := Lib.hid (And.intro O3 F3)
  clear O3 F3
  go_upto_region 7 with (fail)
  clear e4 f4
  generalize w2.setCell ⟨S, i5 + 4, none⟩ (.int .i64 (x.N + 1)) = w3 at *
  have HX3 := Lib.hid (show (js.set i x.tick)[i]? = some x.tick by rw [List.getElem?_set_self (by have := HI5.out.2.2.jlen; omega)])
  have cy : ∀ (m : Nat) (u : Value), x.tick.cells[m]? = some u → w3.cell? ⟨S, i5 + m, none⟩ = some u := fun m u hu => by
    refine H3.out.1.celln ?_
    rw [← HI5.out.1, (jrows_even _).at_ (jrows_at HX3.out) (by have := (List.getElem?_eq_some_iff.1 hu).1; exact this)]
    exact hu
  have e0 : w3.cell? ⟨S, i5, none⟩ = some (.int .i64 (x.T : Int)) := cy 0 _ rfl
  have e1 : w3.cell? ⟨S, i5 + 1, none⟩ = some (.int .i64 x.R) := cy 1 _ rfl
  have e2 : w3.cell? ⟨S, i5 + 2, none⟩ = some (.int .i64 x.D) := cy 2 _ rfl
  have e3 : w3.cell? ⟨S, i5 + 3, none⟩ = some (.int .i64 (x.L - 1)) := cy 3 _ rfl
  have e4 : w3.cell? ⟨S, i5 + 4, none⟩ = some (.int .i64 (x.N + 1)) := cy 4 _ rfl
  clear cy
  have F13 : Fr w1 w3 (· = S) := H2.out.2.2.2.2.trans H3.out.2 (fun _ _ h => h)
  have z13 := F13.size
  have zw := H2.out.2.1.size
  rw [HB0.out] at zw
  have X4 := (Ext.refl w3).alloc (.cells #[.int .i64 (x.T : Int), .int .i64 x.R, .int .i64 x.D, .int .i64 (x.L - 1), .int .i64 (x.N + 1)] 46)
  have b8 := heap_alloc_new w3 (.cells #[.int .i64 (x.T : Int), .int .i64 x.R, .int .i64 x.D, .int .i64 (x.L - 1), .int .i64 (x.N + 1)] 46)
  have hbr1 := block_lt H2.out.2.2.1
  have br4 := (X4.block _ (Nat.lt_of_lt_of_le hbr1 z13)).trans ((F13.block _ hbr1 (by omega)).trans H2.out.2.2.1)
  have F4 : Fr w1 (w3.alloc (.cells #[.int .i64 (x.T : Int), .int .i64 x.R, .int .i64 x.D, .int .i64 (x.L - 1), .int .i64 (x.N + 1)] 46)) (· = S) := F13.trans (Fr.of_ext X4 (· = S)) (fun _ _ h => h)
  have O4 := H3.out.1.ext X4
  have g4 := (F4.block g H2.out.1.lt (fun e => hSg e.symm)).trans H2.out.1.blk
  have H4 := Lib.hid (And.intro br4 (And.intro b8 (And.intro F4 (And.intro O4 g4))))
  have hz8 : b0 < w3.heap.size := by omega
  clear F13 X4 br4 b8 F4 O4 g4 H3 hbr1
  by_cases hL : x.L = 1
  · have hL1 : (x.L - 1 == 0) = true := by rw [beq_iff_eq]; omega
    have hde : d = true := by rw [← HD.out]; simpa using hL
    subst hde
    have HL := Lib.hid hL
    clear hL
    go_upto_region 9 with (fail)
    clear e0 e1 e2 e3 e4
    generalize w3.heap.size = n8 at *
    generalize w3.alloc (.cells #[.int .i64 (x.T : Int), .int .i64 x.R, .int .i64 x.D, .int .i64 (x.L - 1), .int .i64 (x.N + 1)] 46) = w4 at *
    have c1 : w4.cell? ⟨g, 1, none⟩ = some (.slice (some ⟨S, 0, none⟩) jn jc) := block_cell H4.out.2.2.2.2 1
    have DL := jdelete_any H4.out.2.2.2.1 hil hjn
    rw [set_erase] at DL
    have DL := Lib.hid DL
    go_wp2_with fail
    refine DL.out.mono ?_
    rintro e w5 ⟨rfl, o5, f5⟩
    have g5 := (f5.block g (block_lt H4.out.2.2.2.2) (fun e => hSg e.symm)).trans H4.out.2.2.2.2
    have s1 : w5.cell? ⟨g, 1, none⟩ = some (.slice (some ⟨S, 0, none⟩) jn jc) := block_cell g5 1
    have s2 := block_fz g5 1
    have fs := Fr.store w5 ⟨g, 1, none⟩ (.slice (some ⟨S, 0, none⟩) (jn - 1) jc)
    have g6 : (w5.setCell ⟨g, 1, none⟩ (.slice (some ⟨S, 0, none⟩) (jn - 1) jc)).heap[g]? = some (.cells #[.slice TA tn tc, .slice (some ⟨S, 0, none⟩) (jn - 1) jc, cmpF p] 64 (0, 0)) := heap_setCell_same w5 g 1 _ _ _ g5
    have o6 := fs.own o5 (fun a ha e => by injection ha with ha; subst ha; exact hSg e)
    have f6 : Fr w1 (w5.setCell ⟨g, 1, none⟩ (.slice (some ⟨S, 0, none⟩) (jn - 1) jc)) (fun b => b = g ∨ (some (⟨S, 0, none⟩ : Addr)).map (·.block) = some b) := ((H4.out.2.2.1.trans f5 (fun _ _ h => h)).mono (fun i _ e => .inr (by rw [e]; rfl))).trans fs (fun i _ h => .inl h)
    have hrj := HRJ.out
    rw [if_pos HL.out] at hrj
    have G6 := H2.out.1.turn f6 g6 o6 (by rw [← hrj]; exact HT.out) (fun a ha => .inl (by rw [ha]; rfl))
    rw [← hrj] at G6
    have b86 := (fs.block _ (Nat.lt_of_lt_of_le (block_lt H4.out.2.1) f5.size) (by show ¬ n8 = g; omega)).trans ((f5.block _ (block_lt H4.out.2.1) (by show ¬ n8 = S; omega)).trans H4.out.2.1)
    have br6 := (fs.block _ (Nat.lt_of_lt_of_le (block_lt H4.out.1) f5.size) (by show ¬ b0 = g; omega)).trans ((f5.block _ (block_lt H4.out.1) (by show ¬ b0 = S; omega)).trans H4.out.1)
    have H6 := Lib.hid (And.intro G6 (And.intro f6 (And.intro b86 br6)))
    clear DL o5 f5 g5 fs g6 o6 f6 hrj G6 b86 br6 H4 c1
    go_upto_region 10 with (fail)
    clear s1 s2
    generalize w5.setCell ⟨g, 1, none⟩ (.slice (some ⟨S, 0, none⟩) (jn - 1) jc) = w6 at *
    have bw := H6.out.2.2.2
    have b8 := H6.out.2.2.1
    have r0 : w6.cell? ⟨b0, 0, none⟩ = some (.int .i64 0) := block_cell bw 0
    have r1 : w6.cell? ⟨b0, 1, none⟩ = some (.int .i64 0) := block_cell bw 1
    have r2 : w6.cell? ⟨b0, 2, none⟩ = some (.int .i64 0) := block_cell bw 2
    have r3 : w6.cell? ⟨b0, 3, none⟩ = some (.int .i64 0) := block_cell bw 3
    have r4 : w6.cell? ⟨b0, 4, none⟩ = some (.int .i64 0) := block_cell bw 4
    have q0 := block_fz bw 0
    have q1 := block_fz bw 1
    have q2 := block_fz bw 2
    have q3 := block_fz bw 3
    have q4 := block_fz bw 4
    have m0 : w6.cell? ⟨n8, 0, none⟩ = some (.int .i64 (x.T : Int)) := block_cell b8 0
    have m1 : w6.cell? ⟨n8, 1, none⟩ = some (.int .i64 x.R) := block_cell b8 1
    have m2 : w6.cell? ⟨n8, 2, none⟩ = some (.int .i64 x.D) := block_cell b8 2
    have m3 : w6.cell? ⟨n8, 3, none⟩ = some (.int .i64 (x.L - 1)) := block_cell b8 3
    have m4 : w6.cell? ⟨n8, 4, none⟩ = some (.int .i64 (x.N + 1)) := block_cell b8 4
    have HB := Lib.hid (set5_blk bw (.int .i64 (x.T : Int)) (.int .i64 x.R) (.int .i64 x.D) (.int .i64 (x.L - 1)) (.int .i64 (x.N + 1)))
    have F7 := set5_fr w6 b0 (.int .i64 (x.T : Int)) (.int .i64 x.R) (.int .i64 x.D) (.int .i64 (x.L - 1)) (.int .i64 (x.N + 1))
    have HG := Lib.hid (H6.out.1.fr F7 (by omega) (fun a ha e => by
      have := HI5.out.2.2.tow.lt_at ha
      rw [HB0.out] at this
      omega) (fun a ha e => by
      injection ha with ha
      subst ha
      have e : S = b0 := e
      omega))
    have HF := Lib.hid (((Fr.of_ext H2.out.2.1 _).trans H6.out.2.1 (fun _ _ h => h)).trans F7 (fun i hi e => by rw [HB0.out] at hi; omega))
    clear bw b8 F7
    go_region
    clear m0 m1 m2 m3 m4
    go_wp2_with fail
    generalize ((((w6.setCell ⟨b0, 0, none⟩ (.int .i64 (x.T : Int))).setCell ⟨b0, 1, none⟩ (.int .i64 x.R)).setCell ⟨b0, 2, none⟩ (.int .i64 x.D)).setCell ⟨b0, 3, none⟩ (.int .i64 (x.L - 1))).setCell ⟨b0, 4, none⟩ (.int .i64 (x.N + 1)) = w7 at *
    have t0 : w7.cell? ⟨b0, 0, none⟩ = some (.int .i64 (x.T : Int)) := block_cell HB.out 0
    have t1 : w7.cell? ⟨b0, 1, none⟩ = some (.int .i64 x.R) := block_cell HB.out 1
    have t2 : w7.cell? ⟨b0, 2, none⟩ = some (.int .i64 x.D) := block_cell HB.out 2
    have t3 : w7.cell? ⟨b0, 3, none⟩ = some (.int .i64 (x.L - 1)) := block_cell HB.out 3
    have t4 : w7.cell? ⟨b0, 4, none⟩ = some (.int .i64 (x.N + 1)) := block_cell HB.out 4
    refine bodyPost_ret (v := .tuple #[.agg #[.int .i64 (x.T : Int), .int .i64 x.R, .int .i64 x.D, .int .i64 (x.L - 1), .int .i64 (x.N + 1)], .bool true, .nilIface]) (by simp [results, Tryd.results13, go_sem, t0, t1, t2, t3, t4]) rfl ?_
    exact ⟨rfl, ⟨_, HG.out.ex ((Ext.refl _).drew)⟩, HF.out.drew⟩
  · have hL1 : (x.L - 1 == 0) = false := by rw [beq_eq_false_iff_ne]; omega
    have hde : d = false := by rw [← HD.out]; simpa using hL
    subst hde
    have HL := Lib.hid hL
    clear hL
    go_upto_region 10 with (fail)
    clear e0 e1 e2 e3 e4
    generalize w3.heap.size = n8 at *
    generalize w3.alloc (.cells #[.int .i64 (x.T : Int), .int .i64 x.R, .int .i64 x.D, .int .i64 (x.L - 1), .int .i64 (x.N + 1)] 46) = w6 at *
    have hrj := HRJ.out
    rw [if_neg HL.out] at hrj
    have f6 : Fr w1 w6 (fun b => b = g ∨ (some (⟨S, 0, none⟩ : Addr)).map (·.block) = some b) := H4.out.2.2.1.mono (fun i _ e => .inr (by rw [e]; rfl))
    have G6 := H2.out.1.turn f6 H4.out.2.2.2.2 H4.out.2.2.2.1 (by rw [← hrj]; exact HT.out) (fun a ha => .inl (by rw [ha]; rfl))
    rw [← hrj] at G6
    have H6 := Lib.hid (And.intro G6 (And.intro f6 (And.intro H4.out.2.1 H4.out.1)))
    clear hrj f6 G6 H4
    have bw := H6.out.2.2.2
    have b8 := H6.out.2.2.1
    have r0 : w6.cell? ⟨b0, 0, none⟩ = some (.int .i64 0) := block_cell bw 0
    have r1 : w6.cell? ⟨b0, 1, none⟩ = some (.int .i64 0) := block_cell bw 1
    have r2 : w6.cell? ⟨b0, 2, none⟩ = some (.int .i64 0) := block_cell bw 2
    have r3 : w6.cell? ⟨b0, 3, none⟩ = some (.int .i64 0) := block_cell bw 3
    have r4 : w6.cell? ⟨b0, 4, none⟩ = some (.int .i64 0) := block_cell bw 4
    have q0 := block_fz bw 0
    have q1 := block_fz bw 1
    have q2 := block_fz bw 2
    have q3 := block_fz bw 3
    have q4 := block_fz bw 4
    have m0 : w6.cell? ⟨n8, 0, none⟩ = some (.int .i64 (x.T : Int)) := block_cell b8 0
    have m1 : w6.cell? ⟨n8, 1, none⟩ = some (.int .i64 x.R) := block_cell b8 1
    have m2 : w6.cell? ⟨n8, 2, none⟩ = some (.int .i64 x.D) := block_cell b8 2
    have m3 : w6.cell? ⟨n8, 3, none⟩ = some (.int .i64 (x.L - 1)) := block_cell b8 3
    have m4 : w6.cell? ⟨n8, 4, none⟩ = some (.int .i64 (x.N + 1)) := block_cell b8 4
    have HB := Lib.hid (set5_blk bw (.int .i64 (x.T : Int)) (.int .i64 x.R) (.int .i64 x.D) (.int .i64 (x.L - 1)) (.int .i64 (x.N + 1)))
    have F7 := set5_fr w6 b0 (.int .i64 (x.T : Int)) (.int .i64 x.R) (.int .i64 x.D) (.int .i64 (x.L - 1)) (.int .i64 (x.N + 1))
    have HG := Lib.hid (H6.out.1.fr F7 (by omega) (fun a ha e => by
      have := HI5.out.2.2.tow.lt_at ha
      rw [HB0.out] at this
      omega) (fun a ha e => by
      injection ha with ha
      subst ha
      have e : S = b0 := e
      omega))
    have HF := Lib.hid (((Fr.of_ext H2.out.2.1 _).trans H6.out.2.1 (fun _ _ h => h)).trans F7 (fun i hi e => by rw [HB0.out] at hi; omega))
    clear bw b8 F7
    go_region
    clear m0 m1 m2 m3 m4
    go_wp2_with fail
    generalize ((((w6.setCell ⟨b0, 0, none⟩ (.int .i64 (x.T : Int))).setCell ⟨b0, 1, none⟩ (.int .i64 x.R)).setCell ⟨b0, 2, none⟩ (.int .i64 x.D)).setCell ⟨b0, 3, none⟩ (.int .i64 (x.L - 1))).setCell ⟨b0, 4, none⟩ (.int .i64 (x.N + 1)) = w7 at *
    have t0 : w7.cell? ⟨b0, 0, none⟩ = some (.int .i64 (x.T : Int)) := block_cell HB.out 0
    have t1 : w7.cell? ⟨b0, 1, none⟩ = some (.int .i64 x.R) := block_cell HB.out 1
    have t2 : w7.cell? ⟨b0, 2, none⟩ = some (.int .i64 x.D) := block_cell HB.out 2
    have t3 : w7.cell? ⟨b0, 3, none⟩ = some (.int .i64 (x.L - 1)) := block_cell HB.out 3
    have t4 : w7.cell? ⟨b0, 4, none⟩ = some (.int .i64 (x.N + 1)) := block_cell HB.out 4
    refine bodyPost_ret (v := .tuple #[.agg #[.int .i64 (x.T : Int), .int .i64 x.R, .int .i64 x.D, .int .i64 (x.L - 1), .int .i64 (x.N + 1)], .bool false, .nilIface]) (by simp [results, Tryd.results13, go_sem, t0, t1, t2, t3, t4]) rfl ?_
    exact ⟨rfl, ⟨_, HG.out.ex ((Ext.refl _).drew)⟩, HF.out.drew⟩
end
end Go.Proofs.YtbpbmelfhgbogaaDoor
