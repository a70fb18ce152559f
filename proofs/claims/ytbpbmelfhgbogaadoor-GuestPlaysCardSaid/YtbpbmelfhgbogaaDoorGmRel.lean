/-
  The document's guest: Release, walked.
-/
import Derived.Test.YtbpbmelfhgbogaaDoorGmNew
import Derived.BigRegion
import Derived.Deep.Cut
namespace Go.Proofs.YtbpbmelfhgbogaaDoor
set_option maxRecDepth 100000
open Go.RowKit
set_option linter.unusedVariables false
section
variable {w w' : World} {B g tn tc lc jn jc : Nat} {TA LA JA : Option Addr} {p : Int} {ks : List TkV} {js : List JobV}
theorem noteL_set {ks : List TkV} {k : Nat} (x : TkV) (now : Int) : (noteL ks).set k (.int .i64 (now + 1)) = noteL (ks.set k ⟨x.t, now, true⟩) := by
  unfold noteL
  rw [List.map_set]
  rfl
/-- The guest behind a release's note. -/
theorem MS.noted {SL : Nat} (h : MS w B g TA tn tc LA lc JA jn jc p ks js) (hS : LA = some ⟨SL, 0, none⟩) {k : Nat} {x : TkV} (hx : ks[k]? = some x) {now : Int} (h0 : 0 ≤ now) (h1 : now ≤ 1099511627776) :
    MS (w.setCell ⟨SL, k, none⟩ (.int .i64 (now + 1))) B g TA tn tc LA lc JA jn jc p (ks.set k ⟨x.t, now, true⟩) js := by
  subst hS
  have hf : Fr w (w.setCell ⟨SL, k, none⟩ (.int .i64 (now + 1))) (· = SL) := Fr.store w ⟨SL, k, none⟩ _
  have ho := h.low.stored k (.int .i64 (now + 1))
  rw [noteL_set x now] at ho
  exact ⟨(hf.block g h.lt (fun e => h.lg _ rfl e.symm)).trans h.blk, by rw [tsk_set hx]; exact hf.own h.tow (fun a ha e => h.tl a _ ha rfl e), ho, hf.own h.jow (fun a ha e => h.lj _ a rfl ha e.symm), h.tg, h.lg, h.jg, h.tl, h.tj, h.lj, h.bg, by rw [tsk_set hx]; exact h.gi, h.pol, h.tn8, fun y hy => by
    rcases List.mem_or_eq_of_mem_set hy with hy | hy
    · exact h.lo y hy
    · subst hy; exact ⟨h0, h1⟩⟩
/-- The guest behind a change of its jobs. -/
theorem MS.turn {JA' : Option Addr} {jn' jc' : Nat} {js' : List JobV} (h : MS w B g TA tn tc LA lc JA jn jc p ks js) (hf : Fr w w' (fun b => b = g ∨ JA.map (·.block) = some b)) (blk' : w'.heap[g]? = some (.cells #[.int .i64 p, .slice TA tn tc, .slice LA tn lc, .slice JA' jn' jc'] 74 (0, 0)))
    (own' : Own w' B 46 5 JA' jn' jc' (jrows js').flatten) (gi' : GI (tsk ks) js') (hJ : ∀ a, JA' = some a → JA.map (·.block) = some a.block ∨ w.heap.size ≤ a.block) : MS w' B g TA tn tc LA lc JA' jn' jc' p ks js' := by
  have away : ∀ {a : Addr} {A : Option Addr}, A = some a → a.block < w.heap.size → (∀ b, JA = some b → a.block ≠ b.block) → ∀ b, JA' = some b → a.block ≠ b.block := fun ha hl hne b hb e => by
    rcases hJ b hb with h1 | h1
    · obtain ⟨b0, hb0, hab⟩ := Option.map_eq_some_iff.1 h1
      exact hne b0 hb0 (e.trans hab.symm)
    · omega
  refine ⟨blk', hf.own h.tow (fun a ha e => ?_), hf.own h.low (fun a ha e => ?_), own', h.tg, h.lg, fun b hb e => ?_, h.tl, fun a b ha hb => away ha (h.tow.lt_at ha) (fun b hb => h.tj a b ha hb) b hb, fun a b ha hb => away ha (h.low.lt_at ha) (fun b hb => h.lj a b ha hb) b hb, h.bg, gi', h.pol, h.tn8, h.lo⟩
  · rcases e with e | e
    · exact h.tg a ha e
    · obtain ⟨b, hb, hab⟩ := Option.map_eq_some_iff.1 e
      exact h.tj a b ha hb hab.symm
  · rcases e with e | e
    · exact h.lg a ha e
    · obtain ⟨b, hb, hab⟩ := Option.map_eq_some_iff.1 e
      exact h.lj a b ha hb hab.symm
  · rcases hJ b hb with h1 | h1
    · obtain ⟨b0, hb0, hab⟩ := Option.map_eq_some_iff.1 h1
      exact h.jg b0 hb0 (hab.trans e)
    · have := h.lt; omega
theorem MS.push {wq w3 : World} {c3 : Nat} {A3 : Option Addr} {nj : JobV} {k : Nat} {now ticks : Int} {t : TaskV} (h : MS w B g TA tn tc LA lc JA jn jc p ks js) (hgi : GI (tsk ks) (js ++ [newJ k now ticks t])) (hj : newJ k now ticks t = nj) (xq : Ext w wq)
    (o3 : Own w3 B 46 5 A3 (jn + 1) c3 ((jrows js).flatten ++ nj.cells)) (g3 : Grows wq w3 JA) (hA3 : A3 = JA ∨ A3 = some ⟨wq.heap.size, 0, none⟩) :
    MS (w3.setCell ⟨g, 3, none⟩ (.slice A3 (jn + 1) c3)) B g TA tn tc LA lc A3 (jn + 1) c3 p ks (js ++ [newJ k now ticks t]) ∧ Fr w (w3.setCell ⟨g, 3, none⟩ (.slice A3 (jn + 1) c3)) (fun b => b = g ∨ JA.map (·.block) = some b) ∧ ∀ a, A3 = some a → JA.map (·.block) = some a.block ∨ w.heap.size ≤ a.block := by
  have f3 : Fr w w3 (fun b => JA.map (·.block) = some b) := (Fr.of_ext xq _).trans (Fr.grows g3) (fun _ _ h => h)
  have hgA : ¬ JA.map (·.block) = some g := fun e => by
    obtain ⟨a, ha, hab⟩ := Option.map_eq_some_iff.1 e
    exact h.jg a ha hab
  have bg3 := (f3.block g h.lt hgA).trans h.blk
  have fs := Fr.store w3 ⟨g, 3, none⟩ (.slice A3 (jn + 1) c3)
  have FW : Fr w (w3.setCell ⟨g, 3, none⟩ (.slice A3 (jn + 1) c3)) (fun b => b = g ∨ JA.map (·.block) = some b) := (f3.mono (fun i _ h => .inr h)).trans fs (fun i _ h => .inl h)
  have hJ : ∀ a, A3 = some a → JA.map (·.block) = some a.block ∨ w.heap.size ≤ a.block := fun a ha => by
    rcases hA3 with e | e
    · left; rw [← e, ha]; rfl
    · right
      rw [ha] at e
      injection e with e
      rw [e]
      exact xq.size
  have o4 : Own w3 B 46 5 A3 (jn + 1) c3 (jrows (js ++ [newJ k now ticks t])).flatten := by
    rw [hj]
    have e : (jrows (js ++ [nj])).flatten = (jrows js).flatten ++ nj.cells := by simp [jrows]
    rw [e]
    exact o3
  refine ⟨h.turn FW (heap_setCell_same w3 g 3 _ _ _ bg3) (fs.own o4 (fun a ha e => ?_)) hgi hJ, FW, hJ⟩
  have e : a.block = g := e
  rcases hJ a ha with e2 | e2
  · rw [e] at e2; exact hgA e2
  · have := h.lt; omega
/-- What a release that is taken leaves. -/
structure MRel (w w' : World) (B g : Nat) (TA : Option Addr) (tn tc : Nat) (LA : Option Addr) (lc : Nat) (JA : Option Addr) (jn : Nat) (p : Int) (ks' : List TkV) (js' : List JobV) : Prop where
  ex : ∃ JA' jc', MS w' B g TA tn tc LA lc JA' (jn + 1) jc' p ks' js' ∧ ∀ a, JA' = some a → JA.map (·.block) = some a.block ∨ w.heap.size ≤ a.block
  fr : Fr w w' (fun b => b = g ∨ LA.map (·.block) = some b ∨ JA.map (·.block) = some b)
set_option maxHeartbeats 1600000 in
theorem rrel_num (h : MS w B g TA tn tc LA lc JA jn jc p ks js) (i now ticks : Int) (hc : i < 0 ∨ (tn : Int) ≤ i ∨ now < 0 ∨ 1099511627776 < now) :
    Calls Tryd.prog 17 #[.pointer (some ⟨g, 0, none⟩), .int .i64 i, .int .i64 now, .int .i64 ticks] w fun e w' => e = .returned (.int .i64 1) ∧ Ext w w' := by
  have c1 := h.c1
  clear h
  by_cases h1 : i < 0
  · clear hc
    go_enter Tryd.func17, Tryd.ntmps17
    go_wp2_with fail
    go_returns
    exact ⟨rfl, Ext.refl w⟩
  by_cases h2 : (tn : Int) ≤ i
  · clear hc
    go_enter Tryd.func17, Tryd.ntmps17
    go_wp2_with fail
    go_returns
    exact ⟨rfl, Ext.refl w⟩
  by_cases h3 : now < 0
  · clear hc
    go_enter Tryd.func17, Tryd.ntmps17
    go_wp2_with fail
    go_returns
    exact ⟨rfl, Ext.refl w⟩
  have h4 : 1099511627776 < now := by omega
  clear hc
  go_enter Tryd.func17, Tryd.ntmps17
  go_wp2_with fail
  go_returns
  exact ⟨rfl, Ext.refl w⟩
set_option maxHeartbeats 3200000 in
theorem rrel_busy (h : MS w B g TA tn tc LA lc JA jn jc p ks js) {k : Nat} {now : Int} (ticks : Int) {x : TkV} (hx : ks[k]? = some x) (h0 : 0 ≤ now) (h1 : now ≤ 1099511627776) (hw : x.was = true) (hb : now < x.last + x.t.P) :
    Calls Tryd.prog 17 #[.pointer (some ⟨g, 0, none⟩), .int .i64 (k : Int), .int .i64 now, .int .i64 ticks] w fun e w' => e = .returned (.int .i64 14) ∧ Ext w w' := by
  have c1 := h.c1
  obtain ⟨k4, hk4⟩ : ∃ k4, k * 4 = k4 := ⟨_, rfl⟩
  have hl := h.lo x (List.mem_of_getElem? hx)
  have hleg := h.gi.leg x.t (List.mem_map.2 ⟨x, List.mem_of_getElem? hx, rfl⟩)
  obtain ⟨g1, g2, g3, g4, _, _⟩ := hleg
  obtain ⟨l1, l2⟩ := hl
  have htk : k < tn := by have := h.klen; have := (List.getElem?_eq_some_iff.1 hx).1; omega
  have z0 : (0 : Int) ≤ k := by omega
  have z1 : (k : Int) < tn := by omega
  have XB := (Ext.refl w).alloc (.cells #[.int .i64 x.t.C, .int .i64 x.t.P, .int .i64 x.t.D, .int .i64 x.t.S] 41)
  have hbB := heap_alloc_new w (.cells #[.int .i64 x.t.C, .int .i64 x.t.P, .int .i64 x.t.D, .int .i64 x.t.S] 41)
  obtain ⟨xt, xl, xw⟩ := x
  dsimp only at *
  subst hw
  have HB := Lib.hid (And.intro (h.ex XB) (And.intro XB hbB))
  obtain ⟨ST, rfl, _, _, e0, e1, e2, e3⟩ := h.tcell hx hk4
  obtain ⟨SL, rfl⟩ := h.low.head (by omega)
  have HN := Lib.hid (show (noteL ks)[k]? = some (.int .i64 (xl + 1)) from noteL_at hx)
  clear h hx XB hbB
  go_enter Tryd.func17, Tryd.ntmps17
  go_upto_region 4 with (fail)
  clear c1 e0 e1 e2 e3
  generalize w.alloc (.cells #[.int .i64 xt.C, .int .i64 xt.P, .int .i64 xt.D, .int .i64 xt.S] 41) = V at *
  generalize w.heap.size = mb at *
  have d1 : V.cell? ⟨mb, 1, none⟩ = some (.int .i64 xt.P) := block_cell HB.out.2.2 1
  have c2 := HB.out.1.c2
  have l0 : V.cell? ⟨SL, k, none⟩ = some (.int .i64 (xl + 1)) := HB.out.1.low.cellAt htk HN.out
  have wr1 : IntKind.i64.wrap (xl + 1 - 1) = xl := by rw [IntKind.wrap_i64]; omega
  have wr2 : IntKind.i64.wrap (now - xl) = now - xl := by rw [IntKind.wrap_i64]; omega
  have hd0 : decide (0 < xl + 1) = true := by rw [decide_eq_true_eq]; omega
  have hd : decide (now - xl < xt.P) = true := by rw [decide_eq_true_eq]; omega
  go_quiet (fail)
  go_wp2_with fail
  go_returns
  exact ⟨rfl, HB.out.2.1.drewN _⟩
set_option maxHeartbeats 3200000 in
theorem rrel_full (h : MS w B g TA tn tc LA lc JA jn jc p ks js) {k : Nat} {now : Int} (ticks : Int) {x : TkV} (hx : ks[k]? = some x) (h0 : 0 ≤ now) (h1 : now ≤ 1099511627776) (hf : x.free now) (hj : jn = 64) :
    Calls Tryd.prog 17 #[.pointer (some ⟨g, 0, none⟩), .int .i64 (k : Int), .int .i64 now, .int .i64 ticks] w fun e w' => e = .returned (.int .i64 7) ∧ Ext w w' := by
  subst hj
  have c1 := h.c1
  obtain ⟨k4, hk4⟩ : ∃ k4, k * 4 = k4 := ⟨_, rfl⟩
  have hl := h.lo x (List.mem_of_getElem? hx)
  have hleg := h.gi.leg x.t (List.mem_map.2 ⟨x, List.mem_of_getElem? hx, rfl⟩)
  obtain ⟨g1, g2, g3, g4, _, _⟩ := hleg
  obtain ⟨l1, l2⟩ := hl
  have htk : k < tn := by have := h.klen; have := (List.getElem?_eq_some_iff.1 hx).1; omega
  have z0 : (0 : Int) ≤ k := by omega
  have z1 : (k : Int) < tn := by omega
  have XB := (Ext.refl w).alloc (.cells #[.int .i64 x.t.C, .int .i64 x.t.P, .int .i64 x.t.D, .int .i64 x.t.S] 41)
  have hbB := heap_alloc_new w (.cells #[.int .i64 x.t.C, .int .i64 x.t.P, .int .i64 x.t.D, .int .i64 x.t.S] 41)
  obtain ⟨xt, xl, xw⟩ := x
  dsimp only at *
  have HB := Lib.hid (And.intro (h.ex XB) (And.intro XB hbB))
  obtain ⟨ST, rfl, _, _, e0, e1, e2, e3⟩ := h.tcell hx hk4
  obtain ⟨SL, rfl⟩ := h.low.head (by omega)
  have HN := Lib.hid (show (noteL ks)[k]? = some (.int .i64 (TkV.mk xt xl xw).note) from noteL_at hx)
  have HF := Lib.hid hf
  clear h hx XB hbB hf
  go_enter Tryd.func17, Tryd.ntmps17
  go_upto_region 4 with (fail)
  clear c1 e0 e1 e2 e3
  generalize w.alloc (.cells #[.int .i64 xt.C, .int .i64 xt.P, .int .i64 xt.D, .int .i64 xt.S] 41) = V at *
  generalize w.heap.size = mb at *
  have d1 : V.cell? ⟨mb, 1, none⟩ = some (.int .i64 xt.P) := block_cell HB.out.2.2 1
  have c2 := HB.out.1.c2
  have c3 := HB.out.1.c3
  have l0 : V.cell? ⟨SL, k, none⟩ = some (.int .i64 (TkV.mk xt xl xw).note) := HB.out.1.low.cellAt htk HN.out
  cases xw with
  | false =>
    replace l0 : V.cell? ⟨SL, k, none⟩ = some (.int .i64 0) := l0
    go_quiet (fail)
    go_wp2_with fail
    go_returns
    exact ⟨rfl, HB.out.2.1.drewN _⟩
  | true =>
    replace l0 : V.cell? ⟨SL, k, none⟩ = some (.int .i64 (xl + 1)) := l0
    have wr1 : IntKind.i64.wrap (xl + 1 - 1) = xl := by rw [IntKind.wrap_i64]; omega
    have wr2 : IntKind.i64.wrap (now - xl) = now - xl := by rw [IntKind.wrap_i64]; omega
    have hd0 : decide (0 < xl + 1) = true := by rw [decide_eq_true_eq]; omega
    have hd : decide (now - xl < xt.P) = false := by
      rw [decide_eq_false_iff_not]
      rcases HF.out with e | e
      · cases e
      · have e : xl + xt.P ≤ now := e
        omega
    go_quiet (fail)
    go_wp2_with fail
    go_returns
    exact ⟨rfl, HB.out.2.1.drewN _⟩
set_option maxHeartbeats 12800000 in
theorem rrel_ok_ (h : MS w B g TA tn tc LA lc JA jn jc p ks js) {k : Nat} {now : Int} (ticks : Int) {x : TkV} (hx : ks[k]? = some x) (h0 : 0 ≤ now) (h1 : now ≤ 1099511627776) (hf : x.free now) (hj : jn < 64)
    {Post : Ending → World → Prop} (hPost : Hid (∀ w', MRel w w' B g TA tn tc LA lc JA jn p (ks.set k ⟨x.t, now, true⟩) (js ++ [newJ k now ticks x.t]) → Post (.returned (.int .i64 0)) w')) :
    Calls Tryd.prog 17 #[.pointer (some ⟨g, 0, none⟩), .int .i64 (k : Int), .int .i64 now, .int .i64 ticks] w Post := by
  have c1 := h.c1
  obtain ⟨k4, hk4⟩ : ∃ k4, k * 4 = k4 := ⟨_, rfl⟩
  have hl := h.lo x (List.mem_of_getElem? hx)
  have hleg := h.gi.leg x.t (List.mem_map.2 ⟨x, List.mem_of_getElem? hx, rfl⟩)
  obtain ⟨g1, g2, g3, g4, _, _⟩ := hleg
  obtain ⟨l1, l2⟩ := hl
  have htk : k < tn := by have := h.klen; have := (List.getElem?_eq_some_iff.1 hx).1; omega
  have z0 : (0 : Int) ≤ k := by omega
  have z1 : (k : Int) < tn := by omega
  have gip := h.gi.push (ticks := ticks) (by have := h.jlen; omega) (i := k) (by rw [List.length_map]; exact (List.getElem?_eq_some_iff.1 hx).1) h0 h1
  have hkt := tsk_at hx
  rw [hkt] at gip
  have gip : GI (tsk (ks.set k ⟨x.t, now, true⟩)) (js ++ [newJ k now ticks x.t]) := by rw [tsk_set hx]; exact gip
  have gip := Lib.hid gip
  have XB := (Ext.refl w).alloc (.cells #[.int .i64 x.t.C, .int .i64 x.t.P, .int .i64 x.t.D, .int .i64 x.t.S] 41)
  have hbB := heap_alloc_new w (.cells #[.int .i64 x.t.C, .int .i64 x.t.P, .int .i64 x.t.D, .int .i64 x.t.S] 41)
  obtain ⟨L, hL⟩ : ∃ L, cutT ticks x.t.C = L := ⟨_, rfl⟩
  have HJ := Lib.hid (show newJ k now ticks x.t = ⟨k, now, now + x.t.D, L, 0⟩ by unfold newJ; rw [hL])
  unfold cutT at hL
  have hq : (x.t.C < ticks ∧ L = x.t.C) ∨ (ticks ≤ x.t.C ∧ ticks < 1 ∧ L = 1) ∨ (ticks ≤ x.t.C ∧ 1 ≤ ticks ∧ L = ticks) := by omega
  have HQ := Lib.hid hq
  clear hL hkt hq
  obtain ⟨xt, xl, xw⟩ := x
  dsimp only at *
  have HB := Lib.hid (And.intro (h.ex XB) (And.intro XB hbB))
  obtain ⟨ST, rfl, _, _, e0, e1, e2, e3⟩ := h.tcell hx hk4
  obtain ⟨SL, rfl⟩ := h.low.head (by omega)
  have HN := Lib.hid (show (noteL ks)[k]? = some (.int .i64 (TkV.mk xt xl xw).note) from noteL_at hx)
  have HF := Lib.hid hf
  have HX := Lib.hid (And.intro hx h)
  have hSLm : SL < w.heap.size := h.low.lt
  clear h hx XB hbB hf
  go_enter Tryd.func17, Tryd.ntmps17
  go_upto_region 4 with (fail)
  clear c1 e0 e1 e2 e3
  generalize w.alloc (.cells #[.int .i64 xt.C, .int .i64 xt.P, .int .i64 xt.D, .int .i64 xt.S] 41) = V at *
  generalize hmb : w.heap.size = mb at *
  have HMB := Lib.hid hmb
  clear hmb
  have d1 : V.cell? ⟨mb, 1, none⟩ = some (.int .i64 xt.P) := block_cell HB.out.2.2 1
  have c2 := HB.out.1.c2
  have l0 : V.cell? ⟨SL, k, none⟩ = some (.int .i64 (TkV.mk xt xl xw).note) := HB.out.1.low.cellAt htk HN.out
  go_cut [58] from 36 (fun v58 wx => v58 = .bool false ∧ Ext V wx)
  case first =>
    cases xw with
    | false =>
      replace l0 : V.cell? ⟨SL, k, none⟩ = some (.int .i64 0) := l0
      go_quiet (fail)
      go_wp2_with fail
      go_meet
      case rel => exact ⟨rfl, (Ext.refl V).drewN _⟩
    | true =>
      replace l0 : V.cell? ⟨SL, k, none⟩ = some (.int .i64 (xl + 1)) := l0
      have wr1 : IntKind.i64.wrap (xl + 1 - 1) = xl := by rw [IntKind.wrap_i64]; omega
      have wr2 : IntKind.i64.wrap (now - xl) = now - xl := by rw [IntKind.wrap_i64]; omega
      have hd0 : decide (0 < xl + 1) = true := by rw [decide_eq_true_eq]; omega
      have hd : decide (now - xl < xt.P) = false := by
        rw [decide_eq_false_iff_not]
        rcases HF.out with e | e
        · cases e
        · have e : xl + xt.P ≤ now := e
          omega
      go_quiet (fail)
      go_wp2_with fail
      go_meet
      case rel => exact ⟨rfl, (Ext.refl V).drewN _⟩
  case rest =>
    obtain ⟨rfl, XW⟩ := hcut
    clear d1 c2 l0
    obtain ⟨V2, hV2⟩ : ∃ V2, V2 = wc := ⟨_, rfl⟩
    subst hV2
    have HC := Lib.hid (And.intro (HB.out.1.ex XW) (And.intro (HB.out.2.1.trans XW) (And.intro ((XW.block _ (block_lt HB.out.2.2)).trans HB.out.2.2) (show SL < mb ∧ w.heap.size = mb from ⟨hSLm, HMB.out⟩))))
    clear HB XW
    have c3 := HC.out.1.c3
    have d0 : V2.cell? ⟨mb, 0, none⟩ = some (.int .i64 xt.C) := block_cell HC.out.2.2.1 0
    have hjn : ¬ (64 : Int) ≤ (jn : Int) := by omega
    have hjn2 : ¬ 64 ≤ jn := by omega
    rcases HQ.out with ⟨q1, rfl⟩ | ⟨q1, q2, rfl⟩ | ⟨q1, q2, rfl⟩
    ·
        go_upto_region 8 with (fail)
        clear c3
        go_upto_region 12 with (fail)
        clear d0
        have c2 := HC.out.1.c2
        have l0 : V2.cell? ⟨SL, k, none⟩ = some (.int .i64 (TkV.mk xt xl xw).note) := HC.out.1.low.cellAt htk HN.out
        have f0 : V2.frozen? ⟨SL, k, none⟩ = false := HC.out.1.low.frozenAt k
        have wr0 : IntKind.i64.wrap (now + 1) = now + 1 := by rw [IntKind.wrap_i64]; omega
        go_upto_region 13 with (fail)
        clear c2 l0 f0 wr0
        have M1 := HC.out.1.noted rfl HX.out.1 h0 h1
        have F1 : Fr V2 (V2.setCell ⟨SL, k, none⟩ (.int .i64 (now + 1))) (· = SL) := Fr.store V2 ⟨SL, k, none⟩ _
        have b1 := (F1.block mb (block_lt HC.out.2.2.1) (by have := HC.out.2.2.2; show ¬ mb = SL; omega)).trans HC.out.2.2.1
        have H1 := Lib.hid (And.intro M1 (And.intro F1 b1))
        clear M1 F1 b1
        generalize V2.setCell ⟨SL, k, none⟩ (.int .i64 (now + 1)) = U at *
        have c3 := H1.out.1.c3
        have d2 : U.cell? ⟨mb, 2, none⟩ = some (.int .i64 xt.D) := block_cell H1.out.2.2 2
        have hgU := H1.out.1.lt
        have hmU := block_lt H1.out.2.2
        have XA : Ext U (U.alloc (.cells #[.int .i64 (k : Int), .int .i64 now, .int .i64 (now + xt.D), .int .i64 xt.C, .int .i64 0] 46)) := (Ext.refl U).alloc _
        have RN : Rd (U.alloc (.cells #[.int .i64 (k : Int), .int .i64 now, .int .i64 (now + xt.D), .int .i64 xt.C, .int .i64 0] 46)) 5 (some ⟨U.heap.size, 0, none⟩) 1 (JobV.mk k now (now + xt.D) xt.C 0).cells :=
          ⟨rfl, fun _ => ⟨_, rfl, by rw [World.size_alloc]; exact Nat.lt_succ_self _, World.news_of_block (heap_alloc_new U _)⟩⟩
        have hnz : ∀ u ∈ (JobV.mk k now (now + xt.D) xt.C 0).cells, u.oneCell' = true := fun u hu => by
          simp only [JobV.cells, List.mem_cons, List.not_mem_nil, or_false] at hu
          rcases hu with rfl | rfl | rfl | rfl | rfl <;> rfl
        have q3 := (XA.cell (p := ⟨g, 3, none⟩) hgU).trans c3
        have q2 := (XA.cell (p := ⟨mb, 2, none⟩) hmU).trans d2
        have OX := Lib.hid (H1.out.1.jow.ext XA)
        have XD := XA.drew
        have hBg : B ≤ g := H1.out.1.bg
        have hzq : B ≤ (U.alloc (.cells #[.int .i64 (k : Int), .int .i64 now, .int .i64 (now + xt.D), .int .i64 xt.C, .int .i64 0] 46)).drew.heap.size := by simp; omega
        have HBU := Lib.hid (And.intro H1.out.1.blk (And.intro H1.out.1.jg (fun (a : Addr) (ha : JA = some a) => (show a.block ≠ mb from by
          have h3 := HX.out.2.jow.lt_at ha
          have h4 := HC.out.2.2.2
          omega))))
        have U1 := Lib.hid (show jn + 1 ≤ 9223372036854775807 ∧ ∀ c, (jn + 1 ≤ c ∨ (jn + 1) * 40 ≤ 225000000000000 ∧ 40 ≤ 100000) from ⟨by omega, fun _ => .inr ⟨by omega, by omega⟩⟩)
        have wr1 : IntKind.i64.wrap (now + xt.D) = now + xt.D := by rw [IntKind.wrap_i64]; omega
        have HS : U.drew.cell? ⟨g, 3, none⟩ = some (.slice JA jn jc) ∧ U.drew.cell? ⟨mb, 2, none⟩ = some (.int .i64 xt.D) := ⟨c3, d2⟩
        have HS2 : (U.alloc (.cells #[.int .i64 (k : Int), .int .i64 now, .int .i64 (now + xt.D), .int .i64 xt.C, .int .i64 0] 46)).drew.cell? ⟨g, 3, none⟩ = some (.slice JA jn jc) ∧ (U.alloc (.cells #[.int .i64 (k : Int), .int .i64 now, .int .i64 (now + xt.D), .int .i64 xt.C, .int .i64 0] 46)).drew.cell? ⟨mb, 2, none⟩ = some (.int .i64 xt.D) := ⟨q3, q2⟩
        refine d_region (fun w' : World => w'.cell? ⟨g, 3, none⟩ = some (.slice JA jn jc) ∧ w'.cell? ⟨mb, 2, none⟩ = some (.int .i64 xt.D)) [15, 16, 17] (by kernel_rfl) ?_
        refine d_take (i := 0) (v := ?_) [15, 16, 17] (some 81) rfl (by rfl) (by kernel_rfl) (by kernel_rfl) (by kernel_rfl) (by kernel_rfl) (by kernel_rfl) (by kernel_rfl) (fun _ _ _ h => h) (.inl ⟨by rfl, ?_⟩) HS ?_
        rotate_left 1
        · (intro W hW; (try dsimp only at hW); go_simp; try with_reducible rfl)
        try simp only [Act.put, List.setIfInBounds_toArray, List.set_cons_zero, List.set_cons_succ]
        refine d_take (i := 1) (v := ?_) [2, 3, 4, 14, 15, 16, 17] (some 82) rfl (by rfl) (by kernel_rfl) (by kernel_rfl) (by kernel_rfl) (by kernel_rfl) (by kernel_rfl) (by kernel_rfl) (fun _ _ _ h => h) (.inl ⟨by rfl, ?_⟩) HS ?_
        rotate_left 1
        · (intro W hW; (try dsimp only at hW); go_simp; try with_reducible rfl)
        try simp only [Act.put, List.setIfInBounds_toArray, List.set_cons_zero, List.set_cons_succ]
        refine d_take (i := 2) (v := ?_) [3, 4, 14, 15, 16, 17] (some 83) rfl (by rfl) (by kernel_rfl) (by kernel_rfl) (by kernel_rfl) (by kernel_rfl) (by kernel_rfl) (by kernel_rfl) (fun _ _ _ h => h) (.inl ⟨by rfl, ?_⟩) HS ?_
        rotate_left 1
        · (intro W hW; (try dsimp only at hW); go_simp; try with_reducible rfl)
        try simp only [Act.put, List.setIfInBounds_toArray, List.set_cons_zero, List.set_cons_succ]
        refine d_take (i := 3) (v := ?_) [4, 14, 15, 16, 17] (some 84) rfl (by rfl) (by kernel_rfl) (by kernel_rfl) (by kernel_rfl) (by kernel_rfl) (by kernel_rfl) (by kernel_rfl) (fun _ _ _ h => h) (.inl ⟨by rfl, ?_⟩) HS ?_
        rotate_left 1
        · (intro W hW; (try dsimp only at hW); go_simp; try with_reducible rfl)
        try simp only [Act.put, List.setIfInBounds_toArray, List.set_cons_zero, List.set_cons_succ]
        refine d_take (i := 4) (v := ?_) [14, 15, 16, 17] (some 85) rfl (by rfl) (by kernel_rfl) (by kernel_rfl) (by kernel_rfl) (by kernel_rfl) (by kernel_rfl) (by kernel_rfl) (fun _ _ _ h => h) (.inl ⟨by rfl, ?_⟩) HS ?_
        rotate_left 1
        · (intro W hW; (try dsimp only at hW); go_simp; try with_reducible rfl)
        try simp only [Act.put, List.setIfInBounds_toArray, List.set_cons_zero, List.set_cons_succ]
        refine d_take (i := 5) (v := ?_) [12, 13, 14, 15, 16, 17] (some 86) rfl (by rfl) (by kernel_rfl) (by kernel_rfl) (by kernel_rfl) (by kernel_rfl) (by kernel_rfl) (by kernel_rfl) (fun _ _ _ h => h) (.inl ⟨by rfl, ?_⟩) HS ?_
        rotate_left 1
        · (intro W hW; (try dsimp only at hW); go_simp; try with_reducible rfl)
        try simp only [Act.put, List.setIfInBounds_toArray, List.set_cons_zero, List.set_cons_succ]
        refine d_take (i := 6) (v := ?_) [12, 13, 14, 15, 16, 17] (some 87) rfl (by rfl) (by kernel_rfl) (by kernel_rfl) (by kernel_rfl) (by kernel_rfl) (by kernel_rfl) (by kernel_rfl) (fun _ _ _ h => h) (.inl ⟨by rfl, ?_⟩) HS ?_
        rotate_left 1
        · (intro W hW; (try dsimp only at hW); go_simp; try with_reducible rfl)
        try simp only [Act.put, List.setIfInBounds_toArray, List.set_cons_zero, List.set_cons_succ]
        refine d_take (i := 7) (v := ?_) [10, 12, 13, 14, 15, 16, 17] (some 88) rfl (by rfl) (by kernel_rfl) (by kernel_rfl) (by kernel_rfl) (by kernel_rfl) (by kernel_rfl) (by kernel_rfl) (fun _ _ _ h => h) (.inl ⟨by rfl, ?_⟩) HS ?_
        rotate_left 1
        · (intro W hW; (try dsimp only at hW); go_simp; try with_reducible rfl)
        try simp only [Act.put, List.setIfInBounds_toArray, List.set_cons_zero, List.set_cons_succ]
        refine d_take (i := 8) (v := ?_) [9, 10, 12, 13, 14, 15, 16, 17] (some 89) rfl (by rfl) (by kernel_rfl) (by kernel_rfl) (by kernel_rfl) (by kernel_rfl) (by kernel_rfl) (by kernel_rfl) (fun _ _ _ h => h) (.inl ⟨by rfl, ?_⟩) HS ?_
        rotate_left 1
        · (intro W hW; (try dsimp only at hW); go_simp; try with_reducible rfl)
        try simp only [Act.put, List.setIfInBounds_toArray, List.set_cons_zero, List.set_cons_succ]
        refine d_take (i := 9) (v := ?_) [10, 12, 13, 14, 15, 16, 17] (some 90) rfl (by rfl) (by kernel_rfl) (by kernel_rfl) (by kernel_rfl) (by kernel_rfl) (by kernel_rfl) (by kernel_rfl) (fun _ _ _ h => h) (.inl ⟨by rfl, ?_⟩) HS ?_
        rotate_left 1
        · (intro W hW; (try dsimp only at hW); go_simp; try with_reducible rfl)
        try simp only [Act.put, List.setIfInBounds_toArray, List.set_cons_zero, List.set_cons_succ]
        refine d_take (i := 10) (v := ?_) [12, 13, 14, 15, 16, 17] (some 91) rfl (by rfl) (by kernel_rfl) (by kernel_rfl) (by kernel_rfl) (by kernel_rfl) (by kernel_rfl) (by kernel_rfl) (fun _ _ _ h => h) (.inl ⟨by rfl, ?_⟩) HS ?_
        rotate_left 1
        · (intro W hW; (try dsimp only at hW); go_simp; try with_reducible rfl)
        try simp only [Act.put, List.setIfInBounds_toArray, List.set_cons_zero, List.set_cons_succ]
        refine d_take (i := 11) (v := ?_) [12, 13, 14, 15, 16, 17] (some 92) rfl (by rfl) (by kernel_rfl) (by kernel_rfl) (by kernel_rfl) (by kernel_rfl) (by kernel_rfl) (by kernel_rfl) (fun _ _ _ h => h) (.inl ⟨by rfl, ?_⟩) HS ?_
        rotate_left 1
        · (intro W hW; (try dsimp only at hW); go_simp; try with_reducible rfl)
        try simp only [Act.put, List.setIfInBounds_toArray, List.set_cons_zero, List.set_cons_succ]
        refine d_take (i := 12) (v := ?_) [13, 14, 15, 16, 17] (some 93) rfl (by rfl) (by kernel_rfl) (by kernel_rfl) (by kernel_rfl) (by kernel_rfl) (by kernel_rfl) (by kernel_rfl) (fun _ _ _ h => h) (.inl ⟨by rfl, ?_⟩) HS ?_
        rotate_left 1
        · (intro W hW; (try dsimp only at hW); go_simp; try with_reducible rfl)
        try simp only [Act.put, List.setIfInBounds_toArray, List.set_cons_zero, List.set_cons_succ]
        refine d_one (i := 13) (by kernel_rfl) rfl rfl (fun K hK => ?_)
        simp only [List.getElem_toArray, List.getElem_cons_succ, List.getElem_cons_zero]
        go_simp
        refine hK.out _ _ (fun _ => HS2) ?_
        clear hK K
        try simp only [Act.put, List.setIfInBounds_toArray, List.set_cons_zero, List.set_cons_succ]
        refine d_one (i := 14) (by kernel_rfl) rfl rfl (fun K hK => ?_)
        simp only [List.getElem_toArray, List.getElem_cons_succ, List.getElem_cons_zero]
        refine oper_app (w := (U.alloc (.cells #[.int .i64 (k : Int), .int .i64 now, .int .i64 (now + xt.D), .int .i64 xt.C, .int .i64 0] 46)).drew) (m := 1) (d := 1) (news := (JobV.mk k now (now + xt.D) xt.C 0).cells) eltJob OX.out RN hnz U1.out.1 (U1.out.2 _) hzq (.tmp 85) (.tmp 94) rfl rfl rfl ?_
        intro A3 c3' w3 o3 g3 hA3 _
        have bg3 := (g3.block g (Nat.lt_of_lt_of_le hgU XD.size) (fun e => by
          obtain ⟨a, ha, hab⟩ := Option.map_eq_some_iff.1 e.symm
          exact HBU.out.2.1 a ha hab)).trans ((XD.block g hgU).trans HBU.out.1)
        have bm3 := (g3.block mb (Nat.lt_of_lt_of_le hmU XD.size) (fun e => by
          obtain ⟨a, ha, hab⟩ := Option.map_eq_some_iff.1 e.symm
          exact HBU.out.2.2 a ha hab)).trans ((XD.block mb hmU).trans H1.out.2.2)
        have s1 : w3.cell? ⟨g, 3, none⟩ = some (.slice JA jn jc) := block_cell bg3 3
        have s2 := block_fz bg3 3
        have s3 : w3.cell? ⟨mb, 2, none⟩ = some (.int .i64 xt.D) := block_cell bm3 2
        refine hK.out _ _ (fun _ => ⟨s1, s3⟩) ?_
        clear hK K
        try simp only [Act.put, List.setIfInBounds_toArray, List.set_cons_zero, List.set_cons_succ]
        refine d_pure (i := 15) (v := ?_) (some 96) rfl (by rfl) (by kernel_rfl) (by kernel_rfl) (by kernel_rfl) (by kernel_rfl) (fun _ _ _ h => h) (.inl ⟨by rfl, ?_⟩) ?_
        rotate_left 1
        · (intro W hW; go_simp; try with_reducible rfl)
        try simp only [Act.put, List.setIfInBounds_toArray, List.set_cons_zero, List.set_cons_succ]
        refine d_pure (i := 16) (v := ?_) (some 97) rfl (by rfl) (by kernel_rfl) (by kernel_rfl) (by kernel_rfl) (by kernel_rfl) (fun _ _ _ h => h) (.inl ⟨by rfl, ?_⟩) ?_
        rotate_left 1
        · (intro W hW; go_simp; try with_reducible rfl)
        try simp only [Act.put, List.setIfInBounds_toArray, List.set_cons_zero, List.set_cons_succ]
        refine d_one (i := 17) (by kernel_rfl) rfl rfl (fun K hK => ?_)
        simp only [List.getElem_toArray, List.getElem_cons_succ, List.getElem_cons_zero]
        go_simp
        refine hK.out _ _ (fun h => absurd h (by decide)) ?_
        clear hK K
        try simp only [Act.put, List.setIfInBounds_toArray, List.set_cons_zero, List.set_cons_succ]
        refine d_done (by kernel_rfl) ?_ _
        have P := Lib.hid (H1.out.1.push (ks := ks.set k ⟨xt, now, true⟩) gip.out HJ.out XD o3 g3 hA3)
        have FP := Lib.hid ((Fr.of_ext HC.out.2.1 _).trans ((H1.out.2.1.mono (fun i _ e => (show _ from .inr (.inl (by rw [e]; rfl)) : i = g ∨ (some (⟨SL, 0, none⟩ : Addr)).map (·.block) = some i ∨ JA.map (·.block) = some i))).trans P.out.2.1 (fun i _ e => e.imp id .inr)) (fun i _ e => e))
        clear o3 g3 hA3 bg3 bm3 s1 s2 s3 HS HS2 c3 d2 q2 q3 wr1
        go_wp2_with fail
        refine hPost.out _ ⟨⟨_, _, P.out.1, fun a ha => ?_⟩, FP.out⟩
        have hz3 := H1.out.2.1.size
        have hzw := HC.out.2.1.size
        rcases P.out.2.2 a ha with e | e
        · exact .inl e
        · exact .inr (by omega)
    ·
        go_upto_region 8 with (fail)
        clear c3
        go_upto_region 12 with (fail)
        clear d0
        have c2 := HC.out.1.c2
        have l0 : V2.cell? ⟨SL, k, none⟩ = some (.int .i64 (TkV.mk xt xl xw).note) := HC.out.1.low.cellAt htk HN.out
        have f0 : V2.frozen? ⟨SL, k, none⟩ = false := HC.out.1.low.frozenAt k
        have wr0 : IntKind.i64.wrap (now + 1) = now + 1 := by rw [IntKind.wrap_i64]; omega
        go_upto_region 13 with (fail)
        clear c2 l0 f0 wr0
        have M1 := HC.out.1.noted rfl HX.out.1 h0 h1
        have F1 : Fr V2 (V2.setCell ⟨SL, k, none⟩ (.int .i64 (now + 1))) (· = SL) := Fr.store V2 ⟨SL, k, none⟩ _
        have b1 := (F1.block mb (block_lt HC.out.2.2.1) (by have := HC.out.2.2.2; show ¬ mb = SL; omega)).trans HC.out.2.2.1
        have H1 := Lib.hid (And.intro M1 (And.intro F1 b1))
        clear M1 F1 b1
        generalize V2.setCell ⟨SL, k, none⟩ (.int .i64 (now + 1)) = U at *
        have c3 := H1.out.1.c3
        have d2 : U.cell? ⟨mb, 2, none⟩ = some (.int .i64 xt.D) := block_cell H1.out.2.2 2
        have hgU := H1.out.1.lt
        have hmU := block_lt H1.out.2.2
        have XA : Ext U (U.alloc (.cells #[.int .i64 (k : Int), .int .i64 now, .int .i64 (now + xt.D), .int .i64 1, .int .i64 0] 46)) := (Ext.refl U).alloc _
        have RN : Rd (U.alloc (.cells #[.int .i64 (k : Int), .int .i64 now, .int .i64 (now + xt.D), .int .i64 1, .int .i64 0] 46)) 5 (some ⟨U.heap.size, 0, none⟩) 1 (JobV.mk k now (now + xt.D) 1 0).cells :=
          ⟨rfl, fun _ => ⟨_, rfl, by rw [World.size_alloc]; exact Nat.lt_succ_self _, World.news_of_block (heap_alloc_new U _)⟩⟩
        have hnz : ∀ u ∈ (JobV.mk k now (now + xt.D) 1 0).cells, u.oneCell' = true := fun u hu => by
          simp only [JobV.cells, List.mem_cons, List.not_mem_nil, or_false] at hu
          rcases hu with rfl | rfl | rfl | rfl | rfl <;> rfl
        have q3 := (XA.cell (p := ⟨g, 3, none⟩) hgU).trans c3
        have q2 := (XA.cell (p := ⟨mb, 2, none⟩) hmU).trans d2
        have OX := Lib.hid (H1.out.1.jow.ext XA)
        have XD := XA.drew
        have hBg : B ≤ g := H1.out.1.bg
        have hzq : B ≤ (U.alloc (.cells #[.int .i64 (k : Int), .int .i64 now, .int .i64 (now + xt.D), .int .i64 1, .int .i64 0] 46)).drew.heap.size := by simp; omega
        have HBU := Lib.hid (And.intro H1.out.1.blk (And.intro H1.out.1.jg (fun (a : Addr) (ha : JA = some a) => (show a.block ≠ mb from by
          have h3 := HX.out.2.jow.lt_at ha
          have h4 := HC.out.2.2.2
          omega))))
        have U1 := Lib.hid (show jn + 1 ≤ 9223372036854775807 ∧ ∀ c, (jn + 1 ≤ c ∨ (jn + 1) * 40 ≤ 225000000000000 ∧ 40 ≤ 100000) from ⟨by omega, fun _ => .inr ⟨by omega, by omega⟩⟩)
        have wr1 : IntKind.i64.wrap (now + xt.D) = now + xt.D := by rw [IntKind.wrap_i64]; omega
        have HS : U.drew.cell? ⟨g, 3, none⟩ = some (.slice JA jn jc) ∧ U.drew.cell? ⟨mb, 2, none⟩ = some (.int .i64 xt.D) := ⟨c3, d2⟩
        have HS2 : (U.alloc (.cells #[.int .i64 (k : Int), .int .i64 now, .int .i64 (now + xt.D), .int .i64 1, .int .i64 0] 46)).drew.cell? ⟨g, 3, none⟩ = some (.slice JA jn jc) ∧ (U.alloc (.cells #[.int .i64 (k : Int), .int .i64 now, .int .i64 (now + xt.D), .int .i64 1, .int .i64 0] 46)).drew.cell? ⟨mb, 2, none⟩ = some (.int .i64 xt.D) := ⟨q3, q2⟩
        refine d_region (fun w' : World => w'.cell? ⟨g, 3, none⟩ = some (.slice JA jn jc) ∧ w'.cell? ⟨mb, 2, none⟩ = some (.int .i64 xt.D)) [15, 16, 17] (by kernel_rfl) ?_
        refine d_take (i := 0) (v := ?_) [15, 16, 17] (some 81) rfl (by rfl) (by kernel_rfl) (by kernel_rfl) (by kernel_rfl) (by kernel_rfl) (by kernel_rfl) (by kernel_rfl) (fun _ _ _ h => h) (.inl ⟨by rfl, ?_⟩) HS ?_
        rotate_left 1
        · (intro W hW; (try dsimp only at hW); go_simp; try with_reducible rfl)
        try simp only [Act.put, List.setIfInBounds_toArray, List.set_cons_zero, List.set_cons_succ]
        refine d_take (i := 1) (v := ?_) [2, 3, 4, 14, 15, 16, 17] (some 82) rfl (by rfl) (by kernel_rfl) (by kernel_rfl) (by kernel_rfl) (by kernel_rfl) (by kernel_rfl) (by kernel_rfl) (fun _ _ _ h => h) (.inl ⟨by rfl, ?_⟩) HS ?_
        rotate_left 1
        · (intro W hW; (try dsimp only at hW); go_simp; try with_reducible rfl)
        try simp only [Act.put, List.setIfInBounds_toArray, List.set_cons_zero, List.set_cons_succ]
        refine d_take (i := 2) (v := ?_) [3, 4, 14, 15, 16, 17] (some 83) rfl (by rfl) (by kernel_rfl) (by kernel_rfl) (by kernel_rfl) (by kernel_rfl) (by kernel_rfl) (by kernel_rfl) (fun _ _ _ h => h) (.inl ⟨by rfl, ?_⟩) HS ?_
        rotate_left 1
        · (intro W hW; (try dsimp only at hW); go_simp; try with_reducible rfl)
        try simp only [Act.put, List.setIfInBounds_toArray, List.set_cons_zero, List.set_cons_succ]
        refine d_take (i := 3) (v := ?_) [4, 14, 15, 16, 17] (some 84) rfl (by rfl) (by kernel_rfl) (by kernel_rfl) (by kernel_rfl) (by kernel_rfl) (by kernel_rfl) (by kernel_rfl) (fun _ _ _ h => h) (.inl ⟨by rfl, ?_⟩) HS ?_
        rotate_left 1
        · (intro W hW; (try dsimp only at hW); go_simp; try with_reducible rfl)
        try simp only [Act.put, List.setIfInBounds_toArray, List.set_cons_zero, List.set_cons_succ]
        refine d_take (i := 4) (v := ?_) [14, 15, 16, 17] (some 85) rfl (by rfl) (by kernel_rfl) (by kernel_rfl) (by kernel_rfl) (by kernel_rfl) (by kernel_rfl) (by kernel_rfl) (fun _ _ _ h => h) (.inl ⟨by rfl, ?_⟩) HS ?_
        rotate_left 1
        · (intro W hW; (try dsimp only at hW); go_simp; try with_reducible rfl)
        try simp only [Act.put, List.setIfInBounds_toArray, List.set_cons_zero, List.set_cons_succ]
        refine d_take (i := 5) (v := ?_) [12, 13, 14, 15, 16, 17] (some 86) rfl (by rfl) (by kernel_rfl) (by kernel_rfl) (by kernel_rfl) (by kernel_rfl) (by kernel_rfl) (by kernel_rfl) (fun _ _ _ h => h) (.inl ⟨by rfl, ?_⟩) HS ?_
        rotate_left 1
        · (intro W hW; (try dsimp only at hW); go_simp; try with_reducible rfl)
        try simp only [Act.put, List.setIfInBounds_toArray, List.set_cons_zero, List.set_cons_succ]
        refine d_take (i := 6) (v := ?_) [12, 13, 14, 15, 16, 17] (some 87) rfl (by rfl) (by kernel_rfl) (by kernel_rfl) (by kernel_rfl) (by kernel_rfl) (by kernel_rfl) (by kernel_rfl) (fun _ _ _ h => h) (.inl ⟨by rfl, ?_⟩) HS ?_
        rotate_left 1
        · (intro W hW; (try dsimp only at hW); go_simp; try with_reducible rfl)
        try simp only [Act.put, List.setIfInBounds_toArray, List.set_cons_zero, List.set_cons_succ]
        refine d_take (i := 7) (v := ?_) [10, 12, 13, 14, 15, 16, 17] (some 88) rfl (by rfl) (by kernel_rfl) (by kernel_rfl) (by kernel_rfl) (by kernel_rfl) (by kernel_rfl) (by kernel_rfl) (fun _ _ _ h => h) (.inl ⟨by rfl, ?_⟩) HS ?_
        rotate_left 1
        · (intro W hW; (try dsimp only at hW); go_simp; try with_reducible rfl)
        try simp only [Act.put, List.setIfInBounds_toArray, List.set_cons_zero, List.set_cons_succ]
        refine d_take (i := 8) (v := ?_) [9, 10, 12, 13, 14, 15, 16, 17] (some 89) rfl (by rfl) (by kernel_rfl) (by kernel_rfl) (by kernel_rfl) (by kernel_rfl) (by kernel_rfl) (by kernel_rfl) (fun _ _ _ h => h) (.inl ⟨by rfl, ?_⟩) HS ?_
        rotate_left 1
        · (intro W hW; (try dsimp only at hW); go_simp; try with_reducible rfl)
        try simp only [Act.put, List.setIfInBounds_toArray, List.set_cons_zero, List.set_cons_succ]
        refine d_take (i := 9) (v := ?_) [10, 12, 13, 14, 15, 16, 17] (some 90) rfl (by rfl) (by kernel_rfl) (by kernel_rfl) (by kernel_rfl) (by kernel_rfl) (by kernel_rfl) (by kernel_rfl) (fun _ _ _ h => h) (.inl ⟨by rfl, ?_⟩) HS ?_
        rotate_left 1
        · (intro W hW; (try dsimp only at hW); go_simp; try with_reducible rfl)
        try simp only [Act.put, List.setIfInBounds_toArray, List.set_cons_zero, List.set_cons_succ]
        refine d_take (i := 10) (v := ?_) [12, 13, 14, 15, 16, 17] (some 91) rfl (by rfl) (by kernel_rfl) (by kernel_rfl) (by kernel_rfl) (by kernel_rfl) (by kernel_rfl) (by kernel_rfl) (fun _ _ _ h => h) (.inl ⟨by rfl, ?_⟩) HS ?_
        rotate_left 1
        · (intro W hW; (try dsimp only at hW); go_simp; try with_reducible rfl)
        try simp only [Act.put, List.setIfInBounds_toArray, List.set_cons_zero, List.set_cons_succ]
        refine d_take (i := 11) (v := ?_) [12, 13, 14, 15, 16, 17] (some 92) rfl (by rfl) (by kernel_rfl) (by kernel_rfl) (by kernel_rfl) (by kernel_rfl) (by kernel_rfl) (by kernel_rfl) (fun _ _ _ h => h) (.inl ⟨by rfl, ?_⟩) HS ?_
        rotate_left 1
        · (intro W hW; (try dsimp only at hW); go_simp; try with_reducible rfl)
        try simp only [Act.put, List.setIfInBounds_toArray, List.set_cons_zero, List.set_cons_succ]
        refine d_take (i := 12) (v := ?_) [13, 14, 15, 16, 17] (some 93) rfl (by rfl) (by kernel_rfl) (by kernel_rfl) (by kernel_rfl) (by kernel_rfl) (by kernel_rfl) (by kernel_rfl) (fun _ _ _ h => h) (.inl ⟨by rfl, ?_⟩) HS ?_
        rotate_left 1
        · (intro W hW; (try dsimp only at hW); go_simp; try with_reducible rfl)
        try simp only [Act.put, List.setIfInBounds_toArray, List.set_cons_zero, List.set_cons_succ]
        refine d_one (i := 13) (by kernel_rfl) rfl rfl (fun K hK => ?_)
        simp only [List.getElem_toArray, List.getElem_cons_succ, List.getElem_cons_zero]
        go_simp
        refine hK.out _ _ (fun _ => HS2) ?_
        clear hK K
        try simp only [Act.put, List.setIfInBounds_toArray, List.set_cons_zero, List.set_cons_succ]
        refine d_one (i := 14) (by kernel_rfl) rfl rfl (fun K hK => ?_)
        simp only [List.getElem_toArray, List.getElem_cons_succ, List.getElem_cons_zero]
        refine oper_app (w := (U.alloc (.cells #[.int .i64 (k : Int), .int .i64 now, .int .i64 (now + xt.D), .int .i64 1, .int .i64 0] 46)).drew) (m := 1) (d := 1) (news := (JobV.mk k now (now + xt.D) 1 0).cells) eltJob OX.out RN hnz U1.out.1 (U1.out.2 _) hzq (.tmp 85) (.tmp 94) rfl rfl rfl ?_
        intro A3 c3' w3 o3 g3 hA3 _
        have bg3 := (g3.block g (Nat.lt_of_lt_of_le hgU XD.size) (fun e => by
          obtain ⟨a, ha, hab⟩ := Option.map_eq_some_iff.1 e.symm
          exact HBU.out.2.1 a ha hab)).trans ((XD.block g hgU).trans HBU.out.1)
        have bm3 := (g3.block mb (Nat.lt_of_lt_of_le hmU XD.size) (fun e => by
          obtain ⟨a, ha, hab⟩ := Option.map_eq_some_iff.1 e.symm
          exact HBU.out.2.2 a ha hab)).trans ((XD.block mb hmU).trans H1.out.2.2)
        have s1 : w3.cell? ⟨g, 3, none⟩ = some (.slice JA jn jc) := block_cell bg3 3
        have s2 := block_fz bg3 3
        have s3 : w3.cell? ⟨mb, 2, none⟩ = some (.int .i64 xt.D) := block_cell bm3 2
        refine hK.out _ _ (fun _ => ⟨s1, s3⟩) ?_
        clear hK K
        try simp only [Act.put, List.setIfInBounds_toArray, List.set_cons_zero, List.set_cons_succ]
        refine d_pure (i := 15) (v := ?_) (some 96) rfl (by rfl) (by kernel_rfl) (by kernel_rfl) (by kernel_rfl) (by kernel_rfl) (fun _ _ _ h => h) (.inl ⟨by rfl, ?_⟩) ?_
        rotate_left 1
        · (intro W hW; go_simp; try with_reducible rfl)
        try simp only [Act.put, List.setIfInBounds_toArray, List.set_cons_zero, List.set_cons_succ]
        refine d_pure (i := 16) (v := ?_) (some 97) rfl (by rfl) (by kernel_rfl) (by kernel_rfl) (by kernel_rfl) (by kernel_rfl) (fun _ _ _ h => h) (.inl ⟨by rfl, ?_⟩) ?_
        rotate_left 1
        · (intro W hW; go_simp; try with_reducible rfl)
        try simp only [Act.put, List.setIfInBounds_toArray, List.set_cons_zero, List.set_cons_succ]
        refine d_one (i := 17) (by kernel_rfl) rfl rfl (fun K hK => ?_)
        simp only [List.getElem_toArray, List.getElem_cons_succ, List.getElem_cons_zero]
        go_simp
        refine hK.out _ _ (fun h => absurd h (by decide)) ?_
        clear hK K
        try simp only [Act.put, List.setIfInBounds_toArray, List.set_cons_zero, List.set_cons_succ]
        refine d_done (by kernel_rfl) ?_ _
        have P := Lib.hid (H1.out.1.push (ks := ks.set k ⟨xt, now, true⟩) gip.out HJ.out XD o3 g3 hA3)
        have FP := Lib.hid ((Fr.of_ext HC.out.2.1 _).trans ((H1.out.2.1.mono (fun i _ e => (show _ from .inr (.inl (by rw [e]; rfl)) : i = g ∨ (some (⟨SL, 0, none⟩ : Addr)).map (·.block) = some i ∨ JA.map (·.block) = some i))).trans P.out.2.1 (fun i _ e => e.imp id .inr)) (fun i _ e => e))
        clear o3 g3 hA3 bg3 bm3 s1 s2 s3 HS HS2 c3 d2 q2 q3 wr1
        go_wp2_with fail
        refine hPost.out _ ⟨⟨_, _, P.out.1, fun a ha => ?_⟩, FP.out⟩
        have hz3 := H1.out.2.1.size
        have hzw := HC.out.2.1.size
        rcases P.out.2.2 a ha with e | e
        · exact .inl e
        · exact .inr (by omega)
    ·
        go_upto_region 8 with (fail)
        clear c3
        go_upto_region 12 with (fail)
        clear d0
        have c2 := HC.out.1.c2
        have l0 : V2.cell? ⟨SL, k, none⟩ = some (.int .i64 (TkV.mk xt xl xw).note) := HC.out.1.low.cellAt htk HN.out
        have f0 : V2.frozen? ⟨SL, k, none⟩ = false := HC.out.1.low.frozenAt k
        have wr0 : IntKind.i64.wrap (now + 1) = now + 1 := by rw [IntKind.wrap_i64]; omega
        go_upto_region 13 with (fail)
        clear c2 l0 f0 wr0
        have M1 := HC.out.1.noted rfl HX.out.1 h0 h1
        have F1 : Fr V2 (V2.setCell ⟨SL, k, none⟩ (.int .i64 (now + 1))) (· = SL) := Fr.store V2 ⟨SL, k, none⟩ _
        have b1 := (F1.block mb (block_lt HC.out.2.2.1) (by have := HC.out.2.2.2; show ¬ mb = SL; omega)).trans HC.out.2.2.1
        have H1 := Lib.hid (And.intro M1 (And.intro F1 b1))
        clear M1 F1 b1
        generalize V2.setCell ⟨SL, k, none⟩ (.int .i64 (now + 1)) = U at *
        have c3 := H1.out.1.c3
        have d2 : U.cell? ⟨mb, 2, none⟩ = some (.int .i64 xt.D) := block_cell H1.out.2.2 2
        have hgU := H1.out.1.lt
        have hmU := block_lt H1.out.2.2
        have XA : Ext U (U.alloc (.cells #[.int .i64 (k : Int), .int .i64 now, .int .i64 (now + xt.D), .int .i64 L, .int .i64 0] 46)) := (Ext.refl U).alloc _
        have RN : Rd (U.alloc (.cells #[.int .i64 (k : Int), .int .i64 now, .int .i64 (now + xt.D), .int .i64 L, .int .i64 0] 46)) 5 (some ⟨U.heap.size, 0, none⟩) 1 (JobV.mk k now (now + xt.D) L 0).cells :=
          ⟨rfl, fun _ => ⟨_, rfl, by rw [World.size_alloc]; exact Nat.lt_succ_self _, World.news_of_block (heap_alloc_new U _)⟩⟩
        have hnz : ∀ u ∈ (JobV.mk k now (now + xt.D) L 0).cells, u.oneCell' = true := fun u hu => by
          simp only [JobV.cells, List.mem_cons, List.not_mem_nil, or_false] at hu
          rcases hu with rfl | rfl | rfl | rfl | rfl <;> rfl
        have q3 := (XA.cell (p := ⟨g, 3, none⟩) hgU).trans c3
        have q2 := (XA.cell (p := ⟨mb, 2, none⟩) hmU).trans d2
        have OX := Lib.hid (H1.out.1.jow.ext XA)
        have XD := XA.drew
        have hBg : B ≤ g := H1.out.1.bg
        have hzq : B ≤ (U.alloc (.cells #[.int .i64 (k : Int), .int .i64 now, .int .i64 (now + xt.D), .int .i64 L, .int .i64 0] 46)).drew.heap.size := by simp; omega
        have HBU := Lib.hid (And.intro H1.out.1.blk (And.intro H1.out.1.jg (fun (a : Addr) (ha : JA = some a) => (show a.block ≠ mb from by
          have h3 := HX.out.2.jow.lt_at ha
          have h4 := HC.out.2.2.2
          omega))))
        have U1 := Lib.hid (show jn + 1 ≤ 9223372036854775807 ∧ ∀ c, (jn + 1 ≤ c ∨ (jn + 1) * 40 ≤ 225000000000000 ∧ 40 ≤ 100000) from ⟨by omega, fun _ => .inr ⟨by omega, by omega⟩⟩)
        have wr1 : IntKind.i64.wrap (now + xt.D) = now + xt.D := by rw [IntKind.wrap_i64]; omega
        have HS : U.drew.cell? ⟨g, 3, none⟩ = some (.slice JA jn jc) ∧ U.drew.cell? ⟨mb, 2, none⟩ = some (.int .i64 xt.D) := ⟨c3, d2⟩
        have HS2 : (U.alloc (.cells #[.int .i64 (k : Int), .int .i64 now, .int .i64 (now + xt.D), .int .i64 L, .int .i64 0] 46)).drew.cell? ⟨g, 3, none⟩ = some (.slice JA jn jc) ∧ (U.alloc (.cells #[.int .i64 (k : Int), .int .i64 now, .int .i64 (now + xt.D), .int .i64 L, .int .i64 0] 46)).drew.cell? ⟨mb, 2, none⟩ = some (.int .i64 xt.D) := ⟨q3, q2⟩
        refine d_region (fun w' : World => w'.cell? ⟨g, 3, none⟩ = some (.slice JA jn jc) ∧ w'.cell? ⟨mb, 2, none⟩ = some (.int .i64 xt.D)) [15, 16, 17] (by kernel_rfl) ?_
        refine d_take (i := 0) (v := ?_) [15, 16, 17] (some 81) rfl (by rfl) (by kernel_rfl) (by kernel_rfl) (by kernel_rfl) (by kernel_rfl) (by kernel_rfl) (by kernel_rfl) (fun _ _ _ h => h) (.inl ⟨by rfl, ?_⟩) HS ?_
        rotate_left 1
        · (intro W hW; (try dsimp only at hW); go_simp; try with_reducible rfl)
        try simp only [Act.put, List.setIfInBounds_toArray, List.set_cons_zero, List.set_cons_succ]
        refine d_take (i := 1) (v := ?_) [2, 3, 4, 14, 15, 16, 17] (some 82) rfl (by rfl) (by kernel_rfl) (by kernel_rfl) (by kernel_rfl) (by kernel_rfl) (by kernel_rfl) (by kernel_rfl) (fun _ _ _ h => h) (.inl ⟨by rfl, ?_⟩) HS ?_
        rotate_left 1
        · (intro W hW; (try dsimp only at hW); go_simp; try with_reducible rfl)
        try simp only [Act.put, List.setIfInBounds_toArray, List.set_cons_zero, List.set_cons_succ]
        refine d_take (i := 2) (v := ?_) [3, 4, 14, 15, 16, 17] (some 83) rfl (by rfl) (by kernel_rfl) (by kernel_rfl) (by kernel_rfl) (by kernel_rfl) (by kernel_rfl) (by kernel_rfl) (fun _ _ _ h => h) (.inl ⟨by rfl, ?_⟩) HS ?_
        rotate_left 1
        · (intro W hW; (try dsimp only at hW); go_simp; try with_reducible rfl)
        try simp only [Act.put, List.setIfInBounds_toArray, List.set_cons_zero, List.set_cons_succ]
        refine d_take (i := 3) (v := ?_) [4, 14, 15, 16, 17] (some 84) rfl (by rfl) (by kernel_rfl) (by kernel_rfl) (by kernel_rfl) (by kernel_rfl) (by kernel_rfl) (by kernel_rfl) (fun _ _ _ h => h) (.inl ⟨by rfl, ?_⟩) HS ?_
        rotate_left 1
        · (intro W hW; (try dsimp only at hW); go_simp; try with_reducible rfl)
        try simp only [Act.put, List.setIfInBounds_toArray, List.set_cons_zero, List.set_cons_succ]
        refine d_take (i := 4) (v := ?_) [14, 15, 16, 17] (some 85) rfl (by rfl) (by kernel_rfl) (by kernel_rfl) (by kernel_rfl) (by kernel_rfl) (by kernel_rfl) (by kernel_rfl) (fun _ _ _ h => h) (.inl ⟨by rfl, ?_⟩) HS ?_
        rotate_left 1
        · (intro W hW; (try dsimp only at hW); go_simp; try with_reducible rfl)
        try simp only [Act.put, List.setIfInBounds_toArray, List.set_cons_zero, List.set_cons_succ]
        refine d_take (i := 5) (v := ?_) [12, 13, 14, 15, 16, 17] (some 86) rfl (by rfl) (by kernel_rfl) (by kernel_rfl) (by kernel_rfl) (by kernel_rfl) (by kernel_rfl) (by kernel_rfl) (fun _ _ _ h => h) (.inl ⟨by rfl, ?_⟩) HS ?_
        rotate_left 1
        · (intro W hW; (try dsimp only at hW); go_simp; try with_reducible rfl)
        try simp only [Act.put, List.setIfInBounds_toArray, List.set_cons_zero, List.set_cons_succ]
        refine d_take (i := 6) (v := ?_) [12, 13, 14, 15, 16, 17] (some 87) rfl (by rfl) (by kernel_rfl) (by kernel_rfl) (by kernel_rfl) (by kernel_rfl) (by kernel_rfl) (by kernel_rfl) (fun _ _ _ h => h) (.inl ⟨by rfl, ?_⟩) HS ?_
        rotate_left 1
        · (intro W hW; (try dsimp only at hW); go_simp; try with_reducible rfl)
        try simp only [Act.put, List.setIfInBounds_toArray, List.set_cons_zero, List.set_cons_succ]
        refine d_take (i := 7) (v := ?_) [10, 12, 13, 14, 15, 16, 17] (some 88) rfl (by rfl) (by kernel_rfl) (by kernel_rfl) (by kernel_rfl) (by kernel_rfl) (by kernel_rfl) (by kernel_rfl) (fun _ _ _ h => h) (.inl ⟨by rfl, ?_⟩) HS ?_
        rotate_left 1
        · (intro W hW; (try dsimp only at hW); go_simp; try with_reducible rfl)
        try simp only [Act.put, List.setIfInBounds_toArray, List.set_cons_zero, List.set_cons_succ]
        refine d_take (i := 8) (v := ?_) [9, 10, 12, 13, 14, 15, 16, 17] (some 89) rfl (by rfl) (by kernel_rfl) (by kernel_rfl) (by kernel_rfl) (by kernel_rfl) (by kernel_rfl) (by kernel_rfl) (fun _ _ _ h => h) (.inl ⟨by rfl, ?_⟩) HS ?_
        rotate_left 1
        · (intro W hW; (try dsimp only at hW); go_simp; try with_reducible rfl)
        try simp only [Act.put, List.setIfInBounds_toArray, List.set_cons_zero, List.set_cons_succ]
        refine d_take (i := 9) (v := ?_) [10, 12, 13, 14, 15, 16, 17] (some 90) rfl (by rfl) (by kernel_rfl) (by kernel_rfl) (by kernel_rfl) (by kernel_rfl) (by kernel_rfl) (by kernel_rfl) (fun _ _ _ h => h) (.inl ⟨by rfl, ?_⟩) HS ?_
        rotate_left 1
        · (intro W hW; (try dsimp only at hW); go_simp; try with_reducible rfl)
        try simp only [Act.put, List.setIfInBounds_toArray, List.set_cons_zero, List.set_cons_succ]
        refine d_take (i := 10) (v := ?_) [12, 13, 14, 15, 16, 17] (some 91) rfl (by rfl) (by kernel_rfl) (by kernel_rfl) (by kernel_rfl) (by kernel_rfl) (by kernel_rfl) (by kernel_rfl) (fun _ _ _ h => h) (.inl ⟨by rfl, ?_⟩) HS ?_
        rotate_left 1
        · (intro W hW; (try dsimp only at hW); go_simp; try with_reducible rfl)
        try simp only [Act.put, List.setIfInBounds_toArray, List.set_cons_zero, List.set_cons_succ]
        refine d_take (i := 11) (v := ?_) [12, 13, 14, 15, 16, 17] (some 92) rfl (by rfl) (by kernel_rfl) (by kernel_rfl) (by kernel_rfl) (by kernel_rfl) (by kernel_rfl) (by kernel_rfl) (fun _ _ _ h => h) (.inl ⟨by rfl, ?_⟩) HS ?_
        rotate_left 1
        · (intro W hW; (try dsimp only at hW); go_simp; try with_reducible rfl)
        try simp only [Act.put, List.setIfInBounds_toArray, List.set_cons_zero, List.set_cons_succ]
        refine d_take (i := 12) (v := ?_) [13, 14, 15, 16, 17] (some 93) rfl (by rfl) (by kernel_rfl) (by kernel_rfl) (by kernel_rfl) (by kernel_rfl) (by kernel_rfl) (by kernel_rfl) (fun _ _ _ h => h) (.inl ⟨by rfl, ?_⟩) HS ?_
        rotate_left 1
        · (intro W hW; (try dsimp only at hW); go_simp; try with_reducible rfl)
        try simp only [Act.put, List.setIfInBounds_toArray, List.set_cons_zero, List.set_cons_succ]
        refine d_one (i := 13) (by kernel_rfl) rfl rfl (fun K hK => ?_)
        simp only [List.getElem_toArray, List.getElem_cons_succ, List.getElem_cons_zero]
        go_simp
        refine hK.out _ _ (fun _ => HS2) ?_
        clear hK K
        try simp only [Act.put, List.setIfInBounds_toArray, List.set_cons_zero, List.set_cons_succ]
        refine d_one (i := 14) (by kernel_rfl) rfl rfl (fun K hK => ?_)
        simp only [List.getElem_toArray, List.getElem_cons_succ, List.getElem_cons_zero]
        refine oper_app (w := (U.alloc (.cells #[.int .i64 (k : Int), .int .i64 now, .int .i64 (now + xt.D), .int .i64 L, .int .i64 0] 46)).drew) (m := 1) (d := 1) (news := (JobV.mk k now (now + xt.D) L 0).cells) eltJob OX.out RN hnz U1.out.1 (U1.out.2 _) hzq (.tmp 85) (.tmp 94) rfl rfl rfl ?_
        intro A3 c3' w3 o3 g3 hA3 _
        have bg3 := (g3.block g (Nat.lt_of_lt_of_le hgU XD.size) (fun e => by
          obtain ⟨a, ha, hab⟩ := Option.map_eq_some_iff.1 e.symm
          exact HBU.out.2.1 a ha hab)).trans ((XD.block g hgU).trans HBU.out.1)
        have bm3 := (g3.block mb (Nat.lt_of_lt_of_le hmU XD.size) (fun e => by
          obtain ⟨a, ha, hab⟩ := Option.map_eq_some_iff.1 e.symm
          exact HBU.out.2.2 a ha hab)).trans ((XD.block mb hmU).trans H1.out.2.2)
        have s1 : w3.cell? ⟨g, 3, none⟩ = some (.slice JA jn jc) := block_cell bg3 3
        have s2 := block_fz bg3 3
        have s3 : w3.cell? ⟨mb, 2, none⟩ = some (.int .i64 xt.D) := block_cell bm3 2
        refine hK.out _ _ (fun _ => ⟨s1, s3⟩) ?_
        clear hK K
        try simp only [Act.put, List.setIfInBounds_toArray, List.set_cons_zero, List.set_cons_succ]
        refine d_pure (i := 15) (v := ?_) (some 96) rfl (by rfl) (by kernel_rfl) (by kernel_rfl) (by kernel_rfl) (by kernel_rfl) (fun _ _ _ h => h) (.inl ⟨by rfl, ?_⟩) ?_
        rotate_left 1
        · (intro W hW; go_simp; try with_reducible rfl)
        try simp only [Act.put, List.setIfInBounds_toArray, List.set_cons_zero, List.set_cons_succ]
        refine d_pure (i := 16) (v := ?_) (some 97) rfl (by rfl) (by kernel_rfl) (by kernel_rfl) (by kernel_rfl) (by kernel_rfl) (fun _ _ _ h => h) (.inl ⟨by rfl, ?_⟩) ?_
        rotate_left 1
        · (intro W hW; go_simp; try with_reducible rfl)
        try simp only [Act.put, List.setIfInBounds_toArray, List.set_cons_zero, List.set_cons_succ]
        refine d_one (i := 17) (by kernel_rfl) rfl rfl (fun K hK => ?_)
        simp only [List.getElem_toArray, List.getElem_cons_succ, List.getElem_cons_zero]
        go_simp
        refine hK.out _ _ (fun h => absurd h (by decide)) ?_
        clear hK K
        try simp only [Act.put, List.setIfInBounds_toArray, List.set_cons_zero, List.set_cons_succ]
        refine d_done (by kernel_rfl) ?_ _
        have P := Lib.hid (H1.out.1.push (ks := ks.set k ⟨xt, now, true⟩) gip.out HJ.out XD o3 g3 hA3)
        have FP := Lib.hid ((Fr.of_ext HC.out.2.1 _).trans ((H1.out.2.1.mono (fun i _ e => (show _ from .inr (.inl (by rw [e]; rfl)) : i = g ∨ (some (⟨SL, 0, none⟩ : Addr)).map (·.block) = some i ∨ JA.map (·.block) = some i))).trans P.out.2.1 (fun i _ e => e.imp id .inr)) (fun i _ e => e))
        clear o3 g3 hA3 bg3 bm3 s1 s2 s3 HS HS2 c3 d2 q2 q3 wr1
        go_wp2_with fail
        refine hPost.out _ ⟨⟨_, _, P.out.1, fun a ha => ?_⟩, FP.out⟩
        have hz3 := H1.out.2.1.size
        have hzw := HC.out.2.1.size
        rcases P.out.2.2 a ha with e | e
        · exact .inl e
        · exact .inr (by omega)
theorem rrel_ok (h : MS w B g TA tn tc LA lc JA jn jc p ks js) {k : Nat} {now : Int} (ticks : Int) {x : TkV} (hx : ks[k]? = some x) (h0 : 0 ≤ now) (h1 : now ≤ 1099511627776) (hf : x.free now) (hj : jn < 64) :
    Calls Tryd.prog 17 #[.pointer (some ⟨g, 0, none⟩), .int .i64 (k : Int), .int .i64 now, .int .i64 ticks] w fun e w' => e = .returned (.int .i64 0) ∧ MRel w w' B g TA tn tc LA lc JA jn p (ks.set k ⟨x.t, now, true⟩) (js ++ [newJ k now ticks x.t]) :=
  rrel_ok_ h ticks hx h0 h1 hf hj (Lib.hid fun w' hr => ⟨rfl, hr⟩)
end
end Go.Proofs.YtbpbmelfhgbogaaDoor
