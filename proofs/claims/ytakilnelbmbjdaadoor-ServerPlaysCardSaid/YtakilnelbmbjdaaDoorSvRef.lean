/-
  The document's server: its block; New, Ready, Begin, walked.
-/
import Derived.Test.YtakilnelbmbjdaaDoorSvRow
namespace Go.Proofs.YtakilnelbmbjdaaDoor
open Go.RowKit
set_option linter.unusedVariables false
/-- The document's server at block g. -/
def Rv (w : World) (g : Nat) (x : Kd) (c : Ck) (wk : Bool) : Prop :=
  w.heap[g]? = some (.cells #[.int .i64 x.k, .int .i64 x.q, .int .i64 x.t, .int .i64 x.s, .int .i64 c.b, .int .i64 c.d, .bool c.on, .bool wk] 47 (0, 0))
section
variable {w w' : World} {g : Nat} {x : Kd} {c : Ck} {wk : Bool}
theorem Rv.lt (h : Rv w g x c wk) : g < w.heap.size := (Array.getElem?_eq_some_iff.1 h).1
theorem Rv.cells (h : Rv w g x c wk) : w.cell? ⟨g, 0, none⟩ = some (.int .i64 x.k) ∧ w.cell? ⟨g, 1, none⟩ = some (.int .i64 x.q) ∧ w.cell? ⟨g, 2, none⟩ = some (.int .i64 x.t) ∧ w.cell? ⟨g, 3, none⟩ = some (.int .i64 x.s) ∧ w.cell? ⟨g, 4, none⟩ = some (.int .i64 c.b) ∧ w.cell? ⟨g, 5, none⟩ = some (.int .i64 c.d) ∧ w.cell? ⟨g, 6, none⟩ = some (.bool c.on) ∧ w.cell? ⟨g, 7, none⟩ = some (.bool wk) := by
  refine ⟨?_, ?_, ?_, ?_, ?_, ?_, ?_, ?_⟩ <;> (rw [cell_of_row w g _ _ _ _ h]; rfl)
theorem Rv.free (h : Rv w g x c wk) (k : Nat) : w.frozen? ⟨g, k, none⟩ = false := by
  have h' := h
  unfold Rv at h'
  simp only [World.frozen?, h']
  simp
theorem Rv.ext (h : Rv w g x c wk) (hx : Ext w w') : Rv w' g x c wk := (hx.block g h.lt).trans h
theorem Rv.keep (h : Rv w g x c wk) {P : Nat → Prop} (hf : Fr w w' P) (hp : ¬ P g) : Rv w' g x c wk := (hf.block g h.lt hp).trans h
end
set_option maxHeartbeats 1600000 in
theorem rready_any (w : World) {g : Nat} {x : Kd} {c : Ck} {wk : Bool} (h : Rv w g x c wk) :
    Calls Tryd.prog 24 #[.pointer (some ⟨g, 0, none⟩)] w fun e w' => e = .returned (.bool (wk && decide (0 < c.b))) ∧ w = w' := by
  obtain ⟨c0, c1, c2, c3, c4, c5, c6, c7⟩ := h.cells
  clear h
  cases wk
  · go_enter Tryd.func24, Tryd.ntmps24
    go_wp2_with fail
    go_returns
    exact ⟨rfl, rfl⟩
  · go_enter Tryd.func24, Tryd.ntmps24
    go_wp2_with fail
    go_returns
    exact ⟨rfl, rfl⟩
set_option maxHeartbeats 800000 in
theorem rnew_any (K Q T now : Int) (w : World) :
    Calls Tryd.prog 22 #[srv K Q T, .int .i64 now] w fun e w' => ∃ g, e = .returned (.pointer (some ⟨g, 0, none⟩)) ∧ Rv w' g ⟨K, Q, T, now⟩ ⟨0, now, false⟩ false ∧ Ext w w' ∧ w.heap.size ≤ g := by
  unfold srv
  go_enter Tryd.func22, Tryd.ntmps22
  go_wp2_with fail
  go_returns
  refine ⟨_, rfl, ?_, ((Ext.refl w).alloc _).alloc _, by omega⟩
  have hb := heap_alloc_new (w.alloc (.cells #[.int .i64 K, .int .i64 Q, .int .i64 T] 23)) (.cells #[.int .i64 K, .int .i64 Q, .int .i64 T, .int .i64 now, .int .i64 0, .int .i64 now, .bool false, .bool false] 47)
  rw [show (w.alloc (.cells #[.int .i64 K, .int .i64 Q, .int .i64 T] 23)).heap.size = w.heap.size + 1 by simp] at hb
  exact hb
/-- What a call on the document's server leaves. -/
def RvOut (w : World) (g : Nat) (x : Kd) (c : Ck) (wk : Bool) (w' : World) : Prop := Rv w' g x c wk ∧ Fr w w' (· = g)
/-- GEN -/
theorem genMark : True := trivial
theorem rv7 {w : World} {g : Nat} {x : Kd} {c : Ck} {wk : Bool} (wk' : Bool) (h : Rv w g x c wk) : Rv (w.setCell ⟨g, 7, none⟩ (.bool wk')) g x c wk' := heap_setCell_same w g 7 _ _ _ h
theorem rv_off {w : World} {g : Nat} {x : Kd} {c : Ck} {wk : Bool} (h : Rv w g x c wk) : Rv ((w.setCell ⟨g, 6, none⟩ (.bool false)).setCell ⟨g, 4, none⟩ (.int .i64 0)) g x ⟨0, c.d, false⟩ wk :=
  heap_setCell_same _ g 4 _ _ _ (heap_setCell_same w g 6 _ _ _ h)
theorem Rv.drew {w : World} {g : Nat} {x : Kd} {c : Ck} {wk : Bool} (h : Rv w g x c wk) : Rv w.drew g x c wk := h
theorem Rv.put4 {w : World} {g : Nat} {x : Kd} {b b' d : Int} {on wk : Bool} (h : Rv w g x ⟨b, d, on⟩ wk) : Rv (w.setCell ⟨g, 4, none⟩ (.int .i64 b')) g x ⟨b', d, on⟩ wk := heap_setCell_same w g 4 _ _ _ h
theorem Rv.put5 {w : World} {g : Nat} {x : Kd} {b d d' : Int} {on wk : Bool} (h : Rv w g x ⟨b, d, on⟩ wk) : Rv (w.setCell ⟨g, 5, none⟩ (.int .i64 d')) g x ⟨b, d', on⟩ wk := heap_setCell_same w g 5 _ _ _ h
theorem Rv.put6 {w : World} {g : Nat} {x : Kd} {b d : Int} {on on' wk : Bool} (h : Rv w g x ⟨b, d, on⟩ wk) : Rv (w.setCell ⟨g, 6, none⟩ (.bool on')) g x ⟨b, d, on'⟩ wk := heap_setCell_same w g 6 _ _ _ h
theorem Fr.put {a w : World} {g k : Nat} {v : Value} (h : Fr a w (· = g)) : Fr a (w.setCell ⟨g, k, none⟩ v) (· = g) := h.trans (Fr.store w ⟨g, k, none⟩ v) (fun _ _ h => h)
set_option maxHeartbeats 3200000 in
theorem rb1 (w : World) {g : Nat} {x : Kd} {c : Ck} {wk0 : Bool} (now : Int) (h : Rv w g x c wk0) (hn : x.s ≤ now ∧ now ≤ 2199023255552) (hs : 0 ≤ x.s) (ht : 1 ≤ x.t ∧ x.t ≤ 256) (hk : x.k = 1) (hb : ((now - x.s) % x.t == 0) = true) :
    Calls Tryd.prog 23 #[.pointer (some ⟨g, 0, none⟩), .int .i64 now, .bool true] w fun e w' => e = .returned (.bool (true && decide (0 < ((⟨x.q, now + x.t, true⟩ : Ck)).b))) ∧ RvOut w g x ((⟨x.q, now + x.t, true⟩ : Ck)) true w' := by
  obtain ⟨c0, c1, c2, c3, c4, c5, c6, c7⟩ := h.cells
  have f7 := h.free 7
  have h7 := rv7 true h
  have r7 : Fr w (w.setCell ⟨g, 7, none⟩ (.bool true)) (· = g) := Fr.store w ⟨g, 7, none⟩ _
  have hl := h.lt
  have e1 : IntKind.i64.wrap (now - x.s) = now - x.s := by rw [IntKind.wrap_i64]; omega
  have e2 : (now - x.s).tmod x.t = (now - x.s) % x.t := Int.tmod_eq_emod_of_nonneg (by omega)
  have e5 : x.t ≠ 0 := by omega
  have e6 : IntKind.i64.wrap (now + x.t) = now + x.t := by rw [IntKind.wrap_i64]; omega
  clear h
  go_enter Tryd.func23, Tryd.ntmps23
  go_wp2_with fail
  generalize w.setCell ⟨g, 7, none⟩ (.bool true) = W at *
  clear c0 c1 c2 c3 c4 c5 c6 c7 f7
  obtain ⟨c0, c1, c2, c3, c4, c5, c6, c7⟩ := h7.cells
  have f4 := h7.free 4
  have f5 := h7.free 5
  have f6 := h7.free 6
  go_quiet (fail)
  go_wp2_with fail
  have H8 := Lib.hid (fun n => h7.ext ((Ext.refl W).drewN n))
  have R8 := Lib.hid (fun n => r7.trans (Fr.of_ext ((Ext.refl W).drewN n) (· = g)) (fun _ _ h => h))
  clear h7 r7
  go_region_held3 (fun w' => w'.cell? ⟨g, 1, none⟩ = some (.int .i64 x.q) ∧ w'.cell? ⟨g, 2, none⟩ = some (.int .i64 x.t))
    (first | assumption | (refine ⟨?_, ?_⟩ <;> first | assumption | (show World.cell? (World.setCell _ _ _) _ = _; exact othr (by go_split_ands; assumption) (by simp)))) (fail)
  all_goals
    go_wp2_with fail
    refine (rready_any (c := ⟨x.q, now + x.t, true⟩) (x := x) (wk := true) _ ?hz).mono ?_
    case hz => repeat (first | with_reducible exact H8.out _ | with_reducible refine Rv.drew ?_ | with_reducible refine Rv.put4 (b := c.b) ?_ | with_reducible refine Rv.put5 (d := c.d) ?_ | with_reducible refine Rv.put6 (on := c.on) ?_)
    rintro e w2 ⟨rfl, rfl⟩
    go_wp2_with fail
    go_returns
    refine ⟨rfl, ?_, ?_⟩
    · repeat (first | with_reducible exact H8.out _ | with_reducible refine Rv.drew ?_ | with_reducible refine Rv.put4 (b := c.b) ?_ | with_reducible refine Rv.put5 (d := c.d) ?_ | with_reducible refine Rv.put6 (on := c.on) ?_)
    · repeat (first | with_reducible exact R8.out _ | with_reducible refine Fr.drew ?_ | with_reducible refine Fr.put ?_ | with_reducible refine Fr.put' ?_)
set_option maxHeartbeats 3200000 in
theorem rb2 (w : World) {g : Nat} {x : Kd} {c : Ck} {wk0 : Bool} (now : Int) (h : Rv w g x c wk0) (hn : x.s ≤ now ∧ now ≤ 2199023255552) (hs : 0 ≤ x.s) (ht : 1 ≤ x.t ∧ x.t ≤ 256) (hk : x.k = 1) (hb : ((now - x.s) % x.t == 0) = true) :
    Calls Tryd.prog 23 #[.pointer (some ⟨g, 0, none⟩), .int .i64 now, .bool false] w fun e w' => e = .returned (.bool (false && decide (0 < ((⟨0, c.d, false⟩ : Ck)).b))) ∧ RvOut w g x ((⟨0, c.d, false⟩ : Ck)) false w' := by
  obtain ⟨c0, c1, c2, c3, c4, c5, c6, c7⟩ := h.cells
  have f7 := h.free 7
  have h7 := rv7 false h
  have r7 : Fr w (w.setCell ⟨g, 7, none⟩ (.bool false)) (· = g) := Fr.store w ⟨g, 7, none⟩ _
  have hl := h.lt
  have e1 : IntKind.i64.wrap (now - x.s) = now - x.s := by rw [IntKind.wrap_i64]; omega
  have e2 : (now - x.s).tmod x.t = (now - x.s) % x.t := Int.tmod_eq_emod_of_nonneg (by omega)
  have e5 : x.t ≠ 0 := by omega
  have e6 : IntKind.i64.wrap (now + x.t) = now + x.t := by rw [IntKind.wrap_i64]; omega
  clear h
  go_enter Tryd.func23, Tryd.ntmps23
  go_wp2_with fail
  generalize w.setCell ⟨g, 7, none⟩ (.bool false) = W at *
  clear c0 c1 c2 c3 c4 c5 c6 c7 f7
  obtain ⟨c0, c1, c2, c3, c4, c5, c6, c7⟩ := h7.cells
  have f4 := h7.free 4
  have f5 := h7.free 5
  have f6 := h7.free 6
  go_quiet (fail)
  go_wp2_with fail
  have h8 := rv_off (h7.ext ((Ext.refl W).drewN nq))
  have r8 : Fr w (((W.drewN nq).setCell ⟨g, 6, none⟩ (.bool false)).setCell ⟨g, 4, none⟩ (.int .i64 0)) (· = g) := ((r7.trans (Fr.of_ext ((Ext.refl W).drewN nq) (· = g)) (fun _ _ h => h)).trans (Fr.store _ ⟨g, 6, none⟩ _) (fun _ _ h => h)).trans (Fr.store _ ⟨g, 4, none⟩ _) (fun _ _ h => h)
  refine (rready_any _ h8).mono ?_
  rintro e w2 ⟨rfl, rfl⟩
  go_wp2_with fail
  go_returns
  exact ⟨rfl, h8, r8⟩
set_option maxHeartbeats 3200000 in
theorem rb3 (w : World) {g : Nat} {x : Kd} {c : Ck} {wk0 : Bool} (now : Int) (h : Rv w g x c wk0) (hn : x.s ≤ now ∧ now ≤ 2199023255552) (hs : 0 ≤ x.s) (ht : 1 ≤ x.t ∧ x.t ≤ 256) (hk : x.k = 1) (hb : ((now - x.s) % x.t == 0) = false) (ho : c.on = true) :
    Calls Tryd.prog 23 #[.pointer (some ⟨g, 0, none⟩), .int .i64 now, .bool false] w fun e w' => e = .returned (.bool (false && decide (0 < ((⟨0, c.d, false⟩ : Ck)).b))) ∧ RvOut w g x ((⟨0, c.d, false⟩ : Ck)) false w' := by
  obtain ⟨c0, c1, c2, c3, c4, c5, c6, c7⟩ := h.cells
  have f7 := h.free 7
  have h7 := rv7 false h
  have r7 : Fr w (w.setCell ⟨g, 7, none⟩ (.bool false)) (· = g) := Fr.store w ⟨g, 7, none⟩ _
  have hl := h.lt
  have e1 : IntKind.i64.wrap (now - x.s) = now - x.s := by rw [IntKind.wrap_i64]; omega
  have e2 : (now - x.s).tmod x.t = (now - x.s) % x.t := Int.tmod_eq_emod_of_nonneg (by omega)
  have e5 : x.t ≠ 0 := by omega
  have e6 : IntKind.i64.wrap (now + x.t) = now + x.t := by rw [IntKind.wrap_i64]; omega
  clear h
  go_enter Tryd.func23, Tryd.ntmps23
  go_wp2_with fail
  generalize w.setCell ⟨g, 7, none⟩ (.bool false) = W at *
  clear c0 c1 c2 c3 c4 c5 c6 c7 f7
  obtain ⟨c0, c1, c2, c3, c4, c5, c6, c7⟩ := h7.cells
  have f4 := h7.free 4
  have f5 := h7.free 5
  have f6 := h7.free 6
  go_quiet (fail)
  go_wp2_with fail
  have h8 := rv_off (h7.ext ((Ext.refl W).drewN nq))
  have r8 : Fr w (((W.drewN nq).setCell ⟨g, 6, none⟩ (.bool false)).setCell ⟨g, 4, none⟩ (.int .i64 0)) (· = g) := ((r7.trans (Fr.of_ext ((Ext.refl W).drewN nq) (· = g)) (fun _ _ h => h)).trans (Fr.store _ ⟨g, 6, none⟩ _) (fun _ _ h => h)).trans (Fr.store _ ⟨g, 4, none⟩ _) (fun _ _ h => h)
  refine (rready_any _ h8).mono ?_
  rintro e w2 ⟨rfl, rfl⟩
  go_wp2_with fail
  go_returns
  exact ⟨rfl, h8, r8⟩
set_option maxHeartbeats 3200000 in
theorem rb4 (w : World) {g : Nat} {x : Kd} {c : Ck} {wk0 : Bool} (now : Int) (wk : Bool) (h : Rv w g x c wk0) (hn : x.s ≤ now ∧ now ≤ 2199023255552) (hs : 0 ≤ x.s) (ht : 1 ≤ x.t ∧ x.t ≤ 256) (hk : x.k = 1) (hb : ((now - x.s) % x.t == 0) = false) (ho : c.on = false) :
    Calls Tryd.prog 23 #[.pointer (some ⟨g, 0, none⟩), .int .i64 now, .bool wk] w fun e w' => e = .returned (.bool (wk && decide (0 < (c).b))) ∧ RvOut w g x (c) wk w' := by
  obtain ⟨c0, c1, c2, c3, c4, c5, c6, c7⟩ := h.cells
  have f7 := h.free 7
  have h7 := rv7 wk h
  have r7 : Fr w (w.setCell ⟨g, 7, none⟩ (.bool wk)) (· = g) := Fr.store w ⟨g, 7, none⟩ _
  have hl := h.lt
  have e1 : IntKind.i64.wrap (now - x.s) = now - x.s := by rw [IntKind.wrap_i64]; omega
  have e2 : (now - x.s).tmod x.t = (now - x.s) % x.t := Int.tmod_eq_emod_of_nonneg (by omega)
  have e5 : x.t ≠ 0 := by omega
  have e6 : IntKind.i64.wrap (now + x.t) = now + x.t := by rw [IntKind.wrap_i64]; omega
  clear h
  go_enter Tryd.func23, Tryd.ntmps23
  go_wp2_with fail
  generalize w.setCell ⟨g, 7, none⟩ (.bool wk) = W at *
  clear c0 c1 c2 c3 c4 c5 c6 c7 f7
  obtain ⟨c0, c1, c2, c3, c4, c5, c6, c7⟩ := h7.cells
  have f4 := h7.free 4
  have f5 := h7.free 5
  have f6 := h7.free 6
  go_quiet (fail)
  go_wp2_with fail
  refine (rready_any _ (h7.ext ((Ext.refl W).drewN _))).mono ?_
  rintro e w2 ⟨rfl, rfl⟩
  go_wp2_with fail
  go_returns
  exact ⟨rfl, h7.ext ((Ext.refl W).drewN _), r7.trans (Fr.of_ext ((Ext.refl W).drewN _) _) (fun _ _ h => h)⟩
set_option maxHeartbeats 3200000 in
theorem rb5 (w : World) {g : Nat} {x : Kd} {c : Ck} {wk0 : Bool} (now : Int) (h : Rv w g x c wk0) (hn : x.s ≤ now ∧ now ≤ 2199023255552) (hs : 0 ≤ x.s) (ht : 1 ≤ x.t ∧ x.t ≤ 256) (hk : x.k = 1) (hb : ((now - x.s) % x.t == 0) = false) (ho : c.on = true) :
    Calls Tryd.prog 23 #[.pointer (some ⟨g, 0, none⟩), .int .i64 now, .bool true] w fun e w' => e = .returned (.bool (true && decide (0 < (c).b))) ∧ RvOut w g x (c) true w' := by
  obtain ⟨c0, c1, c2, c3, c4, c5, c6, c7⟩ := h.cells
  have f7 := h.free 7
  have h7 := rv7 true h
  have r7 : Fr w (w.setCell ⟨g, 7, none⟩ (.bool true)) (· = g) := Fr.store w ⟨g, 7, none⟩ _
  have hl := h.lt
  have e1 : IntKind.i64.wrap (now - x.s) = now - x.s := by rw [IntKind.wrap_i64]; omega
  have e2 : (now - x.s).tmod x.t = (now - x.s) % x.t := Int.tmod_eq_emod_of_nonneg (by omega)
  have e5 : x.t ≠ 0 := by omega
  have e6 : IntKind.i64.wrap (now + x.t) = now + x.t := by rw [IntKind.wrap_i64]; omega
  clear h
  go_enter Tryd.func23, Tryd.ntmps23
  go_wp2_with fail
  generalize w.setCell ⟨g, 7, none⟩ (.bool true) = W at *
  clear c0 c1 c2 c3 c4 c5 c6 c7 f7
  obtain ⟨c0, c1, c2, c3, c4, c5, c6, c7⟩ := h7.cells
  have f4 := h7.free 4
  have f5 := h7.free 5
  have f6 := h7.free 6
  go_quiet (fail)
  go_wp2_with fail
  refine (rready_any _ (h7.ext ((Ext.refl W).drewN _))).mono ?_
  rintro e w2 ⟨rfl, rfl⟩
  go_wp2_with fail
  go_returns
  exact ⟨rfl, h7.ext ((Ext.refl W).drewN _), r7.trans (Fr.of_ext ((Ext.refl W).drewN _) _) (fun _ _ h => h)⟩
set_option maxHeartbeats 3200000 in
theorem rb6 (w : World) {g : Nat} {x : Kd} {c : Ck} {wk0 : Bool} (now : Int) (h : Rv w g x c wk0) (hn : x.s ≤ now ∧ now ≤ 2199023255552) (hs : 0 ≤ x.s) (ht : 1 ≤ x.t ∧ x.t ≤ 256) (hk : x.k = 2) (ho : c.on = true) :
    Calls Tryd.prog 23 #[.pointer (some ⟨g, 0, none⟩), .int .i64 now, .bool false] w fun e w' => e = .returned (.bool (false && decide (0 < ((⟨0, c.d, false⟩ : Ck)).b))) ∧ RvOut w g x ((⟨0, c.d, false⟩ : Ck)) false w' := by
  obtain ⟨c0, c1, c2, c3, c4, c5, c6, c7⟩ := h.cells
  have f7 := h.free 7
  have h7 := rv7 false h
  have r7 : Fr w (w.setCell ⟨g, 7, none⟩ (.bool false)) (· = g) := Fr.store w ⟨g, 7, none⟩ _
  have hl := h.lt
  have e1 : IntKind.i64.wrap (now - x.s) = now - x.s := by rw [IntKind.wrap_i64]; omega
  have e2 : (now - x.s).tmod x.t = (now - x.s) % x.t := Int.tmod_eq_emod_of_nonneg (by omega)
  have e5 : x.t ≠ 0 := by omega
  have e6 : IntKind.i64.wrap (now + x.t) = now + x.t := by rw [IntKind.wrap_i64]; omega
  clear h
  go_enter Tryd.func23, Tryd.ntmps23
  go_wp2_with fail
  generalize w.setCell ⟨g, 7, none⟩ (.bool false) = W at *
  clear c0 c1 c2 c3 c4 c5 c6 c7 f7
  obtain ⟨c0, c1, c2, c3, c4, c5, c6, c7⟩ := h7.cells
  have f4 := h7.free 4
  have f5 := h7.free 5
  have f6 := h7.free 6
  go_quiet (fail)
  go_wp2_with fail
  have h8 := rv_off (h7.ext ((Ext.refl W).drewN nq))
  have r8 : Fr w (((W.drewN nq).setCell ⟨g, 6, none⟩ (.bool false)).setCell ⟨g, 4, none⟩ (.int .i64 0)) (· = g) := ((r7.trans (Fr.of_ext ((Ext.refl W).drewN nq) (· = g)) (fun _ _ h => h)).trans (Fr.store _ ⟨g, 6, none⟩ _) (fun _ _ h => h)).trans (Fr.store _ ⟨g, 4, none⟩ _) (fun _ _ h => h)
  refine (rready_any _ h8).mono ?_
  rintro e w2 ⟨rfl, rfl⟩
  go_wp2_with fail
  go_returns
  exact ⟨rfl, h8, r8⟩
set_option maxHeartbeats 3200000 in
theorem rb7 (w : World) {g : Nat} {x : Kd} {c : Ck} {wk0 : Bool} (now : Int) (h : Rv w g x c wk0) (hn : x.s ≤ now ∧ now ≤ 2199023255552) (hs : 0 ≤ x.s) (ht : 1 ≤ x.t ∧ x.t ≤ 256) (hk : x.k = 2) (ho : c.on = false) :
    Calls Tryd.prog 23 #[.pointer (some ⟨g, 0, none⟩), .int .i64 now, .bool false] w fun e w' => e = .returned (.bool (false && decide (0 < (c).b))) ∧ RvOut w g x (c) false w' := by
  obtain ⟨c0, c1, c2, c3, c4, c5, c6, c7⟩ := h.cells
  have f7 := h.free 7
  have h7 := rv7 false h
  have r7 : Fr w (w.setCell ⟨g, 7, none⟩ (.bool false)) (· = g) := Fr.store w ⟨g, 7, none⟩ _
  have hl := h.lt
  have e1 : IntKind.i64.wrap (now - x.s) = now - x.s := by rw [IntKind.wrap_i64]; omega
  have e2 : (now - x.s).tmod x.t = (now - x.s) % x.t := Int.tmod_eq_emod_of_nonneg (by omega)
  have e5 : x.t ≠ 0 := by omega
  have e6 : IntKind.i64.wrap (now + x.t) = now + x.t := by rw [IntKind.wrap_i64]; omega
  clear h
  go_enter Tryd.func23, Tryd.ntmps23
  go_wp2_with fail
  generalize w.setCell ⟨g, 7, none⟩ (.bool false) = W at *
  clear c0 c1 c2 c3 c4 c5 c6 c7 f7
  obtain ⟨c0, c1, c2, c3, c4, c5, c6, c7⟩ := h7.cells
  have f4 := h7.free 4
  have f5 := h7.free 5
  have f6 := h7.free 6
  go_quiet (fail)
  go_wp2_with fail
  refine (rready_any _ (h7.ext ((Ext.refl W).drewN _))).mono ?_
  rintro e w2 ⟨rfl, rfl⟩
  go_wp2_with fail
  go_returns
  exact ⟨rfl, h7.ext ((Ext.refl W).drewN _), r7.trans (Fr.of_ext ((Ext.refl W).drewN _) _) (fun _ _ h => h)⟩
set_option maxHeartbeats 3200000 in
theorem rb8 (w : World) {g : Nat} {x : Kd} {c : Ck} {wk0 : Bool} (now : Int) (h : Rv w g x c wk0) (hn : x.s ≤ now ∧ now ≤ 2199023255552) (hs : 0 ≤ x.s) (ht : 1 ≤ x.t ∧ x.t ≤ 256) (hk : x.k = 2) (hd : c.d ≤ now) :
    Calls Tryd.prog 23 #[.pointer (some ⟨g, 0, none⟩), .int .i64 now, .bool true] w fun e w' => e = .returned (.bool (true && decide (0 < ((⟨x.q, now + x.t, true⟩ : Ck)).b))) ∧ RvOut w g x ((⟨x.q, now + x.t, true⟩ : Ck)) true w' := by
  obtain ⟨c0, c1, c2, c3, c4, c5, c6, c7⟩ := h.cells
  have f7 := h.free 7
  have h7 := rv7 true h
  have r7 : Fr w (w.setCell ⟨g, 7, none⟩ (.bool true)) (· = g) := Fr.store w ⟨g, 7, none⟩ _
  have hl := h.lt
  have e1 : IntKind.i64.wrap (now - x.s) = now - x.s := by rw [IntKind.wrap_i64]; omega
  have e2 : (now - x.s).tmod x.t = (now - x.s) % x.t := Int.tmod_eq_emod_of_nonneg (by omega)
  have e5 : x.t ≠ 0 := by omega
  have e6 : IntKind.i64.wrap (now + x.t) = now + x.t := by rw [IntKind.wrap_i64]; omega
  clear h
  have hd1 : decide (c.d ≤ now) = true := by simpa using hd
  go_enter Tryd.func23, Tryd.ntmps23
  go_wp2_with fail
  generalize w.setCell ⟨g, 7, none⟩ (.bool true) = W at *
  clear c0 c1 c2 c3 c4 c5 c6 c7 f7
  obtain ⟨c0, c1, c2, c3, c4, c5, c6, c7⟩ := h7.cells
  have f4 := h7.free 4
  have f5 := h7.free 5
  have f6 := h7.free 6
  go_quiet (fail)
  go_wp2_with fail
  all_goals
    have H8 := Lib.hid (fun n => h7.ext ((Ext.refl W).drewN n))
    have R8 := Lib.hid (fun n => r7.trans (Fr.of_ext ((Ext.refl W).drewN n) (· = g)) (fun _ _ h => h))
    clear h7 r7
    go_region_held3 (fun w' => w'.cell? ⟨g, 1, none⟩ = some (.int .i64 x.q) ∧ w'.cell? ⟨g, 2, none⟩ = some (.int .i64 x.t))
      (first | assumption | (refine ⟨?_, ?_⟩ <;> first | assumption | (show World.cell? (World.setCell _ _ _) _ = _; exact othr (by go_split_ands; assumption) (by simp)))) (fail)
    all_goals
      go_wp2_with fail
      refine (rready_any (c := ⟨x.q, now + x.t, true⟩) (x := x) (wk := true) _ ?hz).mono ?_
      case hz => repeat (first | with_reducible exact H8.out _ | with_reducible refine Rv.drew ?_ | with_reducible refine Rv.put4 (b := c.b) ?_ | with_reducible refine Rv.put5 (d := c.d) ?_ | with_reducible refine Rv.put6 (on := c.on) ?_)
      rintro e w2 ⟨rfl, rfl⟩
      go_wp2_with fail
      go_returns
      refine ⟨rfl, ?_, ?_⟩
      · repeat (first | with_reducible exact H8.out _ | with_reducible refine Rv.drew ?_ | with_reducible refine Rv.put4 (b := c.b) ?_ | with_reducible refine Rv.put5 (d := c.d) ?_ | with_reducible refine Rv.put6 (on := c.on) ?_)
      · repeat (first | with_reducible exact R8.out _ | with_reducible refine Fr.drew ?_ | with_reducible refine Fr.put ?_ | with_reducible refine Fr.put' ?_)
set_option maxHeartbeats 3200000 in
theorem rb9 (w : World) {g : Nat} {x : Kd} {c : Ck} {wk0 : Bool} (now : Int) (h : Rv w g x c wk0) (hn : x.s ≤ now ∧ now ≤ 2199023255552) (hs : 0 ≤ x.s) (ht : 1 ≤ x.t ∧ x.t ≤ 256) (hk : x.k = 2) (hd : now < c.d) :
    Calls Tryd.prog 23 #[.pointer (some ⟨g, 0, none⟩), .int .i64 now, .bool true] w fun e w' => e = .returned (.bool (true && decide (0 < (c).b))) ∧ RvOut w g x (c) true w' := by
  obtain ⟨c0, c1, c2, c3, c4, c5, c6, c7⟩ := h.cells
  have f7 := h.free 7
  have h7 := rv7 true h
  have r7 : Fr w (w.setCell ⟨g, 7, none⟩ (.bool true)) (· = g) := Fr.store w ⟨g, 7, none⟩ _
  have hl := h.lt
  have e1 : IntKind.i64.wrap (now - x.s) = now - x.s := by rw [IntKind.wrap_i64]; omega
  have e2 : (now - x.s).tmod x.t = (now - x.s) % x.t := Int.tmod_eq_emod_of_nonneg (by omega)
  have e5 : x.t ≠ 0 := by omega
  have e6 : IntKind.i64.wrap (now + x.t) = now + x.t := by rw [IntKind.wrap_i64]; omega
  clear h
  have hd1 : decide (c.d ≤ now) = false := by simpa using hd
  have hd2 : (c.d ≤ now) = False := by simpa using hd
  clear hd
  go_enter Tryd.func23, Tryd.ntmps23
  go_wp2_with fail
  generalize w.setCell ⟨g, 7, none⟩ (.bool true) = W at *
  clear c0 c1 c2 c3 c4 c5 c6 c7 f7
  obtain ⟨c0, c1, c2, c3, c4, c5, c6, c7⟩ := h7.cells
  have f4 := h7.free 4
  have f5 := h7.free 5
  have f6 := h7.free 6
  go_quiet (fail)
  go_wp2_with fail
  all_goals
    refine (rready_any _ (h7.ext ((Ext.refl W).drewN _))).mono ?_
    rintro e w2 ⟨rfl, rfl⟩
    go_wp2_with fail
    go_returns
    exact ⟨rfl, h7.ext ((Ext.refl W).drewN _), r7.trans (Fr.of_ext ((Ext.refl W).drewN _) _) (fun _ _ h => h)⟩
set_option maxHeartbeats 3200000 in
theorem rb10 (w : World) {g : Nat} {x : Kd} {c : Ck} {wk0 : Bool} (now : Int) (wk : Bool) (h : Rv w g x c wk0) (hn : x.s ≤ now ∧ now ≤ 2199023255552) (hs : 0 ≤ x.s) (ht : 1 ≤ x.t ∧ x.t ≤ 256) (hk : x.k = 3) (hb : ((now - x.s) % x.t == 0) = true) :
    Calls Tryd.prog 23 #[.pointer (some ⟨g, 0, none⟩), .int .i64 now, .bool wk] w fun e w' => e = .returned (.bool (wk && decide (0 < ((⟨x.q, now + x.t, true⟩ : Ck)).b))) ∧ RvOut w g x ((⟨x.q, now + x.t, true⟩ : Ck)) wk w' := by
  obtain ⟨c0, c1, c2, c3, c4, c5, c6, c7⟩ := h.cells
  have f7 := h.free 7
  have h7 := rv7 wk h
  have r7 : Fr w (w.setCell ⟨g, 7, none⟩ (.bool wk)) (· = g) := Fr.store w ⟨g, 7, none⟩ _
  have hl := h.lt
  have e1 : IntKind.i64.wrap (now - x.s) = now - x.s := by rw [IntKind.wrap_i64]; omega
  have e2 : (now - x.s).tmod x.t = (now - x.s) % x.t := Int.tmod_eq_emod_of_nonneg (by omega)
  have e5 : x.t ≠ 0 := by omega
  have e6 : IntKind.i64.wrap (now + x.t) = now + x.t := by rw [IntKind.wrap_i64]; omega
  clear h
  go_enter Tryd.func23, Tryd.ntmps23
  go_wp2_with fail
  generalize w.setCell ⟨g, 7, none⟩ (.bool wk) = W at *
  clear c0 c1 c2 c3 c4 c5 c6 c7 f7
  obtain ⟨c0, c1, c2, c3, c4, c5, c6, c7⟩ := h7.cells
  have f4 := h7.free 4
  have f5 := h7.free 5
  have f6 := h7.free 6
  go_quiet (fail)
  go_wp2_with fail
  have H8 := Lib.hid (fun n => h7.ext ((Ext.refl W).drewN n))
  have R8 := Lib.hid (fun n => r7.trans (Fr.of_ext ((Ext.refl W).drewN n) (· = g)) (fun _ _ h => h))
  clear h7 r7
  go_region_held3 (fun w' => w'.cell? ⟨g, 1, none⟩ = some (.int .i64 x.q) ∧ w'.cell? ⟨g, 2, none⟩ = some (.int .i64 x.t))
    (first | assumption | (refine ⟨?_, ?_⟩ <;> first | assumption | (show World.cell? (World.setCell _ _ _) _ = _; exact othr (by go_split_ands; assumption) (by simp)))) (fail)
  all_goals
    go_wp2_with fail
    refine (rready_any (c := ⟨x.q, now + x.t, true⟩) (x := x) (wk := wk) _ ?hz).mono ?_
    case hz => repeat (first | with_reducible exact H8.out _ | with_reducible refine Rv.drew ?_ | with_reducible refine Rv.put4 (b := c.b) ?_ | with_reducible refine Rv.put5 (d := c.d) ?_ | with_reducible refine Rv.put6 (on := c.on) ?_)
    rintro e w2 ⟨rfl, rfl⟩
    go_wp2_with fail
    go_returns
    refine ⟨rfl, ?_, ?_⟩
    · repeat (first | with_reducible exact H8.out _ | with_reducible refine Rv.drew ?_ | with_reducible refine Rv.put4 (b := c.b) ?_ | with_reducible refine Rv.put5 (d := c.d) ?_ | with_reducible refine Rv.put6 (on := c.on) ?_)
    · repeat (first | with_reducible exact R8.out _ | with_reducible refine Fr.drew ?_ | with_reducible refine Fr.put ?_ | with_reducible refine Fr.put' ?_)
set_option maxHeartbeats 3200000 in
theorem rb11 (w : World) {g : Nat} {x : Kd} {c : Ck} {wk0 : Bool} (now : Int) (wk : Bool) (h : Rv w g x c wk0) (hn : x.s ≤ now ∧ now ≤ 2199023255552) (hs : 0 ≤ x.s) (ht : 1 ≤ x.t ∧ x.t ≤ 256) (hk : x.k = 3) (hb : ((now - x.s) % x.t == 0) = false) :
    Calls Tryd.prog 23 #[.pointer (some ⟨g, 0, none⟩), .int .i64 now, .bool wk] w fun e w' => e = .returned (.bool (wk && decide (0 < (c).b))) ∧ RvOut w g x (c) wk w' := by
  obtain ⟨c0, c1, c2, c3, c4, c5, c6, c7⟩ := h.cells
  have f7 := h.free 7
  have h7 := rv7 wk h
  have r7 : Fr w (w.setCell ⟨g, 7, none⟩ (.bool wk)) (· = g) := Fr.store w ⟨g, 7, none⟩ _
  have hl := h.lt
  have e1 : IntKind.i64.wrap (now - x.s) = now - x.s := by rw [IntKind.wrap_i64]; omega
  have e2 : (now - x.s).tmod x.t = (now - x.s) % x.t := Int.tmod_eq_emod_of_nonneg (by omega)
  have e5 : x.t ≠ 0 := by omega
  have e6 : IntKind.i64.wrap (now + x.t) = now + x.t := by rw [IntKind.wrap_i64]; omega
  clear h
  go_enter Tryd.func23, Tryd.ntmps23
  go_wp2_with fail
  generalize w.setCell ⟨g, 7, none⟩ (.bool wk) = W at *
  clear c0 c1 c2 c3 c4 c5 c6 c7 f7
  obtain ⟨c0, c1, c2, c3, c4, c5, c6, c7⟩ := h7.cells
  have f4 := h7.free 4
  have f5 := h7.free 5
  have f6 := h7.free 6
  go_quiet (fail)
  go_wp2_with fail
  refine (rready_any _ (h7.ext ((Ext.refl W).drewN _))).mono ?_
  rintro e w2 ⟨rfl, rfl⟩
  go_wp2_with fail
  go_returns
  exact ⟨rfl, h7.ext ((Ext.refl W).drewN _), r7.trans (Fr.of_ext ((Ext.refl W).drewN _) _) (fun _ _ h => h)⟩
theorem rbegin_any (w : World) {g : Nat} {x : Kd} {c : Ck} {wk0 : Bool} (now : Int) (wk : Bool) (h : Rv w g x c wk0) (hn : x.s ≤ now ∧ now ≤ 2199023255552) (hs : 0 ≤ x.s) (ht : 1 ≤ x.t ∧ x.t ≤ 256) (hk : x.k = 1 ∨ x.k = 2 ∨ x.k = 3) (hi : c.on = false → c.b = 0) :
    Calls Tryd.prog 23 #[.pointer (some ⟨g, 0, none⟩), .int .i64 now, .bool wk] w fun e w' => e = .returned (.bool (wk && decide (0 < (begC x c now wk).b))) ∧ RvOut w g x (begC x c now wk) wk w' := by
  obtain ⟨b, d, on⟩ := c
  simp only at hi
  rcases hk with hk | hk | hk
  · have e : begC x ⟨b, d, on⟩ now wk = polC x ⟨b, d, on⟩ now wk := by simp [begC, hk]
    rw [e]
    unfold polC
    cases hb : ((now - x.s) % x.t == 0) <;> cases wk <;> cases on
    · have h0 := hi rfl
      subst h0
      exact rb4 w now false h hn hs ht hk hb rfl
    · exact rb3 w now h hn hs ht hk hb rfl
    · exact rb4 w now true h hn hs ht hk hb rfl
    · exact rb5 w now h hn hs ht hk hb rfl
    · exact rb2 w now h hn hs ht hk hb
    · exact rb2 w now h hn hs ht hk hb
    · exact rb1 w now h hn hs ht hk hb
    · exact rb1 w now h hn hs ht hk hb
  · have e : begC x ⟨b, d, on⟩ now wk = spoC x ⟨b, d, on⟩ now wk := by simp [begC, hk]
    rw [e]
    unfold spoC
    cases wk
    · cases on
      · have h0 := hi rfl
        subst h0
        exact rb7 w now h hn hs ht hk rfl
      · exact rb6 w now h hn hs ht hk rfl
    · by_cases hd : d ≤ now
      · rw [if_neg (by simp), if_pos hd]
        exact rb8 w now h hn hs ht hk hd
      · rw [if_neg (by simp), if_neg hd]
        exact rb9 w now h hn hs ht hk (by simp only; omega)
  · have e : begC x ⟨b, d, on⟩ now wk = defC x ⟨b, d, on⟩ now := by simp [begC, hk]
    rw [e]
    unfold defC
    cases hb : ((now - x.s) % x.t == 0)
    · exact rb11 w now wk h hn hs ht hk hb
    · exact rb10 w now wk h hn hs ht hk hb
theorem beg_inv {K Q T s now : Int} {c : Ck} {wk : Bool} (hi : c.on = false → c.b = 0) : (begC ⟨K, Q, T, s⟩ c now wk).on = false → (begC ⟨K, Q, T, s⟩ c now wk).b = 0 := by
  unfold begC polC spoC defC Ck.full
  repeat' split
  all_goals first | exact hi | simp
end Go.Proofs.YtakilnelbmbjdaaDoor
