/-
  Package guest: a guest in memory; holds, the search for a job that holds on, walked.
-/
import Derived.Test.YtbpbmelfhgbogaaDoorGsCmp
import Derived.Test.YtbpbmelfhgbogaaDoorGsLegal
import Derived.Deep.RegionHeld3
import Derived.Deep.RegionLaw
namespace Go.Proofs.YtbpbmelfhgbogaaDoor
set_option maxRecDepth 100000
open Go.RowKit
set_option linter.unusedVariables false
/-- A guest's task: the task, its last release, whether there was one. -/
structure TkV where
  t : TaskV
  last : Int
  was : Bool
def TkV.cells (x : TkV) : List Value := [.int .i64 x.t.C, .int .i64 x.t.P, .int .i64 x.t.D, .int .i64 x.t.S, .int .i64 x.last, .bool x.was]
def krows (ks : List TkV) : List (List Value) := ks.map TkV.cells
def jrows (js : List JobV) : List (List Value) := js.map JobV.cells
theorem krows_even (ks : List TkV) : Even 6 (krows ks) := by
  intro r hr
  obtain ⟨x, _, rfl⟩ := List.mem_map.1 hr
  rfl
theorem jrows_even (js : List JobV) : Even 5 (jrows js) := by
  intro r hr
  obtain ⟨x, _, rfl⟩ := List.mem_map.1 hr
  rfl
theorem krows_at {ks : List TkV} {k : Nat} {x : TkV} (h : ks[k]? = some x) : (krows ks)[k]? = some x.cells := by simp [krows, h]
theorem jrows_at {js : List JobV} {k : Nat} {x : JobV} (h : js[k]? = some x) : (jrows js)[k]? = some x.cells := by simp [jrows, h]
theorem krows_len (ks : List TkV) : (krows ks).length = ks.length := by simp [krows]
theorem jrows_len (js : List JobV) : (jrows js).length = js.length := by simp [jrows]
theorem Rd.len_k {w : World} {A : Option Addr} {m : Nat} {ks : List TkV} (h : Rd w 6 A m (krows ks).flatten) : ks.length = m := by
  have h1 := h.1
  rw [(krows_even ks).len, krows_len] at h1
  omega
theorem Rd.len_j {w : World} {A : Option Addr} {m : Nat} {js : List JobV} (h : Rd w 5 A m (jrows js).flatten) : js.length = m := by
  have h1 := h.1
  rw [(jrows_even js).len, jrows_len] at h1
  omega
theorem jrows_one (js : List JobV) : ∀ u ∈ (jrows js).flatten, u.oneCell' = true := by
  intro u hu
  obtain ⟨r, hr, hu⟩ := List.mem_flatten.1 hu
  obtain ⟨x, _, rfl⟩ := List.mem_map.1 hr
  simp only [JobV.cells, List.mem_cons, List.not_mem_nil, or_false] at hu
  rcases hu with rfl | rfl | rfl | rfl | rfl <;> rfl
theorem block_cell {w : World} {b : Nat} {cs : Array Value} {t : TypeId} (h : w.heap[b]? = some (.cells cs t (0, 0))) (k : Nat) : w.cell? ⟨b, k, none⟩ = cs[k]? := cell_of_row _ _ _ _ _ _ h
theorem block_fz {w : World} {b : Nat} {cs : Array Value} {t : TypeId} (h : w.heap[b]? = some (.cells cs t (0, 0))) (k : Nat) : w.frozen? ⟨b, k, none⟩ = false := by simp only [World.frozen?, h]; simp
theorem block_lt {w : World} {b : Nat} {o : Obj} (h : w.heap[b]? = some o) : b < w.heap.size := (Array.getElem?_eq_some_iff.1 h).1
theorem Own.lt_at {w : World} {base n c : Nat} {e : TypeId} {size : Nat} {A : Option Addr} {xs : List Value} (h : Own w base e size A n c xs) {a : Addr} (ha : A = some a) : a.block < w.heap.size := by
  rcases h.2 with ⟨hn, _⟩ | ⟨g, cap, cur, h1, hb, hgg, rest⟩
  · injection hn with hn
    rw [ha] at hn
    cases hn
  · injection h1 with h1
    rw [ha] at h1
    injection h1 with h1
    subst h1
    exact (Array.getElem?_eq_some_iff.1 hgg).1
/-- The tasks as such. -/
abbrev tsk (ks : List TkV) : List TaskV := ks.map TkV.t
/-- A guest at block g. -/
structure GS (w : World) (g : Nat) (TA : Option Addr) (tn tc : Nat) (JA : Option Addr) (jn jc : Nat) (p : Int) (ks : List TkV) (js : List JobV) : Prop where
  blk : w.heap[g]? = some (.cells #[.slice TA tn tc, .slice JA jn jc, cmpF p] 64 (0, 0))
  tow : Own w (g + 1) 66 6 TA tn tc (krows ks).flatten
  jow : Own w (g + 1) 46 5 JA jn jc (jrows js).flatten
  apart : ∀ a b, TA = some a → JA = some b → a.block ≠ b.block
  gi : GI (tsk ks) js
  pol : p = 1 ∨ p = 2
  tn8 : tn ≤ 8
  low : ∀ k ∈ ks, 0 ≤ k.last ∧ k.last ≤ 1099511627776
section
variable {w w' : World} {g tn tc jn jc : Nat} {TA JA : Option Addr} {p : Int} {ks : List TkV} {js : List JobV}
theorem GS.lt (h : GS w g TA tn tc JA jn jc p ks js) : g < w.heap.size := (Array.getElem?_eq_some_iff.1 h.blk).1
theorem GS.klen (h : GS w g TA tn tc JA jn jc p ks js) : ks.length = tn := h.tow.rd.len_k
theorem GS.jlen (h : GS w g TA tn tc JA jn jc p ks js) : js.length = jn := h.jow.rd.len_j
theorem GS.jn64 (h : GS w g TA tn tc JA jn jc p ks js) : jn ≤ 64 := by have := h.jlen; have := h.gi.few; omega
theorem GS.c0 (h : GS w g TA tn tc JA jn jc p ks js) : w.cell? ⟨g, 0, none⟩ = some (.slice TA tn tc) := by rw [block_cell h.blk]; rfl
theorem GS.c1 (h : GS w g TA tn tc JA jn jc p ks js) : w.cell? ⟨g, 1, none⟩ = some (.slice JA jn jc) := by rw [block_cell h.blk]; rfl
theorem GS.c2 (h : GS w g TA tn tc JA jn jc p ks js) : w.cell? ⟨g, 2, none⟩ = some (cmpF p) := by rw [block_cell h.blk]; rfl
/-- What leaves the guest's blocks alone. -/
theorem GS.fr (h : GS w g TA tn tc JA jn jc p ks js) {P : Nat → Prop} (hf : Fr w w' P) (hg : ¬ P g) (hT : ∀ a, TA = some a → ¬ P a.block) (hJ : ∀ a, JA = some a → ¬ P a.block) : GS w' g TA tn tc JA jn jc p ks js :=
  ⟨(hf.block g h.lt hg).trans h.blk, hf.own h.tow hT, hf.own h.jow hJ, h.apart, h.gi, h.pol, h.tn8, h.low⟩
theorem GS.ex (h : GS w g TA tn tc JA jn jc p ks js) (hx : Ext w w') : GS w' g TA tn tc JA jn jc p ks js :=
  h.fr (Fr.of_ext hx (fun _ => False)) (fun h => h) (fun _ _ h => h) (fun _ _ h => h)
theorem GS.tg (h : GS w g TA tn tc JA jn jc p ks js) : ∀ a, TA = some a → a.block ≠ g := fun a ha e => by
  have := h.tow.base_le a.block (by rw [ha]; rfl)
  omega
theorem GS.jg (h : GS w g TA tn tc JA jn jc p ks js) : ∀ a, JA = some a → a.block ≠ g := fun a ha e => by
  have := h.jow.base_le a.block (by rw [ha]; rfl)
  omega
/-- A task's cells. -/
theorem GS.tcell (h : GS w g TA tn tc JA jn jc p ks js) {k k6 : Nat} {x : TkV} (hk : ks[k]? = some x) (h6 : k * 6 = k6) : ∃ S, TA = some ⟨S, 0, none⟩ ∧ S < w.heap.size ∧ S ≠ g ∧
    w.cell? ⟨S, k6, none⟩ = some (.int .i64 x.t.C) ∧ w.cell? ⟨S, k6 + 1, none⟩ = some (.int .i64 x.t.P) ∧ w.cell? ⟨S, k6 + 2, none⟩ = some (.int .i64 x.t.D) ∧ w.cell? ⟨S, k6 + 3, none⟩ = some (.int .i64 x.t.S) ∧ w.cell? ⟨S, k6 + 4, none⟩ = some (.int .i64 x.last) ∧ w.cell? ⟨S, k6 + 5, none⟩ = some (.bool x.was) := by
  have hkl : k < tn := by have := h.klen; have := (List.getElem?_eq_some_iff.1 hk).1; omega
  obtain ⟨S, rfl⟩ := h.tow.head (by omega)
  refine ⟨S, rfl, h.tow.lt, fun e => h.tg _ rfl e, ?_⟩
  exact ⟨h.tow.rowAt (krows_even ks) (krows_at hk) h6 (i := 0) rfl, h.tow.rowAt (krows_even ks) (krows_at hk) h6 (i := 1) rfl, h.tow.rowAt (krows_even ks) (krows_at hk) h6 (i := 2) rfl, h.tow.rowAt (krows_even ks) (krows_at hk) h6 (i := 3) rfl, h.tow.rowAt (krows_even ks) (krows_at hk) h6 (i := 4) rfl, h.tow.rowAt (krows_even ks) (krows_at hk) h6 (i := 5) rfl⟩
/-- A job's cells. -/
theorem GS.jcell (h : GS w g TA tn tc JA jn jc p ks js) {k k5 : Nat} {x : JobV} (hk : js[k]? = some x) (h5 : k * 5 = k5) : ∃ S, JA = some ⟨S, 0, none⟩ ∧ S < w.heap.size ∧ S ≠ g ∧
    w.cell? ⟨S, k5, none⟩ = some (.int .i64 (x.T : Int)) ∧ w.cell? ⟨S, k5 + 1, none⟩ = some (.int .i64 x.R) ∧ w.cell? ⟨S, k5 + 2, none⟩ = some (.int .i64 x.D) ∧ w.cell? ⟨S, k5 + 3, none⟩ = some (.int .i64 x.L) ∧ w.cell? ⟨S, k5 + 4, none⟩ = some (.int .i64 x.N) := by
  have hkl : k < jn := by have := h.jlen; have := (List.getElem?_eq_some_iff.1 hk).1; omega
  obtain ⟨S, rfl⟩ := h.jow.head (by omega)
  refine ⟨S, rfl, h.jow.lt, fun e => h.jg _ rfl e, ?_⟩
  exact ⟨h.jow.rowAt (jrows_even js) (jrows_at hk) h5 (i := 0) rfl, h.jow.rowAt (jrows_even js) (jrows_at hk) h5 (i := 1) rfl, h.jow.rowAt (jrows_even js) (jrows_at hk) h5 (i := 2) rfl, h.jow.rowAt (jrows_even js) (jrows_at hk) h5 (i := 3) rfl, h.jow.rowAt (jrows_even js) (jrows_at hk) h5 (i := 4) rfl⟩
theorem tsk_at {k : Nat} {x : TkV} (hk : ks[k]? = some x) : (tsk ks).getD k tz = x.t := getD_of (by simp [tsk, hk])
set_option maxHeartbeats 1600000 in
theorem holds_any (h : GS w g TA tn tc JA jn jc p ks js) (j : JobV) (hj : j.T < ks.length) (b : Bool) (hb : Hid (hldB (tsk ks) j = b)) :
    Calls Tryd.prog 35 #[.pointer (some ⟨g, 0, none⟩), j.val] w fun e w' => e = .returned (.bool b) ∧ Ext w w' := by
  obtain ⟨x, hx⟩ : ∃ x, ks[j.T]? = some x := ⟨ks[j.T]'hj, List.getElem?_eq_getElem _⟩
  have X0 := (Ext.refl w).alloc (.cells #[.int .i64 (j.T : Int), .int .i64 j.R, .int .i64 j.D, .int .i64 j.L, .int .i64 j.N] 46)
  have h0 := h.ex X0
  have c0 := h0.c0
  obtain ⟨T6, h6⟩ : ∃ T6, j.T * 6 = T6 := ⟨_, rfl⟩
  obtain ⟨S, rfl, _, _, _, _, _, c3, _, _⟩ := h0.tcell hx h6
  have hT : (j.T : Int) < tn := by have := h.klen; omega
  have hT0 : (0 : Int) ≤ (j.T : Int) := by omega
  have hS := tsk_at hx
  have hbv : b = (decide (0 < j.N) && decide (j.N < x.t.S)) := by rw [← hb.out]; unfold hldB; rw [hS]
  have HB := Lib.hid hbv
  have HX := Lib.hid X0
  clear h h0 hx X0 hj hS hbv hb
  unfold JobV.val
  by_cases hN : 0 < j.N
  · by_cases hNS : j.N < x.t.S
    · have e1 : b = true := by rw [HB.out]; simp [hN, hNS]
      subst e1
      have d1 : decide (0 < j.N) = true := by simpa using hN
      clear HB
      go_enter Tryd.func35, Tryd.ntmps35
      go_wp2_with fail
      go_quiet (fail)
      go_wp2_with fail
      go_returns
      exact ⟨rfl, HX.out.drewN _⟩
    · have e1 : b = false := by rw [HB.out]; simp [hNS]
      subst e1
      have d1 : decide (0 < j.N) = true := by simpa using hN
      have d2 : decide (j.N < x.t.S) = false := by simpa using hNS
      clear HB
      go_enter Tryd.func35, Tryd.ntmps35
      go_wp2_with fail
      go_quiet (fail)
      go_wp2_with fail
      go_returns
      exact ⟨rfl, HX.out.drewN _⟩
  · have e1 : b = false := by rw [HB.out]; simp [hN]
    subst e1
    have d1 : decide (0 < j.N) = false := by simpa using hN
    clear HB
    go_enter Tryd.func35, Tryd.ntmps35
    go_wp2_with fail
    go_quiet (fail)
    go_wp2_with fail
    go_returns
    exact ⟨rfl, HX.out.drewN _⟩
/-- What the search answers. -/
def idxV (ts : List TaskV) (js : List JobV) : Int := match js.findIdx? (hldB ts) with
  | some i => (i : Int)
  | none => -1
theorem idxV_hit {ts : List TaskV} {k : Nat} {x : JobV} (hx : js[k]? = some x) (hh : hldB ts x = true) (hn : ∀ (i : Nat) (y : JobV), i < k → js[i]? = some y → hldB ts y = false) : idxV ts js = (k : Int) := by
  have : js.findIdx? (hldB ts) = some k := by
    obtain ⟨hl, rfl⟩ := List.getElem?_eq_some_iff.1 hx
    refine List.findIdx?_eq_some_iff_getElem.2 ⟨hl, hh, fun i hi => ?_⟩
    have := hn i _ hi (List.getElem?_eq_getElem (by omega))
    simp [this]
  unfold idxV
  rw [this]
theorem idxV_miss {ts : List TaskV} (hn : ∀ (i : Nat) (y : JobV), js[i]? = some y → hldB ts y = false) : idxV ts js = -1 := by
  have : js.findIdx? (hldB ts) = none := by
    refine List.findIdx?_eq_none_iff.2 fun x hx => ?_
    obtain ⟨i, hi⟩ := List.getElem?_of_mem hx
    exact hn i x hi
  unfold idxV
  rw [this]
/-- The method value g.holds. -/
abbrev holdsF (g : Nat) : Value := .func (.func 35) #[.pointer (some ⟨g, 0, none⟩)] #[]
set_option maxHeartbeats 1600000 in
theorem idx_any (h : GS w g TA tn tc JA jn jc p ks js) : Calls Tryd.prog 34 #[.slice JA jn jc, holdsF g] w fun e w' => e = .returned (.int .i64 (idxV (tsk ks) js)) ∧ Ext w w' := by
  have hjn := h.jn64
  have HG := Lib.hid h
  clear h
  generalize hv : idxV (tsk ks) js = v
  have HV := Lib.hid hv
  clear hv
  go_enter Tryd.func34, Tryd.ntmps34
  go_wp2_with fail
  go_loopw [5, 8] (fun _ v8 wr => ∃ k : Nat, v8 = .int .i64 (k : Int) ∧ k ≤ jn ∧ Hid (Ext w wr ∧ ∀ (i : Nat) (y : JobV), i < k → js[i]? = some y → hldB (tsk ks) y = false)) (fun _ v8 _ => jn - (intOf v8).toNat)
  case atStart => exact ⟨0, rfl, by omega, Ext.refl w, fun i y h => absurd h (by omega)⟩
  case round =>
    obtain ⟨k, rfl, hk, HI⟩ := hrel
    by_cases hlt : k < jn
    · obtain ⟨x, hx⟩ : ∃ x, js[k]? = some x := ⟨js[k]'(by have := HG.out.jlen; omega), List.getElem?_eq_getElem _⟩
      obtain ⟨k5, hk5⟩ : ∃ k5, k * 5 = k5 := ⟨_, rfl⟩
      have h1 := HG.out.ex HI.out.1
      obtain ⟨S, rfl, _, _, c0, c1, c2, c3, c4⟩ := h1.jcell hx hk5
      have hT := (HG.out.gi.ok x (List.mem_of_getElem? hx)).1
      rw [List.length_map] at hT
      have z0 : (0 : Int) ≤ k := by omega
      have z1 : (k : Int) < jn := by omega
      have HX := Lib.hid hx
      obtain ⟨b, hb⟩ : ∃ b, hldB (tsk ks) x = b := ⟨_, rfl⟩
      have HB := Lib.hid hb
      have C := Lib.hid (holds_any h1 x hT b HB)
      clear h1 hx hT hb
      unfold JobV.val at C
      go_wp2_with fail
      refine C.out.mono ?_
      rintro e w1 ⟨rfl, x1⟩
      have X1 := Lib.hid (HI.out.1.trans x1)
      clear x1 C c0 c1 c2 c3 c4 hk5
      cases b with
      | true =>
        go_wp2_with fail
        go_returns
        exact ⟨by rw [← HV.out, idxV_hit HX.out HB.out HI.out.2]; rfl, X1.out⟩
      | false =>
        go_wp2_with fail
        go_roundw
        case rel => exact ⟨k + 1, by go_num, by omega, X1.out, fun i y hi hy => by
          rcases Nat.lt_or_ge i k with h5 | h5
          · exact HI.out.2 i y h5 hy
          · obtain rfl : i = k := by omega
            have := HX.out; rw [hy] at this; injection this with this; subst this; exact HB.out⟩
        case measure => simp [intOf]; omega
    · obtain rfl : jn = k := by omega
      go_wp2_with fail
      go_returns
      exact ⟨by rw [← HV.out, idxV_miss (fun i y hy => HI.out.2 i y (by have := HG.out.jlen; have := (List.getElem?_eq_some_iff.1 hy).1; omega) hy)]; rfl, HI.out.1⟩
end
end Go.Proofs.YtbpbmelfhgbogaaDoor
