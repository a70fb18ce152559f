/-
  The document's guest in memory; ahead, Late, Next, walked.
-/
import Derived.Test.YtbpbmelfhgbogaaDoorGsLaw
import Derived.Test.YtbpbmelfhgbogaaDoorOrd
namespace Go.Proofs.YtbpbmelfhgbogaaDoor
set_option maxRecDepth 100000
open Go.RowKit
set_option linter.unusedVariables false
/-- What the document's guest notes of a release. -/
def TkV.note (x : TkV) : Int := if x.was then x.last + 1 else 0
def noteL (ks : List TkV) : List Value := ks.map fun x => Value.int .i64 x.note
theorem noteL_at {ks : List TkV} {k : Nat} {x : TkV} (h : ks[k]? = some x) : (noteL ks)[k]? = some (.int .i64 x.note) := by simp [noteL, h]
/-- The document's guest at block g. -/
structure MS (w : World) (B g : Nat) (TA : Option Addr) (tn tc : Nat) (LA : Option Addr) (lc : Nat) (JA : Option Addr) (jn jc : Nat) (p : Int) (ks : List TkV) (js : List JobV) : Prop where
  blk : w.heap[g]? = some (.cells #[.int .i64 p, .slice TA tn tc, .slice LA tn lc, .slice JA jn jc] 74 (0, 0))
  tow : Own w B 41 4 TA tn tc (trows (tsk ks)).flatten
  low : Own w B 3 1 LA tn lc (noteL ks)
  jow : Own w B 46 5 JA jn jc (jrows js).flatten
  tg : ∀ a, TA = some a → a.block ≠ g
  lg : ∀ a, LA = some a → a.block ≠ g
  jg : ∀ a, JA = some a → a.block ≠ g
  tl : ∀ a b, TA = some a → LA = some b → a.block ≠ b.block
  tj : ∀ a b, TA = some a → JA = some b → a.block ≠ b.block
  lj : ∀ a b, LA = some a → JA = some b → a.block ≠ b.block
  bg : B ≤ g
  gi : GI (tsk ks) js
  pol : p = 1 ∨ p = 2
  tn8 : tn ≤ 8
  lo : ∀ k ∈ ks, 0 ≤ k.last ∧ k.last ≤ 1099511627776
section
variable {w w' : World} {B g tn tc lc jn jc : Nat} {TA LA JA : Option Addr} {p : Int} {ks : List TkV} {js : List JobV}
theorem MS.lt (h : MS w B g TA tn tc LA lc JA jn jc p ks js) : g < w.heap.size := block_lt h.blk
theorem MS.klen (h : MS w B g TA tn tc LA lc JA jn jc p ks js) : ks.length = tn := by have := h.low.rd.len; simpa [noteL] using this
theorem MS.jlen (h : MS w B g TA tn tc LA lc JA jn jc p ks js) : js.length = jn := h.jow.rd.len_j
theorem MS.jn64 (h : MS w B g TA tn tc LA lc JA jn jc p ks js) : jn ≤ 64 := by have := h.jlen; have := h.gi.few; omega
theorem MS.c0 (h : MS w B g TA tn tc LA lc JA jn jc p ks js) : w.cell? ⟨g, 0, none⟩ = some (.int .i64 p) := by rw [block_cell h.blk]; rfl
theorem MS.c1 (h : MS w B g TA tn tc LA lc JA jn jc p ks js) : w.cell? ⟨g, 1, none⟩ = some (.slice TA tn tc) := by rw [block_cell h.blk]; rfl
theorem MS.c2 (h : MS w B g TA tn tc LA lc JA jn jc p ks js) : w.cell? ⟨g, 2, none⟩ = some (.slice LA tn lc) := by rw [block_cell h.blk]; rfl
theorem MS.c3 (h : MS w B g TA tn tc LA lc JA jn jc p ks js) : w.cell? ⟨g, 3, none⟩ = some (.slice JA jn jc) := by rw [block_cell h.blk]; rfl
/-- What leaves the guest's blocks alone. -/
theorem MS.fr (h : MS w B g TA tn tc LA lc JA jn jc p ks js) {P : Nat → Prop} (hf : Fr w w' P) (hg : ¬ P g) (hT : ∀ a, TA = some a → ¬ P a.block) (hL : ∀ a, LA = some a → ¬ P a.block) (hJ : ∀ a, JA = some a → ¬ P a.block) : MS w' B g TA tn tc LA lc JA jn jc p ks js :=
  ⟨(hf.block g h.lt hg).trans h.blk, hf.own h.tow hT, hf.own h.low hL, hf.own h.jow hJ, h.tg, h.lg, h.jg, h.tl, h.tj, h.lj, h.bg, h.gi, h.pol, h.tn8, h.lo⟩
theorem MS.ex (h : MS w B g TA tn tc LA lc JA jn jc p ks js) (hx : Ext w w') : MS w' B g TA tn tc LA lc JA jn jc p ks js :=
  h.fr (Fr.of_ext hx (fun _ => False)) (fun h => h) (fun _ _ h => h) (fun _ _ h => h) (fun _ _ h => h)
theorem MS.jcell (h : MS w B g TA tn tc LA lc JA jn jc p ks js) {k k5 : Nat} {x : JobV} (hk : js[k]? = some x) (h5 : k * 5 = k5) : ∃ S, JA = some ⟨S, 0, none⟩ ∧ S < w.heap.size ∧ S ≠ g ∧
    w.cell? ⟨S, k5, none⟩ = some (.int .i64 (x.T : Int)) ∧ w.cell? ⟨S, k5 + 1, none⟩ = some (.int .i64 x.R) ∧ w.cell? ⟨S, k5 + 2, none⟩ = some (.int .i64 x.D) ∧ w.cell? ⟨S, k5 + 3, none⟩ = some (.int .i64 x.L) ∧ w.cell? ⟨S, k5 + 4, none⟩ = some (.int .i64 x.N) := by
  have hkl : k < jn := by have := h.jlen; have := (List.getElem?_eq_some_iff.1 hk).1; omega
  obtain ⟨S, rfl⟩ := h.jow.head (by omega)
  refine ⟨S, rfl, h.jow.lt, fun e => h.jg _ rfl e, ?_⟩
  exact ⟨h.jow.rowAt (jrows_even js) (jrows_at hk) h5 (i := 0) rfl, h.jow.rowAt (jrows_even js) (jrows_at hk) h5 (i := 1) rfl, h.jow.rowAt (jrows_even js) (jrows_at hk) h5 (i := 2) rfl, h.jow.rowAt (jrows_even js) (jrows_at hk) h5 (i := 3) rfl, h.jow.rowAt (jrows_even js) (jrows_at hk) h5 (i := 4) rfl⟩
theorem MS.tcell (h : MS w B g TA tn tc LA lc JA jn jc p ks js) {k k4 : Nat} {x : TkV} (hk : ks[k]? = some x) (h4 : k * 4 = k4) : ∃ S, TA = some ⟨S, 0, none⟩ ∧ S < w.heap.size ∧ S ≠ g ∧
    w.cell? ⟨S, k4, none⟩ = some (.int .i64 x.t.C) ∧ w.cell? ⟨S, k4 + 1, none⟩ = some (.int .i64 x.t.P) ∧ w.cell? ⟨S, k4 + 2, none⟩ = some (.int .i64 x.t.D) ∧ w.cell? ⟨S, k4 + 3, none⟩ = some (.int .i64 x.t.S) := by
  have hkl : k < tn := by have := h.klen; have := (List.getElem?_eq_some_iff.1 hk).1; omega
  have ht : (tsk ks)[k]? = some x.t := by unfold tsk; rw [List.getElem?_map, hk]; rfl
  obtain ⟨S, rfl⟩ := h.tow.head (by omega)
  refine ⟨S, rfl, h.tow.lt, fun e => h.tg _ rfl e, ?_⟩
  exact ⟨h.tow.rowAt (trows_even _) (trows_at ht) h4 (i := 0) rfl, h.tow.rowAt (trows_even _) (trows_at ht) h4 (i := 1) rfl, h.tow.rowAt (trows_even _) (trows_at ht) h4 (i := 2) rfl, h.tow.rowAt (trows_even _) (trows_at ht) h4 (i := 3) rfl⟩
set_option maxHeartbeats 1600000 in
theorem rahead_any (c0 : w.cell? ⟨g, 0, none⟩ = some (.int .i64 p)) (hg : g < w.heap.size) (a b : JobV) (r : Bool) (hr : Hid (r = ahd p a b)) :
    Calls Tryd.prog 36 #[.pointer (some ⟨g, 0, none⟩), a.val, b.val] w fun e w' => e = .returned (.bool r) ∧ Ext w w' := by
  obtain ⟨aT, aR, aD, aL, aN⟩ := a
  obtain ⟨bT, bR, bD, bL, bN⟩ := b
  have X1 := (Ext.refl w).alloc (.cells #[.int .i64 (aT : Int), .int .i64 aR, .int .i64 aD, .int .i64 aL, .int .i64 aN] 46)
  have b1 := heap_alloc_new w (.cells #[.int .i64 (aT : Int), .int .i64 aR, .int .i64 aD, .int .i64 aL, .int .i64 aN] 46)
  have X2 := (Ext.refl (w.alloc (.cells #[.int .i64 (aT : Int), .int .i64 aR, .int .i64 aD, .int .i64 aL, .int .i64 aN] 46))).alloc (.cells #[.int .i64 (bT : Int), .int .i64 bR, .int .i64 bD, .int .i64 bL, .int .i64 bN] 46)
  have b2 := heap_alloc_new (w.alloc (.cells #[.int .i64 (aT : Int), .int .i64 aR, .int .i64 aD, .int .i64 aL, .int .i64 aN] 46)) (.cells #[.int .i64 (bT : Int), .int .i64 bR, .int .i64 bD, .int .i64 bL, .int .i64 bN] 46)
  have b3 := (X2.block _ (block_lt b1)).trans b1
  have XX := X1.trans X2
  have d0 := (XX.cell (p := ⟨g, 0, none⟩) hg).trans c0
  have hz : (w.alloc (.cells #[.int .i64 (aT : Int), .int .i64 aR, .int .i64 aD, .int .i64 aL, .int .i64 aN] 46)).heap.size = w.heap.size + 1 := by simp
  rw [hz] at b2
  have HB := Lib.hid (And.intro b2 (And.intro b3 (And.intro d0 XX)))
  unfold JobV.val
  dsimp only
  have hr2 : Hid (r = if p = 1 then (if aD = bD then decide (aT < bT) else decide (aD < bD)) else decide (aT < bT)) := hr
  clear X1 X2 XX b1 b2 b3 d0 hz c0 hr hg
  go_enter Tryd.func36, Tryd.ntmps36
  go_upto_region 1 with (fail)
  generalize (w.alloc (.cells #[.int .i64 (aT : Int), .int .i64 aR, .int .i64 aD, .int .i64 aL, .int .i64 aN] 46)).alloc (.cells #[.int .i64 (bT : Int), .int .i64 bR, .int .i64 bD, .int .i64 bL, .int .i64 bN] 46) = V at *
  generalize hm : w.heap.size = m at *
  have HM := Lib.hid hm
  clear hm
  have d0 := HB.out.2.2.1
  have a0 : V.cell? ⟨m, 0, none⟩ = some (.int .i64 (aT : Int)) := block_cell HB.out.2.1 0
  have a2 : V.cell? ⟨m, 2, none⟩ = some (.int .i64 aD) := block_cell HB.out.2.1 2
  have q0 : V.cell? ⟨m + 1, 0, none⟩ = some (.int .i64 (bT : Int)) := block_cell HB.out.1 0
  have q2 : V.cell? ⟨m + 1, 2, none⟩ = some (.int .i64 bD) := block_cell HB.out.1 2
  obtain ⟨t, ht⟩ : ∃ t, decide (aT < bT) = t := ⟨_, rfl⟩
  obtain ⟨u, hu⟩ : ∃ u, decide (aD < bD) = u := ⟨_, rfl⟩
  have hr2 := hr2.out
  rw [ht, hu] at hr2
  have ht2 : decide ((aT : Int) < (bT : Int)) = t := by rw [← ht]; exact decide_eq_decide.2 (by omega)
  by_cases hp : p = 1
  · rw [if_pos hp] at hr2
    by_cases hd : aD = bD
    · rw [if_pos hd] at hr2
      have hb : (aD == bD) = true := by simpa using hd
      have hp1 : (p == 1) = true := by simpa using hp
      subst hr2
      clear hp hd hu
      go_wp2_with fail
      go_returns
      exact ⟨rfl, HB.out.2.2.2⟩
    · rw [if_neg hd] at hr2
      have hb : (aD == bD) = false := by simpa using hd
      have hp1 : (p == 1) = true := by simpa using hp
      subst hr2
      clear hp hd ht ht2
      go_wp2_with fail
      go_returns
      exact ⟨rfl, HB.out.2.2.2⟩
  · rw [if_neg hp] at hr2
    have hp1 : (p == 1) = false := by simpa using hp
    subst hr2
    clear hp hu
    go_wp2_with fail
    go_returns
    exact ⟨rfl, HB.out.2.2.2⟩
set_option maxHeartbeats 1600000 in
theorem rlate_any (h : MS w B g TA tn tc LA lc JA jn jc p ks js) (now : Int) : Calls Tryd.prog 30 #[.pointer (some ⟨g, 0, none⟩), .int .i64 now] w fun e w' => e = .returned (.int .i64 (lateN js now jn : Int)) ∧ Ext w w' := by
  have c3 := h.c3
  have hjn := h.jn64
  have HG := Lib.hid h
  clear h
  go_enter Tryd.func30, Tryd.ntmps30
  go_wp2_with fail
  clear c3
  go_loopw [5, 7, 13] (fun v5 _ v13 wr => ∃ k m : Nat, v5 = .int .i64 (m : Int) ∧ v13 = .int .i64 (k : Int) ∧ k ≤ jn ∧ m ≤ k ∧ Hid (m = lateN js now k ∧ Ext w wr)) (fun _ _ v13 _ => jn - (intOf v13).toNat)
  case atStart => exact ⟨0, 0, rfl, rfl, by omega, by omega, by simp [lateN], Ext.refl w⟩
  case round =>
    obtain ⟨k, m, rfl, rfl, hk, hm, HI⟩ := hrel
    by_cases hlt : k < jn
    · obtain ⟨x, hx⟩ : ∃ x, js[k]? = some x := ⟨js[k]'(by have := HG.out.jlen; omega), List.getElem?_eq_getElem _⟩
      obtain ⟨k5, hk5⟩ : ∃ k5, k * 5 = k5 := ⟨_, rfl⟩
      have h1 := HG.out.ex HI.out.2
      obtain ⟨S, rfl, _, _, c0, c1, c2, c3, c4⟩ := h1.jcell hx hk5
      have z0 : (0 : Int) ≤ k := by omega
      have z1 : (k : Int) < jn := by omega
      have HL := Lib.hid (lateN_succ (now := now) hx)
      clear h1 hx
      by_cases hd : x.D ≤ now
      · have HL2 := Lib.hid (show lateN js now (k + 1) = m + 1 by rw [HL.out, if_pos hd, HI.out.1])
        go_wp2_with fail
        go_roundw
        case rel => exact ⟨k + 1, m + 1, by go_num, by go_num, by omega, by omega, HL2.out.symm, HI.out.2.alloc _⟩
        case measure => simp [intOf]; omega
      · have HL2 := Lib.hid (show lateN js now (k + 1) = m by rw [HL.out, if_neg hd, HI.out.1]; omega)
        go_wp2_with fail
        go_roundw
        case rel => exact ⟨k + 1, m, rfl, by go_num, by omega, by omega, HL2.out.symm, HI.out.2.alloc _⟩
        case measure => simp [intOf]; omega
    · obtain rfl : jn = k := by omega
      go_wp2_with fail
      go_returns
      exact ⟨by rw [← HI.out.1]; rfl, HI.out.2⟩
end
end Go.Proofs.YtbpbmelfhgbogaaDoor
