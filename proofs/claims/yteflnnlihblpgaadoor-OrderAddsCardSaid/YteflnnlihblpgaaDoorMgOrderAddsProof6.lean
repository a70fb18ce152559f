/-
  Package order: keyOf, slices.Equal of tasks, Same, walked.
-/
import Derived.Test.YteflnnlihblpgaaDoorMgOrderAddsProof5
import Derived.Deep.CutRange
namespace Go.Proofs.YteflnnlihblpgaaDoor
set_option maxRecDepth 100000
open Go.RowKit
set_option linter.unusedVariables false
theorem eql_key (a b x y : Int) (w : World) : (binOp .eql 91 (.agg #[.int .i64 a, .int .i64 b]) (.agg #[.int .i64 x, .int .i64 y])).run Tryd.prog w = .ok (.bool (decide (a = x ∧ b = y))) w := by
  by_cases h1 : a = x
  · by_cases h2 : b = y
    · subst h1 h2; go_simp
    · subst h1; go_simp
  · go_simp
theorem heap4 (w : World) (a b c d : Obj) : ((((w.alloc a).alloc b).alloc c).alloc d).heap[w.heap.size]? = some a ∧ ((((w.alloc a).alloc b).alloc c).alloc d).heap[w.heap.size + 1]? = some b ∧ ((((w.alloc a).alloc b).alloc c).alloc d).heap[w.heap.size + 1 + 1]? = some c ∧ ((((w.alloc a).alloc b).alloc c).alloc d).heap[w.heap.size + 1 + 1 + 1]? = some d ∧ Ext w ((((w.alloc a).alloc b).alloc c).alloc d) := by
  have h1 := heap_alloc_new w a
  have h2 := heap_alloc_new (w.alloc a) b
  have h3 := heap_alloc_new ((w.alloc a).alloc b) c
  have h4 := heap_alloc_new (((w.alloc a).alloc b).alloc c) d
  simp only [World.size_alloc] at h2 h3 h4
  have x3 := (Ext.refl (((w.alloc a).alloc b).alloc c)).alloc d
  have x2 := ((Ext.refl ((w.alloc a).alloc b)).alloc c).alloc d
  have x1 := (((Ext.refl (w.alloc a)).alloc b).alloc c).alloc d
  exact ⟨(x1.block _ (block_lt h1)).trans h1, (x2.block _ (block_lt h2)).trans h2, (x3.block _ (block_lt h3)).trans h3, h4, ((((Ext.refl w).alloc a).alloc b).alloc c).alloc d⟩
set_option maxHeartbeats 800000 in
theorem keyof_any (s : EnS) (w : World) : Calls Tryd.prog 48 #[.agg #[.int .i64 s.e.cl, .int .i64 s.e.nu, .int .i64 s.e.kd, .int .i64 s.e.id, .int .i64 s.e.sk, .int .i64 s.e.sq, .int .i64 s.e.st, .int .i64 s.e.pol, .slice s.A s.n s.c, .int .i64 s.e.at_]] w fun x w' => x = .returned (.agg #[.int .i64 s.e.cl, .int .i64 s.e.nu]) ∧ Ext w w' := by
  go_enter Tryd.func48, Tryd.ntmps48
  go_wp2_with fail
  go_returns
  exact ⟨rfl, ((Ext.refl w).alloc _).alloc _⟩
set_option maxHeartbeats 1600000 in
theorem equal_any (s t : EnS) (w : World) (hs : s.Lies w) (ht : t.Lies w) (b : Bool) (hb : Hid (decide (s.e.ts = t.e.ts) = b)) : Calls Tryd.prog 50 #[.slice s.A s.n s.c, .slice t.A t.n t.c] w fun x w' => x = .returned (.bool b) ∧ Ext w w' := by
  have hsl := hs.len
  have htl := ht.len
  have hsn := hs.le
  have htn := ht.le
  have HR := Lib.hid (And.intro hs.rd ht.rd)
  clear hs ht
  by_cases hn : s.n = t.n
  rotate_left 1
  · have nn : ((s.n : Int) != (t.n : Int)) = true := by simp; omega
    obtain rfl : b = false := by rw [← hb.out]; exact decide_eq_false (fun h => hn (by have := congrArg List.length h; omega))
    clear hn
    go_enter Tryd.func50, Tryd.ntmps50
    go_wp2_with fail
    go_returns
    exact ⟨rfl, Ext.refl w⟩
  have nn : ((s.n : Int) != (t.n : Int)) = false := by simp; omega
  have hst : s.n ≤ t.n ∧ t.n ≤ s.n := by omega
  clear hn
  go_enter Tryd.func50, Tryd.ntmps50
  go_upto_region 4 with (fail)
  clear nn
  go_loopw [5, 13] (fun _ v13 wr => ∃ k : Nat, v13 = .int .i64 (k : Int) ∧ k ≤ s.n ∧ Hid (Ext w wr ∧ ∀ j, j < k → s.e.ts[j]? = t.e.ts[j]?)) (fun _ v13 _ => s.n - (intOf v13).toNat)
  case atStart => exact ⟨0, rfl, by omega, Ext.refl w, fun j hj => by omega⟩
  case round =>
    obtain ⟨k, rfl, hk, HI⟩ := hrel
    by_cases hlt : k < s.n
    · obtain ⟨x, hx⟩ : ∃ x, s.e.ts[k]? = some x := ⟨s.e.ts[k]'(by omega), List.getElem?_eq_getElem _⟩
      obtain ⟨y, hy⟩ : ∃ y, t.e.ts[k]? = some y := ⟨t.e.ts[k]'(by omega), List.getElem?_eq_getElem _⟩
      obtain ⟨k4, hk4⟩ : ∃ k4, k * 4 = k4 := ⟨_, rfl⟩
      obtain ⟨ad, hA, y0, y1, y2, y3⟩ := (HR.out.1.ext HI.out.1).task hx hk4
      obtain ⟨ae, hB, z0, z1, z2, z3⟩ := (HR.out.2.ext HI.out.1).task hy hk4
      have k0 : (0 : Int) ≤ k := by omega
      have k1 : (k : Int) < s.n := by omega
      have k2 : (k : Int) < t.n := by omega
      have rt := fun W => neq_task x y W
      have HX := Lib.hid (And.intro hx hy)
      rw [hA, hB]
      clear hx hy
      by_cases he : x = y
      · have e1 : decide (x = y) = true := decide_eq_true he
        rw [e1] at rt
        have HE := Lib.hid he
        clear he e1
        go_upto_region 6 with (fail)
        go_quiet (fail)
        go_wp2_with fail
        go_roundw
        case rel => exact ⟨k + 1, by go_num, by omega, HI.out.1.drewN _, fun j hj => by
          by_cases e : j = k
          · rw [e, HX.out.1, HX.out.2, HE.out]
          · exact HI.out.2 j (by omega)⟩
        case measure => simp [intOf]; omega
      · have e1 : decide (x = y) = false := decide_eq_false he
        rw [e1] at rt
        obtain rfl : b = false := by
          rw [← hb.out]
          exact decide_eq_false (fun h => he (by have := HX.out.1; rw [h, HX.out.2] at this; injection this with this; exact this.symm))
        clear he e1
        go_upto_region 6 with (fail)
        go_quiet (fail)
        go_wp2_with fail
        go_returns
        exact ⟨rfl, HI.out.1.drewN _⟩
    · have e : b = true := by
        rw [← hb.out]
        exact decide_eq_true (List.ext_getElem? fun j => by
          rcases Nat.lt_or_ge j k with h | h
          · exact HI.out.2 j h
          · rw [List.getElem?_eq_none (by omega), List.getElem?_eq_none (by omega)])
      subst e
      go_wp2_with fail
      go_returns
      exact ⟨rfl, HI.out.1⟩
set_option maxHeartbeats 3200000 in
theorem same_any (s t : EnS) (w : World) (hs : s.Lies w) (ht : t.Lies w) (b : Bool) (hb : Hid (decide (s.e = t.e) = b)) : Calls Tryd.prog 23 #[.agg #[.int .i64 s.e.cl, .int .i64 s.e.nu, .int .i64 s.e.kd, .int .i64 s.e.id, .int .i64 s.e.sk, .int .i64 s.e.sq, .int .i64 s.e.st, .int .i64 s.e.pol, .slice s.A s.n s.c, .int .i64 s.e.at_], .agg #[.int .i64 t.e.cl, .int .i64 t.e.nu, .int .i64 t.e.kd, .int .i64 t.e.id, .int .i64 t.e.sk, .int .i64 t.e.sq, .int .i64 t.e.st, .int .i64 t.e.pol, .slice t.A t.n t.c, .int .i64 t.e.at_]] w fun x w' => x = .returned (.bool b) ∧ Ext w w' := by
  have HS := Lib.hid (And.intro hs ht)
  have X1 := (Ext.refl w).alloc (.cells #[.int .i64 s.e.cl, .int .i64 s.e.nu, .int .i64 s.e.kd, .int .i64 s.e.id, .int .i64 s.e.sk, .int .i64 s.e.sq, .int .i64 s.e.st, .int .i64 s.e.pol, .slice s.A s.n s.c, .int .i64 s.e.at_] 29)
  have X2 := X1.alloc (.cells #[.int .i64 t.e.cl, .int .i64 t.e.nu, .int .i64 t.e.kd, .int .i64 t.e.id, .int .i64 t.e.sk, .int .i64 t.e.sq, .int .i64 t.e.st, .int .i64 t.e.pol, .slice t.A t.n t.c, .int .i64 t.e.at_] 29)
  have b1 := heap_alloc_new w (.cells #[.int .i64 s.e.cl, .int .i64 s.e.nu, .int .i64 s.e.kd, .int .i64 s.e.id, .int .i64 s.e.sk, .int .i64 s.e.sq, .int .i64 s.e.st, .int .i64 s.e.pol, .slice s.A s.n s.c, .int .i64 s.e.at_] 29)
  have b2 := heap_alloc_new (w.alloc (.cells #[.int .i64 s.e.cl, .int .i64 s.e.nu, .int .i64 s.e.kd, .int .i64 s.e.id, .int .i64 s.e.sk, .int .i64 s.e.sq, .int .i64 s.e.st, .int .i64 s.e.pol, .slice s.A s.n s.c, .int .i64 s.e.at_] 29)) (.cells #[.int .i64 t.e.cl, .int .i64 t.e.nu, .int .i64 t.e.kd, .int .i64 t.e.id, .int .i64 t.e.sk, .int .i64 t.e.sq, .int .i64 t.e.st, .int .i64 t.e.pol, .slice t.A t.n t.c, .int .i64 t.e.at_] 29)
  rw [World.size_alloc] at b2
  have b3 := (((Ext.refl (w.alloc (.cells #[.int .i64 s.e.cl, .int .i64 s.e.nu, .int .i64 s.e.kd, .int .i64 s.e.id, .int .i64 s.e.sk, .int .i64 s.e.sq, .int .i64 s.e.st, .int .i64 s.e.pol, .slice s.A s.n s.c, .int .i64 s.e.at_] 29))).alloc (.cells #[.int .i64 t.e.cl, .int .i64 t.e.nu, .int .i64 t.e.kd, .int .i64 t.e.id, .int .i64 t.e.sk, .int .i64 t.e.sq, .int .i64 t.e.st, .int .i64 t.e.pol, .slice t.A t.n t.c, .int .i64 t.e.at_] 29)).block _ (block_lt b1)).trans b1
  have HV := Lib.hid (And.intro b3 (And.intro b2 X2))
  clear X1 X2 b1 b2 b3
  clear hs ht
  go_enter Tryd.func23, Tryd.ntmps23
  go_upto_region 1 with (fail)
  go_cut [5, 6] from 7 (fun p q wx => ∃ B C : Nat, p = .pointer (some ⟨B, 0, none⟩) ∧ q = .pointer (some ⟨C, 0, none⟩) ∧ Hid (wx.heap[w.heap.size]? = some (.cells #[.int .i64 s.e.cl, .int .i64 s.e.nu, .int .i64 s.e.kd, .int .i64 s.e.id, .int .i64 s.e.sk, .int .i64 s.e.sq, .int .i64 s.e.st, .int .i64 s.e.pol, .slice s.A s.n s.c, .int .i64 s.e.at_] 29) ∧ wx.heap[w.heap.size + 1]? = some (.cells #[.int .i64 t.e.cl, .int .i64 t.e.nu, .int .i64 t.e.kd, .int .i64 t.e.id, .int .i64 t.e.sk, .int .i64 t.e.sq, .int .i64 t.e.st, .int .i64 t.e.pol, .slice t.A t.n t.c, .int .i64 t.e.at_] 29) ∧ wx.heap[B]? = some (.cells #[.int .i64 s.e.kd, .int .i64 s.e.id, .int .i64 s.e.sk, .int .i64 s.e.sq, .int .i64 s.e.st, .int .i64 s.e.pol, .slice s.A s.n s.c, .int .i64 s.e.at_] 27) ∧ wx.heap[C]? = some (.cells #[.int .i64 t.e.kd, .int .i64 t.e.id, .int .i64 t.e.sk, .int .i64 t.e.sq, .int .i64 t.e.st, .int .i64 t.e.pol, .slice t.A t.n t.c, .int .i64 t.e.at_] 27) ∧ Ext w wx))
  case first =>
    go_region
    all_goals
      go_wp2_with fail
      go_meet
    case rel =>
      have h := heap4 w (.cells #[.int .i64 s.e.cl, .int .i64 s.e.nu, .int .i64 s.e.kd, .int .i64 s.e.id, .int .i64 s.e.sk, .int .i64 s.e.sq, .int .i64 s.e.st, .int .i64 s.e.pol, .slice s.A s.n s.c, .int .i64 s.e.at_] 29) (.cells #[.int .i64 t.e.cl, .int .i64 t.e.nu, .int .i64 t.e.kd, .int .i64 t.e.id, .int .i64 t.e.sk, .int .i64 t.e.sq, .int .i64 t.e.st, .int .i64 t.e.pol, .slice t.A t.n t.c, .int .i64 t.e.at_] 29) (.cells #[.int .i64 s.e.kd, .int .i64 s.e.id, .int .i64 s.e.sk, .int .i64 s.e.sq, .int .i64 s.e.st, .int .i64 s.e.pol, .slice s.A s.n s.c, .int .i64 s.e.at_] 27) (.cells #[.int .i64 t.e.kd, .int .i64 t.e.id, .int .i64 t.e.sk, .int .i64 t.e.sq, .int .i64 t.e.st, .int .i64 t.e.pol, .slice t.A t.n t.c, .int .i64 t.e.at_] 27)
      exact ⟨_, _, rfl, rfl, Lib.hid ⟨h.1, h.2.1, h.2.2.1, h.2.2.2.1, h.2.2.2.2.drew⟩⟩
    case rel =>
      have h := heap4 w (.cells #[.int .i64 s.e.cl, .int .i64 s.e.nu, .int .i64 s.e.kd, .int .i64 s.e.id, .int .i64 s.e.sk, .int .i64 s.e.sq, .int .i64 s.e.st, .int .i64 s.e.pol, .slice s.A s.n s.c, .int .i64 s.e.at_] 29) (.cells #[.int .i64 t.e.cl, .int .i64 t.e.nu, .int .i64 t.e.kd, .int .i64 t.e.id, .int .i64 t.e.sk, .int .i64 t.e.sq, .int .i64 t.e.st, .int .i64 t.e.pol, .slice t.A t.n t.c, .int .i64 t.e.at_] 29) (.cells #[.int .i64 t.e.kd, .int .i64 t.e.id, .int .i64 t.e.sk, .int .i64 t.e.sq, .int .i64 t.e.st, .int .i64 t.e.pol, .slice t.A t.n t.c, .int .i64 t.e.at_] 27) (.cells #[.int .i64 s.e.kd, .int .i64 s.e.id, .int .i64 s.e.sk, .int .i64 s.e.sq, .int .i64 s.e.st, .int .i64 s.e.pol, .slice s.A s.n s.c, .int .i64 s.e.at_] 27)
      exact ⟨_, _, rfl, rfl, Lib.hid ⟨h.1, h.2.1, h.2.2.2.1, h.2.2.1, h.2.2.2.2.drew⟩⟩
  case rest =>
    obtain ⟨B, C, rfl, rfl, HC⟩ := hcut
    generalize w.heap.size = ob at *
    have EQ := Lib.hid (fun W (hx : Ext wc W) (b : Bool) hb => equal_any s t W ((HS.out.1.ext HC.out.2.2.2.2).ext hx) ((HS.out.2.ext HC.out.2.2.2.2).ext hx) b hb)
    clear HV
    have c0 : ∀ W, Ext wc W → W.cell? ⟨ob, 0, none⟩ = some (.int .i64 s.e.cl) := fun W hx => block_cell ((hx.block _ (block_lt (HC.out.1))).trans (HC.out.1)) 0
    have c1 : ∀ W, Ext wc W → W.cell? ⟨ob, 1, none⟩ = some (.int .i64 s.e.nu) := fun W hx => block_cell ((hx.block _ (block_lt (HC.out.1))).trans (HC.out.1)) 1
    have c2 : ∀ W, Ext wc W → W.cell? ⟨ob, 2, none⟩ = some (.int .i64 s.e.kd) := fun W hx => block_cell ((hx.block _ (block_lt (HC.out.1))).trans (HC.out.1)) 2
    have c3 : ∀ W, Ext wc W → W.cell? ⟨ob, 3, none⟩ = some (.int .i64 s.e.id) := fun W hx => block_cell ((hx.block _ (block_lt (HC.out.1))).trans (HC.out.1)) 3
    have c4 : ∀ W, Ext wc W → W.cell? ⟨ob, 4, none⟩ = some (.int .i64 s.e.sk) := fun W hx => block_cell ((hx.block _ (block_lt (HC.out.1))).trans (HC.out.1)) 4
    have c5 : ∀ W, Ext wc W → W.cell? ⟨ob, 5, none⟩ = some (.int .i64 s.e.sq) := fun W hx => block_cell ((hx.block _ (block_lt (HC.out.1))).trans (HC.out.1)) 5
    have c6 : ∀ W, Ext wc W → W.cell? ⟨ob, 6, none⟩ = some (.int .i64 s.e.st) := fun W hx => block_cell ((hx.block _ (block_lt (HC.out.1))).trans (HC.out.1)) 6
    have c7 : ∀ W, Ext wc W → W.cell? ⟨ob, 7, none⟩ = some (.int .i64 s.e.pol) := fun W hx => block_cell ((hx.block _ (block_lt (HC.out.1))).trans (HC.out.1)) 7
    have c8 : ∀ W, Ext wc W → W.cell? ⟨ob, 8, none⟩ = some (.slice s.A s.n s.c) := fun W hx => block_cell ((hx.block _ (block_lt (HC.out.1))).trans (HC.out.1)) 8
    have c9 : ∀ W, Ext wc W → W.cell? ⟨ob, 9, none⟩ = some (.int .i64 s.e.at_) := fun W hx => block_cell ((hx.block _ (block_lt (HC.out.1))).trans (HC.out.1)) 9
    have d0 : ∀ W, Ext wc W → W.cell? ⟨ob + 1, 0, none⟩ = some (.int .i64 t.e.cl) := fun W hx => block_cell ((hx.block _ (block_lt (HC.out.2.1))).trans (HC.out.2.1)) 0
    have d1 : ∀ W, Ext wc W → W.cell? ⟨ob + 1, 1, none⟩ = some (.int .i64 t.e.nu) := fun W hx => block_cell ((hx.block _ (block_lt (HC.out.2.1))).trans (HC.out.2.1)) 1
    have d2 : ∀ W, Ext wc W → W.cell? ⟨ob + 1, 2, none⟩ = some (.int .i64 t.e.kd) := fun W hx => block_cell ((hx.block _ (block_lt (HC.out.2.1))).trans (HC.out.2.1)) 2
    have d3 : ∀ W, Ext wc W → W.cell? ⟨ob + 1, 3, none⟩ = some (.int .i64 t.e.id) := fun W hx => block_cell ((hx.block _ (block_lt (HC.out.2.1))).trans (HC.out.2.1)) 3
    have d4 : ∀ W, Ext wc W → W.cell? ⟨ob + 1, 4, none⟩ = some (.int .i64 t.e.sk) := fun W hx => block_cell ((hx.block _ (block_lt (HC.out.2.1))).trans (HC.out.2.1)) 4
    have d5 : ∀ W, Ext wc W → W.cell? ⟨ob + 1, 5, none⟩ = some (.int .i64 t.e.sq) := fun W hx => block_cell ((hx.block _ (block_lt (HC.out.2.1))).trans (HC.out.2.1)) 5
    have d6 : ∀ W, Ext wc W → W.cell? ⟨ob + 1, 6, none⟩ = some (.int .i64 t.e.st) := fun W hx => block_cell ((hx.block _ (block_lt (HC.out.2.1))).trans (HC.out.2.1)) 6
    have d7 : ∀ W, Ext wc W → W.cell? ⟨ob + 1, 7, none⟩ = some (.int .i64 t.e.pol) := fun W hx => block_cell ((hx.block _ (block_lt (HC.out.2.1))).trans (HC.out.2.1)) 7
    have d8 : ∀ W, Ext wc W → W.cell? ⟨ob + 1, 8, none⟩ = some (.slice t.A t.n t.c) := fun W hx => block_cell ((hx.block _ (block_lt (HC.out.2.1))).trans (HC.out.2.1)) 8
    have d9 : ∀ W, Ext wc W → W.cell? ⟨ob + 1, 9, none⟩ = some (.int .i64 t.e.at_) := fun W hx => block_cell ((hx.block _ (block_lt (HC.out.2.1))).trans (HC.out.2.1)) 9
    have p0 : ∀ W, Ext wc W → W.cell? ⟨B, 0, none⟩ = some (.int .i64 s.e.kd) := fun W hx => block_cell ((hx.block _ (block_lt (HC.out.2.2.1))).trans (HC.out.2.2.1)) 0
    have p1 : ∀ W, Ext wc W → W.cell? ⟨B, 1, none⟩ = some (.int .i64 s.e.id) := fun W hx => block_cell ((hx.block _ (block_lt (HC.out.2.2.1))).trans (HC.out.2.2.1)) 1
    have p2 : ∀ W, Ext wc W → W.cell? ⟨B, 2, none⟩ = some (.int .i64 s.e.sk) := fun W hx => block_cell ((hx.block _ (block_lt (HC.out.2.2.1))).trans (HC.out.2.2.1)) 2
    have p3 : ∀ W, Ext wc W → W.cell? ⟨B, 3, none⟩ = some (.int .i64 s.e.sq) := fun W hx => block_cell ((hx.block _ (block_lt (HC.out.2.2.1))).trans (HC.out.2.2.1)) 3
    have p4 : ∀ W, Ext wc W → W.cell? ⟨B, 4, none⟩ = some (.int .i64 s.e.st) := fun W hx => block_cell ((hx.block _ (block_lt (HC.out.2.2.1))).trans (HC.out.2.2.1)) 4
    have p5 : ∀ W, Ext wc W → W.cell? ⟨B, 5, none⟩ = some (.int .i64 s.e.pol) := fun W hx => block_cell ((hx.block _ (block_lt (HC.out.2.2.1))).trans (HC.out.2.2.1)) 5
    have p6 : ∀ W, Ext wc W → W.cell? ⟨B, 6, none⟩ = some (.slice s.A s.n s.c) := fun W hx => block_cell ((hx.block _ (block_lt (HC.out.2.2.1))).trans (HC.out.2.2.1)) 6
    have p7 : ∀ W, Ext wc W → W.cell? ⟨B, 7, none⟩ = some (.int .i64 s.e.at_) := fun W hx => block_cell ((hx.block _ (block_lt (HC.out.2.2.1))).trans (HC.out.2.2.1)) 7
    have q0 : ∀ W, Ext wc W → W.cell? ⟨C, 0, none⟩ = some (.int .i64 t.e.kd) := fun W hx => block_cell ((hx.block _ (block_lt (HC.out.2.2.2.1))).trans (HC.out.2.2.2.1)) 0
    have q1 : ∀ W, Ext wc W → W.cell? ⟨C, 1, none⟩ = some (.int .i64 t.e.id) := fun W hx => block_cell ((hx.block _ (block_lt (HC.out.2.2.2.1))).trans (HC.out.2.2.2.1)) 1
    have q2 : ∀ W, Ext wc W → W.cell? ⟨C, 2, none⟩ = some (.int .i64 t.e.sk) := fun W hx => block_cell ((hx.block _ (block_lt (HC.out.2.2.2.1))).trans (HC.out.2.2.2.1)) 2
    have q3 : ∀ W, Ext wc W → W.cell? ⟨C, 3, none⟩ = some (.int .i64 t.e.sq) := fun W hx => block_cell ((hx.block _ (block_lt (HC.out.2.2.2.1))).trans (HC.out.2.2.2.1)) 3
    have q4 : ∀ W, Ext wc W → W.cell? ⟨C, 4, none⟩ = some (.int .i64 t.e.st) := fun W hx => block_cell ((hx.block _ (block_lt (HC.out.2.2.2.1))).trans (HC.out.2.2.2.1)) 4
    have q5 : ∀ W, Ext wc W → W.cell? ⟨C, 5, none⟩ = some (.int .i64 t.e.pol) := fun W hx => block_cell ((hx.block _ (block_lt (HC.out.2.2.2.1))).trans (HC.out.2.2.2.1)) 5
    have q6 : ∀ W, Ext wc W → W.cell? ⟨C, 6, none⟩ = some (.slice t.A t.n t.c) := fun W hx => block_cell ((hx.block _ (block_lt (HC.out.2.2.2.1))).trans (HC.out.2.2.2.1)) 6
    have q7 : ∀ W, Ext wc W → W.cell? ⟨C, 7, none⟩ = some (.int .i64 t.e.at_) := fun W hx => block_cell ((hx.block _ (block_lt (HC.out.2.2.2.1))).trans (HC.out.2.2.2.1)) 7
    have XW := Lib.hid HC.out.2.2.2.2
    obtain ⟨kb, hkb⟩ : ∃ kb, decide (s.e.cl = t.e.cl ∧ s.e.nu = t.e.nu) = kb := ⟨_, rfl⟩
    have rk := fun W => eql_key s.e.cl s.e.nu t.e.cl t.e.nu W
    rw [hkb] at rk
    have HKB := Lib.hid hkb
    clear hkb
    obtain ⟨sv, hsv⟩ : ∃ sv, decide (s.e.sk = t.e.sk ∧ s.e.sq = t.e.sq ∧ s.e.st = t.e.st) = sv := ⟨_, rfl⟩
    have rs := fun W => eql_server2 s.e.sk s.e.sq s.e.st t.e.sk t.e.sq t.e.st W
    rw [hsv] at rs
    have HSV := Lib.hid hsv
    clear hsv
    cases kb with
    | false =>
      obtain rfl : b = false := by rw [← hb.out]; exact decide_eq_false (fun h => of_decide_eq_false HKB.out ⟨((en_eq _ _).1 h).1, ((en_eq _ _).1 h).2.1⟩)
      go_upto_region 2 with (fail)
      refine w_region (fun w1 => Ext wc w1) [] (by kernel_rfl) ((Ext.refl wc).drew) ?_
      refine w_take (i := 0) (v := ?_) [] (some 11) rfl (by rfl) (by kernel_rfl) (by kernel_rfl) (by kernel_rfl) (by kernel_rfl) (by kernel_rfl) (by kernel_rfl) (fun _ _ _ h => h) (YieldsIf.yieldsW (.inl ⟨by rfl, ?_⟩)) ?_
      rotate_left 1
      · (intro W hW; (try dsimp only at hW); go_simp; try with_reducible rfl)
      try simp only [Act.put, List.setIfInBounds_toArray, List.set_cons_zero, List.set_cons_succ]
      refine w_take (i := 1) (v := (.agg #[.int .i64 s.e.cl, .int .i64 s.e.nu])) [] (some 12) rfl (by rfl) (by kernel_rfl) (by kernel_rfl) (by kernel_rfl) (by kernel_rfl) (by kernel_rfl) (by kernel_rfl) (fun _ _ _ h => h) (.inl ⟨by rfl, ?_⟩) ?_
      · (intro W hW; refine .inr ⟨_, _, _, ?_, ((keyof_any s W).mono fun _ _ ⟨h1, h2⟩ => ⟨h1, hW.trans h2⟩)⟩; go_simp; try with_reducible rfl)
      try simp only [Act.put, List.setIfInBounds_toArray, List.set_cons_zero, List.set_cons_succ]
      refine w_take (i := 2) (v := ?_) [] (some 13) rfl (by rfl) (by kernel_rfl) (by kernel_rfl) (by kernel_rfl) (by kernel_rfl) (by kernel_rfl) (by kernel_rfl) (fun _ _ _ h => h) (YieldsIf.yieldsW (.inl ⟨by rfl, ?_⟩)) ?_
      rotate_left 1
      · (intro W hW; (try dsimp only at hW); go_simp; try with_reducible rfl)
      try simp only [Act.put, List.setIfInBounds_toArray, List.set_cons_zero, List.set_cons_succ]
      refine w_take (i := 3) (v := (.agg #[.int .i64 t.e.cl, .int .i64 t.e.nu])) [] (some 14) rfl (by rfl) (by kernel_rfl) (by kernel_rfl) (by kernel_rfl) (by kernel_rfl) (by kernel_rfl) (by kernel_rfl) (fun _ _ _ h => h) (.inl ⟨by rfl, ?_⟩) ?_
      · (intro W hW; refine .inr ⟨_, _, _, ?_, ((keyof_any t W).mono fun _ _ ⟨h1, h2⟩ => ⟨h1, hW.trans h2⟩)⟩; go_simp; try with_reducible rfl)
      try simp only [Act.put, List.setIfInBounds_toArray, List.set_cons_zero, List.set_cons_succ]
      refine w_take (i := 4) (v := ?_) [] (some 15) rfl (by rfl) (by kernel_rfl) (by kernel_rfl) (by kernel_rfl) (by kernel_rfl) (by kernel_rfl) (by kernel_rfl) (fun _ _ _ h => h) (YieldsIf.yieldsW (.inl ⟨by rfl, ?_⟩)) ?_
      rotate_left 1
      · (intro W hW; (try dsimp only at hW); go_simp; try with_reducible rfl)
      try simp only [Act.put, List.setIfInBounds_toArray, List.set_cons_zero, List.set_cons_succ]
      refine w_take (i := 5) (v := ?_) [] (some 16) rfl (by rfl) (by kernel_rfl) (by kernel_rfl) (by kernel_rfl) (by kernel_rfl) (by kernel_rfl) (by kernel_rfl) (fun _ _ _ h => h) (YieldsIf.yieldsW (.inl ⟨by rfl, ?_⟩)) ?_
      rotate_left 1
      · (intro W hW; (try dsimp only at hW); go_simp; try with_reducible rfl)
      try simp only [Act.put, List.setIfInBounds_toArray, List.set_cons_zero, List.set_cons_succ]
      refine w_take (i := 6) (v := undef) [] (some 17) rfl (by rfl) (by kernel_rfl) (by kernel_rfl) (by kernel_rfl) (by kernel_rfl) (by kernel_rfl) (by kernel_rfl) (fun _ _ _ h => h) (.inr ⟨by rfl, rfl⟩) ?_
      try simp only [Act.put, List.setIfInBounds_toArray, List.set_cons_zero, List.set_cons_succ]
      refine w_take (i := 7) (v := undef) [] (some 18) rfl (by rfl) (by kernel_rfl) (by kernel_rfl) (by kernel_rfl) (by kernel_rfl) (by kernel_rfl) (by kernel_rfl) (fun _ _ _ h => h) (.inr ⟨by rfl, rfl⟩) ?_
      try simp only [Act.put, List.setIfInBounds_toArray, List.set_cons_zero, List.set_cons_succ]
      refine w_take (i := 8) (v := undef) [] (some 19) rfl (by rfl) (by kernel_rfl) (by kernel_rfl) (by kernel_rfl) (by kernel_rfl) (by kernel_rfl) (by kernel_rfl) (fun _ _ _ h => h) (.inr ⟨by rfl, rfl⟩) ?_
      try simp only [Act.put, List.setIfInBounds_toArray, List.set_cons_zero, List.set_cons_succ]
      refine w_take (i := 9) (v := undef) [] (some 20) rfl (by rfl) (by kernel_rfl) (by kernel_rfl) (by kernel_rfl) (by kernel_rfl) (by kernel_rfl) (by kernel_rfl) (fun _ _ _ h => h) (.inr ⟨by rfl, rfl⟩) ?_
      try simp only [Act.put, List.setIfInBounds_toArray, List.set_cons_zero, List.set_cons_succ]
      refine w_take (i := 10) (v := undef) [] (some 21) rfl (by rfl) (by kernel_rfl) (by kernel_rfl) (by kernel_rfl) (by kernel_rfl) (by kernel_rfl) (by kernel_rfl) (fun _ _ _ h => h) (.inr ⟨by rfl, rfl⟩) ?_
      try simp only [Act.put, List.setIfInBounds_toArray, List.set_cons_zero, List.set_cons_succ]
      refine w_take (i := 11) (v := ?_) [] (some 22) rfl (by rfl) (by kernel_rfl) (by kernel_rfl) (by kernel_rfl) (by kernel_rfl) (by kernel_rfl) (by kernel_rfl) (fun _ _ _ h => h) (YieldsIf.yieldsW (.inl ⟨by rfl, ?_⟩)) ?_
      rotate_left 1
      · (intro W hW; (try dsimp only at hW); go_simp; try with_reducible rfl)
      try simp only [Act.put, List.setIfInBounds_toArray, List.set_cons_zero, List.set_cons_succ]
      refine w_take (i := 12) (v := ?_) [] (some 23) rfl (by rfl) (by kernel_rfl) (by kernel_rfl) (by kernel_rfl) (by kernel_rfl) (by kernel_rfl) (by kernel_rfl) (fun _ _ _ h => h) (YieldsIf.yieldsW (.inl ⟨by rfl, ?_⟩)) ?_
      rotate_left 1
      · (intro W hW; (try dsimp only at hW); go_simp; try with_reducible rfl)
      try simp only [Act.put, List.setIfInBounds_toArray, List.set_cons_zero, List.set_cons_succ]
      refine w_take (i := 13) (v := undef) [] (some 24) rfl (by rfl) (by kernel_rfl) (by kernel_rfl) (by kernel_rfl) (by kernel_rfl) (by kernel_rfl) (by kernel_rfl) (fun _ _ _ h => h) (.inr ⟨by rfl, rfl⟩) ?_
      try simp only [Act.put, List.setIfInBounds_toArray, List.set_cons_zero, List.set_cons_succ]
      refine w_take (i := 14) (v := undef) [] (some 25) rfl (by rfl) (by kernel_rfl) (by kernel_rfl) (by kernel_rfl) (by kernel_rfl) (by kernel_rfl) (by kernel_rfl) (fun _ _ _ h => h) (.inr ⟨by rfl, rfl⟩) ?_
      try simp only [Act.put, List.setIfInBounds_toArray, List.set_cons_zero, List.set_cons_succ]
      refine w_take (i := 15) (v := undef) [] (some 26) rfl (by rfl) (by kernel_rfl) (by kernel_rfl) (by kernel_rfl) (by kernel_rfl) (by kernel_rfl) (by kernel_rfl) (fun _ _ _ h => h) (.inr ⟨by rfl, rfl⟩) ?_
      try simp only [Act.put, List.setIfInBounds_toArray, List.set_cons_zero, List.set_cons_succ]
      refine w_take (i := 16) (v := undef) [] (some 27) rfl (by rfl) (by kernel_rfl) (by kernel_rfl) (by kernel_rfl) (by kernel_rfl) (by kernel_rfl) (by kernel_rfl) (fun _ _ _ h => h) (.inr ⟨by rfl, rfl⟩) ?_
      try simp only [Act.put, List.setIfInBounds_toArray, List.set_cons_zero, List.set_cons_succ]
      refine w_take (i := 17) (v := undef) [] (some 28) rfl (by rfl) (by kernel_rfl) (by kernel_rfl) (by kernel_rfl) (by kernel_rfl) (by kernel_rfl) (by kernel_rfl) (fun _ _ _ h => h) (.inr ⟨by rfl, rfl⟩) ?_
      try simp only [Act.put, List.setIfInBounds_toArray, List.set_cons_zero, List.set_cons_succ]
      refine w_take (i := 18) (v := ?_) [] (some 29) rfl (by rfl) (by kernel_rfl) (by kernel_rfl) (by kernel_rfl) (by kernel_rfl) (by kernel_rfl) (by kernel_rfl) (fun _ _ _ h => h) (YieldsIf.yieldsW (.inl ⟨by rfl, ?_⟩)) ?_
      rotate_left 1
      · (intro W hW; (try dsimp only at hW); go_simp; try with_reducible rfl)
      try simp only [Act.put, List.setIfInBounds_toArray, List.set_cons_zero, List.set_cons_succ]
      refine w_take (i := 19) (v := ?_) [] (some 30) rfl (by rfl) (by kernel_rfl) (by kernel_rfl) (by kernel_rfl) (by kernel_rfl) (by kernel_rfl) (by kernel_rfl) (fun _ _ _ h => h) (YieldsIf.yieldsW (.inl ⟨by rfl, ?_⟩)) ?_
      rotate_left 1
      · (intro W hW; (try dsimp only at hW); go_simp; try with_reducible rfl)
      try simp only [Act.put, List.setIfInBounds_toArray, List.set_cons_zero, List.set_cons_succ]
      refine w_take (i := 20) (v := undef) [] (some 31) rfl (by rfl) (by kernel_rfl) (by kernel_rfl) (by kernel_rfl) (by kernel_rfl) (by kernel_rfl) (by kernel_rfl) (fun _ _ _ h => h) (.inr ⟨by rfl, rfl⟩) ?_
      try simp only [Act.put, List.setIfInBounds_toArray, List.set_cons_zero, List.set_cons_succ]
      refine w_take (i := 21) (v := undef) [] (some 32) rfl (by rfl) (by kernel_rfl) (by kernel_rfl) (by kernel_rfl) (by kernel_rfl) (by kernel_rfl) (by kernel_rfl) (fun _ _ _ h => h) (.inr ⟨by rfl, rfl⟩) ?_
      try simp only [Act.put, List.setIfInBounds_toArray, List.set_cons_zero, List.set_cons_succ]
      refine w_take (i := 22) (v := undef) [] (some 33) rfl (by rfl) (by kernel_rfl) (by kernel_rfl) (by kernel_rfl) (by kernel_rfl) (by kernel_rfl) (by kernel_rfl) (fun _ _ _ h => h) (.inr ⟨by rfl, rfl⟩) ?_
      try simp only [Act.put, List.setIfInBounds_toArray, List.set_cons_zero, List.set_cons_succ]
      refine w_take (i := 23) (v := undef) [] (some 34) rfl (by rfl) (by kernel_rfl) (by kernel_rfl) (by kernel_rfl) (by kernel_rfl) (by kernel_rfl) (by kernel_rfl) (fun _ _ _ h => h) (.inr ⟨by rfl, rfl⟩) ?_
      try simp only [Act.put, List.setIfInBounds_toArray, List.set_cons_zero, List.set_cons_succ]
      refine w_take (i := 24) (v := undef) [] (some 35) rfl (by rfl) (by kernel_rfl) (by kernel_rfl) (by kernel_rfl) (by kernel_rfl) (by kernel_rfl) (by kernel_rfl) (fun _ _ _ h => h) (.inr ⟨by rfl, rfl⟩) ?_
      try simp only [Act.put, List.setIfInBounds_toArray, List.set_cons_zero, List.set_cons_succ]
      refine w_take (i := 25) (v := ?_) [] (some 36) rfl (by rfl) (by kernel_rfl) (by kernel_rfl) (by kernel_rfl) (by kernel_rfl) (by kernel_rfl) (by kernel_rfl) (fun _ _ _ h => h) (YieldsIf.yieldsW (.inl ⟨by rfl, ?_⟩)) ?_
      rotate_left 1
      · (intro W hW; (try dsimp only at hW); go_simp; try with_reducible rfl)
      try simp only [Act.put, List.setIfInBounds_toArray, List.set_cons_zero, List.set_cons_succ]
      refine w_take (i := 26) (v := ?_) [] (some 37) rfl (by rfl) (by kernel_rfl) (by kernel_rfl) (by kernel_rfl) (by kernel_rfl) (by kernel_rfl) (by kernel_rfl) (fun _ _ _ h => h) (YieldsIf.yieldsW (.inl ⟨by rfl, ?_⟩)) ?_
      rotate_left 1
      · (intro W hW; (try dsimp only at hW); go_simp; try with_reducible rfl)
      try simp only [Act.put, List.setIfInBounds_toArray, List.set_cons_zero, List.set_cons_succ]
      refine w_take (i := 27) (v := undef) [] (some 38) rfl (by rfl) (by kernel_rfl) (by kernel_rfl) (by kernel_rfl) (by kernel_rfl) (by kernel_rfl) (by kernel_rfl) (fun _ _ _ h => h) (.inr ⟨by rfl, rfl⟩) ?_
      try simp only [Act.put, List.setIfInBounds_toArray, List.set_cons_zero, List.set_cons_succ]
      refine w_take (i := 28) (v := undef) [] (some 39) rfl (by rfl) (by kernel_rfl) (by kernel_rfl) (by kernel_rfl) (by kernel_rfl) (by kernel_rfl) (by kernel_rfl) (fun _ _ _ h => h) (.inr ⟨by rfl, rfl⟩) ?_
      try simp only [Act.put, List.setIfInBounds_toArray, List.set_cons_zero, List.set_cons_succ]
      refine w_take (i := 29) (v := undef) [] (some 40) rfl (by rfl) (by kernel_rfl) (by kernel_rfl) (by kernel_rfl) (by kernel_rfl) (by kernel_rfl) (by kernel_rfl) (fun _ _ _ h => h) (.inr ⟨by rfl, rfl⟩) ?_
      try simp only [Act.put, List.setIfInBounds_toArray, List.set_cons_zero, List.set_cons_succ]
      refine w_take (i := 30) (v := undef) [] (some 41) rfl (by rfl) (by kernel_rfl) (by kernel_rfl) (by kernel_rfl) (by kernel_rfl) (by kernel_rfl) (by kernel_rfl) (fun _ _ _ h => h) (.inr ⟨by rfl, rfl⟩) ?_
      try simp only [Act.put, List.setIfInBounds_toArray, List.set_cons_zero, List.set_cons_succ]
      refine w_take (i := 31) (v := undef) [] (some 42) rfl (by rfl) (by kernel_rfl) (by kernel_rfl) (by kernel_rfl) (by kernel_rfl) (by kernel_rfl) (by kernel_rfl) (fun _ _ _ h => h) (.inr ⟨by rfl, rfl⟩) ?_
      try simp only [Act.put, List.setIfInBounds_toArray, List.set_cons_zero, List.set_cons_succ]
      refine w_take (i := 32) (v := ?_) [] (some 43) rfl (by rfl) (by kernel_rfl) (by kernel_rfl) (by kernel_rfl) (by kernel_rfl) (by kernel_rfl) (by kernel_rfl) (fun _ _ _ h => h) (YieldsIf.yieldsW (.inl ⟨by rfl, ?_⟩)) ?_
      rotate_left 1
      · (intro W hW; (try dsimp only at hW); go_simp; try with_reducible rfl)
      try simp only [Act.put, List.setIfInBounds_toArray, List.set_cons_zero, List.set_cons_succ]
      refine w_take (i := 33) (v := ?_) [] (some 44) rfl (by rfl) (by kernel_rfl) (by kernel_rfl) (by kernel_rfl) (by kernel_rfl) (by kernel_rfl) (by kernel_rfl) (fun _ _ _ h => h) (YieldsIf.yieldsW (.inl ⟨by rfl, ?_⟩)) ?_
      rotate_left 1
      · (intro W hW; (try dsimp only at hW); go_simp; try with_reducible rfl)
      try simp only [Act.put, List.setIfInBounds_toArray, List.set_cons_zero, List.set_cons_succ]
      refine w_take (i := 34) (v := undef) [] (some 45) rfl (by rfl) (by kernel_rfl) (by kernel_rfl) (by kernel_rfl) (by kernel_rfl) (by kernel_rfl) (by kernel_rfl) (fun _ _ _ h => h) (.inr ⟨by rfl, rfl⟩) ?_
      try simp only [Act.put, List.setIfInBounds_toArray, List.set_cons_zero, List.set_cons_succ]
      refine w_take (i := 35) (v := undef) [] (some 46) rfl (by rfl) (by kernel_rfl) (by kernel_rfl) (by kernel_rfl) (by kernel_rfl) (by kernel_rfl) (by kernel_rfl) (fun _ _ _ h => h) (.inr ⟨by rfl, rfl⟩) ?_
      try simp only [Act.put, List.setIfInBounds_toArray, List.set_cons_zero, List.set_cons_succ]
      refine w_take (i := 36) (v := undef) [] (some 47) rfl (by rfl) (by kernel_rfl) (by kernel_rfl) (by kernel_rfl) (by kernel_rfl) (by kernel_rfl) (by kernel_rfl) (fun _ _ _ h => h) (.inr ⟨by rfl, rfl⟩) ?_
      try simp only [Act.put, List.setIfInBounds_toArray, List.set_cons_zero, List.set_cons_succ]
      refine w_take (i := 37) (v := undef) [] (some 48) rfl (by rfl) (by kernel_rfl) (by kernel_rfl) (by kernel_rfl) (by kernel_rfl) (by kernel_rfl) (by kernel_rfl) (fun _ _ _ h => h) (.inr ⟨by rfl, rfl⟩) ?_
      try simp only [Act.put, List.setIfInBounds_toArray, List.set_cons_zero, List.set_cons_succ]
      refine w_take (i := 38) (v := undef) [] (some 49) rfl (by rfl) (by kernel_rfl) (by kernel_rfl) (by kernel_rfl) (by kernel_rfl) (by kernel_rfl) (by kernel_rfl) (fun _ _ _ h => h) (.inr ⟨by rfl, rfl⟩) ?_
      try simp only [Act.put, List.setIfInBounds_toArray, List.set_cons_zero, List.set_cons_succ]
      refine w_take (i := 39) (v := ?_) [] (some 50) rfl (by rfl) (by kernel_rfl) (by kernel_rfl) (by kernel_rfl) (by kernel_rfl) (by kernel_rfl) (by kernel_rfl) (fun _ _ _ h => h) (YieldsIf.yieldsW (.inl ⟨by rfl, ?_⟩)) ?_
      rotate_left 1
      · (intro W hW; (try dsimp only at hW); go_simp; try with_reducible rfl)
      try simp only [Act.put, List.setIfInBounds_toArray, List.set_cons_zero, List.set_cons_succ]
      refine w_take (i := 40) (v := ?_) [] (some 51) rfl (by rfl) (by kernel_rfl) (by kernel_rfl) (by kernel_rfl) (by kernel_rfl) (by kernel_rfl) (by kernel_rfl) (fun _ _ _ h => h) (YieldsIf.yieldsW (.inl ⟨by rfl, ?_⟩)) ?_
      rotate_left 1
      · (intro W hW; (try dsimp only at hW); go_simp; try with_reducible rfl)
      try simp only [Act.put, List.setIfInBounds_toArray, List.set_cons_zero, List.set_cons_succ]
      refine w_take (i := 41) (v := undef) [] (some 52) rfl (by rfl) (by kernel_rfl) (by kernel_rfl) (by kernel_rfl) (by kernel_rfl) (by kernel_rfl) (by kernel_rfl) (fun _ _ _ h => h) (.inr ⟨by rfl, rfl⟩) ?_
      try simp only [Act.put, List.setIfInBounds_toArray, List.set_cons_zero, List.set_cons_succ]
      refine w_take (i := 42) (v := undef) [] (some 53) rfl (by rfl) (by kernel_rfl) (by kernel_rfl) (by kernel_rfl) (by kernel_rfl) (by kernel_rfl) (by kernel_rfl) (fun _ _ _ h => h) (.inr ⟨by rfl, rfl⟩) ?_
      try simp only [Act.put, List.setIfInBounds_toArray, List.set_cons_zero, List.set_cons_succ]
      refine w_take (i := 43) (v := undef) [] (some 54) rfl (by rfl) (by kernel_rfl) (by kernel_rfl) (by kernel_rfl) (by kernel_rfl) (by kernel_rfl) (by kernel_rfl) (fun _ _ _ h => h) (.inr ⟨by rfl, rfl⟩) ?_
      try simp only [Act.put, List.setIfInBounds_toArray, List.set_cons_zero, List.set_cons_succ]
      refine w_take (i := 44) (v := undef) [] (some 55) rfl (by rfl) (by kernel_rfl) (by kernel_rfl) (by kernel_rfl) (by kernel_rfl) (by kernel_rfl) (by kernel_rfl) (fun _ _ _ h => h) (.inr ⟨by rfl, rfl⟩) ?_
      try simp only [Act.put, List.setIfInBounds_toArray, List.set_cons_zero, List.set_cons_succ]
      refine w_take (i := 45) (v := undef) [] (some 56) rfl (by rfl) (by kernel_rfl) (by kernel_rfl) (by kernel_rfl) (by kernel_rfl) (by kernel_rfl) (by kernel_rfl) (fun _ _ _ h => h) (.inr ⟨by rfl, rfl⟩) ?_
      try simp only [Act.put, List.setIfInBounds_toArray, List.set_cons_zero, List.set_cons_succ]
      refine w_take (i := 46) (v := ?_) [] (some 57) rfl (by rfl) (by kernel_rfl) (by kernel_rfl) (by kernel_rfl) (by kernel_rfl) (by kernel_rfl) (by kernel_rfl) (fun _ _ _ h => h) (YieldsIf.yieldsW (.inl ⟨by rfl, ?_⟩)) ?_
      rotate_left 1
      · (intro W hW; (try dsimp only at hW); go_simp; try with_reducible rfl)
      try simp only [Act.put, List.setIfInBounds_toArray, List.set_cons_zero, List.set_cons_succ]
      refine w_take (i := 47) (v := ?_) [] (some 4) rfl (by rfl) (by kernel_rfl) (by kernel_rfl) (by kernel_rfl) (by kernel_rfl) (by kernel_rfl) (by kernel_rfl) (fun _ _ _ h => h) (YieldsIf.yieldsW (.inl ⟨by rfl, ?_⟩)) ?_
      rotate_left 1
      · (intro W hW; (try dsimp only at hW); go_simp; try with_reducible rfl)
      try simp only [Act.put, List.setIfInBounds_toArray, List.set_cons_zero, List.set_cons_succ]
      refine w_done (by kernel_rfl) (by rfl) (fun V2 hV2 => ?_) _
      go_wp2_with fail
      go_returns
      exact ⟨rfl, XW.out.trans hV2⟩
    | true =>
      by_cases h1 : s.e.kd = t.e.kd
      rotate_left 1
      · have n1 : (s.e.kd == t.e.kd) = false := by simpa using h1
        obtain rfl : b = false := by rw [← hb.out]; exact decide_eq_false (fun h => h1 ((o_eq _ _).1 ((en_eq _ _).1 h).2.2).1)
        clear h1
        go_upto_region 2 with (fail)
        refine w_region (fun w1 => Ext wc w1) [] (by kernel_rfl) ((Ext.refl wc).drew) ?_
        refine w_take (i := 0) (v := ?_) [] (some 11) rfl (by rfl) (by kernel_rfl) (by kernel_rfl) (by kernel_rfl) (by kernel_rfl) (by kernel_rfl) (by kernel_rfl) (fun _ _ _ h => h) (YieldsIf.yieldsW (.inl ⟨by rfl, ?_⟩)) ?_
        rotate_left 1
        · (intro W hW; (try dsimp only at hW); go_simp; try with_reducible rfl)
        try simp only [Act.put, List.setIfInBounds_toArray, List.set_cons_zero, List.set_cons_succ]
        refine w_take (i := 1) (v := (.agg #[.int .i64 s.e.cl, .int .i64 s.e.nu])) [] (some 12) rfl (by rfl) (by kernel_rfl) (by kernel_rfl) (by kernel_rfl) (by kernel_rfl) (by kernel_rfl) (by kernel_rfl) (fun _ _ _ h => h) (.inl ⟨by rfl, ?_⟩) ?_
        · (intro W hW; refine .inr ⟨_, _, _, ?_, ((keyof_any s W).mono fun _ _ ⟨h1, h2⟩ => ⟨h1, hW.trans h2⟩)⟩; go_simp; try with_reducible rfl)
        try simp only [Act.put, List.setIfInBounds_toArray, List.set_cons_zero, List.set_cons_succ]
        refine w_take (i := 2) (v := ?_) [] (some 13) rfl (by rfl) (by kernel_rfl) (by kernel_rfl) (by kernel_rfl) (by kernel_rfl) (by kernel_rfl) (by kernel_rfl) (fun _ _ _ h => h) (YieldsIf.yieldsW (.inl ⟨by rfl, ?_⟩)) ?_
        rotate_left 1
        · (intro W hW; (try dsimp only at hW); go_simp; try with_reducible rfl)
        try simp only [Act.put, List.setIfInBounds_toArray, List.set_cons_zero, List.set_cons_succ]
        refine w_take (i := 3) (v := (.agg #[.int .i64 t.e.cl, .int .i64 t.e.nu])) [] (some 14) rfl (by rfl) (by kernel_rfl) (by kernel_rfl) (by kernel_rfl) (by kernel_rfl) (by kernel_rfl) (by kernel_rfl) (fun _ _ _ h => h) (.inl ⟨by rfl, ?_⟩) ?_
        · (intro W hW; refine .inr ⟨_, _, _, ?_, ((keyof_any t W).mono fun _ _ ⟨h1, h2⟩ => ⟨h1, hW.trans h2⟩)⟩; go_simp; try with_reducible rfl)
        try simp only [Act.put, List.setIfInBounds_toArray, List.set_cons_zero, List.set_cons_succ]
        refine w_take (i := 4) (v := ?_) [] (some 15) rfl (by rfl) (by kernel_rfl) (by kernel_rfl) (by kernel_rfl) (by kernel_rfl) (by kernel_rfl) (by kernel_rfl) (fun _ _ _ h => h) (YieldsIf.yieldsW (.inl ⟨by rfl, ?_⟩)) ?_
        rotate_left 1
        · (intro W hW; (try dsimp only at hW); go_simp; try with_reducible rfl)
        try simp only [Act.put, List.setIfInBounds_toArray, List.set_cons_zero, List.set_cons_succ]
        refine w_take (i := 5) (v := ?_) [] (some 16) rfl (by rfl) (by kernel_rfl) (by kernel_rfl) (by kernel_rfl) (by kernel_rfl) (by kernel_rfl) (by kernel_rfl) (fun _ _ _ h => h) (YieldsIf.yieldsW (.inl ⟨by rfl, ?_⟩)) ?_
        rotate_left 1
        · (intro W hW; (try dsimp only at hW); go_simp; try with_reducible rfl)
        try simp only [Act.put, List.setIfInBounds_toArray, List.set_cons_zero, List.set_cons_succ]
        refine w_take (i := 6) (v := ?_) [] (some 17) rfl (by rfl) (by kernel_rfl) (by kernel_rfl) (by kernel_rfl) (by kernel_rfl) (by kernel_rfl) (by kernel_rfl) (fun _ _ _ h => h) (YieldsIf.yieldsW (.inl ⟨by rfl, ?_⟩)) ?_
        rotate_left 1
        · (intro W hW; (try dsimp only at hW); go_simp; try with_reducible rfl)
        try simp only [Act.put, List.setIfInBounds_toArray, List.set_cons_zero, List.set_cons_succ]
        refine w_take (i := 7) (v := ?_) [] (some 18) rfl (by rfl) (by kernel_rfl) (by kernel_rfl) (by kernel_rfl) (by kernel_rfl) (by kernel_rfl) (by kernel_rfl) (fun _ _ _ h => h) (YieldsIf.yieldsW (.inl ⟨by rfl, ?_⟩)) ?_
        rotate_left 1
        · (intro W hW; (try dsimp only at hW); go_simp; try with_reducible rfl)
        try simp only [Act.put, List.setIfInBounds_toArray, List.set_cons_zero, List.set_cons_succ]
        refine w_take (i := 8) (v := ?_) [] (some 19) rfl (by rfl) (by kernel_rfl) (by kernel_rfl) (by kernel_rfl) (by kernel_rfl) (by kernel_rfl) (by kernel_rfl) (fun _ _ _ h => h) (YieldsIf.yieldsW (.inl ⟨by rfl, ?_⟩)) ?_
        rotate_left 1
        · (intro W hW; (try dsimp only at hW); go_simp; try with_reducible rfl)
        try simp only [Act.put, List.setIfInBounds_toArray, List.set_cons_zero, List.set_cons_succ]
        refine w_take (i := 9) (v := ?_) [] (some 20) rfl (by rfl) (by kernel_rfl) (by kernel_rfl) (by kernel_rfl) (by kernel_rfl) (by kernel_rfl) (by kernel_rfl) (fun _ _ _ h => h) (YieldsIf.yieldsW (.inl ⟨by rfl, ?_⟩)) ?_
        rotate_left 1
        · (intro W hW; (try dsimp only at hW); go_simp; try with_reducible rfl)
        try simp only [Act.put, List.setIfInBounds_toArray, List.set_cons_zero, List.set_cons_succ]
        refine w_take (i := 10) (v := ?_) [] (some 21) rfl (by rfl) (by kernel_rfl) (by kernel_rfl) (by kernel_rfl) (by kernel_rfl) (by kernel_rfl) (by kernel_rfl) (fun _ _ _ h => h) (YieldsIf.yieldsW (.inl ⟨by rfl, ?_⟩)) ?_
        rotate_left 1
        · (intro W hW; (try dsimp only at hW); go_simp; try with_reducible rfl)
        try simp only [Act.put, List.setIfInBounds_toArray, List.set_cons_zero, List.set_cons_succ]
        refine w_take (i := 11) (v := ?_) [] (some 22) rfl (by rfl) (by kernel_rfl) (by kernel_rfl) (by kernel_rfl) (by kernel_rfl) (by kernel_rfl) (by kernel_rfl) (fun _ _ _ h => h) (YieldsIf.yieldsW (.inl ⟨by rfl, ?_⟩)) ?_
        rotate_left 1
        · (intro W hW; (try dsimp only at hW); go_simp; try with_reducible rfl)
        try simp only [Act.put, List.setIfInBounds_toArray, List.set_cons_zero, List.set_cons_succ]
        refine w_take (i := 12) (v := ?_) [] (some 23) rfl (by rfl) (by kernel_rfl) (by kernel_rfl) (by kernel_rfl) (by kernel_rfl) (by kernel_rfl) (by kernel_rfl) (fun _ _ _ h => h) (YieldsIf.yieldsW (.inl ⟨by rfl, ?_⟩)) ?_
        rotate_left 1
        · (intro W hW; (try dsimp only at hW); go_simp; try with_reducible rfl)
        try simp only [Act.put, List.setIfInBounds_toArray, List.set_cons_zero, List.set_cons_succ]
        refine w_take (i := 13) (v := undef) [] (some 24) rfl (by rfl) (by kernel_rfl) (by kernel_rfl) (by kernel_rfl) (by kernel_rfl) (by kernel_rfl) (by kernel_rfl) (fun _ _ _ h => h) (.inr ⟨by rfl, rfl⟩) ?_
        try simp only [Act.put, List.setIfInBounds_toArray, List.set_cons_zero, List.set_cons_succ]
        refine w_take (i := 14) (v := undef) [] (some 25) rfl (by rfl) (by kernel_rfl) (by kernel_rfl) (by kernel_rfl) (by kernel_rfl) (by kernel_rfl) (by kernel_rfl) (fun _ _ _ h => h) (.inr ⟨by rfl, rfl⟩) ?_
        try simp only [Act.put, List.setIfInBounds_toArray, List.set_cons_zero, List.set_cons_succ]
        refine w_take (i := 15) (v := undef) [] (some 26) rfl (by rfl) (by kernel_rfl) (by kernel_rfl) (by kernel_rfl) (by kernel_rfl) (by kernel_rfl) (by kernel_rfl) (fun _ _ _ h => h) (.inr ⟨by rfl, rfl⟩) ?_
        try simp only [Act.put, List.setIfInBounds_toArray, List.set_cons_zero, List.set_cons_succ]
        refine w_take (i := 16) (v := undef) [] (some 27) rfl (by rfl) (by kernel_rfl) (by kernel_rfl) (by kernel_rfl) (by kernel_rfl) (by kernel_rfl) (by kernel_rfl) (fun _ _ _ h => h) (.inr ⟨by rfl, rfl⟩) ?_
        try simp only [Act.put, List.setIfInBounds_toArray, List.set_cons_zero, List.set_cons_succ]
        refine w_take (i := 17) (v := undef) [] (some 28) rfl (by rfl) (by kernel_rfl) (by kernel_rfl) (by kernel_rfl) (by kernel_rfl) (by kernel_rfl) (by kernel_rfl) (fun _ _ _ h => h) (.inr ⟨by rfl, rfl⟩) ?_
        try simp only [Act.put, List.setIfInBounds_toArray, List.set_cons_zero, List.set_cons_succ]
        refine w_take (i := 18) (v := ?_) [] (some 29) rfl (by rfl) (by kernel_rfl) (by kernel_rfl) (by kernel_rfl) (by kernel_rfl) (by kernel_rfl) (by kernel_rfl) (fun _ _ _ h => h) (YieldsIf.yieldsW (.inl ⟨by rfl, ?_⟩)) ?_
        rotate_left 1
        · (intro W hW; (try dsimp only at hW); go_simp; try with_reducible rfl)
        try simp only [Act.put, List.setIfInBounds_toArray, List.set_cons_zero, List.set_cons_succ]
        refine w_take (i := 19) (v := ?_) [] (some 30) rfl (by rfl) (by kernel_rfl) (by kernel_rfl) (by kernel_rfl) (by kernel_rfl) (by kernel_rfl) (by kernel_rfl) (fun _ _ _ h => h) (YieldsIf.yieldsW (.inl ⟨by rfl, ?_⟩)) ?_
        rotate_left 1
        · (intro W hW; (try dsimp only at hW); go_simp; try with_reducible rfl)
        try simp only [Act.put, List.setIfInBounds_toArray, List.set_cons_zero, List.set_cons_succ]
        refine w_take (i := 20) (v := undef) [] (some 31) rfl (by rfl) (by kernel_rfl) (by kernel_rfl) (by kernel_rfl) (by kernel_rfl) (by kernel_rfl) (by kernel_rfl) (fun _ _ _ h => h) (.inr ⟨by rfl, rfl⟩) ?_
        try simp only [Act.put, List.setIfInBounds_toArray, List.set_cons_zero, List.set_cons_succ]
        refine w_take (i := 21) (v := undef) [] (some 32) rfl (by rfl) (by kernel_rfl) (by kernel_rfl) (by kernel_rfl) (by kernel_rfl) (by kernel_rfl) (by kernel_rfl) (fun _ _ _ h => h) (.inr ⟨by rfl, rfl⟩) ?_
        try simp only [Act.put, List.setIfInBounds_toArray, List.set_cons_zero, List.set_cons_succ]
        refine w_take (i := 22) (v := undef) [] (some 33) rfl (by rfl) (by kernel_rfl) (by kernel_rfl) (by kernel_rfl) (by kernel_rfl) (by kernel_rfl) (by kernel_rfl) (fun _ _ _ h => h) (.inr ⟨by rfl, rfl⟩) ?_
        try simp only [Act.put, List.setIfInBounds_toArray, List.set_cons_zero, List.set_cons_succ]
        refine w_take (i := 23) (v := undef) [] (some 34) rfl (by rfl) (by kernel_rfl) (by kernel_rfl) (by kernel_rfl) (by kernel_rfl) (by kernel_rfl) (by kernel_rfl) (fun _ _ _ h => h) (.inr ⟨by rfl, rfl⟩) ?_
        try simp only [Act.put, List.setIfInBounds_toArray, List.set_cons_zero, List.set_cons_succ]
        refine w_take (i := 24) (v := undef) [] (some 35) rfl (by rfl) (by kernel_rfl) (by kernel_rfl) (by kernel_rfl) (by kernel_rfl) (by kernel_rfl) (by kernel_rfl) (fun _ _ _ h => h) (.inr ⟨by rfl, rfl⟩) ?_
        try simp only [Act.put, List.setIfInBounds_toArray, List.set_cons_zero, List.set_cons_succ]
        refine w_take (i := 25) (v := ?_) [] (some 36) rfl (by rfl) (by kernel_rfl) (by kernel_rfl) (by kernel_rfl) (by kernel_rfl) (by kernel_rfl) (by kernel_rfl) (fun _ _ _ h => h) (YieldsIf.yieldsW (.inl ⟨by rfl, ?_⟩)) ?_
        rotate_left 1
        · (intro W hW; (try dsimp only at hW); go_simp; try with_reducible rfl)
        try simp only [Act.put, List.setIfInBounds_toArray, List.set_cons_zero, List.set_cons_succ]
        refine w_take (i := 26) (v := ?_) [] (some 37) rfl (by rfl) (by kernel_rfl) (by kernel_rfl) (by kernel_rfl) (by kernel_rfl) (by kernel_rfl) (by kernel_rfl) (fun _ _ _ h => h) (YieldsIf.yieldsW (.inl ⟨by rfl, ?_⟩)) ?_
        rotate_left 1
        · (intro W hW; (try dsimp only at hW); go_simp; try with_reducible rfl)
        try simp only [Act.put, List.setIfInBounds_toArray, List.set_cons_zero, List.set_cons_succ]
        refine w_take (i := 27) (v := undef) [] (some 38) rfl (by rfl) (by kernel_rfl) (by kernel_rfl) (by kernel_rfl) (by kernel_rfl) (by kernel_rfl) (by kernel_rfl) (fun _ _ _ h => h) (.inr ⟨by rfl, rfl⟩) ?_
        try simp only [Act.put, List.setIfInBounds_toArray, List.set_cons_zero, List.set_cons_succ]
        refine w_take (i := 28) (v := undef) [] (some 39) rfl (by rfl) (by kernel_rfl) (by kernel_rfl) (by kernel_rfl) (by kernel_rfl) (by kernel_rfl) (by kernel_rfl) (fun _ _ _ h => h) (.inr ⟨by rfl, rfl⟩) ?_
        try simp only [Act.put, List.setIfInBounds_toArray, List.set_cons_zero, List.set_cons_succ]
        refine w_take (i := 29) (v := undef) [] (some 40) rfl (by rfl) (by kernel_rfl) (by kernel_rfl) (by kernel_rfl) (by kernel_rfl) (by kernel_rfl) (by kernel_rfl) (fun _ _ _ h => h) (.inr ⟨by rfl, rfl⟩) ?_
        try simp only [Act.put, List.setIfInBounds_toArray, List.set_cons_zero, List.set_cons_succ]
        refine w_take (i := 30) (v := undef) [] (some 41) rfl (by rfl) (by kernel_rfl) (by kernel_rfl) (by kernel_rfl) (by kernel_rfl) (by kernel_rfl) (by kernel_rfl) (fun _ _ _ h => h) (.inr ⟨by rfl, rfl⟩) ?_
        try simp only [Act.put, List.setIfInBounds_toArray, List.set_cons_zero, List.set_cons_succ]
        refine w_take (i := 31) (v := undef) [] (some 42) rfl (by rfl) (by kernel_rfl) (by kernel_rfl) (by kernel_rfl) (by kernel_rfl) (by kernel_rfl) (by kernel_rfl) (fun _ _ _ h => h) (.inr ⟨by rfl, rfl⟩) ?_
        try simp only [Act.put, List.setIfInBounds_toArray, List.set_cons_zero, List.set_cons_succ]
        refine w_take (i := 32) (v := ?_) [] (some 43) rfl (by rfl) (by kernel_rfl) (by kernel_rfl) (by kernel_rfl) (by kernel_rfl) (by kernel_rfl) (by kernel_rfl) (fun _ _ _ h => h) (YieldsIf.yieldsW (.inl ⟨by rfl, ?_⟩)) ?_
        rotate_left 1
        · (intro W hW; (try dsimp only at hW); go_simp; try with_reducible rfl)
        try simp only [Act.put, List.setIfInBounds_toArray, List.set_cons_zero, List.set_cons_succ]
        refine w_take (i := 33) (v := ?_) [] (some 44) rfl (by rfl) (by kernel_rfl) (by kernel_rfl) (by kernel_rfl) (by kernel_rfl) (by kernel_rfl) (by kernel_rfl) (fun _ _ _ h => h) (YieldsIf.yieldsW (.inl ⟨by rfl, ?_⟩)) ?_
        rotate_left 1
        · (intro W hW; (try dsimp only at hW); go_simp; try with_reducible rfl)
        try simp only [Act.put, List.setIfInBounds_toArray, List.set_cons_zero, List.set_cons_succ]
        refine w_take (i := 34) (v := undef) [] (some 45) rfl (by rfl) (by kernel_rfl) (by kernel_rfl) (by kernel_rfl) (by kernel_rfl) (by kernel_rfl) (by kernel_rfl) (fun _ _ _ h => h) (.inr ⟨by rfl, rfl⟩) ?_
        try simp only [Act.put, List.setIfInBounds_toArray, List.set_cons_zero, List.set_cons_succ]
        refine w_take (i := 35) (v := undef) [] (some 46) rfl (by rfl) (by kernel_rfl) (by kernel_rfl) (by kernel_rfl) (by kernel_rfl) (by kernel_rfl) (by kernel_rfl) (fun _ _ _ h => h) (.inr ⟨by rfl, rfl⟩) ?_
        try simp only [Act.put, List.setIfInBounds_toArray, List.set_cons_zero, List.set_cons_succ]
        refine w_take (i := 36) (v := undef) [] (some 47) rfl (by rfl) (by kernel_rfl) (by kernel_rfl) (by kernel_rfl) (by kernel_rfl) (by kernel_rfl) (by kernel_rfl) (fun _ _ _ h => h) (.inr ⟨by rfl, rfl⟩) ?_
        try simp only [Act.put, List.setIfInBounds_toArray, List.set_cons_zero, List.set_cons_succ]
        refine w_take (i := 37) (v := undef) [] (some 48) rfl (by rfl) (by kernel_rfl) (by kernel_rfl) (by kernel_rfl) (by kernel_rfl) (by kernel_rfl) (by kernel_rfl) (fun _ _ _ h => h) (.inr ⟨by rfl, rfl⟩) ?_
        try simp only [Act.put, List.setIfInBounds_toArray, List.set_cons_zero, List.set_cons_succ]
        refine w_take (i := 38) (v := undef) [] (some 49) rfl (by rfl) (by kernel_rfl) (by kernel_rfl) (by kernel_rfl) (by kernel_rfl) (by kernel_rfl) (by kernel_rfl) (fun _ _ _ h => h) (.inr ⟨by rfl, rfl⟩) ?_
        try simp only [Act.put, List.setIfInBounds_toArray, List.set_cons_zero, List.set_cons_succ]
        refine w_take (i := 39) (v := ?_) [] (some 50) rfl (by rfl) (by kernel_rfl) (by kernel_rfl) (by kernel_rfl) (by kernel_rfl) (by kernel_rfl) (by kernel_rfl) (fun _ _ _ h => h) (YieldsIf.yieldsW (.inl ⟨by rfl, ?_⟩)) ?_
        rotate_left 1
        · (intro W hW; (try dsimp only at hW); go_simp; try with_reducible rfl)
        try simp only [Act.put, List.setIfInBounds_toArray, List.set_cons_zero, List.set_cons_succ]
        refine w_take (i := 40) (v := ?_) [] (some 51) rfl (by rfl) (by kernel_rfl) (by kernel_rfl) (by kernel_rfl) (by kernel_rfl) (by kernel_rfl) (by kernel_rfl) (fun _ _ _ h => h) (YieldsIf.yieldsW (.inl ⟨by rfl, ?_⟩)) ?_
        rotate_left 1
        · (intro W hW; (try dsimp only at hW); go_simp; try with_reducible rfl)
        try simp only [Act.put, List.setIfInBounds_toArray, List.set_cons_zero, List.set_cons_succ]
        refine w_take (i := 41) (v := undef) [] (some 52) rfl (by rfl) (by kernel_rfl) (by kernel_rfl) (by kernel_rfl) (by kernel_rfl) (by kernel_rfl) (by kernel_rfl) (fun _ _ _ h => h) (.inr ⟨by rfl, rfl⟩) ?_
        try simp only [Act.put, List.setIfInBounds_toArray, List.set_cons_zero, List.set_cons_succ]
        refine w_take (i := 42) (v := undef) [] (some 53) rfl (by rfl) (by kernel_rfl) (by kernel_rfl) (by kernel_rfl) (by kernel_rfl) (by kernel_rfl) (by kernel_rfl) (fun _ _ _ h => h) (.inr ⟨by rfl, rfl⟩) ?_
        try simp only [Act.put, List.setIfInBounds_toArray, List.set_cons_zero, List.set_cons_succ]
        refine w_take (i := 43) (v := undef) [] (some 54) rfl (by rfl) (by kernel_rfl) (by kernel_rfl) (by kernel_rfl) (by kernel_rfl) (by kernel_rfl) (by kernel_rfl) (fun _ _ _ h => h) (.inr ⟨by rfl, rfl⟩) ?_
        try simp only [Act.put, List.setIfInBounds_toArray, List.set_cons_zero, List.set_cons_succ]
        refine w_take (i := 44) (v := undef) [] (some 55) rfl (by rfl) (by kernel_rfl) (by kernel_rfl) (by kernel_rfl) (by kernel_rfl) (by kernel_rfl) (by kernel_rfl) (fun _ _ _ h => h) (.inr ⟨by rfl, rfl⟩) ?_
        try simp only [Act.put, List.setIfInBounds_toArray, List.set_cons_zero, List.set_cons_succ]
        refine w_take (i := 45) (v := undef) [] (some 56) rfl (by rfl) (by kernel_rfl) (by kernel_rfl) (by kernel_rfl) (by kernel_rfl) (by kernel_rfl) (by kernel_rfl) (fun _ _ _ h => h) (.inr ⟨by rfl, rfl⟩) ?_
        try simp only [Act.put, List.setIfInBounds_toArray, List.set_cons_zero, List.set_cons_succ]
        refine w_take (i := 46) (v := ?_) [] (some 57) rfl (by rfl) (by kernel_rfl) (by kernel_rfl) (by kernel_rfl) (by kernel_rfl) (by kernel_rfl) (by kernel_rfl) (fun _ _ _ h => h) (YieldsIf.yieldsW (.inl ⟨by rfl, ?_⟩)) ?_
        rotate_left 1
        · (intro W hW; (try dsimp only at hW); go_simp; try with_reducible rfl)
        try simp only [Act.put, List.setIfInBounds_toArray, List.set_cons_zero, List.set_cons_succ]
        refine w_take (i := 47) (v := ?_) [] (some 4) rfl (by rfl) (by kernel_rfl) (by kernel_rfl) (by kernel_rfl) (by kernel_rfl) (by kernel_rfl) (by kernel_rfl) (fun _ _ _ h => h) (YieldsIf.yieldsW (.inl ⟨by rfl, ?_⟩)) ?_
        rotate_left 1
        · (intro W hW; (try dsimp only at hW); go_simp; try with_reducible rfl)
        try simp only [Act.put, List.setIfInBounds_toArray, List.set_cons_zero, List.set_cons_succ]
        refine w_done (by kernel_rfl) (by rfl) (fun V2 hV2 => ?_) _
        go_wp2_with fail
        go_returns
        exact ⟨rfl, XW.out.trans hV2⟩
      have n1 : (s.e.kd == t.e.kd) = true := by simpa using h1
      have H1 := Lib.hid h1
      clear h1
      by_cases h2 : s.e.id = t.e.id
      rotate_left 1
      · have n2 : (s.e.id == t.e.id) = false := by simpa using h2
        obtain rfl : b = false := by rw [← hb.out]; exact decide_eq_false (fun h => h2 ((o_eq _ _).1 ((en_eq _ _).1 h).2.2).2.1)
        clear h2
        go_upto_region 2 with (fail)
        refine w_region (fun w1 => Ext wc w1) [] (by kernel_rfl) ((Ext.refl wc).drew) ?_
        refine w_take (i := 0) (v := ?_) [] (some 11) rfl (by rfl) (by kernel_rfl) (by kernel_rfl) (by kernel_rfl) (by kernel_rfl) (by kernel_rfl) (by kernel_rfl) (fun _ _ _ h => h) (YieldsIf.yieldsW (.inl ⟨by rfl, ?_⟩)) ?_
        rotate_left 1
        · (intro W hW; (try dsimp only at hW); go_simp; try with_reducible rfl)
        try simp only [Act.put, List.setIfInBounds_toArray, List.set_cons_zero, List.set_cons_succ]
        refine w_take (i := 1) (v := (.agg #[.int .i64 s.e.cl, .int .i64 s.e.nu])) [] (some 12) rfl (by rfl) (by kernel_rfl) (by kernel_rfl) (by kernel_rfl) (by kernel_rfl) (by kernel_rfl) (by kernel_rfl) (fun _ _ _ h => h) (.inl ⟨by rfl, ?_⟩) ?_
        · (intro W hW; refine .inr ⟨_, _, _, ?_, ((keyof_any s W).mono fun _ _ ⟨h1, h2⟩ => ⟨h1, hW.trans h2⟩)⟩; go_simp; try with_reducible rfl)
        try simp only [Act.put, List.setIfInBounds_toArray, List.set_cons_zero, List.set_cons_succ]
        refine w_take (i := 2) (v := ?_) [] (some 13) rfl (by rfl) (by kernel_rfl) (by kernel_rfl) (by kernel_rfl) (by kernel_rfl) (by kernel_rfl) (by kernel_rfl) (fun _ _ _ h => h) (YieldsIf.yieldsW (.inl ⟨by rfl, ?_⟩)) ?_
        rotate_left 1
        · (intro W hW; (try dsimp only at hW); go_simp; try with_reducible rfl)
        try simp only [Act.put, List.setIfInBounds_toArray, List.set_cons_zero, List.set_cons_succ]
        refine w_take (i := 3) (v := (.agg #[.int .i64 t.e.cl, .int .i64 t.e.nu])) [] (some 14) rfl (by rfl) (by kernel_rfl) (by kernel_rfl) (by kernel_rfl) (by kernel_rfl) (by kernel_rfl) (by kernel_rfl) (fun _ _ _ h => h) (.inl ⟨by rfl, ?_⟩) ?_
        · (intro W hW; refine .inr ⟨_, _, _, ?_, ((keyof_any t W).mono fun _ _ ⟨h1, h2⟩ => ⟨h1, hW.trans h2⟩)⟩; go_simp; try with_reducible rfl)
        try simp only [Act.put, List.setIfInBounds_toArray, List.set_cons_zero, List.set_cons_succ]
        refine w_take (i := 4) (v := ?_) [] (some 15) rfl (by rfl) (by kernel_rfl) (by kernel_rfl) (by kernel_rfl) (by kernel_rfl) (by kernel_rfl) (by kernel_rfl) (fun _ _ _ h => h) (YieldsIf.yieldsW (.inl ⟨by rfl, ?_⟩)) ?_
        rotate_left 1
        · (intro W hW; (try dsimp only at hW); go_simp; try with_reducible rfl)
        try simp only [Act.put, List.setIfInBounds_toArray, List.set_cons_zero, List.set_cons_succ]
        refine w_take (i := 5) (v := ?_) [] (some 16) rfl (by rfl) (by kernel_rfl) (by kernel_rfl) (by kernel_rfl) (by kernel_rfl) (by kernel_rfl) (by kernel_rfl) (fun _ _ _ h => h) (YieldsIf.yieldsW (.inl ⟨by rfl, ?_⟩)) ?_
        rotate_left 1
        · (intro W hW; (try dsimp only at hW); go_simp; try with_reducible rfl)
        try simp only [Act.put, List.setIfInBounds_toArray, List.set_cons_zero, List.set_cons_succ]
        refine w_take (i := 6) (v := ?_) [] (some 17) rfl (by rfl) (by kernel_rfl) (by kernel_rfl) (by kernel_rfl) (by kernel_rfl) (by kernel_rfl) (by kernel_rfl) (fun _ _ _ h => h) (YieldsIf.yieldsW (.inl ⟨by rfl, ?_⟩)) ?_
        rotate_left 1
        · (intro W hW; (try dsimp only at hW); go_simp; try with_reducible rfl)
        try simp only [Act.put, List.setIfInBounds_toArray, List.set_cons_zero, List.set_cons_succ]
        refine w_take (i := 7) (v := ?_) [] (some 18) rfl (by rfl) (by kernel_rfl) (by kernel_rfl) (by kernel_rfl) (by kernel_rfl) (by kernel_rfl) (by kernel_rfl) (fun _ _ _ h => h) (YieldsIf.yieldsW (.inl ⟨by rfl, ?_⟩)) ?_
        rotate_left 1
        · (intro W hW; (try dsimp only at hW); go_simp; try with_reducible rfl)
        try simp only [Act.put, List.setIfInBounds_toArray, List.set_cons_zero, List.set_cons_succ]
        refine w_take (i := 8) (v := ?_) [] (some 19) rfl (by rfl) (by kernel_rfl) (by kernel_rfl) (by kernel_rfl) (by kernel_rfl) (by kernel_rfl) (by kernel_rfl) (fun _ _ _ h => h) (YieldsIf.yieldsW (.inl ⟨by rfl, ?_⟩)) ?_
        rotate_left 1
        · (intro W hW; (try dsimp only at hW); go_simp; try with_reducible rfl)
        try simp only [Act.put, List.setIfInBounds_toArray, List.set_cons_zero, List.set_cons_succ]
        refine w_take (i := 9) (v := ?_) [] (some 20) rfl (by rfl) (by kernel_rfl) (by kernel_rfl) (by kernel_rfl) (by kernel_rfl) (by kernel_rfl) (by kernel_rfl) (fun _ _ _ h => h) (YieldsIf.yieldsW (.inl ⟨by rfl, ?_⟩)) ?_
        rotate_left 1
        · (intro W hW; (try dsimp only at hW); go_simp; try with_reducible rfl)
        try simp only [Act.put, List.setIfInBounds_toArray, List.set_cons_zero, List.set_cons_succ]
        refine w_take (i := 10) (v := ?_) [] (some 21) rfl (by rfl) (by kernel_rfl) (by kernel_rfl) (by kernel_rfl) (by kernel_rfl) (by kernel_rfl) (by kernel_rfl) (fun _ _ _ h => h) (YieldsIf.yieldsW (.inl ⟨by rfl, ?_⟩)) ?_
        rotate_left 1
        · (intro W hW; (try dsimp only at hW); go_simp; try with_reducible rfl)
        try simp only [Act.put, List.setIfInBounds_toArray, List.set_cons_zero, List.set_cons_succ]
        refine w_take (i := 11) (v := ?_) [] (some 22) rfl (by rfl) (by kernel_rfl) (by kernel_rfl) (by kernel_rfl) (by kernel_rfl) (by kernel_rfl) (by kernel_rfl) (fun _ _ _ h => h) (YieldsIf.yieldsW (.inl ⟨by rfl, ?_⟩)) ?_
        rotate_left 1
        · (intro W hW; (try dsimp only at hW); go_simp; try with_reducible rfl)
        try simp only [Act.put, List.setIfInBounds_toArray, List.set_cons_zero, List.set_cons_succ]
        refine w_take (i := 12) (v := ?_) [] (some 23) rfl (by rfl) (by kernel_rfl) (by kernel_rfl) (by kernel_rfl) (by kernel_rfl) (by kernel_rfl) (by kernel_rfl) (fun _ _ _ h => h) (YieldsIf.yieldsW (.inl ⟨by rfl, ?_⟩)) ?_
        rotate_left 1
        · (intro W hW; (try dsimp only at hW); go_simp; try with_reducible rfl)
        try simp only [Act.put, List.setIfInBounds_toArray, List.set_cons_zero, List.set_cons_succ]
        refine w_take (i := 13) (v := ?_) [] (some 24) rfl (by rfl) (by kernel_rfl) (by kernel_rfl) (by kernel_rfl) (by kernel_rfl) (by kernel_rfl) (by kernel_rfl) (fun _ _ _ h => h) (YieldsIf.yieldsW (.inl ⟨by rfl, ?_⟩)) ?_
        rotate_left 1
        · (intro W hW; (try dsimp only at hW); go_simp; try with_reducible rfl)
        try simp only [Act.put, List.setIfInBounds_toArray, List.set_cons_zero, List.set_cons_succ]
        refine w_take (i := 14) (v := ?_) [] (some 25) rfl (by rfl) (by kernel_rfl) (by kernel_rfl) (by kernel_rfl) (by kernel_rfl) (by kernel_rfl) (by kernel_rfl) (fun _ _ _ h => h) (YieldsIf.yieldsW (.inl ⟨by rfl, ?_⟩)) ?_
        rotate_left 1
        · (intro W hW; (try dsimp only at hW); go_simp; try with_reducible rfl)
        try simp only [Act.put, List.setIfInBounds_toArray, List.set_cons_zero, List.set_cons_succ]
        refine w_take (i := 15) (v := ?_) [] (some 26) rfl (by rfl) (by kernel_rfl) (by kernel_rfl) (by kernel_rfl) (by kernel_rfl) (by kernel_rfl) (by kernel_rfl) (fun _ _ _ h => h) (YieldsIf.yieldsW (.inl ⟨by rfl, ?_⟩)) ?_
        rotate_left 1
        · (intro W hW; (try dsimp only at hW); go_simp; try with_reducible rfl)
        try simp only [Act.put, List.setIfInBounds_toArray, List.set_cons_zero, List.set_cons_succ]
        refine w_take (i := 16) (v := ?_) [] (some 27) rfl (by rfl) (by kernel_rfl) (by kernel_rfl) (by kernel_rfl) (by kernel_rfl) (by kernel_rfl) (by kernel_rfl) (fun _ _ _ h => h) (YieldsIf.yieldsW (.inl ⟨by rfl, ?_⟩)) ?_
        rotate_left 1
        · (intro W hW; (try dsimp only at hW); go_simp; try with_reducible rfl)
        try simp only [Act.put, List.setIfInBounds_toArray, List.set_cons_zero, List.set_cons_succ]
        refine w_take (i := 17) (v := ?_) [] (some 28) rfl (by rfl) (by kernel_rfl) (by kernel_rfl) (by kernel_rfl) (by kernel_rfl) (by kernel_rfl) (by kernel_rfl) (fun _ _ _ h => h) (YieldsIf.yieldsW (.inl ⟨by rfl, ?_⟩)) ?_
        rotate_left 1
        · (intro W hW; (try dsimp only at hW); go_simp; try with_reducible rfl)
        try simp only [Act.put, List.setIfInBounds_toArray, List.set_cons_zero, List.set_cons_succ]
        refine w_take (i := 18) (v := ?_) [] (some 29) rfl (by rfl) (by kernel_rfl) (by kernel_rfl) (by kernel_rfl) (by kernel_rfl) (by kernel_rfl) (by kernel_rfl) (fun _ _ _ h => h) (YieldsIf.yieldsW (.inl ⟨by rfl, ?_⟩)) ?_
        rotate_left 1
        · (intro W hW; (try dsimp only at hW); go_simp; try with_reducible rfl)
        try simp only [Act.put, List.setIfInBounds_toArray, List.set_cons_zero, List.set_cons_succ]
        refine w_take (i := 19) (v := ?_) [] (some 30) rfl (by rfl) (by kernel_rfl) (by kernel_rfl) (by kernel_rfl) (by kernel_rfl) (by kernel_rfl) (by kernel_rfl) (fun _ _ _ h => h) (YieldsIf.yieldsW (.inl ⟨by rfl, ?_⟩)) ?_
        rotate_left 1
        · (intro W hW; (try dsimp only at hW); go_simp; try with_reducible rfl)
        try simp only [Act.put, List.setIfInBounds_toArray, List.set_cons_zero, List.set_cons_succ]
        refine w_take (i := 20) (v := undef) [] (some 31) rfl (by rfl) (by kernel_rfl) (by kernel_rfl) (by kernel_rfl) (by kernel_rfl) (by kernel_rfl) (by kernel_rfl) (fun _ _ _ h => h) (.inr ⟨by rfl, rfl⟩) ?_
        try simp only [Act.put, List.setIfInBounds_toArray, List.set_cons_zero, List.set_cons_succ]
        refine w_take (i := 21) (v := undef) [] (some 32) rfl (by rfl) (by kernel_rfl) (by kernel_rfl) (by kernel_rfl) (by kernel_rfl) (by kernel_rfl) (by kernel_rfl) (fun _ _ _ h => h) (.inr ⟨by rfl, rfl⟩) ?_
        try simp only [Act.put, List.setIfInBounds_toArray, List.set_cons_zero, List.set_cons_succ]
        refine w_take (i := 22) (v := undef) [] (some 33) rfl (by rfl) (by kernel_rfl) (by kernel_rfl) (by kernel_rfl) (by kernel_rfl) (by kernel_rfl) (by kernel_rfl) (fun _ _ _ h => h) (.inr ⟨by rfl, rfl⟩) ?_
        try simp only [Act.put, List.setIfInBounds_toArray, List.set_cons_zero, List.set_cons_succ]
        refine w_take (i := 23) (v := undef) [] (some 34) rfl (by rfl) (by kernel_rfl) (by kernel_rfl) (by kernel_rfl) (by kernel_rfl) (by kernel_rfl) (by kernel_rfl) (fun _ _ _ h => h) (.inr ⟨by rfl, rfl⟩) ?_
        try simp only [Act.put, List.setIfInBounds_toArray, List.set_cons_zero, List.set_cons_succ]
        refine w_take (i := 24) (v := undef) [] (some 35) rfl (by rfl) (by kernel_rfl) (by kernel_rfl) (by kernel_rfl) (by kernel_rfl) (by kernel_rfl) (by kernel_rfl) (fun _ _ _ h => h) (.inr ⟨by rfl, rfl⟩) ?_
        try simp only [Act.put, List.setIfInBounds_toArray, List.set_cons_zero, List.set_cons_succ]
        refine w_take (i := 25) (v := ?_) [] (some 36) rfl (by rfl) (by kernel_rfl) (by kernel_rfl) (by kernel_rfl) (by kernel_rfl) (by kernel_rfl) (by kernel_rfl) (fun _ _ _ h => h) (YieldsIf.yieldsW (.inl ⟨by rfl, ?_⟩)) ?_
        rotate_left 1
        · (intro W hW; (try dsimp only at hW); go_simp; try with_reducible rfl)
        try simp only [Act.put, List.setIfInBounds_toArray, List.set_cons_zero, List.set_cons_succ]
        refine w_take (i := 26) (v := ?_) [] (some 37) rfl (by rfl) (by kernel_rfl) (by kernel_rfl) (by kernel_rfl) (by kernel_rfl) (by kernel_rfl) (by kernel_rfl) (fun _ _ _ h => h) (YieldsIf.yieldsW (.inl ⟨by rfl, ?_⟩)) ?_
        rotate_left 1
        · (intro W hW; (try dsimp only at hW); go_simp; try with_reducible rfl)
        try simp only [Act.put, List.setIfInBounds_toArray, List.set_cons_zero, List.set_cons_succ]
        refine w_take (i := 27) (v := undef) [] (some 38) rfl (by rfl) (by kernel_rfl) (by kernel_rfl) (by kernel_rfl) (by kernel_rfl) (by kernel_rfl) (by kernel_rfl) (fun _ _ _ h => h) (.inr ⟨by rfl, rfl⟩) ?_
        try simp only [Act.put, List.setIfInBounds_toArray, List.set_cons_zero, List.set_cons_succ]
        refine w_take (i := 28) (v := undef) [] (some 39) rfl (by rfl) (by kernel_rfl) (by kernel_rfl) (by kernel_rfl) (by kernel_rfl) (by kernel_rfl) (by kernel_rfl) (fun _ _ _ h => h) (.inr ⟨by rfl, rfl⟩) ?_
        try simp only [Act.put, List.setIfInBounds_toArray, List.set_cons_zero, List.set_cons_succ]
        refine w_take (i := 29) (v := undef) [] (some 40) rfl (by rfl) (by kernel_rfl) (by kernel_rfl) (by kernel_rfl) (by kernel_rfl) (by kernel_rfl) (by kernel_rfl) (fun _ _ _ h => h) (.inr ⟨by rfl, rfl⟩) ?_
        try simp only [Act.put, List.setIfInBounds_toArray, List.set_cons_zero, List.set_cons_succ]
        refine w_take (i := 30) (v := undef) [] (some 41) rfl (by rfl) (by kernel_rfl) (by kernel_rfl) (by kernel_rfl) (by kernel_rfl) (by kernel_rfl) (by kernel_rfl) (fun _ _ _ h => h) (.inr ⟨by rfl, rfl⟩) ?_
        try simp only [Act.put, List.setIfInBounds_toArray, List.set_cons_zero, List.set_cons_succ]
        refine w_take (i := 31) (v := undef) [] (some 42) rfl (by rfl) (by kernel_rfl) (by kernel_rfl) (by kernel_rfl) (by kernel_rfl) (by kernel_rfl) (by kernel_rfl) (fun _ _ _ h => h) (.inr ⟨by rfl, rfl⟩) ?_
        try simp only [Act.put, List.setIfInBounds_toArray, List.set_cons_zero, List.set_cons_succ]
        refine w_take (i := 32) (v := ?_) [] (some 43) rfl (by rfl) (by kernel_rfl) (by kernel_rfl) (by kernel_rfl) (by kernel_rfl) (by kernel_rfl) (by kernel_rfl) (fun _ _ _ h => h) (YieldsIf.yieldsW (.inl ⟨by rfl, ?_⟩)) ?_
        rotate_left 1
        · (intro W hW; (try dsimp only at hW); go_simp; try with_reducible rfl)
        try simp only [Act.put, List.setIfInBounds_toArray, List.set_cons_zero, List.set_cons_succ]
        refine w_take (i := 33) (v := ?_) [] (some 44) rfl (by rfl) (by kernel_rfl) (by kernel_rfl) (by kernel_rfl) (by kernel_rfl) (by kernel_rfl) (by kernel_rfl) (fun _ _ _ h => h) (YieldsIf.yieldsW (.inl ⟨by rfl, ?_⟩)) ?_
        rotate_left 1
        · (intro W hW; (try dsimp only at hW); go_simp; try with_reducible rfl)
        try simp only [Act.put, List.setIfInBounds_toArray, List.set_cons_zero, List.set_cons_succ]
        refine w_take (i := 34) (v := undef) [] (some 45) rfl (by rfl) (by kernel_rfl) (by kernel_rfl) (by kernel_rfl) (by kernel_rfl) (by kernel_rfl) (by kernel_rfl) (fun _ _ _ h => h) (.inr ⟨by rfl, rfl⟩) ?_
        try simp only [Act.put, List.setIfInBounds_toArray, List.set_cons_zero, List.set_cons_succ]
        refine w_take (i := 35) (v := undef) [] (some 46) rfl (by rfl) (by kernel_rfl) (by kernel_rfl) (by kernel_rfl) (by kernel_rfl) (by kernel_rfl) (by kernel_rfl) (fun _ _ _ h => h) (.inr ⟨by rfl, rfl⟩) ?_
        try simp only [Act.put, List.setIfInBounds_toArray, List.set_cons_zero, List.set_cons_succ]
        refine w_take (i := 36) (v := undef) [] (some 47) rfl (by rfl) (by kernel_rfl) (by kernel_rfl) (by kernel_rfl) (by kernel_rfl) (by kernel_rfl) (by kernel_rfl) (fun _ _ _ h => h) (.inr ⟨by rfl, rfl⟩) ?_
        try simp only [Act.put, List.setIfInBounds_toArray, List.set_cons_zero, List.set_cons_succ]
        refine w_take (i := 37) (v := undef) [] (some 48) rfl (by rfl) (by kernel_rfl) (by kernel_rfl) (by kernel_rfl) (by kernel_rfl) (by kernel_rfl) (by kernel_rfl) (fun _ _ _ h => h) (.inr ⟨by rfl, rfl⟩) ?_
        try simp only [Act.put, List.setIfInBounds_toArray, List.set_cons_zero, List.set_cons_succ]
        refine w_take (i := 38) (v := undef) [] (some 49) rfl (by rfl) (by kernel_rfl) (by kernel_rfl) (by kernel_rfl) (by kernel_rfl) (by kernel_rfl) (by kernel_rfl) (fun _ _ _ h => h) (.inr ⟨by rfl, rfl⟩) ?_
        try simp only [Act.put, List.setIfInBounds_toArray, List.set_cons_zero, List.set_cons_succ]
        refine w_take (i := 39) (v := ?_) [] (some 50) rfl (by rfl) (by kernel_rfl) (by kernel_rfl) (by kernel_rfl) (by kernel_rfl) (by kernel_rfl) (by kernel_rfl) (fun _ _ _ h => h) (YieldsIf.yieldsW (.inl ⟨by rfl, ?_⟩)) ?_
        rotate_left 1
        · (intro W hW; (try dsimp only at hW); go_simp; try with_reducible rfl)
        try simp only [Act.put, List.setIfInBounds_toArray, List.set_cons_zero, List.set_cons_succ]
        refine w_take (i := 40) (v := ?_) [] (some 51) rfl (by rfl) (by kernel_rfl) (by kernel_rfl) (by kernel_rfl) (by kernel_rfl) (by kernel_rfl) (by kernel_rfl) (fun _ _ _ h => h) (YieldsIf.yieldsW (.inl ⟨by rfl, ?_⟩)) ?_
        rotate_left 1
        · (intro W hW; (try dsimp only at hW); go_simp; try with_reducible rfl)
        try simp only [Act.put, List.setIfInBounds_toArray, List.set_cons_zero, List.set_cons_succ]
        refine w_take (i := 41) (v := undef) [] (some 52) rfl (by rfl) (by kernel_rfl) (by kernel_rfl) (by kernel_rfl) (by kernel_rfl) (by kernel_rfl) (by kernel_rfl) (fun _ _ _ h => h) (.inr ⟨by rfl, rfl⟩) ?_
        try simp only [Act.put, List.setIfInBounds_toArray, List.set_cons_zero, List.set_cons_succ]
        refine w_take (i := 42) (v := undef) [] (some 53) rfl (by rfl) (by kernel_rfl) (by kernel_rfl) (by kernel_rfl) (by kernel_rfl) (by kernel_rfl) (by kernel_rfl) (fun _ _ _ h => h) (.inr ⟨by rfl, rfl⟩) ?_
        try simp only [Act.put, List.setIfInBounds_toArray, List.set_cons_zero, List.set_cons_succ]
        refine w_take (i := 43) (v := undef) [] (some 54) rfl (by rfl) (by kernel_rfl) (by kernel_rfl) (by kernel_rfl) (by kernel_rfl) (by kernel_rfl) (by kernel_rfl) (fun _ _ _ h => h) (.inr ⟨by rfl, rfl⟩) ?_
        try simp only [Act.put, List.setIfInBounds_toArray, List.set_cons_zero, List.set_cons_succ]
        refine w_take (i := 44) (v := undef) [] (some 55) rfl (by rfl) (by kernel_rfl) (by kernel_rfl) (by kernel_rfl) (by kernel_rfl) (by kernel_rfl) (by kernel_rfl) (fun _ _ _ h => h) (.inr ⟨by rfl, rfl⟩) ?_
        try simp only [Act.put, List.setIfInBounds_toArray, List.set_cons_zero, List.set_cons_succ]
        refine w_take (i := 45) (v := undef) [] (some 56) rfl (by rfl) (by kernel_rfl) (by kernel_rfl) (by kernel_rfl) (by kernel_rfl) (by kernel_rfl) (by kernel_rfl) (fun _ _ _ h => h) (.inr ⟨by rfl, rfl⟩) ?_
        try simp only [Act.put, List.setIfInBounds_toArray, List.set_cons_zero, List.set_cons_succ]
        refine w_take (i := 46) (v := ?_) [] (some 57) rfl (by rfl) (by kernel_rfl) (by kernel_rfl) (by kernel_rfl) (by kernel_rfl) (by kernel_rfl) (by kernel_rfl) (fun _ _ _ h => h) (YieldsIf.yieldsW (.inl ⟨by rfl, ?_⟩)) ?_
        rotate_left 1
        · (intro W hW; (try dsimp only at hW); go_simp; try with_reducible rfl)
        try simp only [Act.put, List.setIfInBounds_toArray, List.set_cons_zero, List.set_cons_succ]
        refine w_take (i := 47) (v := ?_) [] (some 4) rfl (by rfl) (by kernel_rfl) (by kernel_rfl) (by kernel_rfl) (by kernel_rfl) (by kernel_rfl) (by kernel_rfl) (fun _ _ _ h => h) (YieldsIf.yieldsW (.inl ⟨by rfl, ?_⟩)) ?_
        rotate_left 1
        · (intro W hW; (try dsimp only at hW); go_simp; try with_reducible rfl)
        try simp only [Act.put, List.setIfInBounds_toArray, List.set_cons_zero, List.set_cons_succ]
        refine w_done (by kernel_rfl) (by rfl) (fun V2 hV2 => ?_) _
        go_wp2_with fail
        go_returns
        exact ⟨rfl, XW.out.trans hV2⟩
      have n2 : (s.e.id == t.e.id) = true := by simpa using h2
      have H2 := Lib.hid h2
      clear h2
      cases sv with
      | false =>
        obtain rfl : b = false := by rw [← hb.out]; exact decide_eq_false (fun h => of_decide_eq_false HSV.out ⟨((o_eq _ _).1 ((en_eq _ _).1 h).2.2).2.2.1, ((o_eq _ _).1 ((en_eq _ _).1 h).2.2).2.2.2.1, ((o_eq _ _).1 ((en_eq _ _).1 h).2.2).2.2.2.2.1⟩)
        go_upto_region 2 with (fail)
        refine w_region (fun w1 => Ext wc w1) [] (by kernel_rfl) ((Ext.refl wc).drew) ?_
        refine w_take (i := 0) (v := ?_) [] (some 11) rfl (by rfl) (by kernel_rfl) (by kernel_rfl) (by kernel_rfl) (by kernel_rfl) (by kernel_rfl) (by kernel_rfl) (fun _ _ _ h => h) (YieldsIf.yieldsW (.inl ⟨by rfl, ?_⟩)) ?_
        rotate_left 1
        · (intro W hW; (try dsimp only at hW); go_simp; try with_reducible rfl)
        try simp only [Act.put, List.setIfInBounds_toArray, List.set_cons_zero, List.set_cons_succ]
        refine w_take (i := 1) (v := (.agg #[.int .i64 s.e.cl, .int .i64 s.e.nu])) [] (some 12) rfl (by rfl) (by kernel_rfl) (by kernel_rfl) (by kernel_rfl) (by kernel_rfl) (by kernel_rfl) (by kernel_rfl) (fun _ _ _ h => h) (.inl ⟨by rfl, ?_⟩) ?_
        · (intro W hW; refine .inr ⟨_, _, _, ?_, ((keyof_any s W).mono fun _ _ ⟨h1, h2⟩ => ⟨h1, hW.trans h2⟩)⟩; go_simp; try with_reducible rfl)
        try simp only [Act.put, List.setIfInBounds_toArray, List.set_cons_zero, List.set_cons_succ]
        refine w_take (i := 2) (v := ?_) [] (some 13) rfl (by rfl) (by kernel_rfl) (by kernel_rfl) (by kernel_rfl) (by kernel_rfl) (by kernel_rfl) (by kernel_rfl) (fun _ _ _ h => h) (YieldsIf.yieldsW (.inl ⟨by rfl, ?_⟩)) ?_
        rotate_left 1
        · (intro W hW; (try dsimp only at hW); go_simp; try with_reducible rfl)
        try simp only [Act.put, List.setIfInBounds_toArray, List.set_cons_zero, List.set_cons_succ]
        refine w_take (i := 3) (v := (.agg #[.int .i64 t.e.cl, .int .i64 t.e.nu])) [] (some 14) rfl (by rfl) (by kernel_rfl) (by kernel_rfl) (by kernel_rfl) (by kernel_rfl) (by kernel_rfl) (by kernel_rfl) (fun _ _ _ h => h) (.inl ⟨by rfl, ?_⟩) ?_
        · (intro W hW; refine .inr ⟨_, _, _, ?_, ((keyof_any t W).mono fun _ _ ⟨h1, h2⟩ => ⟨h1, hW.trans h2⟩)⟩; go_simp; try with_reducible rfl)
        try simp only [Act.put, List.setIfInBounds_toArray, List.set_cons_zero, List.set_cons_succ]
        refine w_take (i := 4) (v := ?_) [] (some 15) rfl (by rfl) (by kernel_rfl) (by kernel_rfl) (by kernel_rfl) (by kernel_rfl) (by kernel_rfl) (by kernel_rfl) (fun _ _ _ h => h) (YieldsIf.yieldsW (.inl ⟨by rfl, ?_⟩)) ?_
        rotate_left 1
        · (intro W hW; (try dsimp only at hW); go_simp; try with_reducible rfl)
        try simp only [Act.put, List.setIfInBounds_toArray, List.set_cons_zero, List.set_cons_succ]
        refine w_take (i := 5) (v := ?_) [] (some 16) rfl (by rfl) (by kernel_rfl) (by kernel_rfl) (by kernel_rfl) (by kernel_rfl) (by kernel_rfl) (by kernel_rfl) (fun _ _ _ h => h) (YieldsIf.yieldsW (.inl ⟨by rfl, ?_⟩)) ?_
        rotate_left 1
        · (intro W hW; (try dsimp only at hW); go_simp; try with_reducible rfl)
        try simp only [Act.put, List.setIfInBounds_toArray, List.set_cons_zero, List.set_cons_succ]
        refine w_take (i := 6) (v := ?_) [] (some 17) rfl (by rfl) (by kernel_rfl) (by kernel_rfl) (by kernel_rfl) (by kernel_rfl) (by kernel_rfl) (by kernel_rfl) (fun _ _ _ h => h) (YieldsIf.yieldsW (.inl ⟨by rfl, ?_⟩)) ?_
        rotate_left 1
        · (intro W hW; (try dsimp only at hW); go_simp; try with_reducible rfl)
        try simp only [Act.put, List.setIfInBounds_toArray, List.set_cons_zero, List.set_cons_succ]
        refine w_take (i := 7) (v := ?_) [] (some 18) rfl (by rfl) (by kernel_rfl) (by kernel_rfl) (by kernel_rfl) (by kernel_rfl) (by kernel_rfl) (by kernel_rfl) (fun _ _ _ h => h) (YieldsIf.yieldsW (.inl ⟨by rfl, ?_⟩)) ?_
        rotate_left 1
        · (intro W hW; (try dsimp only at hW); go_simp; try with_reducible rfl)
        try simp only [Act.put, List.setIfInBounds_toArray, List.set_cons_zero, List.set_cons_succ]
        refine w_take (i := 8) (v := ?_) [] (some 19) rfl (by rfl) (by kernel_rfl) (by kernel_rfl) (by kernel_rfl) (by kernel_rfl) (by kernel_rfl) (by kernel_rfl) (fun _ _ _ h => h) (YieldsIf.yieldsW (.inl ⟨by rfl, ?_⟩)) ?_
        rotate_left 1
        · (intro W hW; (try dsimp only at hW); go_simp; try with_reducible rfl)
        try simp only [Act.put, List.setIfInBounds_toArray, List.set_cons_zero, List.set_cons_succ]
        refine w_take (i := 9) (v := ?_) [] (some 20) rfl (by rfl) (by kernel_rfl) (by kernel_rfl) (by kernel_rfl) (by kernel_rfl) (by kernel_rfl) (by kernel_rfl) (fun _ _ _ h => h) (YieldsIf.yieldsW (.inl ⟨by rfl, ?_⟩)) ?_
        rotate_left 1
        · (intro W hW; (try dsimp only at hW); go_simp; try with_reducible rfl)
        try simp only [Act.put, List.setIfInBounds_toArray, List.set_cons_zero, List.set_cons_succ]
        refine w_take (i := 10) (v := ?_) [] (some 21) rfl (by rfl) (by kernel_rfl) (by kernel_rfl) (by kernel_rfl) (by kernel_rfl) (by kernel_rfl) (by kernel_rfl) (fun _ _ _ h => h) (YieldsIf.yieldsW (.inl ⟨by rfl, ?_⟩)) ?_
        rotate_left 1
        · (intro W hW; (try dsimp only at hW); go_simp; try with_reducible rfl)
        try simp only [Act.put, List.setIfInBounds_toArray, List.set_cons_zero, List.set_cons_succ]
        refine w_take (i := 11) (v := ?_) [] (some 22) rfl (by rfl) (by kernel_rfl) (by kernel_rfl) (by kernel_rfl) (by kernel_rfl) (by kernel_rfl) (by kernel_rfl) (fun _ _ _ h => h) (YieldsIf.yieldsW (.inl ⟨by rfl, ?_⟩)) ?_
        rotate_left 1
        · (intro W hW; (try dsimp only at hW); go_simp; try with_reducible rfl)
        try simp only [Act.put, List.setIfInBounds_toArray, List.set_cons_zero, List.set_cons_succ]
        refine w_take (i := 12) (v := ?_) [] (some 23) rfl (by rfl) (by kernel_rfl) (by kernel_rfl) (by kernel_rfl) (by kernel_rfl) (by kernel_rfl) (by kernel_rfl) (fun _ _ _ h => h) (YieldsIf.yieldsW (.inl ⟨by rfl, ?_⟩)) ?_
        rotate_left 1
        · (intro W hW; (try dsimp only at hW); go_simp; try with_reducible rfl)
        try simp only [Act.put, List.setIfInBounds_toArray, List.set_cons_zero, List.set_cons_succ]
        refine w_take (i := 13) (v := ?_) [] (some 24) rfl (by rfl) (by kernel_rfl) (by kernel_rfl) (by kernel_rfl) (by kernel_rfl) (by kernel_rfl) (by kernel_rfl) (fun _ _ _ h => h) (YieldsIf.yieldsW (.inl ⟨by rfl, ?_⟩)) ?_
        rotate_left 1
        · (intro W hW; (try dsimp only at hW); go_simp; try with_reducible rfl)
        try simp only [Act.put, List.setIfInBounds_toArray, List.set_cons_zero, List.set_cons_succ]
        refine w_take (i := 14) (v := ?_) [] (some 25) rfl (by rfl) (by kernel_rfl) (by kernel_rfl) (by kernel_rfl) (by kernel_rfl) (by kernel_rfl) (by kernel_rfl) (fun _ _ _ h => h) (YieldsIf.yieldsW (.inl ⟨by rfl, ?_⟩)) ?_
        rotate_left 1
        · (intro W hW; (try dsimp only at hW); go_simp; try with_reducible rfl)
        try simp only [Act.put, List.setIfInBounds_toArray, List.set_cons_zero, List.set_cons_succ]
        refine w_take (i := 15) (v := ?_) [] (some 26) rfl (by rfl) (by kernel_rfl) (by kernel_rfl) (by kernel_rfl) (by kernel_rfl) (by kernel_rfl) (by kernel_rfl) (fun _ _ _ h => h) (YieldsIf.yieldsW (.inl ⟨by rfl, ?_⟩)) ?_
        rotate_left 1
        · (intro W hW; (try dsimp only at hW); go_simp; try with_reducible rfl)
        try simp only [Act.put, List.setIfInBounds_toArray, List.set_cons_zero, List.set_cons_succ]
        refine w_take (i := 16) (v := ?_) [] (some 27) rfl (by rfl) (by kernel_rfl) (by kernel_rfl) (by kernel_rfl) (by kernel_rfl) (by kernel_rfl) (by kernel_rfl) (fun _ _ _ h => h) (YieldsIf.yieldsW (.inl ⟨by rfl, ?_⟩)) ?_
        rotate_left 1
        · (intro W hW; (try dsimp only at hW); go_simp; try with_reducible rfl)
        try simp only [Act.put, List.setIfInBounds_toArray, List.set_cons_zero, List.set_cons_succ]
        refine w_take (i := 17) (v := ?_) [] (some 28) rfl (by rfl) (by kernel_rfl) (by kernel_rfl) (by kernel_rfl) (by kernel_rfl) (by kernel_rfl) (by kernel_rfl) (fun _ _ _ h => h) (YieldsIf.yieldsW (.inl ⟨by rfl, ?_⟩)) ?_
        rotate_left 1
        · (intro W hW; (try dsimp only at hW); go_simp; try with_reducible rfl)
        try simp only [Act.put, List.setIfInBounds_toArray, List.set_cons_zero, List.set_cons_succ]
        refine w_take (i := 18) (v := ?_) [] (some 29) rfl (by rfl) (by kernel_rfl) (by kernel_rfl) (by kernel_rfl) (by kernel_rfl) (by kernel_rfl) (by kernel_rfl) (fun _ _ _ h => h) (YieldsIf.yieldsW (.inl ⟨by rfl, ?_⟩)) ?_
        rotate_left 1
        · (intro W hW; (try dsimp only at hW); go_simp; try with_reducible rfl)
        try simp only [Act.put, List.setIfInBounds_toArray, List.set_cons_zero, List.set_cons_succ]
        refine w_take (i := 19) (v := ?_) [] (some 30) rfl (by rfl) (by kernel_rfl) (by kernel_rfl) (by kernel_rfl) (by kernel_rfl) (by kernel_rfl) (by kernel_rfl) (fun _ _ _ h => h) (YieldsIf.yieldsW (.inl ⟨by rfl, ?_⟩)) ?_
        rotate_left 1
        · (intro W hW; (try dsimp only at hW); go_simp; try with_reducible rfl)
        try simp only [Act.put, List.setIfInBounds_toArray, List.set_cons_zero, List.set_cons_succ]
        refine w_take (i := 20) (v := ?_) [] (some 31) rfl (by rfl) (by kernel_rfl) (by kernel_rfl) (by kernel_rfl) (by kernel_rfl) (by kernel_rfl) (by kernel_rfl) (fun _ _ _ h => h) (YieldsIf.yieldsW (.inl ⟨by rfl, ?_⟩)) ?_
        rotate_left 1
        · (intro W hW; (try dsimp only at hW); go_simp; try with_reducible rfl)
        try simp only [Act.put, List.setIfInBounds_toArray, List.set_cons_zero, List.set_cons_succ]
        refine w_take (i := 21) (v := ?_) [] (some 32) rfl (by rfl) (by kernel_rfl) (by kernel_rfl) (by kernel_rfl) (by kernel_rfl) (by kernel_rfl) (by kernel_rfl) (fun _ _ _ h => h) (YieldsIf.yieldsW (.inl ⟨by rfl, ?_⟩)) ?_
        rotate_left 1
        · (intro W hW; (try dsimp only at hW); go_simp; try with_reducible rfl)
        try simp only [Act.put, List.setIfInBounds_toArray, List.set_cons_zero, List.set_cons_succ]
        refine w_take (i := 22) (v := ?_) [] (some 33) rfl (by rfl) (by kernel_rfl) (by kernel_rfl) (by kernel_rfl) (by kernel_rfl) (by kernel_rfl) (by kernel_rfl) (fun _ _ _ h => h) (YieldsIf.yieldsW (.inl ⟨by rfl, ?_⟩)) ?_
        rotate_left 1
        · (intro W hW; (try dsimp only at hW); go_simp; try with_reducible rfl)
        try simp only [Act.put, List.setIfInBounds_toArray, List.set_cons_zero, List.set_cons_succ]
        refine w_take (i := 23) (v := ?_) [] (some 34) rfl (by rfl) (by kernel_rfl) (by kernel_rfl) (by kernel_rfl) (by kernel_rfl) (by kernel_rfl) (by kernel_rfl) (fun _ _ _ h => h) (YieldsIf.yieldsW (.inl ⟨by rfl, ?_⟩)) ?_
        rotate_left 1
        · (intro W hW; (try dsimp only at hW); go_simp; try with_reducible rfl)
        try simp only [Act.put, List.setIfInBounds_toArray, List.set_cons_zero, List.set_cons_succ]
        refine w_take (i := 24) (v := ?_) [] (some 35) rfl (by rfl) (by kernel_rfl) (by kernel_rfl) (by kernel_rfl) (by kernel_rfl) (by kernel_rfl) (by kernel_rfl) (fun _ _ _ h => h) (YieldsIf.yieldsW (.inl ⟨by rfl, ?_⟩)) ?_
        rotate_left 1
        · (intro W hW; (try dsimp only at hW); go_simp; try with_reducible rfl)
        try simp only [Act.put, List.setIfInBounds_toArray, List.set_cons_zero, List.set_cons_succ]
        refine w_take (i := 25) (v := ?_) [] (some 36) rfl (by rfl) (by kernel_rfl) (by kernel_rfl) (by kernel_rfl) (by kernel_rfl) (by kernel_rfl) (by kernel_rfl) (fun _ _ _ h => h) (YieldsIf.yieldsW (.inl ⟨by rfl, ?_⟩)) ?_
        rotate_left 1
        · (intro W hW; (try dsimp only at hW); go_simp; try with_reducible rfl)
        try simp only [Act.put, List.setIfInBounds_toArray, List.set_cons_zero, List.set_cons_succ]
        refine w_take (i := 26) (v := ?_) [] (some 37) rfl (by rfl) (by kernel_rfl) (by kernel_rfl) (by kernel_rfl) (by kernel_rfl) (by kernel_rfl) (by kernel_rfl) (fun _ _ _ h => h) (YieldsIf.yieldsW (.inl ⟨by rfl, ?_⟩)) ?_
        rotate_left 1
        · (intro W hW; (try dsimp only at hW); go_simp; try with_reducible rfl)
        try simp only [Act.put, List.setIfInBounds_toArray, List.set_cons_zero, List.set_cons_succ]
        refine w_take (i := 27) (v := undef) [] (some 38) rfl (by rfl) (by kernel_rfl) (by kernel_rfl) (by kernel_rfl) (by kernel_rfl) (by kernel_rfl) (by kernel_rfl) (fun _ _ _ h => h) (.inr ⟨by rfl, rfl⟩) ?_
        try simp only [Act.put, List.setIfInBounds_toArray, List.set_cons_zero, List.set_cons_succ]
        refine w_take (i := 28) (v := undef) [] (some 39) rfl (by rfl) (by kernel_rfl) (by kernel_rfl) (by kernel_rfl) (by kernel_rfl) (by kernel_rfl) (by kernel_rfl) (fun _ _ _ h => h) (.inr ⟨by rfl, rfl⟩) ?_
        try simp only [Act.put, List.setIfInBounds_toArray, List.set_cons_zero, List.set_cons_succ]
        refine w_take (i := 29) (v := undef) [] (some 40) rfl (by rfl) (by kernel_rfl) (by kernel_rfl) (by kernel_rfl) (by kernel_rfl) (by kernel_rfl) (by kernel_rfl) (fun _ _ _ h => h) (.inr ⟨by rfl, rfl⟩) ?_
        try simp only [Act.put, List.setIfInBounds_toArray, List.set_cons_zero, List.set_cons_succ]
        refine w_take (i := 30) (v := undef) [] (some 41) rfl (by rfl) (by kernel_rfl) (by kernel_rfl) (by kernel_rfl) (by kernel_rfl) (by kernel_rfl) (by kernel_rfl) (fun _ _ _ h => h) (.inr ⟨by rfl, rfl⟩) ?_
        try simp only [Act.put, List.setIfInBounds_toArray, List.set_cons_zero, List.set_cons_succ]
        refine w_take (i := 31) (v := undef) [] (some 42) rfl (by rfl) (by kernel_rfl) (by kernel_rfl) (by kernel_rfl) (by kernel_rfl) (by kernel_rfl) (by kernel_rfl) (fun _ _ _ h => h) (.inr ⟨by rfl, rfl⟩) ?_
        try simp only [Act.put, List.setIfInBounds_toArray, List.set_cons_zero, List.set_cons_succ]
        refine w_take (i := 32) (v := ?_) [] (some 43) rfl (by rfl) (by kernel_rfl) (by kernel_rfl) (by kernel_rfl) (by kernel_rfl) (by kernel_rfl) (by kernel_rfl) (fun _ _ _ h => h) (YieldsIf.yieldsW (.inl ⟨by rfl, ?_⟩)) ?_
        rotate_left 1
        · (intro W hW; (try dsimp only at hW); go_simp; try with_reducible rfl)
        try simp only [Act.put, List.setIfInBounds_toArray, List.set_cons_zero, List.set_cons_succ]
        refine w_take (i := 33) (v := ?_) [] (some 44) rfl (by rfl) (by kernel_rfl) (by kernel_rfl) (by kernel_rfl) (by kernel_rfl) (by kernel_rfl) (by kernel_rfl) (fun _ _ _ h => h) (YieldsIf.yieldsW (.inl ⟨by rfl, ?_⟩)) ?_
        rotate_left 1
        · (intro W hW; (try dsimp only at hW); go_simp; try with_reducible rfl)
        try simp only [Act.put, List.setIfInBounds_toArray, List.set_cons_zero, List.set_cons_succ]
        refine w_take (i := 34) (v := undef) [] (some 45) rfl (by rfl) (by kernel_rfl) (by kernel_rfl) (by kernel_rfl) (by kernel_rfl) (by kernel_rfl) (by kernel_rfl) (fun _ _ _ h => h) (.inr ⟨by rfl, rfl⟩) ?_
        try simp only [Act.put, List.setIfInBounds_toArray, List.set_cons_zero, List.set_cons_succ]
        refine w_take (i := 35) (v := undef) [] (some 46) rfl (by rfl) (by kernel_rfl) (by kernel_rfl) (by kernel_rfl) (by kernel_rfl) (by kernel_rfl) (by kernel_rfl) (fun _ _ _ h => h) (.inr ⟨by rfl, rfl⟩) ?_
        try simp only [Act.put, List.setIfInBounds_toArray, List.set_cons_zero, List.set_cons_succ]
        refine w_take (i := 36) (v := undef) [] (some 47) rfl (by rfl) (by kernel_rfl) (by kernel_rfl) (by kernel_rfl) (by kernel_rfl) (by kernel_rfl) (by kernel_rfl) (fun _ _ _ h => h) (.inr ⟨by rfl, rfl⟩) ?_
        try simp only [Act.put, List.setIfInBounds_toArray, List.set_cons_zero, List.set_cons_succ]
        refine w_take (i := 37) (v := undef) [] (some 48) rfl (by rfl) (by kernel_rfl) (by kernel_rfl) (by kernel_rfl) (by kernel_rfl) (by kernel_rfl) (by kernel_rfl) (fun _ _ _ h => h) (.inr ⟨by rfl, rfl⟩) ?_
        try simp only [Act.put, List.setIfInBounds_toArray, List.set_cons_zero, List.set_cons_succ]
        refine w_take (i := 38) (v := undef) [] (some 49) rfl (by rfl) (by kernel_rfl) (by kernel_rfl) (by kernel_rfl) (by kernel_rfl) (by kernel_rfl) (by kernel_rfl) (fun _ _ _ h => h) (.inr ⟨by rfl, rfl⟩) ?_
        try simp only [Act.put, List.setIfInBounds_toArray, List.set_cons_zero, List.set_cons_succ]
        refine w_take (i := 39) (v := ?_) [] (some 50) rfl (by rfl) (by kernel_rfl) (by kernel_rfl) (by kernel_rfl) (by kernel_rfl) (by kernel_rfl) (by kernel_rfl) (fun _ _ _ h => h) (YieldsIf.yieldsW (.inl ⟨by rfl, ?_⟩)) ?_
        rotate_left 1
        · (intro W hW; (try dsimp only at hW); go_simp; try with_reducible rfl)
        try simp only [Act.put, List.setIfInBounds_toArray, List.set_cons_zero, List.set_cons_succ]
        refine w_take (i := 40) (v := ?_) [] (some 51) rfl (by rfl) (by kernel_rfl) (by kernel_rfl) (by kernel_rfl) (by kernel_rfl) (by kernel_rfl) (by kernel_rfl) (fun _ _ _ h => h) (YieldsIf.yieldsW (.inl ⟨by rfl, ?_⟩)) ?_
        rotate_left 1
        · (intro W hW; (try dsimp only at hW); go_simp; try with_reducible rfl)
        try simp only [Act.put, List.setIfInBounds_toArray, List.set_cons_zero, List.set_cons_succ]
        refine w_take (i := 41) (v := undef) [] (some 52) rfl (by rfl) (by kernel_rfl) (by kernel_rfl) (by kernel_rfl) (by kernel_rfl) (by kernel_rfl) (by kernel_rfl) (fun _ _ _ h => h) (.inr ⟨by rfl, rfl⟩) ?_
        try simp only [Act.put, List.setIfInBounds_toArray, List.set_cons_zero, List.set_cons_succ]
        refine w_take (i := 42) (v := undef) [] (some 53) rfl (by rfl) (by kernel_rfl) (by kernel_rfl) (by kernel_rfl) (by kernel_rfl) (by kernel_rfl) (by kernel_rfl) (fun _ _ _ h => h) (.inr ⟨by rfl, rfl⟩) ?_
        try simp only [Act.put, List.setIfInBounds_toArray, List.set_cons_zero, List.set_cons_succ]
        refine w_take (i := 43) (v := undef) [] (some 54) rfl (by rfl) (by kernel_rfl) (by kernel_rfl) (by kernel_rfl) (by kernel_rfl) (by kernel_rfl) (by kernel_rfl) (fun _ _ _ h => h) (.inr ⟨by rfl, rfl⟩) ?_
        try simp only [Act.put, List.setIfInBounds_toArray, List.set_cons_zero, List.set_cons_succ]
        refine w_take (i := 44) (v := undef) [] (some 55) rfl (by rfl) (by kernel_rfl) (by kernel_rfl) (by kernel_rfl) (by kernel_rfl) (by kernel_rfl) (by kernel_rfl) (fun _ _ _ h => h) (.inr ⟨by rfl, rfl⟩) ?_
        try simp only [Act.put, List.setIfInBounds_toArray, List.set_cons_zero, List.set_cons_succ]
        refine w_take (i := 45) (v := undef) [] (some 56) rfl (by rfl) (by kernel_rfl) (by kernel_rfl) (by kernel_rfl) (by kernel_rfl) (by kernel_rfl) (by kernel_rfl) (fun _ _ _ h => h) (.inr ⟨by rfl, rfl⟩) ?_
        try simp only [Act.put, List.setIfInBounds_toArray, List.set_cons_zero, List.set_cons_succ]
        refine w_take (i := 46) (v := ?_) [] (some 57) rfl (by rfl) (by kernel_rfl) (by kernel_rfl) (by kernel_rfl) (by kernel_rfl) (by kernel_rfl) (by kernel_rfl) (fun _ _ _ h => h) (YieldsIf.yieldsW (.inl ⟨by rfl, ?_⟩)) ?_
        rotate_left 1
        · (intro W hW; (try dsimp only at hW); go_simp; try with_reducible rfl)
        try simp only [Act.put, List.setIfInBounds_toArray, List.set_cons_zero, List.set_cons_succ]
        refine w_take (i := 47) (v := ?_) [] (some 4) rfl (by rfl) (by kernel_rfl) (by kernel_rfl) (by kernel_rfl) (by kernel_rfl) (by kernel_rfl) (by kernel_rfl) (fun _ _ _ h => h) (YieldsIf.yieldsW (.inl ⟨by rfl, ?_⟩)) ?_
        rotate_left 1
        · (intro W hW; (try dsimp only at hW); go_simp; try with_reducible rfl)
        try simp only [Act.put, List.setIfInBounds_toArray, List.set_cons_zero, List.set_cons_succ]
        refine w_done (by kernel_rfl) (by rfl) (fun V2 hV2 => ?_) _
        go_wp2_with fail
        go_returns
        exact ⟨rfl, XW.out.trans hV2⟩
      | true =>
        by_cases h4 : s.e.pol = t.e.pol
        rotate_left 1
        · have n4 : (s.e.pol == t.e.pol) = false := by simpa using h4
          obtain rfl : b = false := by rw [← hb.out]; exact decide_eq_false (fun h => h4 ((o_eq _ _).1 ((en_eq _ _).1 h).2.2).2.2.2.2.2.1)
          clear h4
          go_upto_region 2 with (fail)
          refine w_region (fun w1 => Ext wc w1) [] (by kernel_rfl) ((Ext.refl wc).drew) ?_
          refine w_take (i := 0) (v := ?_) [] (some 11) rfl (by rfl) (by kernel_rfl) (by kernel_rfl) (by kernel_rfl) (by kernel_rfl) (by kernel_rfl) (by kernel_rfl) (fun _ _ _ h => h) (YieldsIf.yieldsW (.inl ⟨by rfl, ?_⟩)) ?_
          rotate_left 1
          · (intro W hW; (try dsimp only at hW); go_simp; try with_reducible rfl)
          try simp only [Act.put, List.setIfInBounds_toArray, List.set_cons_zero, List.set_cons_succ]
          refine w_take (i := 1) (v := (.agg #[.int .i64 s.e.cl, .int .i64 s.e.nu])) [] (some 12) rfl (by rfl) (by kernel_rfl) (by kernel_rfl) (by kernel_rfl) (by kernel_rfl) (by kernel_rfl) (by kernel_rfl) (fun _ _ _ h => h) (.inl ⟨by rfl, ?_⟩) ?_
          · (intro W hW; refine .inr ⟨_, _, _, ?_, ((keyof_any s W).mono fun _ _ ⟨h1, h2⟩ => ⟨h1, hW.trans h2⟩)⟩; go_simp; try with_reducible rfl)
          try simp only [Act.put, List.setIfInBounds_toArray, List.set_cons_zero, List.set_cons_succ]
          refine w_take (i := 2) (v := ?_) [] (some 13) rfl (by rfl) (by kernel_rfl) (by kernel_rfl) (by kernel_rfl) (by kernel_rfl) (by kernel_rfl) (by kernel_rfl) (fun _ _ _ h => h) (YieldsIf.yieldsW (.inl ⟨by rfl, ?_⟩)) ?_
          rotate_left 1
          · (intro W hW; (try dsimp only at hW); go_simp; try with_reducible rfl)
          try simp only [Act.put, List.setIfInBounds_toArray, List.set_cons_zero, List.set_cons_succ]
          refine w_take (i := 3) (v := (.agg #[.int .i64 t.e.cl, .int .i64 t.e.nu])) [] (some 14) rfl (by rfl) (by kernel_rfl) (by kernel_rfl) (by kernel_rfl) (by kernel_rfl) (by kernel_rfl) (by kernel_rfl) (fun _ _ _ h => h) (.inl ⟨by rfl, ?_⟩) ?_
          · (intro W hW; refine .inr ⟨_, _, _, ?_, ((keyof_any t W).mono fun _ _ ⟨h1, h2⟩ => ⟨h1, hW.trans h2⟩)⟩; go_simp; try with_reducible rfl)
          try simp only [Act.put, List.setIfInBounds_toArray, List.set_cons_zero, List.set_cons_succ]
          refine w_take (i := 4) (v := ?_) [] (some 15) rfl (by rfl) (by kernel_rfl) (by kernel_rfl) (by kernel_rfl) (by kernel_rfl) (by kernel_rfl) (by kernel_rfl) (fun _ _ _ h => h) (YieldsIf.yieldsW (.inl ⟨by rfl, ?_⟩)) ?_
          rotate_left 1
          · (intro W hW; (try dsimp only at hW); go_simp; try with_reducible rfl)
          try simp only [Act.put, List.setIfInBounds_toArray, List.set_cons_zero, List.set_cons_succ]
          refine w_take (i := 5) (v := ?_) [] (some 16) rfl (by rfl) (by kernel_rfl) (by kernel_rfl) (by kernel_rfl) (by kernel_rfl) (by kernel_rfl) (by kernel_rfl) (fun _ _ _ h => h) (YieldsIf.yieldsW (.inl ⟨by rfl, ?_⟩)) ?_
          rotate_left 1
          · (intro W hW; (try dsimp only at hW); go_simp; try with_reducible rfl)
          try simp only [Act.put, List.setIfInBounds_toArray, List.set_cons_zero, List.set_cons_succ]
          refine w_take (i := 6) (v := ?_) [] (some 17) rfl (by rfl) (by kernel_rfl) (by kernel_rfl) (by kernel_rfl) (by kernel_rfl) (by kernel_rfl) (by kernel_rfl) (fun _ _ _ h => h) (YieldsIf.yieldsW (.inl ⟨by rfl, ?_⟩)) ?_
          rotate_left 1
          · (intro W hW; (try dsimp only at hW); go_simp; try with_reducible rfl)
          try simp only [Act.put, List.setIfInBounds_toArray, List.set_cons_zero, List.set_cons_succ]
          refine w_take (i := 7) (v := ?_) [] (some 18) rfl (by rfl) (by kernel_rfl) (by kernel_rfl) (by kernel_rfl) (by kernel_rfl) (by kernel_rfl) (by kernel_rfl) (fun _ _ _ h => h) (YieldsIf.yieldsW (.inl ⟨by rfl, ?_⟩)) ?_
          rotate_left 1
          · (intro W hW; (try dsimp only at hW); go_simp; try with_reducible rfl)
          try simp only [Act.put, List.setIfInBounds_toArray, List.set_cons_zero, List.set_cons_succ]
          refine w_take (i := 8) (v := ?_) [] (some 19) rfl (by rfl) (by kernel_rfl) (by kernel_rfl) (by kernel_rfl) (by kernel_rfl) (by kernel_rfl) (by kernel_rfl) (fun _ _ _ h => h) (YieldsIf.yieldsW (.inl ⟨by rfl, ?_⟩)) ?_
          rotate_left 1
          · (intro W hW; (try dsimp only at hW); go_simp; try with_reducible rfl)
          try simp only [Act.put, List.setIfInBounds_toArray, List.set_cons_zero, List.set_cons_succ]
          refine w_take (i := 9) (v := ?_) [] (some 20) rfl (by rfl) (by kernel_rfl) (by kernel_rfl) (by kernel_rfl) (by kernel_rfl) (by kernel_rfl) (by kernel_rfl) (fun _ _ _ h => h) (YieldsIf.yieldsW (.inl ⟨by rfl, ?_⟩)) ?_
          rotate_left 1
          · (intro W hW; (try dsimp only at hW); go_simp; try with_reducible rfl)
          try simp only [Act.put, List.setIfInBounds_toArray, List.set_cons_zero, List.set_cons_succ]
          refine w_take (i := 10) (v := ?_) [] (some 21) rfl (by rfl) (by kernel_rfl) (by kernel_rfl) (by kernel_rfl) (by kernel_rfl) (by kernel_rfl) (by kernel_rfl) (fun _ _ _ h => h) (YieldsIf.yieldsW (.inl ⟨by rfl, ?_⟩)) ?_
          rotate_left 1
          · (intro W hW; (try dsimp only at hW); go_simp; try with_reducible rfl)
          try simp only [Act.put, List.setIfInBounds_toArray, List.set_cons_zero, List.set_cons_succ]
          refine w_take (i := 11) (v := ?_) [] (some 22) rfl (by rfl) (by kernel_rfl) (by kernel_rfl) (by kernel_rfl) (by kernel_rfl) (by kernel_rfl) (by kernel_rfl) (fun _ _ _ h => h) (YieldsIf.yieldsW (.inl ⟨by rfl, ?_⟩)) ?_
          rotate_left 1
          · (intro W hW; (try dsimp only at hW); go_simp; try with_reducible rfl)
          try simp only [Act.put, List.setIfInBounds_toArray, List.set_cons_zero, List.set_cons_succ]
          refine w_take (i := 12) (v := ?_) [] (some 23) rfl (by rfl) (by kernel_rfl) (by kernel_rfl) (by kernel_rfl) (by kernel_rfl) (by kernel_rfl) (by kernel_rfl) (fun _ _ _ h => h) (YieldsIf.yieldsW (.inl ⟨by rfl, ?_⟩)) ?_
          rotate_left 1
          · (intro W hW; (try dsimp only at hW); go_simp; try with_reducible rfl)
          try simp only [Act.put, List.setIfInBounds_toArray, List.set_cons_zero, List.set_cons_succ]
          refine w_take (i := 13) (v := ?_) [] (some 24) rfl (by rfl) (by kernel_rfl) (by kernel_rfl) (by kernel_rfl) (by kernel_rfl) (by kernel_rfl) (by kernel_rfl) (fun _ _ _ h => h) (YieldsIf.yieldsW (.inl ⟨by rfl, ?_⟩)) ?_
          rotate_left 1
          · (intro W hW; (try dsimp only at hW); go_simp; try with_reducible rfl)
          try simp only [Act.put, List.setIfInBounds_toArray, List.set_cons_zero, List.set_cons_succ]
          refine w_take (i := 14) (v := ?_) [] (some 25) rfl (by rfl) (by kernel_rfl) (by kernel_rfl) (by kernel_rfl) (by kernel_rfl) (by kernel_rfl) (by kernel_rfl) (fun _ _ _ h => h) (YieldsIf.yieldsW (.inl ⟨by rfl, ?_⟩)) ?_
          rotate_left 1
          · (intro W hW; (try dsimp only at hW); go_simp; try with_reducible rfl)
          try simp only [Act.put, List.setIfInBounds_toArray, List.set_cons_zero, List.set_cons_succ]
          refine w_take (i := 15) (v := ?_) [] (some 26) rfl (by rfl) (by kernel_rfl) (by kernel_rfl) (by kernel_rfl) (by kernel_rfl) (by kernel_rfl) (by kernel_rfl) (fun _ _ _ h => h) (YieldsIf.yieldsW (.inl ⟨by rfl, ?_⟩)) ?_
          rotate_left 1
          · (intro W hW; (try dsimp only at hW); go_simp; try with_reducible rfl)
          try simp only [Act.put, List.setIfInBounds_toArray, List.set_cons_zero, List.set_cons_succ]
          refine w_take (i := 16) (v := ?_) [] (some 27) rfl (by rfl) (by kernel_rfl) (by kernel_rfl) (by kernel_rfl) (by kernel_rfl) (by kernel_rfl) (by kernel_rfl) (fun _ _ _ h => h) (YieldsIf.yieldsW (.inl ⟨by rfl, ?_⟩)) ?_
          rotate_left 1
          · (intro W hW; (try dsimp only at hW); go_simp; try with_reducible rfl)
          try simp only [Act.put, List.setIfInBounds_toArray, List.set_cons_zero, List.set_cons_succ]
          refine w_take (i := 17) (v := ?_) [] (some 28) rfl (by rfl) (by kernel_rfl) (by kernel_rfl) (by kernel_rfl) (by kernel_rfl) (by kernel_rfl) (by kernel_rfl) (fun _ _ _ h => h) (YieldsIf.yieldsW (.inl ⟨by rfl, ?_⟩)) ?_
          rotate_left 1
          · (intro W hW; (try dsimp only at hW); go_simp; try with_reducible rfl)
          try simp only [Act.put, List.setIfInBounds_toArray, List.set_cons_zero, List.set_cons_succ]
          refine w_take (i := 18) (v := ?_) [] (some 29) rfl (by rfl) (by kernel_rfl) (by kernel_rfl) (by kernel_rfl) (by kernel_rfl) (by kernel_rfl) (by kernel_rfl) (fun _ _ _ h => h) (YieldsIf.yieldsW (.inl ⟨by rfl, ?_⟩)) ?_
          rotate_left 1
          · (intro W hW; (try dsimp only at hW); go_simp; try with_reducible rfl)
          try simp only [Act.put, List.setIfInBounds_toArray, List.set_cons_zero, List.set_cons_succ]
          refine w_take (i := 19) (v := ?_) [] (some 30) rfl (by rfl) (by kernel_rfl) (by kernel_rfl) (by kernel_rfl) (by kernel_rfl) (by kernel_rfl) (by kernel_rfl) (fun _ _ _ h => h) (YieldsIf.yieldsW (.inl ⟨by rfl, ?_⟩)) ?_
          rotate_left 1
          · (intro W hW; (try dsimp only at hW); go_simp; try with_reducible rfl)
          try simp only [Act.put, List.setIfInBounds_toArray, List.set_cons_zero, List.set_cons_succ]
          refine w_take (i := 20) (v := ?_) [] (some 31) rfl (by rfl) (by kernel_rfl) (by kernel_rfl) (by kernel_rfl) (by kernel_rfl) (by kernel_rfl) (by kernel_rfl) (fun _ _ _ h => h) (YieldsIf.yieldsW (.inl ⟨by rfl, ?_⟩)) ?_
          rotate_left 1
          · (intro W hW; (try dsimp only at hW); go_simp; try with_reducible rfl)
          try simp only [Act.put, List.setIfInBounds_toArray, List.set_cons_zero, List.set_cons_succ]
          refine w_take (i := 21) (v := ?_) [] (some 32) rfl (by rfl) (by kernel_rfl) (by kernel_rfl) (by kernel_rfl) (by kernel_rfl) (by kernel_rfl) (by kernel_rfl) (fun _ _ _ h => h) (YieldsIf.yieldsW (.inl ⟨by rfl, ?_⟩)) ?_
          rotate_left 1
          · (intro W hW; (try dsimp only at hW); go_simp; try with_reducible rfl)
          try simp only [Act.put, List.setIfInBounds_toArray, List.set_cons_zero, List.set_cons_succ]
          refine w_take (i := 22) (v := ?_) [] (some 33) rfl (by rfl) (by kernel_rfl) (by kernel_rfl) (by kernel_rfl) (by kernel_rfl) (by kernel_rfl) (by kernel_rfl) (fun _ _ _ h => h) (YieldsIf.yieldsW (.inl ⟨by rfl, ?_⟩)) ?_
          rotate_left 1
          · (intro W hW; (try dsimp only at hW); go_simp; try with_reducible rfl)
          try simp only [Act.put, List.setIfInBounds_toArray, List.set_cons_zero, List.set_cons_succ]
          refine w_take (i := 23) (v := ?_) [] (some 34) rfl (by rfl) (by kernel_rfl) (by kernel_rfl) (by kernel_rfl) (by kernel_rfl) (by kernel_rfl) (by kernel_rfl) (fun _ _ _ h => h) (YieldsIf.yieldsW (.inl ⟨by rfl, ?_⟩)) ?_
          rotate_left 1
          · (intro W hW; (try dsimp only at hW); go_simp; try with_reducible rfl)
          try simp only [Act.put, List.setIfInBounds_toArray, List.set_cons_zero, List.set_cons_succ]
          refine w_take (i := 24) (v := ?_) [] (some 35) rfl (by rfl) (by kernel_rfl) (by kernel_rfl) (by kernel_rfl) (by kernel_rfl) (by kernel_rfl) (by kernel_rfl) (fun _ _ _ h => h) (YieldsIf.yieldsW (.inl ⟨by rfl, ?_⟩)) ?_
          rotate_left 1
          · (intro W hW; (try dsimp only at hW); go_simp; try with_reducible rfl)
          try simp only [Act.put, List.setIfInBounds_toArray, List.set_cons_zero, List.set_cons_succ]
          refine w_take (i := 25) (v := ?_) [] (some 36) rfl (by rfl) (by kernel_rfl) (by kernel_rfl) (by kernel_rfl) (by kernel_rfl) (by kernel_rfl) (by kernel_rfl) (fun _ _ _ h => h) (YieldsIf.yieldsW (.inl ⟨by rfl, ?_⟩)) ?_
          rotate_left 1
          · (intro W hW; (try dsimp only at hW); go_simp; try with_reducible rfl)
          try simp only [Act.put, List.setIfInBounds_toArray, List.set_cons_zero, List.set_cons_succ]
          refine w_take (i := 26) (v := ?_) [] (some 37) rfl (by rfl) (by kernel_rfl) (by kernel_rfl) (by kernel_rfl) (by kernel_rfl) (by kernel_rfl) (by kernel_rfl) (fun _ _ _ h => h) (YieldsIf.yieldsW (.inl ⟨by rfl, ?_⟩)) ?_
          rotate_left 1
          · (intro W hW; (try dsimp only at hW); go_simp; try with_reducible rfl)
          try simp only [Act.put, List.setIfInBounds_toArray, List.set_cons_zero, List.set_cons_succ]
          refine w_take (i := 27) (v := ?_) [] (some 38) rfl (by rfl) (by kernel_rfl) (by kernel_rfl) (by kernel_rfl) (by kernel_rfl) (by kernel_rfl) (by kernel_rfl) (fun _ _ _ h => h) (YieldsIf.yieldsW (.inl ⟨by rfl, ?_⟩)) ?_
          rotate_left 1
          · (intro W hW; (try dsimp only at hW); go_simp; try with_reducible rfl)
          try simp only [Act.put, List.setIfInBounds_toArray, List.set_cons_zero, List.set_cons_succ]
          refine w_take (i := 28) (v := ?_) [] (some 39) rfl (by rfl) (by kernel_rfl) (by kernel_rfl) (by kernel_rfl) (by kernel_rfl) (by kernel_rfl) (by kernel_rfl) (fun _ _ _ h => h) (YieldsIf.yieldsW (.inl ⟨by rfl, ?_⟩)) ?_
          rotate_left 1
          · (intro W hW; (try dsimp only at hW); go_simp; try with_reducible rfl)
          try simp only [Act.put, List.setIfInBounds_toArray, List.set_cons_zero, List.set_cons_succ]
          refine w_take (i := 29) (v := ?_) [] (some 40) rfl (by rfl) (by kernel_rfl) (by kernel_rfl) (by kernel_rfl) (by kernel_rfl) (by kernel_rfl) (by kernel_rfl) (fun _ _ _ h => h) (YieldsIf.yieldsW (.inl ⟨by rfl, ?_⟩)) ?_
          rotate_left 1
          · (intro W hW; (try dsimp only at hW); go_simp; try with_reducible rfl)
          try simp only [Act.put, List.setIfInBounds_toArray, List.set_cons_zero, List.set_cons_succ]
          refine w_take (i := 30) (v := ?_) [] (some 41) rfl (by rfl) (by kernel_rfl) (by kernel_rfl) (by kernel_rfl) (by kernel_rfl) (by kernel_rfl) (by kernel_rfl) (fun _ _ _ h => h) (YieldsIf.yieldsW (.inl ⟨by rfl, ?_⟩)) ?_
          rotate_left 1
          · (intro W hW; (try dsimp only at hW); go_simp; try with_reducible rfl)
          try simp only [Act.put, List.setIfInBounds_toArray, List.set_cons_zero, List.set_cons_succ]
          refine w_take (i := 31) (v := ?_) [] (some 42) rfl (by rfl) (by kernel_rfl) (by kernel_rfl) (by kernel_rfl) (by kernel_rfl) (by kernel_rfl) (by kernel_rfl) (fun _ _ _ h => h) (YieldsIf.yieldsW (.inl ⟨by rfl, ?_⟩)) ?_
          rotate_left 1
          · (intro W hW; (try dsimp only at hW); go_simp; try with_reducible rfl)
          try simp only [Act.put, List.setIfInBounds_toArray, List.set_cons_zero, List.set_cons_succ]
          refine w_take (i := 32) (v := ?_) [] (some 43) rfl (by rfl) (by kernel_rfl) (by kernel_rfl) (by kernel_rfl) (by kernel_rfl) (by kernel_rfl) (by kernel_rfl) (fun _ _ _ h => h) (YieldsIf.yieldsW (.inl ⟨by rfl, ?_⟩)) ?_
          rotate_left 1
          · (intro W hW; (try dsimp only at hW); go_simp; try with_reducible rfl)
          try simp only [Act.put, List.setIfInBounds_toArray, List.set_cons_zero, List.set_cons_succ]
          refine w_take (i := 33) (v := ?_) [] (some 44) rfl (by rfl) (by kernel_rfl) (by kernel_rfl) (by kernel_rfl) (by kernel_rfl) (by kernel_rfl) (by kernel_rfl) (fun _ _ _ h => h) (YieldsIf.yieldsW (.inl ⟨by rfl, ?_⟩)) ?_
          rotate_left 1
          · (intro W hW; (try dsimp only at hW); go_simp; try with_reducible rfl)
          try simp only [Act.put, List.setIfInBounds_toArray, List.set_cons_zero, List.set_cons_succ]
          refine w_take (i := 34) (v := undef) [] (some 45) rfl (by rfl) (by kernel_rfl) (by kernel_rfl) (by kernel_rfl) (by kernel_rfl) (by kernel_rfl) (by kernel_rfl) (fun _ _ _ h => h) (.inr ⟨by rfl, rfl⟩) ?_
          try simp only [Act.put, List.setIfInBounds_toArray, List.set_cons_zero, List.set_cons_succ]
          refine w_take (i := 35) (v := undef) [] (some 46) rfl (by rfl) (by kernel_rfl) (by kernel_rfl) (by kernel_rfl) (by kernel_rfl) (by kernel_rfl) (by kernel_rfl) (fun _ _ _ h => h) (.inr ⟨by rfl, rfl⟩) ?_
          try simp only [Act.put, List.setIfInBounds_toArray, List.set_cons_zero, List.set_cons_succ]
          refine w_take (i := 36) (v := undef) [] (some 47) rfl (by rfl) (by kernel_rfl) (by kernel_rfl) (by kernel_rfl) (by kernel_rfl) (by kernel_rfl) (by kernel_rfl) (fun _ _ _ h => h) (.inr ⟨by rfl, rfl⟩) ?_
          try simp only [Act.put, List.setIfInBounds_toArray, List.set_cons_zero, List.set_cons_succ]
          refine w_take (i := 37) (v := undef) [] (some 48) rfl (by rfl) (by kernel_rfl) (by kernel_rfl) (by kernel_rfl) (by kernel_rfl) (by kernel_rfl) (by kernel_rfl) (fun _ _ _ h => h) (.inr ⟨by rfl, rfl⟩) ?_
          try simp only [Act.put, List.setIfInBounds_toArray, List.set_cons_zero, List.set_cons_succ]
          refine w_take (i := 38) (v := undef) [] (some 49) rfl (by rfl) (by kernel_rfl) (by kernel_rfl) (by kernel_rfl) (by kernel_rfl) (by kernel_rfl) (by kernel_rfl) (fun _ _ _ h => h) (.inr ⟨by rfl, rfl⟩) ?_
          try simp only [Act.put, List.setIfInBounds_toArray, List.set_cons_zero, List.set_cons_succ]
          refine w_take (i := 39) (v := ?_) [] (some 50) rfl (by rfl) (by kernel_rfl) (by kernel_rfl) (by kernel_rfl) (by kernel_rfl) (by kernel_rfl) (by kernel_rfl) (fun _ _ _ h => h) (YieldsIf.yieldsW (.inl ⟨by rfl, ?_⟩)) ?_
          rotate_left 1
          · (intro W hW; (try dsimp only at hW); go_simp; try with_reducible rfl)
          try simp only [Act.put, List.setIfInBounds_toArray, List.set_cons_zero, List.set_cons_succ]
          refine w_take (i := 40) (v := ?_) [] (some 51) rfl (by rfl) (by kernel_rfl) (by kernel_rfl) (by kernel_rfl) (by kernel_rfl) (by kernel_rfl) (by kernel_rfl) (fun _ _ _ h => h) (YieldsIf.yieldsW (.inl ⟨by rfl, ?_⟩)) ?_
          rotate_left 1
          · (intro W hW; (try dsimp only at hW); go_simp; try with_reducible rfl)
          try simp only [Act.put, List.setIfInBounds_toArray, List.set_cons_zero, List.set_cons_succ]
          refine w_take (i := 41) (v := undef) [] (some 52) rfl (by rfl) (by kernel_rfl) (by kernel_rfl) (by kernel_rfl) (by kernel_rfl) (by kernel_rfl) (by kernel_rfl) (fun _ _ _ h => h) (.inr ⟨by rfl, rfl⟩) ?_
          try simp only [Act.put, List.setIfInBounds_toArray, List.set_cons_zero, List.set_cons_succ]
          refine w_take (i := 42) (v := undef) [] (some 53) rfl (by rfl) (by kernel_rfl) (by kernel_rfl) (by kernel_rfl) (by kernel_rfl) (by kernel_rfl) (by kernel_rfl) (fun _ _ _ h => h) (.inr ⟨by rfl, rfl⟩) ?_
          try simp only [Act.put, List.setIfInBounds_toArray, List.set_cons_zero, List.set_cons_succ]
          refine w_take (i := 43) (v := undef) [] (some 54) rfl (by rfl) (by kernel_rfl) (by kernel_rfl) (by kernel_rfl) (by kernel_rfl) (by kernel_rfl) (by kernel_rfl) (fun _ _ _ h => h) (.inr ⟨by rfl, rfl⟩) ?_
          try simp only [Act.put, List.setIfInBounds_toArray, List.set_cons_zero, List.set_cons_succ]
          refine w_take (i := 44) (v := undef) [] (some 55) rfl (by rfl) (by kernel_rfl) (by kernel_rfl) (by kernel_rfl) (by kernel_rfl) (by kernel_rfl) (by kernel_rfl) (fun _ _ _ h => h) (.inr ⟨by rfl, rfl⟩) ?_
          try simp only [Act.put, List.setIfInBounds_toArray, List.set_cons_zero, List.set_cons_succ]
          refine w_take (i := 45) (v := undef) [] (some 56) rfl (by rfl) (by kernel_rfl) (by kernel_rfl) (by kernel_rfl) (by kernel_rfl) (by kernel_rfl) (by kernel_rfl) (fun _ _ _ h => h) (.inr ⟨by rfl, rfl⟩) ?_
          try simp only [Act.put, List.setIfInBounds_toArray, List.set_cons_zero, List.set_cons_succ]
          refine w_take (i := 46) (v := ?_) [] (some 57) rfl (by rfl) (by kernel_rfl) (by kernel_rfl) (by kernel_rfl) (by kernel_rfl) (by kernel_rfl) (by kernel_rfl) (fun _ _ _ h => h) (YieldsIf.yieldsW (.inl ⟨by rfl, ?_⟩)) ?_
          rotate_left 1
          · (intro W hW; (try dsimp only at hW); go_simp; try with_reducible rfl)
          try simp only [Act.put, List.setIfInBounds_toArray, List.set_cons_zero, List.set_cons_succ]
          refine w_take (i := 47) (v := ?_) [] (some 4) rfl (by rfl) (by kernel_rfl) (by kernel_rfl) (by kernel_rfl) (by kernel_rfl) (by kernel_rfl) (by kernel_rfl) (fun _ _ _ h => h) (YieldsIf.yieldsW (.inl ⟨by rfl, ?_⟩)) ?_
          rotate_left 1
          · (intro W hW; (try dsimp only at hW); go_simp; try with_reducible rfl)
          try simp only [Act.put, List.setIfInBounds_toArray, List.set_cons_zero, List.set_cons_succ]
          refine w_done (by kernel_rfl) (by rfl) (fun V2 hV2 => ?_) _
          go_wp2_with fail
          go_returns
          exact ⟨rfl, XW.out.trans hV2⟩
        have n4 : (s.e.pol == t.e.pol) = true := by simpa using h4
        have H4 := Lib.hid h4
        clear h4
        by_cases h5 : s.e.at_ = t.e.at_
        rotate_left 1
        · have n5 : (s.e.at_ == t.e.at_) = false := by simpa using h5
          obtain rfl : b = false := by rw [← hb.out]; exact decide_eq_false (fun h => h5 ((o_eq _ _).1 ((en_eq _ _).1 h).2.2).2.2.2.2.2.2.1)
          clear h5
          go_upto_region 2 with (fail)
          refine w_region (fun w1 => Ext wc w1) [] (by kernel_rfl) ((Ext.refl wc).drew) ?_
          refine w_take (i := 0) (v := ?_) [] (some 11) rfl (by rfl) (by kernel_rfl) (by kernel_rfl) (by kernel_rfl) (by kernel_rfl) (by kernel_rfl) (by kernel_rfl) (fun _ _ _ h => h) (YieldsIf.yieldsW (.inl ⟨by rfl, ?_⟩)) ?_
          rotate_left 1
          · (intro W hW; (try dsimp only at hW); go_simp; try with_reducible rfl)
          try simp only [Act.put, List.setIfInBounds_toArray, List.set_cons_zero, List.set_cons_succ]
          refine w_take (i := 1) (v := (.agg #[.int .i64 s.e.cl, .int .i64 s.e.nu])) [] (some 12) rfl (by rfl) (by kernel_rfl) (by kernel_rfl) (by kernel_rfl) (by kernel_rfl) (by kernel_rfl) (by kernel_rfl) (fun _ _ _ h => h) (.inl ⟨by rfl, ?_⟩) ?_
          · (intro W hW; refine .inr ⟨_, _, _, ?_, ((keyof_any s W).mono fun _ _ ⟨h1, h2⟩ => ⟨h1, hW.trans h2⟩)⟩; go_simp; try with_reducible rfl)
          try simp only [Act.put, List.setIfInBounds_toArray, List.set_cons_zero, List.set_cons_succ]
          refine w_take (i := 2) (v := ?_) [] (some 13) rfl (by rfl) (by kernel_rfl) (by kernel_rfl) (by kernel_rfl) (by kernel_rfl) (by kernel_rfl) (by kernel_rfl) (fun _ _ _ h => h) (YieldsIf.yieldsW (.inl ⟨by rfl, ?_⟩)) ?_
          rotate_left 1
          · (intro W hW; (try dsimp only at hW); go_simp; try with_reducible rfl)
          try simp only [Act.put, List.setIfInBounds_toArray, List.set_cons_zero, List.set_cons_succ]
          refine w_take (i := 3) (v := (.agg #[.int .i64 t.e.cl, .int .i64 t.e.nu])) [] (some 14) rfl (by rfl) (by kernel_rfl) (by kernel_rfl) (by kernel_rfl) (by kernel_rfl) (by kernel_rfl) (by kernel_rfl) (fun _ _ _ h => h) (.inl ⟨by rfl, ?_⟩) ?_
          · (intro W hW; refine .inr ⟨_, _, _, ?_, ((keyof_any t W).mono fun _ _ ⟨h1, h2⟩ => ⟨h1, hW.trans h2⟩)⟩; go_simp; try with_reducible rfl)
          try simp only [Act.put, List.setIfInBounds_toArray, List.set_cons_zero, List.set_cons_succ]
          refine w_take (i := 4) (v := ?_) [] (some 15) rfl (by rfl) (by kernel_rfl) (by kernel_rfl) (by kernel_rfl) (by kernel_rfl) (by kernel_rfl) (by kernel_rfl) (fun _ _ _ h => h) (YieldsIf.yieldsW (.inl ⟨by rfl, ?_⟩)) ?_
          rotate_left 1
          · (intro W hW; (try dsimp only at hW); go_simp; try with_reducible rfl)
          try simp only [Act.put, List.setIfInBounds_toArray, List.set_cons_zero, List.set_cons_succ]
          refine w_take (i := 5) (v := ?_) [] (some 16) rfl (by rfl) (by kernel_rfl) (by kernel_rfl) (by kernel_rfl) (by kernel_rfl) (by kernel_rfl) (by kernel_rfl) (fun _ _ _ h => h) (YieldsIf.yieldsW (.inl ⟨by rfl, ?_⟩)) ?_
          rotate_left 1
          · (intro W hW; (try dsimp only at hW); go_simp; try with_reducible rfl)
          try simp only [Act.put, List.setIfInBounds_toArray, List.set_cons_zero, List.set_cons_succ]
          refine w_take (i := 6) (v := ?_) [] (some 17) rfl (by rfl) (by kernel_rfl) (by kernel_rfl) (by kernel_rfl) (by kernel_rfl) (by kernel_rfl) (by kernel_rfl) (fun _ _ _ h => h) (YieldsIf.yieldsW (.inl ⟨by rfl, ?_⟩)) ?_
          rotate_left 1
          · (intro W hW; (try dsimp only at hW); go_simp; try with_reducible rfl)
          try simp only [Act.put, List.setIfInBounds_toArray, List.set_cons_zero, List.set_cons_succ]
          refine w_take (i := 7) (v := ?_) [] (some 18) rfl (by rfl) (by kernel_rfl) (by kernel_rfl) (by kernel_rfl) (by kernel_rfl) (by kernel_rfl) (by kernel_rfl) (fun _ _ _ h => h) (YieldsIf.yieldsW (.inl ⟨by rfl, ?_⟩)) ?_
          rotate_left 1
          · (intro W hW; (try dsimp only at hW); go_simp; try with_reducible rfl)
          try simp only [Act.put, List.setIfInBounds_toArray, List.set_cons_zero, List.set_cons_succ]
          refine w_take (i := 8) (v := ?_) [] (some 19) rfl (by rfl) (by kernel_rfl) (by kernel_rfl) (by kernel_rfl) (by kernel_rfl) (by kernel_rfl) (by kernel_rfl) (fun _ _ _ h => h) (YieldsIf.yieldsW (.inl ⟨by rfl, ?_⟩)) ?_
          rotate_left 1
          · (intro W hW; (try dsimp only at hW); go_simp; try with_reducible rfl)
          try simp only [Act.put, List.setIfInBounds_toArray, List.set_cons_zero, List.set_cons_succ]
          refine w_take (i := 9) (v := ?_) [] (some 20) rfl (by rfl) (by kernel_rfl) (by kernel_rfl) (by kernel_rfl) (by kernel_rfl) (by kernel_rfl) (by kernel_rfl) (fun _ _ _ h => h) (YieldsIf.yieldsW (.inl ⟨by rfl, ?_⟩)) ?_
          rotate_left 1
          · (intro W hW; (try dsimp only at hW); go_simp; try with_reducible rfl)
          try simp only [Act.put, List.setIfInBounds_toArray, List.set_cons_zero, List.set_cons_succ]
          refine w_take (i := 10) (v := ?_) [] (some 21) rfl (by rfl) (by kernel_rfl) (by kernel_rfl) (by kernel_rfl) (by kernel_rfl) (by kernel_rfl) (by kernel_rfl) (fun _ _ _ h => h) (YieldsIf.yieldsW (.inl ⟨by rfl, ?_⟩)) ?_
          rotate_left 1
          · (intro W hW; (try dsimp only at hW); go_simp; try with_reducible rfl)
          try simp only [Act.put, List.setIfInBounds_toArray, List.set_cons_zero, List.set_cons_succ]
          refine w_take (i := 11) (v := ?_) [] (some 22) rfl (by rfl) (by kernel_rfl) (by kernel_rfl) (by kernel_rfl) (by kernel_rfl) (by kernel_rfl) (by kernel_rfl) (fun _ _ _ h => h) (YieldsIf.yieldsW (.inl ⟨by rfl, ?_⟩)) ?_
          rotate_left 1
          · (intro W hW; (try dsimp only at hW); go_simp; try with_reducible rfl)
          try simp only [Act.put, List.setIfInBounds_toArray, List.set_cons_zero, List.set_cons_succ]
          refine w_take (i := 12) (v := ?_) [] (some 23) rfl (by rfl) (by kernel_rfl) (by kernel_rfl) (by kernel_rfl) (by kernel_rfl) (by kernel_rfl) (by kernel_rfl) (fun _ _ _ h => h) (YieldsIf.yieldsW (.inl ⟨by rfl, ?_⟩)) ?_
          rotate_left 1
          · (intro W hW; (try dsimp only at hW); go_simp; try with_reducible rfl)
          try simp only [Act.put, List.setIfInBounds_toArray, List.set_cons_zero, List.set_cons_succ]
          refine w_take (i := 13) (v := ?_) [] (some 24) rfl (by rfl) (by kernel_rfl) (by kernel_rfl) (by kernel_rfl) (by kernel_rfl) (by kernel_rfl) (by kernel_rfl) (fun _ _ _ h => h) (YieldsIf.yieldsW (.inl ⟨by rfl, ?_⟩)) ?_
          rotate_left 1
          · (intro W hW; (try dsimp only at hW); go_simp; try with_reducible rfl)
          try simp only [Act.put, List.setIfInBounds_toArray, List.set_cons_zero, List.set_cons_succ]
          refine w_take (i := 14) (v := ?_) [] (some 25) rfl (by rfl) (by kernel_rfl) (by kernel_rfl) (by kernel_rfl) (by kernel_rfl) (by kernel_rfl) (by kernel_rfl) (fun _ _ _ h => h) (YieldsIf.yieldsW (.inl ⟨by rfl, ?_⟩)) ?_
          rotate_left 1
          · (intro W hW; (try dsimp only at hW); go_simp; try with_reducible rfl)
          try simp only [Act.put, List.setIfInBounds_toArray, List.set_cons_zero, List.set_cons_succ]
          refine w_take (i := 15) (v := ?_) [] (some 26) rfl (by rfl) (by kernel_rfl) (by kernel_rfl) (by kernel_rfl) (by kernel_rfl) (by kernel_rfl) (by kernel_rfl) (fun _ _ _ h => h) (YieldsIf.yieldsW (.inl ⟨by rfl, ?_⟩)) ?_
          rotate_left 1
          · (intro W hW; (try dsimp only at hW); go_simp; try with_reducible rfl)
          try simp only [Act.put, List.setIfInBounds_toArray, List.set_cons_zero, List.set_cons_succ]
          refine w_take (i := 16) (v := ?_) [] (some 27) rfl (by rfl) (by kernel_rfl) (by kernel_rfl) (by kernel_rfl) (by kernel_rfl) (by kernel_rfl) (by kernel_rfl) (fun _ _ _ h => h) (YieldsIf.yieldsW (.inl ⟨by rfl, ?_⟩)) ?_
          rotate_left 1
          · (intro W hW; (try dsimp only at hW); go_simp; try with_reducible rfl)
          try simp only [Act.put, List.setIfInBounds_toArray, List.set_cons_zero, List.set_cons_succ]
          refine w_take (i := 17) (v := ?_) [] (some 28) rfl (by rfl) (by kernel_rfl) (by kernel_rfl) (by kernel_rfl) (by kernel_rfl) (by kernel_rfl) (by kernel_rfl) (fun _ _ _ h => h) (YieldsIf.yieldsW (.inl ⟨by rfl, ?_⟩)) ?_
          rotate_left 1
          · (intro W hW; (try dsimp only at hW); go_simp; try with_reducible rfl)
          try simp only [Act.put, List.setIfInBounds_toArray, List.set_cons_zero, List.set_cons_succ]
          refine w_take (i := 18) (v := ?_) [] (some 29) rfl (by rfl) (by kernel_rfl) (by kernel_rfl) (by kernel_rfl) (by kernel_rfl) (by kernel_rfl) (by kernel_rfl) (fun _ _ _ h => h) (YieldsIf.yieldsW (.inl ⟨by rfl, ?_⟩)) ?_
          rotate_left 1
          · (intro W hW; (try dsimp only at hW); go_simp; try with_reducible rfl)
          try simp only [Act.put, List.setIfInBounds_toArray, List.set_cons_zero, List.set_cons_succ]
          refine w_take (i := 19) (v := ?_) [] (some 30) rfl (by rfl) (by kernel_rfl) (by kernel_rfl) (by kernel_rfl) (by kernel_rfl) (by kernel_rfl) (by kernel_rfl) (fun _ _ _ h => h) (YieldsIf.yieldsW (.inl ⟨by rfl, ?_⟩)) ?_
          rotate_left 1
          · (intro W hW; (try dsimp only at hW); go_simp; try with_reducible rfl)
          try simp only [Act.put, List.setIfInBounds_toArray, List.set_cons_zero, List.set_cons_succ]
          refine w_take (i := 20) (v := ?_) [] (some 31) rfl (by rfl) (by kernel_rfl) (by kernel_rfl) (by kernel_rfl) (by kernel_rfl) (by kernel_rfl) (by kernel_rfl) (fun _ _ _ h => h) (YieldsIf.yieldsW (.inl ⟨by rfl, ?_⟩)) ?_
          rotate_left 1
          · (intro W hW; (try dsimp only at hW); go_simp; try with_reducible rfl)
          try simp only [Act.put, List.setIfInBounds_toArray, List.set_cons_zero, List.set_cons_succ]
          refine w_take (i := 21) (v := ?_) [] (some 32) rfl (by rfl) (by kernel_rfl) (by kernel_rfl) (by kernel_rfl) (by kernel_rfl) (by kernel_rfl) (by kernel_rfl) (fun _ _ _ h => h) (YieldsIf.yieldsW (.inl ⟨by rfl, ?_⟩)) ?_
          rotate_left 1
          · (intro W hW; (try dsimp only at hW); go_simp; try with_reducible rfl)
          try simp only [Act.put, List.setIfInBounds_toArray, List.set_cons_zero, List.set_cons_succ]
          refine w_take (i := 22) (v := ?_) [] (some 33) rfl (by rfl) (by kernel_rfl) (by kernel_rfl) (by kernel_rfl) (by kernel_rfl) (by kernel_rfl) (by kernel_rfl) (fun _ _ _ h => h) (YieldsIf.yieldsW (.inl ⟨by rfl, ?_⟩)) ?_
          rotate_left 1
          · (intro W hW; (try dsimp only at hW); go_simp; try with_reducible rfl)
          try simp only [Act.put, List.setIfInBounds_toArray, List.set_cons_zero, List.set_cons_succ]
          refine w_take (i := 23) (v := ?_) [] (some 34) rfl (by rfl) (by kernel_rfl) (by kernel_rfl) (by kernel_rfl) (by kernel_rfl) (by kernel_rfl) (by kernel_rfl) (fun _ _ _ h => h) (YieldsIf.yieldsW (.inl ⟨by rfl, ?_⟩)) ?_
          rotate_left 1
          · (intro W hW; (try dsimp only at hW); go_simp; try with_reducible rfl)
          try simp only [Act.put, List.setIfInBounds_toArray, List.set_cons_zero, List.set_cons_succ]
          refine w_take (i := 24) (v := ?_) [] (some 35) rfl (by rfl) (by kernel_rfl) (by kernel_rfl) (by kernel_rfl) (by kernel_rfl) (by kernel_rfl) (by kernel_rfl) (fun _ _ _ h => h) (YieldsIf.yieldsW (.inl ⟨by rfl, ?_⟩)) ?_
          rotate_left 1
          · (intro W hW; (try dsimp only at hW); go_simp; try with_reducible rfl)
          try simp only [Act.put, List.setIfInBounds_toArray, List.set_cons_zero, List.set_cons_succ]
          refine w_take (i := 25) (v := ?_) [] (some 36) rfl (by rfl) (by kernel_rfl) (by kernel_rfl) (by kernel_rfl) (by kernel_rfl) (by kernel_rfl) (by kernel_rfl) (fun _ _ _ h => h) (YieldsIf.yieldsW (.inl ⟨by rfl, ?_⟩)) ?_
          rotate_left 1
          · (intro W hW; (try dsimp only at hW); go_simp; try with_reducible rfl)
          try simp only [Act.put, List.setIfInBounds_toArray, List.set_cons_zero, List.set_cons_succ]
          refine w_take (i := 26) (v := ?_) [] (some 37) rfl (by rfl) (by kernel_rfl) (by kernel_rfl) (by kernel_rfl) (by kernel_rfl) (by kernel_rfl) (by kernel_rfl) (fun _ _ _ h => h) (YieldsIf.yieldsW (.inl ⟨by rfl, ?_⟩)) ?_
          rotate_left 1
          · (intro W hW; (try dsimp only at hW); go_simp; try with_reducible rfl)
          try simp only [Act.put, List.setIfInBounds_toArray, List.set_cons_zero, List.set_cons_succ]
          refine w_take (i := 27) (v := ?_) [] (some 38) rfl (by rfl) (by kernel_rfl) (by kernel_rfl) (by kernel_rfl) (by kernel_rfl) (by kernel_rfl) (by kernel_rfl) (fun _ _ _ h => h) (YieldsIf.yieldsW (.inl ⟨by rfl, ?_⟩)) ?_
          rotate_left 1
          · (intro W hW; (try dsimp only at hW); go_simp; try with_reducible rfl)
          try simp only [Act.put, List.setIfInBounds_toArray, List.set_cons_zero, List.set_cons_succ]
          refine w_take (i := 28) (v := ?_) [] (some 39) rfl (by rfl) (by kernel_rfl) (by kernel_rfl) (by kernel_rfl) (by kernel_rfl) (by kernel_rfl) (by kernel_rfl) (fun _ _ _ h => h) (YieldsIf.yieldsW (.inl ⟨by rfl, ?_⟩)) ?_
          rotate_left 1
          · (intro W hW; (try dsimp only at hW); go_simp; try with_reducible rfl)
          try simp only [Act.put, List.setIfInBounds_toArray, List.set_cons_zero, List.set_cons_succ]
          refine w_take (i := 29) (v := ?_) [] (some 40) rfl (by rfl) (by kernel_rfl) (by kernel_rfl) (by kernel_rfl) (by kernel_rfl) (by kernel_rfl) (by kernel_rfl) (fun _ _ _ h => h) (YieldsIf.yieldsW (.inl ⟨by rfl, ?_⟩)) ?_
          rotate_left 1
          · (intro W hW; (try dsimp only at hW); go_simp; try with_reducible rfl)
          try simp only [Act.put, List.setIfInBounds_toArray, List.set_cons_zero, List.set_cons_succ]
          refine w_take (i := 30) (v := ?_) [] (some 41) rfl (by rfl) (by kernel_rfl) (by kernel_rfl) (by kernel_rfl) (by kernel_rfl) (by kernel_rfl) (by kernel_rfl) (fun _ _ _ h => h) (YieldsIf.yieldsW (.inl ⟨by rfl, ?_⟩)) ?_
          rotate_left 1
          · (intro W hW; (try dsimp only at hW); go_simp; try with_reducible rfl)
          try simp only [Act.put, List.setIfInBounds_toArray, List.set_cons_zero, List.set_cons_succ]
          refine w_take (i := 31) (v := ?_) [] (some 42) rfl (by rfl) (by kernel_rfl) (by kernel_rfl) (by kernel_rfl) (by kernel_rfl) (by kernel_rfl) (by kernel_rfl) (fun _ _ _ h => h) (YieldsIf.yieldsW (.inl ⟨by rfl, ?_⟩)) ?_
          rotate_left 1
          · (intro W hW; (try dsimp only at hW); go_simp; try with_reducible rfl)
          try simp only [Act.put, List.setIfInBounds_toArray, List.set_cons_zero, List.set_cons_succ]
          refine w_take (i := 32) (v := ?_) [] (some 43) rfl (by rfl) (by kernel_rfl) (by kernel_rfl) (by kernel_rfl) (by kernel_rfl) (by kernel_rfl) (by kernel_rfl) (fun _ _ _ h => h) (YieldsIf.yieldsW (.inl ⟨by rfl, ?_⟩)) ?_
          rotate_left 1
          · (intro W hW; (try dsimp only at hW); go_simp; try with_reducible rfl)
          try simp only [Act.put, List.setIfInBounds_toArray, List.set_cons_zero, List.set_cons_succ]
          refine w_take (i := 33) (v := ?_) [] (some 44) rfl (by rfl) (by kernel_rfl) (by kernel_rfl) (by kernel_rfl) (by kernel_rfl) (by kernel_rfl) (by kernel_rfl) (fun _ _ _ h => h) (YieldsIf.yieldsW (.inl ⟨by rfl, ?_⟩)) ?_
          rotate_left 1
          · (intro W hW; (try dsimp only at hW); go_simp; try with_reducible rfl)
          try simp only [Act.put, List.setIfInBounds_toArray, List.set_cons_zero, List.set_cons_succ]
          refine w_take (i := 34) (v := ?_) [] (some 45) rfl (by rfl) (by kernel_rfl) (by kernel_rfl) (by kernel_rfl) (by kernel_rfl) (by kernel_rfl) (by kernel_rfl) (fun _ _ _ h => h) (YieldsIf.yieldsW (.inl ⟨by rfl, ?_⟩)) ?_
          rotate_left 1
          · (intro W hW; (try dsimp only at hW); go_simp; try with_reducible rfl)
          try simp only [Act.put, List.setIfInBounds_toArray, List.set_cons_zero, List.set_cons_succ]
          refine w_take (i := 35) (v := ?_) [] (some 46) rfl (by rfl) (by kernel_rfl) (by kernel_rfl) (by kernel_rfl) (by kernel_rfl) (by kernel_rfl) (by kernel_rfl) (fun _ _ _ h => h) (YieldsIf.yieldsW (.inl ⟨by rfl, ?_⟩)) ?_
          rotate_left 1
          · (intro W hW; (try dsimp only at hW); go_simp; try with_reducible rfl)
          try simp only [Act.put, List.setIfInBounds_toArray, List.set_cons_zero, List.set_cons_succ]
          refine w_take (i := 36) (v := ?_) [] (some 47) rfl (by rfl) (by kernel_rfl) (by kernel_rfl) (by kernel_rfl) (by kernel_rfl) (by kernel_rfl) (by kernel_rfl) (fun _ _ _ h => h) (YieldsIf.yieldsW (.inl ⟨by rfl, ?_⟩)) ?_
          rotate_left 1
          · (intro W hW; (try dsimp only at hW); go_simp; try with_reducible rfl)
          try simp only [Act.put, List.setIfInBounds_toArray, List.set_cons_zero, List.set_cons_succ]
          refine w_take (i := 37) (v := ?_) [] (some 48) rfl (by rfl) (by kernel_rfl) (by kernel_rfl) (by kernel_rfl) (by kernel_rfl) (by kernel_rfl) (by kernel_rfl) (fun _ _ _ h => h) (YieldsIf.yieldsW (.inl ⟨by rfl, ?_⟩)) ?_
          rotate_left 1
          · (intro W hW; (try dsimp only at hW); go_simp; try with_reducible rfl)
          try simp only [Act.put, List.setIfInBounds_toArray, List.set_cons_zero, List.set_cons_succ]
          refine w_take (i := 38) (v := ?_) [] (some 49) rfl (by rfl) (by kernel_rfl) (by kernel_rfl) (by kernel_rfl) (by kernel_rfl) (by kernel_rfl) (by kernel_rfl) (fun _ _ _ h => h) (YieldsIf.yieldsW (.inl ⟨by rfl, ?_⟩)) ?_
          rotate_left 1
          · (intro W hW; (try dsimp only at hW); go_simp; try with_reducible rfl)
          try simp only [Act.put, List.setIfInBounds_toArray, List.set_cons_zero, List.set_cons_succ]
          refine w_take (i := 39) (v := ?_) [] (some 50) rfl (by rfl) (by kernel_rfl) (by kernel_rfl) (by kernel_rfl) (by kernel_rfl) (by kernel_rfl) (by kernel_rfl) (fun _ _ _ h => h) (YieldsIf.yieldsW (.inl ⟨by rfl, ?_⟩)) ?_
          rotate_left 1
          · (intro W hW; (try dsimp only at hW); go_simp; try with_reducible rfl)
          try simp only [Act.put, List.setIfInBounds_toArray, List.set_cons_zero, List.set_cons_succ]
          refine w_take (i := 40) (v := ?_) [] (some 51) rfl (by rfl) (by kernel_rfl) (by kernel_rfl) (by kernel_rfl) (by kernel_rfl) (by kernel_rfl) (by kernel_rfl) (fun _ _ _ h => h) (YieldsIf.yieldsW (.inl ⟨by rfl, ?_⟩)) ?_
          rotate_left 1
          · (intro W hW; (try dsimp only at hW); go_simp; try with_reducible rfl)
          try simp only [Act.put, List.setIfInBounds_toArray, List.set_cons_zero, List.set_cons_succ]
          refine w_take (i := 41) (v := undef) [] (some 52) rfl (by rfl) (by kernel_rfl) (by kernel_rfl) (by kernel_rfl) (by kernel_rfl) (by kernel_rfl) (by kernel_rfl) (fun _ _ _ h => h) (.inr ⟨by rfl, rfl⟩) ?_
          try simp only [Act.put, List.setIfInBounds_toArray, List.set_cons_zero, List.set_cons_succ]
          refine w_take (i := 42) (v := undef) [] (some 53) rfl (by rfl) (by kernel_rfl) (by kernel_rfl) (by kernel_rfl) (by kernel_rfl) (by kernel_rfl) (by kernel_rfl) (fun _ _ _ h => h) (.inr ⟨by rfl, rfl⟩) ?_
          try simp only [Act.put, List.setIfInBounds_toArray, List.set_cons_zero, List.set_cons_succ]
          refine w_take (i := 43) (v := undef) [] (some 54) rfl (by rfl) (by kernel_rfl) (by kernel_rfl) (by kernel_rfl) (by kernel_rfl) (by kernel_rfl) (by kernel_rfl) (fun _ _ _ h => h) (.inr ⟨by rfl, rfl⟩) ?_
          try simp only [Act.put, List.setIfInBounds_toArray, List.set_cons_zero, List.set_cons_succ]
          refine w_take (i := 44) (v := undef) [] (some 55) rfl (by rfl) (by kernel_rfl) (by kernel_rfl) (by kernel_rfl) (by kernel_rfl) (by kernel_rfl) (by kernel_rfl) (fun _ _ _ h => h) (.inr ⟨by rfl, rfl⟩) ?_
          try simp only [Act.put, List.setIfInBounds_toArray, List.set_cons_zero, List.set_cons_succ]
          refine w_take (i := 45) (v := undef) [] (some 56) rfl (by rfl) (by kernel_rfl) (by kernel_rfl) (by kernel_rfl) (by kernel_rfl) (by kernel_rfl) (by kernel_rfl) (fun _ _ _ h => h) (.inr ⟨by rfl, rfl⟩) ?_
          try simp only [Act.put, List.setIfInBounds_toArray, List.set_cons_zero, List.set_cons_succ]
          refine w_take (i := 46) (v := ?_) [] (some 57) rfl (by rfl) (by kernel_rfl) (by kernel_rfl) (by kernel_rfl) (by kernel_rfl) (by kernel_rfl) (by kernel_rfl) (fun _ _ _ h => h) (YieldsIf.yieldsW (.inl ⟨by rfl, ?_⟩)) ?_
          rotate_left 1
          · (intro W hW; (try dsimp only at hW); go_simp; try with_reducible rfl)
          try simp only [Act.put, List.setIfInBounds_toArray, List.set_cons_zero, List.set_cons_succ]
          refine w_take (i := 47) (v := ?_) [] (some 4) rfl (by rfl) (by kernel_rfl) (by kernel_rfl) (by kernel_rfl) (by kernel_rfl) (by kernel_rfl) (by kernel_rfl) (fun _ _ _ h => h) (YieldsIf.yieldsW (.inl ⟨by rfl, ?_⟩)) ?_
          rotate_left 1
          · (intro W hW; (try dsimp only at hW); go_simp; try with_reducible rfl)
          try simp only [Act.put, List.setIfInBounds_toArray, List.set_cons_zero, List.set_cons_succ]
          refine w_done (by kernel_rfl) (by rfl) (fun V2 hV2 => ?_) _
          go_wp2_with fail
          go_returns
          exact ⟨rfl, XW.out.trans hV2⟩
        have n5 : (s.e.at_ == t.e.at_) = true := by simpa using h5
        have H5 := Lib.hid h5
        clear h5
        have HBT : Hid (decide (s.e.ts = t.e.ts) = b) := Lib.hid (by
          rw [← hb.out]
          have e := of_decide_eq_true HSV.out
          have e0 := of_decide_eq_true HKB.out
          exact decide_eq_decide.2 ⟨fun h => (en_eq _ _).2 ⟨e0.1, e0.2, (o_eq _ _).2 ⟨H1.out, H2.out, e.1, e.2.1, e.2.2, H4.out, H5.out, h⟩⟩, fun h => ((o_eq _ _).1 ((en_eq _ _).1 h).2.2).2.2.2.2.2.2.2⟩)
        go_upto_region 2 with (fail)
        refine w_region (fun w1 => Ext wc w1) [] (by kernel_rfl) ((Ext.refl wc).drew) ?_
        refine w_take (i := 0) (v := ?_) [] (some 11) rfl (by rfl) (by kernel_rfl) (by kernel_rfl) (by kernel_rfl) (by kernel_rfl) (by kernel_rfl) (by kernel_rfl) (fun _ _ _ h => h) (YieldsIf.yieldsW (.inl ⟨by rfl, ?_⟩)) ?_
        rotate_left 1
        · (intro W hW; (try dsimp only at hW); go_simp; try with_reducible rfl)
        try simp only [Act.put, List.setIfInBounds_toArray, List.set_cons_zero, List.set_cons_succ]
        refine w_take (i := 1) (v := (.agg #[.int .i64 s.e.cl, .int .i64 s.e.nu])) [] (some 12) rfl (by rfl) (by kernel_rfl) (by kernel_rfl) (by kernel_rfl) (by kernel_rfl) (by kernel_rfl) (by kernel_rfl) (fun _ _ _ h => h) (.inl ⟨by rfl, ?_⟩) ?_
        · (intro W hW; refine .inr ⟨_, _, _, ?_, ((keyof_any s W).mono fun _ _ ⟨h1, h2⟩ => ⟨h1, hW.trans h2⟩)⟩; go_simp; try with_reducible rfl)
        try simp only [Act.put, List.setIfInBounds_toArray, List.set_cons_zero, List.set_cons_succ]
        refine w_take (i := 2) (v := ?_) [] (some 13) rfl (by rfl) (by kernel_rfl) (by kernel_rfl) (by kernel_rfl) (by kernel_rfl) (by kernel_rfl) (by kernel_rfl) (fun _ _ _ h => h) (YieldsIf.yieldsW (.inl ⟨by rfl, ?_⟩)) ?_
        rotate_left 1
        · (intro W hW; (try dsimp only at hW); go_simp; try with_reducible rfl)
        try simp only [Act.put, List.setIfInBounds_toArray, List.set_cons_zero, List.set_cons_succ]
        refine w_take (i := 3) (v := (.agg #[.int .i64 t.e.cl, .int .i64 t.e.nu])) [] (some 14) rfl (by rfl) (by kernel_rfl) (by kernel_rfl) (by kernel_rfl) (by kernel_rfl) (by kernel_rfl) (by kernel_rfl) (fun _ _ _ h => h) (.inl ⟨by rfl, ?_⟩) ?_
        · (intro W hW; refine .inr ⟨_, _, _, ?_, ((keyof_any t W).mono fun _ _ ⟨h1, h2⟩ => ⟨h1, hW.trans h2⟩)⟩; go_simp; try with_reducible rfl)
        try simp only [Act.put, List.setIfInBounds_toArray, List.set_cons_zero, List.set_cons_succ]
        refine w_take (i := 4) (v := ?_) [] (some 15) rfl (by rfl) (by kernel_rfl) (by kernel_rfl) (by kernel_rfl) (by kernel_rfl) (by kernel_rfl) (by kernel_rfl) (fun _ _ _ h => h) (YieldsIf.yieldsW (.inl ⟨by rfl, ?_⟩)) ?_
        rotate_left 1
        · (intro W hW; (try dsimp only at hW); go_simp; try with_reducible rfl)
        try simp only [Act.put, List.setIfInBounds_toArray, List.set_cons_zero, List.set_cons_succ]
        refine w_take (i := 5) (v := ?_) [] (some 16) rfl (by rfl) (by kernel_rfl) (by kernel_rfl) (by kernel_rfl) (by kernel_rfl) (by kernel_rfl) (by kernel_rfl) (fun _ _ _ h => h) (YieldsIf.yieldsW (.inl ⟨by rfl, ?_⟩)) ?_
        rotate_left 1
        · (intro W hW; (try dsimp only at hW); go_simp; try with_reducible rfl)
        try simp only [Act.put, List.setIfInBounds_toArray, List.set_cons_zero, List.set_cons_succ]
        refine w_take (i := 6) (v := ?_) [] (some 17) rfl (by rfl) (by kernel_rfl) (by kernel_rfl) (by kernel_rfl) (by kernel_rfl) (by kernel_rfl) (by kernel_rfl) (fun _ _ _ h => h) (YieldsIf.yieldsW (.inl ⟨by rfl, ?_⟩)) ?_
        rotate_left 1
        · (intro W hW; (try dsimp only at hW); go_simp; try with_reducible rfl)
        try simp only [Act.put, List.setIfInBounds_toArray, List.set_cons_zero, List.set_cons_succ]
        refine w_take (i := 7) (v := ?_) [] (some 18) rfl (by rfl) (by kernel_rfl) (by kernel_rfl) (by kernel_rfl) (by kernel_rfl) (by kernel_rfl) (by kernel_rfl) (fun _ _ _ h => h) (YieldsIf.yieldsW (.inl ⟨by rfl, ?_⟩)) ?_
        rotate_left 1
        · (intro W hW; (try dsimp only at hW); go_simp; try with_reducible rfl)
        try simp only [Act.put, List.setIfInBounds_toArray, List.set_cons_zero, List.set_cons_succ]
        refine w_take (i := 8) (v := ?_) [] (some 19) rfl (by rfl) (by kernel_rfl) (by kernel_rfl) (by kernel_rfl) (by kernel_rfl) (by kernel_rfl) (by kernel_rfl) (fun _ _ _ h => h) (YieldsIf.yieldsW (.inl ⟨by rfl, ?_⟩)) ?_
        rotate_left 1
        · (intro W hW; (try dsimp only at hW); go_simp; try with_reducible rfl)
        try simp only [Act.put, List.setIfInBounds_toArray, List.set_cons_zero, List.set_cons_succ]
        refine w_take (i := 9) (v := ?_) [] (some 20) rfl (by rfl) (by kernel_rfl) (by kernel_rfl) (by kernel_rfl) (by kernel_rfl) (by kernel_rfl) (by kernel_rfl) (fun _ _ _ h => h) (YieldsIf.yieldsW (.inl ⟨by rfl, ?_⟩)) ?_
        rotate_left 1
        · (intro W hW; (try dsimp only at hW); go_simp; try with_reducible rfl)
        try simp only [Act.put, List.setIfInBounds_toArray, List.set_cons_zero, List.set_cons_succ]
        refine w_take (i := 10) (v := ?_) [] (some 21) rfl (by rfl) (by kernel_rfl) (by kernel_rfl) (by kernel_rfl) (by kernel_rfl) (by kernel_rfl) (by kernel_rfl) (fun _ _ _ h => h) (YieldsIf.yieldsW (.inl ⟨by rfl, ?_⟩)) ?_
        rotate_left 1
        · (intro W hW; (try dsimp only at hW); go_simp; try with_reducible rfl)
        try simp only [Act.put, List.setIfInBounds_toArray, List.set_cons_zero, List.set_cons_succ]
        refine w_take (i := 11) (v := ?_) [] (some 22) rfl (by rfl) (by kernel_rfl) (by kernel_rfl) (by kernel_rfl) (by kernel_rfl) (by kernel_rfl) (by kernel_rfl) (fun _ _ _ h => h) (YieldsIf.yieldsW (.inl ⟨by rfl, ?_⟩)) ?_
        rotate_left 1
        · (intro W hW; (try dsimp only at hW); go_simp; try with_reducible rfl)
        try simp only [Act.put, List.setIfInBounds_toArray, List.set_cons_zero, List.set_cons_succ]
        refine w_take (i := 12) (v := ?_) [] (some 23) rfl (by rfl) (by kernel_rfl) (by kernel_rfl) (by kernel_rfl) (by kernel_rfl) (by kernel_rfl) (by kernel_rfl) (fun _ _ _ h => h) (YieldsIf.yieldsW (.inl ⟨by rfl, ?_⟩)) ?_
        rotate_left 1
        · (intro W hW; (try dsimp only at hW); go_simp; try with_reducible rfl)
        try simp only [Act.put, List.setIfInBounds_toArray, List.set_cons_zero, List.set_cons_succ]
        refine w_take (i := 13) (v := ?_) [] (some 24) rfl (by rfl) (by kernel_rfl) (by kernel_rfl) (by kernel_rfl) (by kernel_rfl) (by kernel_rfl) (by kernel_rfl) (fun _ _ _ h => h) (YieldsIf.yieldsW (.inl ⟨by rfl, ?_⟩)) ?_
        rotate_left 1
        · (intro W hW; (try dsimp only at hW); go_simp; try with_reducible rfl)
        try simp only [Act.put, List.setIfInBounds_toArray, List.set_cons_zero, List.set_cons_succ]
        refine w_take (i := 14) (v := ?_) [] (some 25) rfl (by rfl) (by kernel_rfl) (by kernel_rfl) (by kernel_rfl) (by kernel_rfl) (by kernel_rfl) (by kernel_rfl) (fun _ _ _ h => h) (YieldsIf.yieldsW (.inl ⟨by rfl, ?_⟩)) ?_
        rotate_left 1
        · (intro W hW; (try dsimp only at hW); go_simp; try with_reducible rfl)
        try simp only [Act.put, List.setIfInBounds_toArray, List.set_cons_zero, List.set_cons_succ]
        refine w_take (i := 15) (v := ?_) [] (some 26) rfl (by rfl) (by kernel_rfl) (by kernel_rfl) (by kernel_rfl) (by kernel_rfl) (by kernel_rfl) (by kernel_rfl) (fun _ _ _ h => h) (YieldsIf.yieldsW (.inl ⟨by rfl, ?_⟩)) ?_
        rotate_left 1
        · (intro W hW; (try dsimp only at hW); go_simp; try with_reducible rfl)
        try simp only [Act.put, List.setIfInBounds_toArray, List.set_cons_zero, List.set_cons_succ]
        refine w_take (i := 16) (v := ?_) [] (some 27) rfl (by rfl) (by kernel_rfl) (by kernel_rfl) (by kernel_rfl) (by kernel_rfl) (by kernel_rfl) (by kernel_rfl) (fun _ _ _ h => h) (YieldsIf.yieldsW (.inl ⟨by rfl, ?_⟩)) ?_
        rotate_left 1
        · (intro W hW; (try dsimp only at hW); go_simp; try with_reducible rfl)
        try simp only [Act.put, List.setIfInBounds_toArray, List.set_cons_zero, List.set_cons_succ]
        refine w_take (i := 17) (v := ?_) [] (some 28) rfl (by rfl) (by kernel_rfl) (by kernel_rfl) (by kernel_rfl) (by kernel_rfl) (by kernel_rfl) (by kernel_rfl) (fun _ _ _ h => h) (YieldsIf.yieldsW (.inl ⟨by rfl, ?_⟩)) ?_
        rotate_left 1
        · (intro W hW; (try dsimp only at hW); go_simp; try with_reducible rfl)
        try simp only [Act.put, List.setIfInBounds_toArray, List.set_cons_zero, List.set_cons_succ]
        refine w_take (i := 18) (v := ?_) [] (some 29) rfl (by rfl) (by kernel_rfl) (by kernel_rfl) (by kernel_rfl) (by kernel_rfl) (by kernel_rfl) (by kernel_rfl) (fun _ _ _ h => h) (YieldsIf.yieldsW (.inl ⟨by rfl, ?_⟩)) ?_
        rotate_left 1
        · (intro W hW; (try dsimp only at hW); go_simp; try with_reducible rfl)
        try simp only [Act.put, List.setIfInBounds_toArray, List.set_cons_zero, List.set_cons_succ]
        refine w_take (i := 19) (v := ?_) [] (some 30) rfl (by rfl) (by kernel_rfl) (by kernel_rfl) (by kernel_rfl) (by kernel_rfl) (by kernel_rfl) (by kernel_rfl) (fun _ _ _ h => h) (YieldsIf.yieldsW (.inl ⟨by rfl, ?_⟩)) ?_
        rotate_left 1
        · (intro W hW; (try dsimp only at hW); go_simp; try with_reducible rfl)
        try simp only [Act.put, List.setIfInBounds_toArray, List.set_cons_zero, List.set_cons_succ]
        refine w_take (i := 20) (v := ?_) [] (some 31) rfl (by rfl) (by kernel_rfl) (by kernel_rfl) (by kernel_rfl) (by kernel_rfl) (by kernel_rfl) (by kernel_rfl) (fun _ _ _ h => h) (YieldsIf.yieldsW (.inl ⟨by rfl, ?_⟩)) ?_
        rotate_left 1
        · (intro W hW; (try dsimp only at hW); go_simp; try with_reducible rfl)
        try simp only [Act.put, List.setIfInBounds_toArray, List.set_cons_zero, List.set_cons_succ]
        refine w_take (i := 21) (v := ?_) [] (some 32) rfl (by rfl) (by kernel_rfl) (by kernel_rfl) (by kernel_rfl) (by kernel_rfl) (by kernel_rfl) (by kernel_rfl) (fun _ _ _ h => h) (YieldsIf.yieldsW (.inl ⟨by rfl, ?_⟩)) ?_
        rotate_left 1
        · (intro W hW; (try dsimp only at hW); go_simp; try with_reducible rfl)
        try simp only [Act.put, List.setIfInBounds_toArray, List.set_cons_zero, List.set_cons_succ]
        refine w_take (i := 22) (v := ?_) [] (some 33) rfl (by rfl) (by kernel_rfl) (by kernel_rfl) (by kernel_rfl) (by kernel_rfl) (by kernel_rfl) (by kernel_rfl) (fun _ _ _ h => h) (YieldsIf.yieldsW (.inl ⟨by rfl, ?_⟩)) ?_
        rotate_left 1
        · (intro W hW; (try dsimp only at hW); go_simp; try with_reducible rfl)
        try simp only [Act.put, List.setIfInBounds_toArray, List.set_cons_zero, List.set_cons_succ]
        refine w_take (i := 23) (v := ?_) [] (some 34) rfl (by rfl) (by kernel_rfl) (by kernel_rfl) (by kernel_rfl) (by kernel_rfl) (by kernel_rfl) (by kernel_rfl) (fun _ _ _ h => h) (YieldsIf.yieldsW (.inl ⟨by rfl, ?_⟩)) ?_
        rotate_left 1
        · (intro W hW; (try dsimp only at hW); go_simp; try with_reducible rfl)
        try simp only [Act.put, List.setIfInBounds_toArray, List.set_cons_zero, List.set_cons_succ]
        refine w_take (i := 24) (v := ?_) [] (some 35) rfl (by rfl) (by kernel_rfl) (by kernel_rfl) (by kernel_rfl) (by kernel_rfl) (by kernel_rfl) (by kernel_rfl) (fun _ _ _ h => h) (YieldsIf.yieldsW (.inl ⟨by rfl, ?_⟩)) ?_
        rotate_left 1
        · (intro W hW; (try dsimp only at hW); go_simp; try with_reducible rfl)
        try simp only [Act.put, List.setIfInBounds_toArray, List.set_cons_zero, List.set_cons_succ]
        refine w_take (i := 25) (v := ?_) [] (some 36) rfl (by rfl) (by kernel_rfl) (by kernel_rfl) (by kernel_rfl) (by kernel_rfl) (by kernel_rfl) (by kernel_rfl) (fun _ _ _ h => h) (YieldsIf.yieldsW (.inl ⟨by rfl, ?_⟩)) ?_
        rotate_left 1
        · (intro W hW; (try dsimp only at hW); go_simp; try with_reducible rfl)
        try simp only [Act.put, List.setIfInBounds_toArray, List.set_cons_zero, List.set_cons_succ]
        refine w_take (i := 26) (v := ?_) [] (some 37) rfl (by rfl) (by kernel_rfl) (by kernel_rfl) (by kernel_rfl) (by kernel_rfl) (by kernel_rfl) (by kernel_rfl) (fun _ _ _ h => h) (YieldsIf.yieldsW (.inl ⟨by rfl, ?_⟩)) ?_
        rotate_left 1
        · (intro W hW; (try dsimp only at hW); go_simp; try with_reducible rfl)
        try simp only [Act.put, List.setIfInBounds_toArray, List.set_cons_zero, List.set_cons_succ]
        refine w_take (i := 27) (v := ?_) [] (some 38) rfl (by rfl) (by kernel_rfl) (by kernel_rfl) (by kernel_rfl) (by kernel_rfl) (by kernel_rfl) (by kernel_rfl) (fun _ _ _ h => h) (YieldsIf.yieldsW (.inl ⟨by rfl, ?_⟩)) ?_
        rotate_left 1
        · (intro W hW; (try dsimp only at hW); go_simp; try with_reducible rfl)
        try simp only [Act.put, List.setIfInBounds_toArray, List.set_cons_zero, List.set_cons_succ]
        refine w_take (i := 28) (v := ?_) [] (some 39) rfl (by rfl) (by kernel_rfl) (by kernel_rfl) (by kernel_rfl) (by kernel_rfl) (by kernel_rfl) (by kernel_rfl) (fun _ _ _ h => h) (YieldsIf.yieldsW (.inl ⟨by rfl, ?_⟩)) ?_
        rotate_left 1
        · (intro W hW; (try dsimp only at hW); go_simp; try with_reducible rfl)
        try simp only [Act.put, List.setIfInBounds_toArray, List.set_cons_zero, List.set_cons_succ]
        refine w_take (i := 29) (v := ?_) [] (some 40) rfl (by rfl) (by kernel_rfl) (by kernel_rfl) (by kernel_rfl) (by kernel_rfl) (by kernel_rfl) (by kernel_rfl) (fun _ _ _ h => h) (YieldsIf.yieldsW (.inl ⟨by rfl, ?_⟩)) ?_
        rotate_left 1
        · (intro W hW; (try dsimp only at hW); go_simp; try with_reducible rfl)
        try simp only [Act.put, List.setIfInBounds_toArray, List.set_cons_zero, List.set_cons_succ]
        refine w_take (i := 30) (v := ?_) [] (some 41) rfl (by rfl) (by kernel_rfl) (by kernel_rfl) (by kernel_rfl) (by kernel_rfl) (by kernel_rfl) (by kernel_rfl) (fun _ _ _ h => h) (YieldsIf.yieldsW (.inl ⟨by rfl, ?_⟩)) ?_
        rotate_left 1
        · (intro W hW; (try dsimp only at hW); go_simp; try with_reducible rfl)
        try simp only [Act.put, List.setIfInBounds_toArray, List.set_cons_zero, List.set_cons_succ]
        refine w_take (i := 31) (v := ?_) [] (some 42) rfl (by rfl) (by kernel_rfl) (by kernel_rfl) (by kernel_rfl) (by kernel_rfl) (by kernel_rfl) (by kernel_rfl) (fun _ _ _ h => h) (YieldsIf.yieldsW (.inl ⟨by rfl, ?_⟩)) ?_
        rotate_left 1
        · (intro W hW; (try dsimp only at hW); go_simp; try with_reducible rfl)
        try simp only [Act.put, List.setIfInBounds_toArray, List.set_cons_zero, List.set_cons_succ]
        refine w_take (i := 32) (v := ?_) [] (some 43) rfl (by rfl) (by kernel_rfl) (by kernel_rfl) (by kernel_rfl) (by kernel_rfl) (by kernel_rfl) (by kernel_rfl) (fun _ _ _ h => h) (YieldsIf.yieldsW (.inl ⟨by rfl, ?_⟩)) ?_
        rotate_left 1
        · (intro W hW; (try dsimp only at hW); go_simp; try with_reducible rfl)
        try simp only [Act.put, List.setIfInBounds_toArray, List.set_cons_zero, List.set_cons_succ]
        refine w_take (i := 33) (v := ?_) [] (some 44) rfl (by rfl) (by kernel_rfl) (by kernel_rfl) (by kernel_rfl) (by kernel_rfl) (by kernel_rfl) (by kernel_rfl) (fun _ _ _ h => h) (YieldsIf.yieldsW (.inl ⟨by rfl, ?_⟩)) ?_
        rotate_left 1
        · (intro W hW; (try dsimp only at hW); go_simp; try with_reducible rfl)
        try simp only [Act.put, List.setIfInBounds_toArray, List.set_cons_zero, List.set_cons_succ]
        refine w_take (i := 34) (v := ?_) [] (some 45) rfl (by rfl) (by kernel_rfl) (by kernel_rfl) (by kernel_rfl) (by kernel_rfl) (by kernel_rfl) (by kernel_rfl) (fun _ _ _ h => h) (YieldsIf.yieldsW (.inl ⟨by rfl, ?_⟩)) ?_
        rotate_left 1
        · (intro W hW; (try dsimp only at hW); go_simp; try with_reducible rfl)
        try simp only [Act.put, List.setIfInBounds_toArray, List.set_cons_zero, List.set_cons_succ]
        refine w_take (i := 35) (v := ?_) [] (some 46) rfl (by rfl) (by kernel_rfl) (by kernel_rfl) (by kernel_rfl) (by kernel_rfl) (by kernel_rfl) (by kernel_rfl) (fun _ _ _ h => h) (YieldsIf.yieldsW (.inl ⟨by rfl, ?_⟩)) ?_
        rotate_left 1
        · (intro W hW; (try dsimp only at hW); go_simp; try with_reducible rfl)
        try simp only [Act.put, List.setIfInBounds_toArray, List.set_cons_zero, List.set_cons_succ]
        refine w_take (i := 36) (v := ?_) [] (some 47) rfl (by rfl) (by kernel_rfl) (by kernel_rfl) (by kernel_rfl) (by kernel_rfl) (by kernel_rfl) (by kernel_rfl) (fun _ _ _ h => h) (YieldsIf.yieldsW (.inl ⟨by rfl, ?_⟩)) ?_
        rotate_left 1
        · (intro W hW; (try dsimp only at hW); go_simp; try with_reducible rfl)
        try simp only [Act.put, List.setIfInBounds_toArray, List.set_cons_zero, List.set_cons_succ]
        refine w_take (i := 37) (v := ?_) [] (some 48) rfl (by rfl) (by kernel_rfl) (by kernel_rfl) (by kernel_rfl) (by kernel_rfl) (by kernel_rfl) (by kernel_rfl) (fun _ _ _ h => h) (YieldsIf.yieldsW (.inl ⟨by rfl, ?_⟩)) ?_
        rotate_left 1
        · (intro W hW; (try dsimp only at hW); go_simp; try with_reducible rfl)
        try simp only [Act.put, List.setIfInBounds_toArray, List.set_cons_zero, List.set_cons_succ]
        refine w_take (i := 38) (v := ?_) [] (some 49) rfl (by rfl) (by kernel_rfl) (by kernel_rfl) (by kernel_rfl) (by kernel_rfl) (by kernel_rfl) (by kernel_rfl) (fun _ _ _ h => h) (YieldsIf.yieldsW (.inl ⟨by rfl, ?_⟩)) ?_
        rotate_left 1
        · (intro W hW; (try dsimp only at hW); go_simp; try with_reducible rfl)
        try simp only [Act.put, List.setIfInBounds_toArray, List.set_cons_zero, List.set_cons_succ]
        refine w_take (i := 39) (v := ?_) [] (some 50) rfl (by rfl) (by kernel_rfl) (by kernel_rfl) (by kernel_rfl) (by kernel_rfl) (by kernel_rfl) (by kernel_rfl) (fun _ _ _ h => h) (YieldsIf.yieldsW (.inl ⟨by rfl, ?_⟩)) ?_
        rotate_left 1
        · (intro W hW; (try dsimp only at hW); go_simp; try with_reducible rfl)
        try simp only [Act.put, List.setIfInBounds_toArray, List.set_cons_zero, List.set_cons_succ]
        refine w_take (i := 40) (v := ?_) [] (some 51) rfl (by rfl) (by kernel_rfl) (by kernel_rfl) (by kernel_rfl) (by kernel_rfl) (by kernel_rfl) (by kernel_rfl) (fun _ _ _ h => h) (YieldsIf.yieldsW (.inl ⟨by rfl, ?_⟩)) ?_
        rotate_left 1
        · (intro W hW; (try dsimp only at hW); go_simp; try with_reducible rfl)
        try simp only [Act.put, List.setIfInBounds_toArray, List.set_cons_zero, List.set_cons_succ]
        refine w_take (i := 41) (v := ?_) [] (some 52) rfl (by rfl) (by kernel_rfl) (by kernel_rfl) (by kernel_rfl) (by kernel_rfl) (by kernel_rfl) (by kernel_rfl) (fun _ _ _ h => h) (YieldsIf.yieldsW (.inl ⟨by rfl, ?_⟩)) ?_
        rotate_left 1
        · (intro W hW; (try dsimp only at hW); go_simp; try with_reducible rfl)
        try simp only [Act.put, List.setIfInBounds_toArray, List.set_cons_zero, List.set_cons_succ]
        refine w_take (i := 42) (v := ?_) [] (some 53) rfl (by rfl) (by kernel_rfl) (by kernel_rfl) (by kernel_rfl) (by kernel_rfl) (by kernel_rfl) (by kernel_rfl) (fun _ _ _ h => h) (YieldsIf.yieldsW (.inl ⟨by rfl, ?_⟩)) ?_
        rotate_left 1
        · (intro W hW; (try dsimp only at hW); go_simp; try with_reducible rfl)
        try simp only [Act.put, List.setIfInBounds_toArray, List.set_cons_zero, List.set_cons_succ]
        refine w_take (i := 43) (v := ?_) [] (some 54) rfl (by rfl) (by kernel_rfl) (by kernel_rfl) (by kernel_rfl) (by kernel_rfl) (by kernel_rfl) (by kernel_rfl) (fun _ _ _ h => h) (YieldsIf.yieldsW (.inl ⟨by rfl, ?_⟩)) ?_
        rotate_left 1
        · (intro W hW; (try dsimp only at hW); go_simp; try with_reducible rfl)
        try simp only [Act.put, List.setIfInBounds_toArray, List.set_cons_zero, List.set_cons_succ]
        refine w_take (i := 44) (v := ?_) [] (some 55) rfl (by rfl) (by kernel_rfl) (by kernel_rfl) (by kernel_rfl) (by kernel_rfl) (by kernel_rfl) (by kernel_rfl) (fun _ _ _ h => h) (YieldsIf.yieldsW (.inl ⟨by rfl, ?_⟩)) ?_
        rotate_left 1
        · (intro W hW; (try dsimp only at hW); go_simp; try with_reducible rfl)
        try simp only [Act.put, List.setIfInBounds_toArray, List.set_cons_zero, List.set_cons_succ]
        refine w_take (i := 45) (v := (.bool b)) [] (some 56) rfl (by rfl) (by kernel_rfl) (by kernel_rfl) (by kernel_rfl) (by kernel_rfl) (by kernel_rfl) (by kernel_rfl) (fun _ _ _ h => h) (.inl ⟨by rfl, ?_⟩) ?_
        · (intro W hW; refine .inr ⟨_, _, _, ?_, ((EQ.out W hW b HBT).mono fun _ _ ⟨h1, h2⟩ => ⟨h1, hW.trans h2⟩)⟩; go_simp; try with_reducible rfl)
        try simp only [Act.put, List.setIfInBounds_toArray, List.set_cons_zero, List.set_cons_succ]
        refine w_take (i := 46) (v := ?_) [] (some 57) rfl (by rfl) (by kernel_rfl) (by kernel_rfl) (by kernel_rfl) (by kernel_rfl) (by kernel_rfl) (by kernel_rfl) (fun _ _ _ h => h) (YieldsIf.yieldsW (.inl ⟨by rfl, ?_⟩)) ?_
        rotate_left 1
        · (intro W hW; (try dsimp only at hW); go_simp; try with_reducible rfl)
        try simp only [Act.put, List.setIfInBounds_toArray, List.set_cons_zero, List.set_cons_succ]
        refine w_take (i := 47) (v := ?_) [] (some 4) rfl (by rfl) (by kernel_rfl) (by kernel_rfl) (by kernel_rfl) (by kernel_rfl) (by kernel_rfl) (by kernel_rfl) (fun _ _ _ h => h) (YieldsIf.yieldsW (.inl ⟨by rfl, ?_⟩)) ?_
        rotate_left 1
        · (intro W hW; (try dsimp only at hW); go_simp; try with_reducible rfl)
        try simp only [Act.put, List.setIfInBounds_toArray, List.set_cons_zero, List.set_cons_succ]
        refine w_done (by kernel_rfl) (by rfl) (fun V2 hV2 => ?_) _
        go_wp2_with fail
        go_returns
        exact ⟨rfl, XW.out.trans hV2⟩
end Go.Proofs.YteflnnlihblpgaaDoor
