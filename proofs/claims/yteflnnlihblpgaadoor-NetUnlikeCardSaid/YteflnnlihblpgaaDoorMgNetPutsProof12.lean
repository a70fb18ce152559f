/-
  Messages between replicas, plain; node, legal, none, kind, goodLedger of package net and Legal of the document's net, walked.
-/
import Derived.Test.YteflnnlihblpgaaDoorMgNetPutsProof11
import Derived.Handy
namespace Go.Proofs.YteflnnlihblpgaaDoor
set_option maxRecDepth 100000
open Go.RowKit
set_option linter.unusedVariables false
/-- A message but for its ledger: kind, from, to, job, ballot, accepted. -/
structure Ms where
  kd : Int
  fr : Int
  tw : Int
  jb : Int
  br : Int
  bn : Int
  ar : Int
  an : Int
deriving DecidableEq
/-- A message in memory. -/
structure MsS where
  m : Ms
  A : Option Addr
  n : Nat
  c : Nat
  ss : List EnS
def legB (r n : Int) : Bool := decide (1 ≤ r ∧ r ≤ 1099511627776 ∧ 0 ≤ n ∧ n ≤ 6)
def nodB (n : Int) : Bool := decide (0 ≤ n ∧ n ≤ 6)
def Ms.non (m : Ms) : Bool := decide (m.ar = 0 ∧ m.an = 0)
def goodLB (es : List En) : Bool := decide (es.length ≤ 64) && es.all En.form
def empB (es : List En) : Bool := decide (es.length = 0)
def Ms.head (m : Ms) : Bool := nodB m.fr && (nodB m.tw && (decide (0 ≤ m.jb ∧ m.jb ≤ 1099511627776) && legB m.br m.bn))
def Ms.body (m : Ms) (es : List En) : Bool :=
  if m.kd = 1 ∨ m.kd = 4 then m.non && empB es
  else if m.kd = 2 then goodLB es && (legB m.ar m.an || (m.non && empB es))
  else if m.kd = 3 then goodLB es && m.non
  else if m.kd = 5 then legB m.ar m.an && empB es
  else false
/-- Is a message in form? -/
def Ms.form (m : Ms) (es : List En) : Bool := m.head && m.body es
/-- The fields of a kind: accepted, must, ledger; whether there is such a kind. -/
def kindF (k : Int) : Bool × Bool × Bool × Bool :=
  if k = 1 ∨ k = 4 then (false, false, false, true)
  else if k = 2 then (true, false, true, true)
  else if k = 3 then (false, false, true, true)
  else if k = 5 then (true, true, false, true)
  else (false, false, false, false)
theorem non_leg (m : Ms) (h : m.non = true) : legB m.ar m.an = false := by
  unfold Ms.non at h
  unfold legB
  have h := of_decide_eq_true h
  exact decide_eq_false (by omega)
theorem emp_good (es : List En) (h : empB es = true) : goodLB es = true := by
  unfold empB at h
  have h := List.eq_nil_of_length_eq_zero (of_decide_eq_true h)
  rw [h]
  rfl
/-- What Check asks, in its order. -/
def Ms.chk (m : Ms) (es : List En) : Bool :=
  ((kindF m.kd).2.2.2 && nodB m.fr && nodB m.tw && decide (0 ≤ m.jb) && decide (m.jb ≤ 1099511627776) && legB m.br m.bn && (m.non || ((kindF m.kd).1 && legB m.ar m.an)) && (!(kindF m.kd).2.1 || !m.non) && ((kindF m.kd).2.2.1 || empB es) && goodLB es)
    && !(decide (m.kd = 2) && m.non && !empB es)
theorem chk_form (m : Ms) (es : List En) : m.chk es = m.form es := by
  unfold Ms.chk Ms.form Ms.head Ms.body kindF
  have e1 : decide (0 ≤ m.jb ∧ m.jb ≤ 1099511627776) = (decide (0 ≤ m.jb) && decide (m.jb ≤ 1099511627776)) := Bool.decide_and _ _
  rw [e1]
  have h1 := non_leg m
  have h2 := emp_good es
  generalize nodB m.fr = a
  generalize nodB m.tw = b
  generalize decide (0 ≤ m.jb) = c
  generalize decide (m.jb ≤ 1099511627776) = d
  generalize legB m.br m.bn = e
  generalize m.non = f at *
  generalize legB m.ar m.an = g at *
  generalize empB es = h at *
  generalize goodLB es = i at *
  by_cases k14 : m.kd = 1 ∨ m.kd = 4
  · have k2 : ¬ m.kd = 2 := by omega
    simp only [k14, k2, if_true, decide_false]
    revert h1 h2
    cases a <;> cases b <;> cases c <;> cases d <;> cases e <;> cases f <;> cases g <;> cases h <;> cases i <;> decide
  · by_cases k2 : m.kd = 2
    · simp only [k14, k2, if_true, if_false, decide_true]
      revert h1 h2
      cases a <;> cases b <;> cases c <;> cases d <;> cases e <;> cases f <;> cases g <;> cases h <;> cases i <;> decide
    · by_cases k3 : m.kd = 3
      · simp only [k14, k2, k3, if_true, if_false, decide_false]
        revert h1 h2
        cases a <;> cases b <;> cases c <;> cases d <;> cases e <;> cases f <;> cases g <;> cases h <;> cases i <;> decide
      · by_cases k5 : m.kd = 5
        · simp only [k14, k2, k3, k5, if_true, if_false, decide_false]
          revert h1 h2
          cases a <;> cases b <;> cases c <;> cases d <;> cases e <;> cases f <;> cases g <;> cases h <;> cases i <;> decide
        · simp only [k14, k2, k3, k5, if_false, decide_false]
          cases a <;> cases b <;> cases c <;> cases d <;> cases e <;> cases f <;> cases g <;> cases h <;> cases i <;> decide
theorem eql_ballot (a b x y : Int) (w : World) : (binOp .eql 74 (.agg #[.int .i64 a, .int .i64 b]) (.agg #[.int .i64 x, .int .i64 y])).run Tryd.prog w = .ok (.bool (decide (a = x ∧ b = y))) w := by
  by_cases h1 : a = x
  · by_cases h2 : b = y
    · subst h1 h2; go_simp
    · subst h1; go_simp
  · go_simp
set_option maxHeartbeats 1600000 in
theorem node_any (n : Int) (w : World) (b : Bool) (hb : Hid (nodB n = b)) : Calls Tryd.prog 67 #[.int .i64 n] w fun x w' => x = .returned (.bool b) ∧ w = w' := by
  by_cases h1 : 0 ≤ n
  · by_cases h2 : n < 7
    · obtain rfl : b = true := by rw [← hb.out]; exact decide_eq_true (by omega)
      go_enter Tryd.func67, Tryd.ntmps67
      go_wp2_with fail
      go_returns
      exact ⟨rfl, rfl⟩
    · obtain rfl : b = false := by rw [← hb.out]; exact decide_eq_false (by omega)
      go_enter Tryd.func67, Tryd.ntmps67
      go_wp2_with fail
      go_returns
      exact ⟨rfl, rfl⟩
  · obtain rfl : b = false := by rw [← hb.out]; exact decide_eq_false (by omega)
    go_enter Tryd.func67, Tryd.ntmps67
    go_wp2_with fail
    go_returns
    exact ⟨rfl, rfl⟩
set_option maxHeartbeats 3200000 in
theorem legal_any (r n : Int) (w : World) (b : Bool) (hb : Hid (legB r n = b)) : Calls Tryd.prog 68 #[.agg #[.int .i64 r, .int .i64 n]] w fun x w' => x = .returned (.bool b) ∧ Ext w w' := by
  by_cases h1 : 1 ≤ r
  · by_cases h2 : r ≤ 1099511627776
    · have hb2 : Hid (nodB n = b) := Lib.hid (by rw [← hb.out]; unfold legB nodB; exact decide_eq_decide.2 ⟨fun h => ⟨h1, h2, h⟩, fun h => h.2.2⟩)
      clear hb
      have b1 := heap_alloc_new w (.cells #[.int .i64 r, .int .i64 n] 74)
      have X1 := (Ext.refl w).alloc (.cells #[.int .i64 r, .int .i64 n] 74)
      have HV := Lib.hid (And.intro b1 X1)
      clear b1 X1
      go_enter Tryd.func68, Tryd.ntmps68
      go_upto_region 1 with (fail)
      generalize w.alloc (.cells #[.int .i64 r, .int .i64 n] 74) = V at *
      generalize w.heap.size = ob at *
      have c0 : V.cell? ⟨ob, 0, none⟩ = some (.int .i64 r) := block_cell (HV.out.1) 0
      have c1 : V.cell? ⟨ob, 1, none⟩ = some (.int .i64 n) := block_cell (HV.out.1) 1
      have CN := Lib.hid (node_any n V b hb2)
      go_wp2_with (go_at_call 67; refine CN.out.mono ?_; rintro x w2 ⟨rfl, rfl⟩)
      go_returns
      exact ⟨rfl, HV.out.2⟩
    · obtain rfl : b = false := by rw [← hb.out]; exact decide_eq_false (by omega)
      have b1 := heap_alloc_new w (.cells #[.int .i64 r, .int .i64 n] 74)
      have X1 := (Ext.refl w).alloc (.cells #[.int .i64 r, .int .i64 n] 74)
      have HV := Lib.hid (And.intro b1 X1)
      clear b1 X1
      go_enter Tryd.func68, Tryd.ntmps68
      go_upto_region 1 with (fail)
      generalize w.alloc (.cells #[.int .i64 r, .int .i64 n] 74) = V at *
      generalize w.heap.size = ob at *
      have c0 : V.cell? ⟨ob, 0, none⟩ = some (.int .i64 r) := block_cell (HV.out.1) 0
      have c1 : V.cell? ⟨ob, 1, none⟩ = some (.int .i64 n) := block_cell (HV.out.1) 1
      go_wp2_with fail
      go_returns
      exact ⟨rfl, HV.out.2⟩
  · obtain rfl : b = false := by rw [← hb.out]; exact decide_eq_false (by omega)
    have b1 := heap_alloc_new w (.cells #[.int .i64 r, .int .i64 n] 74)
    have X1 := (Ext.refl w).alloc (.cells #[.int .i64 r, .int .i64 n] 74)
    have HV := Lib.hid (And.intro b1 X1)
    clear b1 X1
    go_enter Tryd.func68, Tryd.ntmps68
    go_upto_region 1 with (fail)
    generalize w.alloc (.cells #[.int .i64 r, .int .i64 n] 74) = V at *
    generalize w.heap.size = ob at *
    have c0 : V.cell? ⟨ob, 0, none⟩ = some (.int .i64 r) := block_cell (HV.out.1) 0
    have c1 : V.cell? ⟨ob, 1, none⟩ = some (.int .i64 n) := block_cell (HV.out.1) 1
    go_wp2_with fail
    go_returns
    exact ⟨rfl, HV.out.2⟩
set_option maxHeartbeats 1600000 in
theorem none_any (r n : Int) (w : World) (b : Bool) (hb : Hid (decide (r = 0 ∧ n = 0) = b)) : Calls Tryd.prog 69 #[.agg #[.int .i64 r, .int .i64 n]] w fun x w' => x = .returned (.bool b) ∧ Ext w w' := by
  have b1 := heap_alloc_new w (.cells #[.int .i64 r, .int .i64 n] 74)
  have X1 := (Ext.refl w).alloc (.cells #[.int .i64 r, .int .i64 n] 74)
  have HV := Lib.hid (And.intro b1 X1)
  clear b1 X1
  go_enter Tryd.func69, Tryd.ntmps69
  go_upto_region 1 with (fail)
  generalize w.alloc (.cells #[.int .i64 r, .int .i64 n] 74) = V at *
  generalize w.heap.size = ob at *
  have c0 : V.cell? ⟨ob, 0, none⟩ = some (.int .i64 r) := block_cell (HV.out.1) 0
  have c1 : V.cell? ⟨ob, 1, none⟩ = some (.int .i64 n) := block_cell (HV.out.1) 1
  have eB : ∀ W, (binOp .eql 74 (.agg #[.int .i64 r, .int .i64 n]) (.agg #[.int .i64 0, .int .i64 0])).run Tryd.prog W = .ok (.bool b) W := fun W => by rw [eql_ballot, hb.out]
  go_wp2_with fail
  go_returns
  exact ⟨rfl, HV.out.2⟩
set_option maxHeartbeats 3200000 in
theorem rlegal_any (r n : Int) (w : World) (b : Bool) (hb : Hid (legB r n = b)) : Calls Tryd.prog 72 #[.agg #[.int .i64 r, .int .i64 n]] w fun x w' => x = .returned (.bool b) ∧ Ext w w' := by
  by_cases h1 : 1 ≤ r
  · by_cases h2 : r ≤ 1099511627776
    · by_cases h3 : 0 ≤ n
      · by_cases h4 : n ≤ 6
        · obtain rfl : b = true := by rw [← hb.out]; exact decide_eq_true ⟨h1, h2, h3, h4⟩
          have b1 := heap_alloc_new w (.cells #[.int .i64 r, .int .i64 n] 74)
          have X1 := (Ext.refl w).alloc (.cells #[.int .i64 r, .int .i64 n] 74)
          have HV := Lib.hid (And.intro b1 X1)
          clear b1 X1
          go_enter Tryd.func72, Tryd.ntmps72
          go_upto_region 1 with (fail)
          generalize w.alloc (.cells #[.int .i64 r, .int .i64 n] 74) = V at *
          generalize w.heap.size = ob at *
          have c0 : V.cell? ⟨ob, 0, none⟩ = some (.int .i64 r) := block_cell (HV.out.1) 0
          have c1 : V.cell? ⟨ob, 1, none⟩ = some (.int .i64 n) := block_cell (HV.out.1) 1
          go_wp2_with fail
          go_returns
          exact ⟨rfl, HV.out.2⟩
        · obtain rfl : b = false := by rw [← hb.out]; exact decide_eq_false (by omega)
          have b1 := heap_alloc_new w (.cells #[.int .i64 r, .int .i64 n] 74)
          have X1 := (Ext.refl w).alloc (.cells #[.int .i64 r, .int .i64 n] 74)
          have HV := Lib.hid (And.intro b1 X1)
          clear b1 X1
          go_enter Tryd.func72, Tryd.ntmps72
          go_upto_region 1 with (fail)
          generalize w.alloc (.cells #[.int .i64 r, .int .i64 n] 74) = V at *
          generalize w.heap.size = ob at *
          have c0 : V.cell? ⟨ob, 0, none⟩ = some (.int .i64 r) := block_cell (HV.out.1) 0
          have c1 : V.cell? ⟨ob, 1, none⟩ = some (.int .i64 n) := block_cell (HV.out.1) 1
          go_wp2_with fail
          go_returns
          exact ⟨rfl, HV.out.2⟩
      · obtain rfl : b = false := by rw [← hb.out]; exact decide_eq_false (by omega)
        have b1 := heap_alloc_new w (.cells #[.int .i64 r, .int .i64 n] 74)
        have X1 := (Ext.refl w).alloc (.cells #[.int .i64 r, .int .i64 n] 74)
        have HV := Lib.hid (And.intro b1 X1)
        clear b1 X1
        go_enter Tryd.func72, Tryd.ntmps72
        go_upto_region 1 with (fail)
        generalize w.alloc (.cells #[.int .i64 r, .int .i64 n] 74) = V at *
        generalize w.heap.size = ob at *
        have c0 : V.cell? ⟨ob, 0, none⟩ = some (.int .i64 r) := block_cell (HV.out.1) 0
        have c1 : V.cell? ⟨ob, 1, none⟩ = some (.int .i64 n) := block_cell (HV.out.1) 1
        go_wp2_with fail
        go_returns
        exact ⟨rfl, HV.out.2⟩
    · obtain rfl : b = false := by rw [← hb.out]; exact decide_eq_false (by omega)
      have b1 := heap_alloc_new w (.cells #[.int .i64 r, .int .i64 n] 74)
      have X1 := (Ext.refl w).alloc (.cells #[.int .i64 r, .int .i64 n] 74)
      have HV := Lib.hid (And.intro b1 X1)
      clear b1 X1
      go_enter Tryd.func72, Tryd.ntmps72
      go_upto_region 1 with (fail)
      generalize w.alloc (.cells #[.int .i64 r, .int .i64 n] 74) = V at *
      generalize w.heap.size = ob at *
      have c0 : V.cell? ⟨ob, 0, none⟩ = some (.int .i64 r) := block_cell (HV.out.1) 0
      have c1 : V.cell? ⟨ob, 1, none⟩ = some (.int .i64 n) := block_cell (HV.out.1) 1
      go_wp2_with fail
      go_returns
      exact ⟨rfl, HV.out.2⟩
  · obtain rfl : b = false := by rw [← hb.out]; exact decide_eq_false (by omega)
    have b1 := heap_alloc_new w (.cells #[.int .i64 r, .int .i64 n] 74)
    have X1 := (Ext.refl w).alloc (.cells #[.int .i64 r, .int .i64 n] 74)
    have HV := Lib.hid (And.intro b1 X1)
    clear b1 X1
    go_enter Tryd.func72, Tryd.ntmps72
    go_upto_region 1 with (fail)
    generalize w.alloc (.cells #[.int .i64 r, .int .i64 n] 74) = V at *
    generalize w.heap.size = ob at *
    have c0 : V.cell? ⟨ob, 0, none⟩ = some (.int .i64 r) := block_cell (HV.out.1) 0
    have c1 : V.cell? ⟨ob, 1, none⟩ = some (.int .i64 n) := block_cell (HV.out.1) 1
    go_wp2_with fail
    go_returns
    exact ⟨rfl, HV.out.2⟩
theorem st3 {W : World} {rb : Nat} {c0 c1 c2 : Value} {t : TypeId} (h : W.heap[rb]? = some (.cells #[c0, c1, c2] t (0, 0))) (v0 v1 v2 : Value) :
    (((W.setCell ⟨rb, 0, none⟩ v0).setCell ⟨rb, 1, none⟩ v1).setCell ⟨rb, 2, none⟩ v2).heap[rb]? = some (.cells #[v0, v1, v2] t (0, 0)) ∧ Fr W (((W.setCell ⟨rb, 0, none⟩ v0).setCell ⟨rb, 1, none⟩ v1).setCell ⟨rb, 2, none⟩ v2) (· = rb) := by
  have h0 : (W.setCell ⟨rb, 0, none⟩ v0).heap[rb]? = some (.cells #[v0, c1, c2] t (0, 0)) := heap_setCell_same W rb 0 _ _ v0 h
  have f0 : Fr W (W.setCell ⟨rb, 0, none⟩ v0) (· = rb) := Fr.store W ⟨rb, 0, none⟩ v0
  have h1 : ((W.setCell ⟨rb, 0, none⟩ v0).setCell ⟨rb, 1, none⟩ v1).heap[rb]? = some (.cells #[v0, v1, c2] t (0, 0)) := heap_setCell_same (W.setCell ⟨rb, 0, none⟩ v0) rb 1 _ _ v1 h0
  have f1 : Fr W ((W.setCell ⟨rb, 0, none⟩ v0).setCell ⟨rb, 1, none⟩ v1) (· = rb) := (f0).trans (Fr.store (W.setCell ⟨rb, 0, none⟩ v0) ⟨rb, 1, none⟩ v1) (fun _ _ h => h)
  have h2 : (((W.setCell ⟨rb, 0, none⟩ v0).setCell ⟨rb, 1, none⟩ v1).setCell ⟨rb, 2, none⟩ v2).heap[rb]? = some (.cells #[v0, v1, v2] t (0, 0)) := heap_setCell_same ((W.setCell ⟨rb, 0, none⟩ v0).setCell ⟨rb, 1, none⟩ v1) rb 2 _ _ v2 h1
  have f2 : Fr W (((W.setCell ⟨rb, 0, none⟩ v0).setCell ⟨rb, 1, none⟩ v1).setCell ⟨rb, 2, none⟩ v2) (· = rb) := (f1).trans (Fr.store ((W.setCell ⟨rb, 0, none⟩ v0).setCell ⟨rb, 1, none⟩ v1) ⟨rb, 2, none⟩ v2) (fun _ _ h => h)
  exact ⟨h2, f2⟩
set_option maxHeartbeats 1600000 in
theorem kind1 (k : Int) (w : World) (hk : k = 1) : Calls Tryd.prog 66 #[.int .i64 k] w fun x w' => x = .returned (.tuple #[.agg #[.bool false, .bool false, .bool false], .bool true]) ∧ Ext w w' := by
  have b1 := heap_alloc_new w (.cells #[.bool false, .bool false, .bool false] 122)
  have X1 := (Ext.refl w).alloc (.cells #[.bool false, .bool false, .bool false] 122)
  have HV := Lib.hid (And.intro b1 (And.intro X1 (Nat.le_refl w.heap.size)))
  clear b1 X1
  subst hk
  go_enter Tryd.func66, Tryd.ntmps66
  go_upto_region 1 with (fail)
  generalize w.alloc (.cells #[.bool false, .bool false, .bool false] 122) = V at *
  obtain ⟨ob, hob⟩ : ∃ ob, w.heap.size = ob := ⟨_, rfl⟩
  rw [hob] at HV
  simp only [hob]
  have HOB := Lib.hid hob
  clear hob
  have r0 : V.cell? ⟨ob, 0, none⟩ = some (.bool false) := block_cell (HV.out.1) 0
  have r1 : V.cell? ⟨ob, 1, none⟩ = some (.bool false) := block_cell (HV.out.1) 1
  have r2 : V.cell? ⟨ob, 2, none⟩ = some (.bool false) := block_cell (HV.out.1) 2
  have q0 : V.frozen? ⟨ob, 0, none⟩ = false := block_fz (HV.out.1) 0
  have q1 : V.frozen? ⟨ob, 1, none⟩ = false := block_fz (HV.out.1) 1
  have q2 : V.frozen? ⟨ob, 2, none⟩ = false := block_fz (HV.out.1) 2
  go_wp2_with fail
  have hz := st3 HV.out.1 (.bool false) (.bool false) (.bool false)
  have HZ := Lib.hid (And.intro hz.1 (Fr.ext HV.out.2.1 hz.2 (fun i e => by have e : i = ob := e; have := HOB.out; omega)))
  clear hz r0 r1 r2 q0 q1 q2
  generalize ((V.setCell ⟨ob, 0, none⟩ (.bool false)).setCell ⟨ob, 1, none⟩ (.bool false)).setCell ⟨ob, 2, none⟩ (.bool false) = Z at *
  have z0 : Z.cell? ⟨ob, 0, none⟩ = some (.bool false) := block_cell (HZ.out.1) 0
  have z1 : Z.cell? ⟨ob, 1, none⟩ = some (.bool false) := block_cell (HZ.out.1) 1
  have z2 : Z.cell? ⟨ob, 2, none⟩ = some (.bool false) := block_cell (HZ.out.1) 2
  refine bodyPost_ret (v := .tuple #[.agg #[.bool false, .bool false, .bool false], .bool true]) (by simp [results, Tryd.results66, go_sem, z0, z1, z2]) rfl ?_
  exact ⟨rfl, HZ.out.2⟩
set_option maxHeartbeats 1600000 in
theorem kind4 (k : Int) (w : World) (hk : k = 4) : Calls Tryd.prog 66 #[.int .i64 k] w fun x w' => x = .returned (.tuple #[.agg #[.bool false, .bool false, .bool false], .bool true]) ∧ Ext w w' := by
  have b1 := heap_alloc_new w (.cells #[.bool false, .bool false, .bool false] 122)
  have X1 := (Ext.refl w).alloc (.cells #[.bool false, .bool false, .bool false] 122)
  have HV := Lib.hid (And.intro b1 (And.intro X1 (Nat.le_refl w.heap.size)))
  clear b1 X1
  subst hk
  go_enter Tryd.func66, Tryd.ntmps66
  go_upto_region 1 with (fail)
  generalize w.alloc (.cells #[.bool false, .bool false, .bool false] 122) = V at *
  obtain ⟨ob, hob⟩ : ∃ ob, w.heap.size = ob := ⟨_, rfl⟩
  rw [hob] at HV
  simp only [hob]
  have HOB := Lib.hid hob
  clear hob
  have r0 : V.cell? ⟨ob, 0, none⟩ = some (.bool false) := block_cell (HV.out.1) 0
  have r1 : V.cell? ⟨ob, 1, none⟩ = some (.bool false) := block_cell (HV.out.1) 1
  have r2 : V.cell? ⟨ob, 2, none⟩ = some (.bool false) := block_cell (HV.out.1) 2
  have q0 : V.frozen? ⟨ob, 0, none⟩ = false := block_fz (HV.out.1) 0
  have q1 : V.frozen? ⟨ob, 1, none⟩ = false := block_fz (HV.out.1) 1
  have q2 : V.frozen? ⟨ob, 2, none⟩ = false := block_fz (HV.out.1) 2
  go_wp2_with fail
  have hz := st3 HV.out.1 (.bool false) (.bool false) (.bool false)
  have HZ := Lib.hid (And.intro hz.1 (Fr.ext HV.out.2.1 hz.2 (fun i e => by have e : i = ob := e; have := HOB.out; omega)))
  clear hz r0 r1 r2 q0 q1 q2
  generalize ((V.setCell ⟨ob, 0, none⟩ (.bool false)).setCell ⟨ob, 1, none⟩ (.bool false)).setCell ⟨ob, 2, none⟩ (.bool false) = Z at *
  have z0 : Z.cell? ⟨ob, 0, none⟩ = some (.bool false) := block_cell (HZ.out.1) 0
  have z1 : Z.cell? ⟨ob, 1, none⟩ = some (.bool false) := block_cell (HZ.out.1) 1
  have z2 : Z.cell? ⟨ob, 2, none⟩ = some (.bool false) := block_cell (HZ.out.1) 2
  refine bodyPost_ret (v := .tuple #[.agg #[.bool false, .bool false, .bool false], .bool true]) (by simp [results, Tryd.results66, go_sem, z0, z1, z2]) rfl ?_
  exact ⟨rfl, HZ.out.2⟩
set_option maxHeartbeats 1600000 in
theorem kind2 (k : Int) (w : World) (hk : k = 2) : Calls Tryd.prog 66 #[.int .i64 k] w fun x w' => x = .returned (.tuple #[.agg #[.bool true, .bool false, .bool true], .bool true]) ∧ Ext w w' := by
  have b1 := heap_alloc_new w (.cells #[.bool false, .bool false, .bool false] 122)
  have X1 := (Ext.refl w).alloc (.cells #[.bool false, .bool false, .bool false] 122)
  have HV := Lib.hid (And.intro b1 (And.intro X1 (Nat.le_refl w.heap.size)))
  clear b1 X1
  subst hk
  go_enter Tryd.func66, Tryd.ntmps66
  go_upto_region 1 with (fail)
  generalize w.alloc (.cells #[.bool false, .bool false, .bool false] 122) = V at *
  obtain ⟨ob, hob⟩ : ∃ ob, w.heap.size = ob := ⟨_, rfl⟩
  rw [hob] at HV
  simp only [hob]
  have HOB := Lib.hid hob
  clear hob
  have r0 : V.cell? ⟨ob, 0, none⟩ = some (.bool false) := block_cell (HV.out.1) 0
  have r1 : V.cell? ⟨ob, 1, none⟩ = some (.bool false) := block_cell (HV.out.1) 1
  have r2 : V.cell? ⟨ob, 2, none⟩ = some (.bool false) := block_cell (HV.out.1) 2
  have q0 : V.frozen? ⟨ob, 0, none⟩ = false := block_fz (HV.out.1) 0
  have q1 : V.frozen? ⟨ob, 1, none⟩ = false := block_fz (HV.out.1) 1
  have q2 : V.frozen? ⟨ob, 2, none⟩ = false := block_fz (HV.out.1) 2
  go_wp2_with fail
  have hz := st3 HV.out.1 (.bool true) (.bool false) (.bool true)
  have HZ := Lib.hid (And.intro hz.1 (Fr.ext HV.out.2.1 hz.2 (fun i e => by have e : i = ob := e; have := HOB.out; omega)))
  clear hz r0 r1 r2 q0 q1 q2
  generalize ((V.setCell ⟨ob, 0, none⟩ (.bool true)).setCell ⟨ob, 1, none⟩ (.bool false)).setCell ⟨ob, 2, none⟩ (.bool true) = Z at *
  have z0 : Z.cell? ⟨ob, 0, none⟩ = some (.bool true) := block_cell (HZ.out.1) 0
  have z1 : Z.cell? ⟨ob, 1, none⟩ = some (.bool false) := block_cell (HZ.out.1) 1
  have z2 : Z.cell? ⟨ob, 2, none⟩ = some (.bool true) := block_cell (HZ.out.1) 2
  refine bodyPost_ret (v := .tuple #[.agg #[.bool true, .bool false, .bool true], .bool true]) (by simp [results, Tryd.results66, go_sem, z0, z1, z2]) rfl ?_
  exact ⟨rfl, HZ.out.2⟩
set_option maxHeartbeats 1600000 in
theorem kind3 (k : Int) (w : World) (hk : k = 3) : Calls Tryd.prog 66 #[.int .i64 k] w fun x w' => x = .returned (.tuple #[.agg #[.bool false, .bool false, .bool true], .bool true]) ∧ Ext w w' := by
  have b1 := heap_alloc_new w (.cells #[.bool false, .bool false, .bool false] 122)
  have X1 := (Ext.refl w).alloc (.cells #[.bool false, .bool false, .bool false] 122)
  have HV := Lib.hid (And.intro b1 (And.intro X1 (Nat.le_refl w.heap.size)))
  clear b1 X1
  subst hk
  go_enter Tryd.func66, Tryd.ntmps66
  go_upto_region 1 with (fail)
  generalize w.alloc (.cells #[.bool false, .bool false, .bool false] 122) = V at *
  obtain ⟨ob, hob⟩ : ∃ ob, w.heap.size = ob := ⟨_, rfl⟩
  rw [hob] at HV
  simp only [hob]
  have HOB := Lib.hid hob
  clear hob
  have r0 : V.cell? ⟨ob, 0, none⟩ = some (.bool false) := block_cell (HV.out.1) 0
  have r1 : V.cell? ⟨ob, 1, none⟩ = some (.bool false) := block_cell (HV.out.1) 1
  have r2 : V.cell? ⟨ob, 2, none⟩ = some (.bool false) := block_cell (HV.out.1) 2
  have q0 : V.frozen? ⟨ob, 0, none⟩ = false := block_fz (HV.out.1) 0
  have q1 : V.frozen? ⟨ob, 1, none⟩ = false := block_fz (HV.out.1) 1
  have q2 : V.frozen? ⟨ob, 2, none⟩ = false := block_fz (HV.out.1) 2
  go_wp2_with fail
  have hz := st3 HV.out.1 (.bool false) (.bool false) (.bool true)
  have HZ := Lib.hid (And.intro hz.1 (Fr.ext HV.out.2.1 hz.2 (fun i e => by have e : i = ob := e; have := HOB.out; omega)))
  clear hz r0 r1 r2 q0 q1 q2
  generalize ((V.setCell ⟨ob, 0, none⟩ (.bool false)).setCell ⟨ob, 1, none⟩ (.bool false)).setCell ⟨ob, 2, none⟩ (.bool true) = Z at *
  have z0 : Z.cell? ⟨ob, 0, none⟩ = some (.bool false) := block_cell (HZ.out.1) 0
  have z1 : Z.cell? ⟨ob, 1, none⟩ = some (.bool false) := block_cell (HZ.out.1) 1
  have z2 : Z.cell? ⟨ob, 2, none⟩ = some (.bool true) := block_cell (HZ.out.1) 2
  refine bodyPost_ret (v := .tuple #[.agg #[.bool false, .bool false, .bool true], .bool true]) (by simp [results, Tryd.results66, go_sem, z0, z1, z2]) rfl ?_
  exact ⟨rfl, HZ.out.2⟩
set_option maxHeartbeats 1600000 in
theorem kind5 (k : Int) (w : World) (hk : k = 5) : Calls Tryd.prog 66 #[.int .i64 k] w fun x w' => x = .returned (.tuple #[.agg #[.bool true, .bool true, .bool false], .bool true]) ∧ Ext w w' := by
  have b1 := heap_alloc_new w (.cells #[.bool false, .bool false, .bool false] 122)
  have X1 := (Ext.refl w).alloc (.cells #[.bool false, .bool false, .bool false] 122)
  have HV := Lib.hid (And.intro b1 (And.intro X1 (Nat.le_refl w.heap.size)))
  clear b1 X1
  subst hk
  go_enter Tryd.func66, Tryd.ntmps66
  go_upto_region 1 with (fail)
  generalize w.alloc (.cells #[.bool false, .bool false, .bool false] 122) = V at *
  obtain ⟨ob, hob⟩ : ∃ ob, w.heap.size = ob := ⟨_, rfl⟩
  rw [hob] at HV
  simp only [hob]
  have HOB := Lib.hid hob
  clear hob
  have r0 : V.cell? ⟨ob, 0, none⟩ = some (.bool false) := block_cell (HV.out.1) 0
  have r1 : V.cell? ⟨ob, 1, none⟩ = some (.bool false) := block_cell (HV.out.1) 1
  have r2 : V.cell? ⟨ob, 2, none⟩ = some (.bool false) := block_cell (HV.out.1) 2
  have q0 : V.frozen? ⟨ob, 0, none⟩ = false := block_fz (HV.out.1) 0
  have q1 : V.frozen? ⟨ob, 1, none⟩ = false := block_fz (HV.out.1) 1
  have q2 : V.frozen? ⟨ob, 2, none⟩ = false := block_fz (HV.out.1) 2
  go_wp2_with fail
  have hz := st3 HV.out.1 (.bool true) (.bool true) (.bool false)
  have HZ := Lib.hid (And.intro hz.1 (Fr.ext HV.out.2.1 hz.2 (fun i e => by have e : i = ob := e; have := HOB.out; omega)))
  clear hz r0 r1 r2 q0 q1 q2
  generalize ((V.setCell ⟨ob, 0, none⟩ (.bool true)).setCell ⟨ob, 1, none⟩ (.bool true)).setCell ⟨ob, 2, none⟩ (.bool false) = Z at *
  have z0 : Z.cell? ⟨ob, 0, none⟩ = some (.bool true) := block_cell (HZ.out.1) 0
  have z1 : Z.cell? ⟨ob, 1, none⟩ = some (.bool true) := block_cell (HZ.out.1) 1
  have z2 : Z.cell? ⟨ob, 2, none⟩ = some (.bool false) := block_cell (HZ.out.1) 2
  refine bodyPost_ret (v := .tuple #[.agg #[.bool true, .bool true, .bool false], .bool true]) (by simp [results, Tryd.results66, go_sem, z0, z1, z2]) rfl ?_
  exact ⟨rfl, HZ.out.2⟩
set_option maxHeartbeats 1600000 in
theorem kindN (k : Int) (w : World) (hk : ¬ k = 1 ∧ ¬ k = 4 ∧ ¬ k = 2 ∧ ¬ k = 3 ∧ ¬ k = 5) : Calls Tryd.prog 66 #[.int .i64 k] w fun x w' => x = .returned (.tuple #[.agg #[.bool false, .bool false, .bool false], .bool false]) ∧ Ext w w' := by
  have b1 := heap_alloc_new w (.cells #[.bool false, .bool false, .bool false] 122)
  have X1 := (Ext.refl w).alloc (.cells #[.bool false, .bool false, .bool false] 122)
  have HV := Lib.hid (And.intro b1 (And.intro X1 (Nat.le_refl w.heap.size)))
  clear b1 X1
  obtain ⟨k1, k4, k2, k3, k5⟩ := hk
  go_enter Tryd.func66, Tryd.ntmps66
  go_upto_region 1 with (fail)
  generalize w.alloc (.cells #[.bool false, .bool false, .bool false] 122) = V at *
  obtain ⟨ob, hob⟩ : ∃ ob, w.heap.size = ob := ⟨_, rfl⟩
  rw [hob] at HV
  simp only [hob]
  have HOB := Lib.hid hob
  clear hob
  have r0 : V.cell? ⟨ob, 0, none⟩ = some (.bool false) := block_cell (HV.out.1) 0
  have r1 : V.cell? ⟨ob, 1, none⟩ = some (.bool false) := block_cell (HV.out.1) 1
  have r2 : V.cell? ⟨ob, 2, none⟩ = some (.bool false) := block_cell (HV.out.1) 2
  have q0 : V.frozen? ⟨ob, 0, none⟩ = false := block_fz (HV.out.1) 0
  have q1 : V.frozen? ⟨ob, 1, none⟩ = false := block_fz (HV.out.1) 1
  have q2 : V.frozen? ⟨ob, 2, none⟩ = false := block_fz (HV.out.1) 2
  go_wp2_with fail
  have hz := st3 HV.out.1 (.bool false) (.bool false) (.bool false)
  have HZ := Lib.hid (And.intro hz.1 (Fr.ext HV.out.2.1 hz.2 (fun i e => by have e : i = ob := e; have := HOB.out; omega)))
  clear hz r0 r1 r2 q0 q1 q2
  generalize ((V.setCell ⟨ob, 0, none⟩ (.bool false)).setCell ⟨ob, 1, none⟩ (.bool false)).setCell ⟨ob, 2, none⟩ (.bool false) = Z at *
  have z0 : Z.cell? ⟨ob, 0, none⟩ = some (.bool false) := block_cell (HZ.out.1) 0
  have z1 : Z.cell? ⟨ob, 1, none⟩ = some (.bool false) := block_cell (HZ.out.1) 1
  have z2 : Z.cell? ⟨ob, 2, none⟩ = some (.bool false) := block_cell (HZ.out.1) 2
  refine bodyPost_ret (v := .tuple #[.agg #[.bool false, .bool false, .bool false], .bool false]) (by simp [results, Tryd.results66, go_sem, z0, z1, z2]) rfl ?_
  exact ⟨rfl, HZ.out.2⟩
theorem kind_any (k : Int) (w : World) : Calls Tryd.prog 66 #[.int .i64 k] w fun x w' => x = .returned (.tuple #[.agg #[.bool (kindF k).1, .bool (kindF k).2.1, .bool (kindF k).2.2.1], .bool (kindF k).2.2.2]) ∧ Ext w w' := by
  by_cases h1 : k = 1
  · have h := kind1 k w h1; subst h1; exact h
  by_cases h4 : k = 4
  · have h := kind4 k w h4; subst h4; exact h
  by_cases h2 : k = 2
  · have h := kind2 k w h2; subst h2; exact h
  by_cases h3 : k = 3
  · have h := kind3 k w h3; subst h3; exact h
  by_cases h5 : k = 5
  · have h := kind5 k w h5; subst h5; exact h
  have h := kindN k w ⟨h1, h4, h2, h3, h5⟩
  have e : kindF k = (false, false, false, false) := by unfold kindF; rw [if_neg (by omega), if_neg h2, if_neg h3, if_neg h5]
  rw [e]
  exact h
set_option maxHeartbeats 3200000 in
theorem goodl_any (A : Option Addr) (n c : Nat) (ss : List EnS) (w : World) (hs : Led w A n ss) (hn : n ≤ 2000000000000) (b : Bool) (hb : Hid (goodLB (ents ss) = b)) {ps : Addr} (hS : Sen w 1 ps) : Calls Tryd.prog 70 #[.slice A n c] w fun x w' => x = .returned (.bool b) ∧ Ext w w' := by
  have hsl := hs.len
  have HS := Lib.hid (fun W (hx : Ext w W) => And.intro (hs.ext hx) (hS.ext hx))
  clear hs hS
  go_enter Tryd.func70, Tryd.ntmps70
  go_wp2_with fail
  go_loopw [4, 7] (fun _ v7 wr => ∃ k : Nat, v7 = .int .i64 (k : Int) ∧ k ≤ n ∧ Hid (Ext w wr ∧ ∀ e ∈ (ents ss).take k, e.form = true)) (fun _ v7 _ => n - (intOf v7).toNat)
  case atStart => exact ⟨0, rfl, by omega, Lib.hid ⟨Ext.refl _, by simp⟩⟩
  case round =>
    obtain ⟨k, rfl, hk, HI⟩ := hrel
    by_cases hlt : k < n
    · obtain ⟨x, hx⟩ : ∃ x, ss[k]? = some x := ⟨ss[k]'(by omega), List.getElem?_eq_getElem _⟩
      obtain ⟨k10, hk10⟩ : ∃ k10, k * 10 = k10 := ⟨_, rfl⟩
      obtain ⟨ad, rfl, y0, y1, y2, y3, y4, y5, y6, y7, y8, y9⟩ := (HS.out wr HI.out.1).1.entry hx hk10
      have k0 : (0 : Int) ≤ k := by omega
      have k1 : (k : Int) < n := by omega
      have hxm := List.mem_of_getElem? hx
      have XB := (Ext.refl wr).alloc (.cells #[.int .i64 x.e.cl, .int .i64 x.e.nu, .int .i64 x.e.kd, .int .i64 x.e.id, .int .i64 x.e.sk, .int .i64 x.e.sq, .int .i64 x.e.st, .int .i64 x.e.pol, .slice x.A x.n x.c, .int .i64 x.e.at_] 29)
      have HB := Lib.hid (And.intro (heap_alloc_new wr (.cells #[.int .i64 x.e.cl, .int .i64 x.e.nu, .int .i64 x.e.kd, .int .i64 x.e.id, .int .i64 x.e.sk, .int .i64 x.e.sq, .int .i64 x.e.st, .int .i64 x.e.pol, .slice x.A x.n x.c, .int .i64 x.e.at_] 29)) (And.intro (HI.out.1.trans XB) (And.intro hx hxm)))
      clear hx XB hxm
      go_upto_region 4 with (fail)
      clear y0 y1 y2 y3 y4 y5 y6 y7 y8 y9
      generalize wr.alloc (.cells #[.int .i64 x.e.cl, .int .i64 x.e.nu, .int .i64 x.e.kd, .int .i64 x.e.id, .int .i64 x.e.sk, .int .i64 x.e.sq, .int .i64 x.e.st, .int .i64 x.e.pol, .slice x.A x.n x.c, .int .i64 x.e.at_] 29) = W at *
      generalize wr.heap.size = tb at *
      have c0 : W.cell? ⟨tb, 0, none⟩ = some (.int .i64 x.e.cl) := block_cell (HB.out.1) 0
      have c1 : W.cell? ⟨tb, 1, none⟩ = some (.int .i64 x.e.nu) := block_cell (HB.out.1) 1
      have c2 : W.cell? ⟨tb, 2, none⟩ = some (.int .i64 x.e.kd) := block_cell (HB.out.1) 2
      have c3 : W.cell? ⟨tb, 3, none⟩ = some (.int .i64 x.e.id) := block_cell (HB.out.1) 3
      have c4 : W.cell? ⟨tb, 4, none⟩ = some (.int .i64 x.e.sk) := block_cell (HB.out.1) 4
      have c5 : W.cell? ⟨tb, 5, none⟩ = some (.int .i64 x.e.sq) := block_cell (HB.out.1) 5
      have c6 : W.cell? ⟨tb, 6, none⟩ = some (.int .i64 x.e.st) := block_cell (HB.out.1) 6
      have c7 : W.cell? ⟨tb, 7, none⟩ = some (.int .i64 x.e.pol) := block_cell (HB.out.1) 7
      have c8 : W.cell? ⟨tb, 8, none⟩ = some (.slice x.A x.n x.c) := block_cell (HB.out.1) 8
      have c9 : W.cell? ⟨tb, 9, none⟩ = some (.int .i64 x.e.at_) := block_cell (HB.out.1) 9
      have HL := Lib.hid ((HS.out W HB.out.2.1).1.all x HB.out.2.2.2)
      by_cases hf : x.e.form = true
      · have CC := Lib.hid (check_ok (c := x.c) HL.out.rd (Nat.le_trans HL.out.le (by decide)) hf)
        have HF := Lib.hid hf
        clear hf
        go_wp2_with (go_at_call 25; refine CC.out.mono ?_; rintro _ w2 ⟨rfl, x2⟩)
        go_roundw
        case rel => exact ⟨k + 1, by go_num, by omega, Lib.hid ⟨HB.out.2.1.trans x2, fun e he => by
          have h1 : (ents ss)[k]? = some x.e := by show (ss.map EnS.e)[k]? = _; rw [List.getElem?_map, HB.out.2.2.1]; rfl
          rw [List.take_add_one, h1] at he
          rcases List.mem_append.1 he with he | he
          · exact HI.out.2 e he
          · simp at he; rw [he]; exact HF.out⟩⟩
        case measure => simp [intOf]; omega
      · have hf0 : x.e.form = false := Bool.eq_false_iff.2 hf
        have CC := Lib.hid (check_no (c := x.c) HL.out.rd (Nat.le_trans HL.out.le (by decide)) hf0 (HS.out W HB.out.2.1).2)
        obtain rfl : b = false := by
          rw [← hb.out]
          unfold goodLB
          rw [Bool.and_eq_false_iff]
          exact .inr (Bool.eq_false_iff.2 fun h => hf (List.all_eq_true.1 h x.e (List.mem_map.2 ⟨x, HB.out.2.2.2, rfl⟩)))
        clear hf hf0
        go_wp2_with (go_at_call 25; refine CC.out.mono ?_; rintro _ w2 ⟨rfl, x2⟩)
        go_returns
        exact ⟨rfl, HB.out.2.1.trans x2⟩
    · obtain rfl : n = k := by omega
      have ha : (ents ss).all En.form = true := List.all_eq_true.2 fun e he => HI.out.2 e (by rw [List.take_of_length_le (by rw [ents_len]; omega)]; exact he)
      have hb2 : Hid (decide (n ≤ 64) = b) := Lib.hid (by rw [← hb.out]; unfold goodLB; rw [ha, ents_len, hsl, Bool.and_true])
      clear ha
      by_cases h64 : n ≤ 64
      · obtain rfl : b = true := by rw [← hb2.out]; exact decide_eq_true h64
        have h65 : (n : Int) ≤ 64 := by omega
        go_wp2_with fail
        go_returns
        exact ⟨rfl, HI.out.1⟩
      · obtain rfl : b = false := by rw [← hb2.out]; exact decide_eq_false h64
        have h65 : ¬ (n : Int) ≤ 64 := by omega
        go_wp2_with fail
        go_returns
        exact ⟨rfl, HI.out.1⟩
end Go.Proofs.YteflnnlihblpgaaDoor
