/-
  The document's SameOrder, Same, SameLedger, Begins; slices.Equal of tasks; walked.
-/
import Derived.Test.YteflnnlihblpgaaDoorOrRows
namespace Go.Proofs.YteflnnlihblpgaaDoor
set_option maxRecDepth 100000
open Go.RowKit
set_option linter.unusedVariables false
theorem neq_server (a b c x y z : Int) (w : World) : (binOp .neq 24 (.agg #[.int .i64 a, .int .i64 b, .int .i64 c]) (.agg #[.int .i64 x, .int .i64 y, .int .i64 z])).run Tryd.prog w = .ok (.bool (!decide (a = x ∧ b = y ∧ c = z))) w := by
  by_cases h1 : a = x
  · by_cases h2 : b = y
    · by_cases h3 : c = z
      · subst h1 h2 h3; go_simp
      · subst h1 h2; go_simp
    · subst h1; go_simp
  · go_simp
theorem eql_server2 (a b c x y z : Int) (w : World) : (binOp .eql 24 (.agg #[.int .i64 a, .int .i64 b, .int .i64 c]) (.agg #[.int .i64 x, .int .i64 y, .int .i64 z])).run Tryd.prog w = .ok (.bool (decide (a = x ∧ b = y ∧ c = z))) w := by
  by_cases h1 : a = x
  · by_cases h2 : b = y
    · by_cases h3 : c = z
      · subst h1 h2 h3; go_simp
      · subst h1 h2; go_simp
    · subst h1; go_simp
  · go_simp
theorem tk_eq (t u : Tk) : t = u ↔ t.C = u.C ∧ t.P = u.P ∧ t.D = u.D ∧ t.S = u.S := by
  cases t; cases u; simp
theorem neq_task (t u : Tk) (w : World) : (binOp .neq 47 (.agg #[.int .i64 t.C, .int .i64 t.P, .int .i64 t.D, .int .i64 t.S]) (.agg #[.int .i64 u.C, .int .i64 u.P, .int .i64 u.D, .int .i64 u.S])).run Tryd.prog w = .ok (.bool (!decide (t = u))) w := by
  obtain ⟨a, b, c, d⟩ := t
  obtain ⟨x, y, z, v⟩ := u
  by_cases h1 : a = x
  · by_cases h2 : b = y
    · by_cases h3 : c = z
      · by_cases h4 : d = v
        · subst h1 h2 h3 h4; go_simp
        · subst h1 h2 h3; go_simp
      · subst h1 h2; go_simp
    · subst h1; go_simp
  · go_simp
/-- An order as a value. -/
def EnS.ovals (s : EnS) : List Value := [.int .i64 s.e.kd, .int .i64 s.e.id, .int .i64 s.e.sk, .int .i64 s.e.sq, .int .i64 s.e.st, .int .i64 s.e.pol, .slice s.A s.n s.c, .int .i64 s.e.at_]
/-- The order of an entry alone. -/
def En.o (e : En) : En := { e with cl := 0, nu := 0 }
theorem o_eq (a b : En) : a.o = b.o ↔ a.kd = b.kd ∧ a.id = b.id ∧ a.sk = b.sk ∧ a.sq = b.sq ∧ a.st = b.st ∧ a.pol = b.pol ∧ a.at_ = b.at_ ∧ a.ts = b.ts := by
  cases a; cases b
  simp only [En.o, En.mk.injEq, true_and]
theorem en_eq (a b : En) : a = b ↔ a.cl = b.cl ∧ a.nu = b.nu ∧ a.o = b.o := by
  rw [o_eq]
  cases a; cases b
  simp only [En.mk.injEq]
set_option maxHeartbeats 3200000 in
theorem sameorder_any (s t : EnS) (w : World) (hs : s.Lies w) (ht : t.Lies w) (b : Bool) (hb : Hid (decide (s.e.o = t.e.o) = b)) : Calls Tryd.prog 51 #[.agg #[.int .i64 s.e.kd, .int .i64 s.e.id, .int .i64 s.e.sk, .int .i64 s.e.sq, .int .i64 s.e.st, .int .i64 s.e.pol, .slice s.A s.n s.c, .int .i64 s.e.at_], .agg #[.int .i64 t.e.kd, .int .i64 t.e.id, .int .i64 t.e.sk, .int .i64 t.e.sq, .int .i64 t.e.st, .int .i64 t.e.pol, .slice t.A t.n t.c, .int .i64 t.e.at_]] w fun x w' => x = .returned (.bool b) ∧ Ext w w' := by
  have hsl := hs.len
  have htl := ht.len
  have hsn := hs.le
  have htn := ht.le
  have HR := Lib.hid (And.intro hs.rd ht.rd)
  have X1 := (Ext.refl w).alloc (.cells #[.int .i64 s.e.kd, .int .i64 s.e.id, .int .i64 s.e.sk, .int .i64 s.e.sq, .int .i64 s.e.st, .int .i64 s.e.pol, .slice s.A s.n s.c, .int .i64 s.e.at_] 27)
  have X2 := X1.alloc (.cells #[.int .i64 t.e.kd, .int .i64 t.e.id, .int .i64 t.e.sk, .int .i64 t.e.sq, .int .i64 t.e.st, .int .i64 t.e.pol, .slice t.A t.n t.c, .int .i64 t.e.at_] 27)
  have b1 := heap_alloc_new w (.cells #[.int .i64 s.e.kd, .int .i64 s.e.id, .int .i64 s.e.sk, .int .i64 s.e.sq, .int .i64 s.e.st, .int .i64 s.e.pol, .slice s.A s.n s.c, .int .i64 s.e.at_] 27)
  have b2 := heap_alloc_new (w.alloc (.cells #[.int .i64 s.e.kd, .int .i64 s.e.id, .int .i64 s.e.sk, .int .i64 s.e.sq, .int .i64 s.e.st, .int .i64 s.e.pol, .slice s.A s.n s.c, .int .i64 s.e.at_] 27)) (.cells #[.int .i64 t.e.kd, .int .i64 t.e.id, .int .i64 t.e.sk, .int .i64 t.e.sq, .int .i64 t.e.st, .int .i64 t.e.pol, .slice t.A t.n t.c, .int .i64 t.e.at_] 27)
  rw [World.size_alloc] at b2
  have b3 := (((Ext.refl (w.alloc (.cells #[.int .i64 s.e.kd, .int .i64 s.e.id, .int .i64 s.e.sk, .int .i64 s.e.sq, .int .i64 s.e.st, .int .i64 s.e.pol, .slice s.A s.n s.c, .int .i64 s.e.at_] 27))).alloc (.cells #[.int .i64 t.e.kd, .int .i64 t.e.id, .int .i64 t.e.sk, .int .i64 t.e.sq, .int .i64 t.e.st, .int .i64 t.e.pol, .slice t.A t.n t.c, .int .i64 t.e.at_] 27)).block _ (block_lt b1)).trans b1
  have HV := Lib.hid (And.intro b3 (And.intro b2 X2))
  clear X1 X2 b1 b2 b3
  clear hs ht
  go_enter Tryd.func51, Tryd.ntmps51
  go_upto_region 1 with (fail)
  generalize (w.alloc (.cells #[.int .i64 s.e.kd, .int .i64 s.e.id, .int .i64 s.e.sk, .int .i64 s.e.sq, .int .i64 s.e.st, .int .i64 s.e.pol, .slice s.A s.n s.c, .int .i64 s.e.at_] 27)).alloc (.cells #[.int .i64 t.e.kd, .int .i64 t.e.id, .int .i64 t.e.sk, .int .i64 t.e.sq, .int .i64 t.e.st, .int .i64 t.e.pol, .slice t.A t.n t.c, .int .i64 t.e.at_] 27) = V at *
  generalize w.heap.size = ob at *
  have c0 : V.cell? ⟨ob, 0, none⟩ = some (.int .i64 s.e.kd) := block_cell HV.out.1 0
  have c1 : V.cell? ⟨ob, 1, none⟩ = some (.int .i64 s.e.id) := block_cell HV.out.1 1
  have c2 : V.cell? ⟨ob, 2, none⟩ = some (.int .i64 s.e.sk) := block_cell HV.out.1 2
  have c3 : V.cell? ⟨ob, 3, none⟩ = some (.int .i64 s.e.sq) := block_cell HV.out.1 3
  have c4 : V.cell? ⟨ob, 4, none⟩ = some (.int .i64 s.e.st) := block_cell HV.out.1 4
  have c5 : V.cell? ⟨ob, 5, none⟩ = some (.int .i64 s.e.pol) := block_cell HV.out.1 5
  have c6 : V.cell? ⟨ob, 6, none⟩ = some (.slice s.A s.n s.c) := block_cell HV.out.1 6
  have c7 : V.cell? ⟨ob, 7, none⟩ = some (.int .i64 s.e.at_) := block_cell HV.out.1 7
  have d0 : V.cell? ⟨ob + 1, 0, none⟩ = some (.int .i64 t.e.kd) := block_cell HV.out.2.1 0
  have d1 : V.cell? ⟨ob + 1, 1, none⟩ = some (.int .i64 t.e.id) := block_cell HV.out.2.1 1
  have d2 : V.cell? ⟨ob + 1, 2, none⟩ = some (.int .i64 t.e.sk) := block_cell HV.out.2.1 2
  have d3 : V.cell? ⟨ob + 1, 3, none⟩ = some (.int .i64 t.e.sq) := block_cell HV.out.2.1 3
  have d4 : V.cell? ⟨ob + 1, 4, none⟩ = some (.int .i64 t.e.st) := block_cell HV.out.2.1 4
  have d5 : V.cell? ⟨ob + 1, 5, none⟩ = some (.int .i64 t.e.pol) := block_cell HV.out.2.1 5
  have d6 : V.cell? ⟨ob + 1, 6, none⟩ = some (.slice t.A t.n t.c) := block_cell HV.out.2.1 6
  have d7 : V.cell? ⟨ob + 1, 7, none⟩ = some (.int .i64 t.e.at_) := block_cell HV.out.2.1 7
  have r3 := fun W => neq_server s.e.sk s.e.sq s.e.st t.e.sk t.e.sq t.e.st W
  obtain ⟨sv, hsv⟩ : ∃ sv, decide (s.e.sk = t.e.sk ∧ s.e.sq = t.e.sq ∧ s.e.st = t.e.st) = sv := ⟨_, rfl⟩
  rw [hsv] at r3
  have HSV := Lib.hid hsv
  clear hsv
  by_cases hk : s.e.kd = t.e.kd
  rotate_left 1
  · have nk : (s.e.kd != t.e.kd) = true := by simpa using hk
    obtain rfl : b = false := by rw [← hb.out]; exact decide_eq_false (fun h => hk ((o_eq _ _).1 h).1)
    clear hk
    go_wp2_with fail
    go_returns
    exact ⟨rfl, HV.out.2.2⟩
  have nk : (s.e.kd != t.e.kd) = false := by simpa using hk
  have Hk := Lib.hid hk
  clear hk
  by_cases hi : s.e.id = t.e.id
  rotate_left 1
  · have ni : (s.e.id != t.e.id) = true := by simpa using hi
    obtain rfl : b = false := by rw [← hb.out]; exact decide_eq_false (fun h => hi ((o_eq _ _).1 h).2.1)
    clear hi
    go_wp2_with fail
    go_returns
    exact ⟨rfl, HV.out.2.2⟩
  have ni : (s.e.id != t.e.id) = false := by simpa using hi
  have Hi := Lib.hid hi
  clear hi
  cases sv with
  | false =>
    obtain rfl : b = false := by rw [← hb.out]; exact decide_eq_false (fun h => of_decide_eq_false HSV.out ⟨((o_eq _ _).1 h).2.2.1, ((o_eq _ _).1 h).2.2.2.1, ((o_eq _ _).1 h).2.2.2.2.1⟩)
    go_wp2_with fail
    go_returns
    exact ⟨rfl, HV.out.2.2⟩
  | true =>
    by_cases hp : s.e.pol = t.e.pol
    rotate_left 1
    · have np : (s.e.pol != t.e.pol) = true := by simpa using hp
      obtain rfl : b = false := by rw [← hb.out]; exact decide_eq_false (fun h => hp ((o_eq _ _).1 h).2.2.2.2.2.1)
      clear hp
      go_wp2_with fail
      go_returns
      exact ⟨rfl, HV.out.2.2⟩
    have np : (s.e.pol != t.e.pol) = false := by simpa using hp
    have Hp := Lib.hid hp
    clear hp
    by_cases ha : s.e.at_ = t.e.at_
    rotate_left 1
    · have na : (s.e.at_ != t.e.at_) = true := by simpa using ha
      obtain rfl : b = false := by rw [← hb.out]; exact decide_eq_false (fun h => ha ((o_eq _ _).1 h).2.2.2.2.2.2.1)
      clear ha
      go_wp2_with fail
      go_returns
      exact ⟨rfl, HV.out.2.2⟩
    have na : (s.e.at_ != t.e.at_) = false := by simpa using ha
    have Ha := Lib.hid ha
    clear ha
    by_cases hn : s.n = t.n
    rotate_left 1
    · have nn : ((s.n : Int) != (t.n : Int)) = true := by simp; omega
      obtain rfl : b = false := by rw [← hb.out]; exact decide_eq_false (fun h => hn (by have := congrArg List.length ((o_eq _ _).1 h).2.2.2.2.2.2.2; omega))
      clear hn
      go_wp2_with fail
      go_returns
      exact ⟨rfl, HV.out.2.2⟩
    have nn : ((s.n : Int) != (t.n : Int)) = false := by simp; omega
    have HN := Lib.hid hn
    have hbt : Hid (decide (s.e.ts = t.e.ts) = b) := Lib.hid (by
      rw [← hb.out]
      have e := of_decide_eq_true HSV.out
      exact decide_eq_decide.2 ⟨fun h => (o_eq _ _).2 ⟨Hk.out, Hi.out, e.1, e.2.1, e.2.2, Hp.out, Ha.out, h⟩, fun h => ((o_eq _ _).1 h).2.2.2.2.2.2.2⟩)
    have hst : s.n ≤ t.n ∧ t.n ≤ s.n := by omega
    clear hn
    go_upto_region 4 with (fail)
    clear r3 nk ni np na nn c0 d0 c1 d1 c2 d2 c3 d3 c4 d4 c5 d5 c6 d6 c7 d7
    go_loopw [51] (fun v51 wr => ∃ k : Nat, v51 = .int .i64 (k : Int) ∧ k ≤ s.n ∧ Hid (Ext V wr ∧ ∀ j, j < k → s.e.ts[j]? = t.e.ts[j]?)) (fun v51 _ => s.n - (intOf v51).toNat)
    case atStart => exact ⟨0, rfl, by omega, Ext.refl V, fun j hj => by omega⟩
    case round =>
      obtain ⟨k, rfl, hk, HI⟩ := hrel
      by_cases hlt : k < s.n
      · obtain ⟨x, hx⟩ : ∃ x, s.e.ts[k]? = some x := ⟨s.e.ts[k]'(by omega), List.getElem?_eq_getElem _⟩
        obtain ⟨y, hy⟩ : ∃ y, t.e.ts[k]? = some y := ⟨t.e.ts[k]'(by omega), List.getElem?_eq_getElem _⟩
        obtain ⟨k4, hk4⟩ : ∃ k4, k * 4 = k4 := ⟨_, rfl⟩
        have X0 := HV.out.2.2.trans HI.out.1
        obtain ⟨ad, hA, y0, y1, y2, y3⟩ := (HR.out.1.ext X0).task hx hk4
        obtain ⟨ae, hB, z0, z1, z2, z3⟩ := (HR.out.2.ext X0).task hy hk4
        have c6 : wr.cell? ⟨ob, 6, none⟩ = some (.slice (some ad) s.n s.c) := by rw [← hA]; exact (block_cell ((HI.out.1.block ob (block_lt HV.out.1)).trans HV.out.1) 6)
        have d6 : wr.cell? ⟨ob + 1, 6, none⟩ = some (.slice (some ae) t.n t.c) := by rw [← hB]; exact (block_cell ((HI.out.1.block _ (block_lt HV.out.2.1)).trans HV.out.2.1) 6)
        have k0 : (0 : Int) ≤ k := by omega
        have k1 : (k : Int) < s.n := by omega
        have k2 : (k : Int) < t.n := by omega
        have rt := fun W => neq_task x y W
        have HX := Lib.hid (And.intro hx (And.intro hy (And.intro hA hB)))
        clear hx hy hA hB X0
        by_cases he : x = y
        · have e1 : decide (x = y) = true := decide_eq_true he
          rw [e1] at rt
          have HE := Lib.hid he
          clear he e1
          go_upto_region 6 with (fail)
          go_quiet (fail)
          go_wp2_with fail
          go_roundw
          case rel => exact ⟨k + 1, by go_num, by omega, HI.out.1.drewN _, fun j hj => by
            by_cases e : j = k
            · rw [e, HX.out.1, HX.out.2.1, HE.out]
            · exact HI.out.2 j (by omega)⟩
          case measure => simp [intOf]; omega
        · have e1 : decide (x = y) = false := decide_eq_false he
          rw [e1] at rt
          obtain rfl : b = false := by
            rw [← hbt.out]
            exact decide_eq_false (fun h => he (by have := HX.out.1; rw [h, HX.out.2.1] at this; injection this with this; exact this.symm))
          clear he e1
          go_upto_region 6 with (fail)
          go_quiet (fail)
          go_wp2_with fail
          go_returns
          exact ⟨rfl, (HV.out.2.2.trans HI.out.1).drewN _⟩
      · have e : b = true := by
          rw [← hbt.out]
          exact decide_eq_true (List.ext_getElem? fun j => by
            rcases Nat.lt_or_ge j k with h | h
            · exact HI.out.2 j h
            · rw [List.getElem?_eq_none (by omega), List.getElem?_eq_none (by omega)])
        subst e
        go_wp2_with fail
        go_returns
        exact ⟨rfl, HV.out.2.2.trans HI.out.1⟩
end Go.Proofs.YteflnnlihblpgaaDoor
