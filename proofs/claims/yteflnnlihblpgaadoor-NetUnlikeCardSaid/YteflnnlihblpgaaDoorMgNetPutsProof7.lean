/-
  A region that draws its order and whose operations keep a fact S of the world: each operation whose value is settled in every world that meets S (a load, a computation, a call that makes memory) is taken in the text's order. T: operations at the end, that need not keep S.
-/
import Derived.Test.YteflnnlihblpgaaDoorMgNetPutsProof6
namespace Go.Proofs.YteflnnlihblpgaaDoor
set_option maxRecDepth 100000
open Go.RowKit
set_option linter.unusedVariables false
theorem neq_server (a b c x y z : Int) (w : World) : (binOp .neq 24 (.agg #[.int .i64 a, .int .i64 b, .int .i64 c]) (.agg #[.int .i64 x, .int .i64 y, .int .i64 z])).run Tryd.prog w = .ok (.bool (!decide (a = x ∧ b = y ∧ c = z))) w := by
  by_cases h1 : a = x
  · by_cases h2 : b = y
    · by_cases h3 : c = z
      · subst h1 h2 h3; go_simp
      · subst h1 h2; go_simp
    · subst h1; go_simp
  · go_simp
theorem eql_server2 (a b c x y z : Int) (w : World) : (binOp .eql 24 (.agg #[.int .i64 a, .int .i64 b, .int .i64 c]) (.agg #[.int .i64 x, .int .i64 y, .int .i64 z])).run Tryd.prog w = .ok (.bool (decide (a = x ∧ b = y ∧ c = z))) w := by
  by_cases h1 : a = x
  · by_cases h2 : b = y
    · by_cases h3 : c = z
      · subst h1 h2 h3; go_simp
      · subst h1 h2; go_simp
    · subst h1; go_simp
  · go_simp
theorem tk_eq (t u : Tk) : t = u ↔ t.C = u.C ∧ t.P = u.P ∧ t.D = u.D ∧ t.S = u.S := by
  cases t; cases u; simp
theorem neq_task (t u : Tk) (w : World) : (binOp .neq 47 (.agg #[.int .i64 t.C, .int .i64 t.P, .int .i64 t.D, .int .i64 t.S]) (.agg #[.int .i64 u.C, .int .i64 u.P, .int .i64 u.D, .int .i64 u.S])).run Tryd.prog w = .ok (.bool (!decide (t = u))) w := by
  obtain ⟨a, b, c, d⟩ := t
  obtain ⟨x, y, z, v⟩ := u
  by_cases h1 : a = x
  · by_cases h2 : b = y
    · by_cases h3 : c = z
      · by_cases h4 : d = v
        · subst h1 h2 h3 h4; go_simp
        · subst h1 h2 h3; go_simp
      · subst h1 h2; go_simp
    · subst h1; go_simp
  · go_simp
/-- An order as a value. -/
def EnS.ovals (s : EnS) : List Value := [.int .i64 s.e.kd, .int .i64 s.e.id, .int .i64 s.e.sk, .int .i64 s.e.sq, .int .i64 s.e.st, .int .i64 s.e.pol, .slice s.A s.n s.c, .int .i64 s.e.at_]
/-- The order of an entry alone. -/
def En.o (e : En) : En := { e with cl := 0, nu := 0 }
theorem o_eq (a b : En) : a.o = b.o ↔ a.kd = b.kd ∧ a.id = b.id ∧ a.sk = b.sk ∧ a.sq = b.sq ∧ a.st = b.st ∧ a.pol = b.pol ∧ a.at_ = b.at_ ∧ a.ts = b.ts := by
  cases a; cases b
  simp only [En.o, En.mk.injEq, true_and]
theorem en_eq (a b : En) : a = b ↔ a.cl = b.cl ∧ a.nu = b.nu ∧ a.o = b.o := by
  rw [o_eq]
  cases a; cases b
  simp only [En.mk.injEq]
set_option maxHeartbeats 3200000 in
theorem sameorder_any (s t : EnS) (w : World) (hs : s.Lies w) (ht : t.Lies w) (b : Bool) (hb : Hid (decide (s.e.o = t.e.o) = b)) : Calls Tryd.prog 51 #[.agg #[.int .i64 s.e.kd, .int .i64 s.e.id, .int .i64 s.e.sk, .int .i64 s.e.sq, .int .i64 s.e.st, .int .i64 s.e.pol, .slice s.A s.n s.c, .int .i64 s.e.at_], .agg #[.int .i64 t.e.kd, .int .i64 t.e.id, .int .i64 t.e.sk, .int .i64 t.e.sq, .int .i64 t.e.st, .int .i64 t.e.pol, .slice t.A t.n t.c, .int .i64 t.e.at_]] w fun x w' => x = .returned (.bool b) ∧ Ext w w' := by
  have hsl := hs.len
  have htl := ht.len
  have hsn := hs.le
  have htn := ht.le
  have HR := Lib.hid (And.intro hs.rd ht.rd)
  have X1 := (Ext.refl w).alloc (.cells #[.int .i64 s.e.kd, .int .i64 s.e.id, .int .i64 s.e.sk, .int .i64 s.e.sq, .int .i64 s.e.st, .int .i64 s.e.pol, .slice s.A s.n s.c, .int .i64 s.e.at_] 27)
  have X2 := X1.alloc (.cells #[.int .i64 t.e.kd, .int .i64 t.e.id, .int .i64 t.e.sk, .int .i64 t.e.sq, .int .i64 t.e.st, .int .i64 t.e.pol, .slice t.A t.n t.c, .int .i64 t.e.at_] 27)
  have b1 := heap_alloc_new w (.cells #[.int .i64 s.e.kd, .int .i64 s.e.id, .int .i64 s.e.sk, .int .i64 s.e.sq, .int .i64 s.e.st, .int .i64 s.e.pol, .slice s.A s.n s.c, .int .i64 s.e.at_] 27)
  have b2 := heap_alloc_new (w.alloc (.cells #[.int .i64 s.e.kd, .int .i64 s.e.id, .int .i64 s.e.sk, .int .i64 s.e.sq, .int .i64 s.e.st, .int .i64 s.e.pol, .slice s.A s.n s.c, .int .i64 s.e.at_] 27)) (.cells #[.int .i64 t.e.kd, .int .i64 t.e.id, .int .i64 t.e.sk, .int .i64 t.e.sq, .int .i64 t.e.st, .int .i64 t.e.pol, .slice t.A t.n t.c, .int .i64 t.e.at_] 27)
  rw [World.size_alloc] at b2
  have b3 := (((Ext.refl (w.alloc (.cells #[.int .i64 s.e.kd, .int .i64 s.e.id, .int .i64 s.e.sk, .int .i64 s.e.sq, .int .i64 s.e.st, .int .i64 s.e.pol, .slice s.A s.n s.c, .int .i64 s.e.at_] 27))).alloc (.cells #[.int .i64 t.e.kd, .int .i64 t.e.id, .int .i64 t.e.sk, .int .i64 t.e.sq, .int .i64 t.e.st, .int .i64 t.e.pol, .slice t.A t.n t.c, .int .i64 t.e.at_] 27)).block _ (block_lt b1)).trans b1
  have HV := Lib.hid (And.intro b3 (And.intro b2 X2))
  clear X1 X2 b1 b2 b3
  clear hs ht
  go_enter Tryd.func51, Tryd.ntmps51
  go_upto_region 1 with (fail)
  generalize (w.alloc (.cells #[.int .i64 s.e.kd, .int .i64 s.e.id, .int .i64 s.e.sk, .int .i64 s.e.sq, .int .i64 s.e.st, .int .i64 s.e.pol, .slice s.A s.n s.c, .int .i64 s.e.at_] 27)).alloc (.cells #[.int .i64 t.e.kd, .int .i64 t.e.id, .int .i64 t.e.sk, .int .i64 t.e.sq, .int .i64 t.e.st, .int .i64 t.e.pol, .slice t.A t.n t.c, .int .i64 t.e.at_] 27) = V at *
  generalize w.heap.size = ob at *
  have c0 : V.cell? ⟨ob, 0, none⟩ = some (.int .i64 s.e.kd) := block_cell HV.out.1 0
  have c1 : V.cell? ⟨ob, 1, none⟩ = some (.int .i64 s.e.id) := block_cell HV.out.1 1
  have c2 : V.cell? ⟨ob, 2, none⟩ = some (.int .i64 s.e.sk) := block_cell HV.out.1 2
  have c3 : V.cell? ⟨ob, 3, none⟩ = some (.int .i64 s.e.sq) := block_cell HV.out.1 3
  have c4 : V.cell? ⟨ob, 4, none⟩ = some (.int .i64 s.e.st) := block_cell HV.out.1 4
  have c5 : V.cell? ⟨ob, 5, none⟩ = some (.int .i64 s.e.pol) := block_cell HV.out.1 5
  have c6 : V.cell? ⟨ob, 6, none⟩ = some (.slice s.A s.n s.c) := block_cell HV.out.1 6
  have c7 : V.cell? ⟨ob, 7, none⟩ = some (.int .i64 s.e.at_) := block_cell HV.out.1 7
  have d0 : V.cell? ⟨ob + 1, 0, none⟩ = some (.int .i64 t.e.kd) := block_cell HV.out.2.1 0
  have d1 : V.cell? ⟨ob + 1, 1, none⟩ = some (.int .i64 t.e.id) := block_cell HV.out.2.1 1
  have d2 : V.cell? ⟨ob + 1, 2, none⟩ = some (.int .i64 t.e.sk) := block_cell HV.out.2.1 2
  have d3 : V.cell? ⟨ob + 1, 3, none⟩ = some (.int .i64 t.e.sq) := block_cell HV.out.2.1 3
  have d4 : V.cell? ⟨ob + 1, 4, none⟩ = some (.int .i64 t.e.st) := block_cell HV.out.2.1 4
  have d5 : V.cell? ⟨ob + 1, 5, none⟩ = some (.int .i64 t.e.pol) := block_cell HV.out.2.1 5
  have d6 : V.cell? ⟨ob + 1, 6, none⟩ = some (.slice t.A t.n t.c) := block_cell HV.out.2.1 6
  have d7 : V.cell? ⟨ob + 1, 7, none⟩ = some (.int .i64 t.e.at_) := block_cell HV.out.2.1 7
  have r3 := fun W => neq_server s.e.sk s.e.sq s.e.st t.e.sk t.e.sq t.e.st W
  obtain ⟨sv, hsv⟩ : ∃ sv, decide (s.e.sk = t.e.sk ∧ s.e.sq = t.e.sq ∧ s.e.st = t.e.st) = sv := ⟨_, rfl⟩
  rw [hsv] at r3
  have HSV := Lib.hid hsv
  clear hsv
  by_cases hk : s.e.kd = t.e.kd
  rotate_left 1
  · have nk : (s.e.kd != t.e.kd) = true := by simpa using hk
    obtain rfl : b = false := by rw [← hb.out]; exact decide_eq_false (fun h => hk ((o_eq _ _).1 h).1)
    clear hk
    go_wp2_with fail
    go_returns
    exact ⟨rfl, HV.out.2.2⟩
  have nk : (s.e.kd != t.e.kd) = false := by simpa using hk
  have Hk := Lib.hid hk
  clear hk
  by_cases hi : s.e.id = t.e.id
  rotate_left 1
  · have ni : (s.e.id != t.e.id) = true := by simpa using hi
    obtain rfl : b = false := by rw [← hb.out]; exact decide_eq_false (fun h => hi ((o_eq _ _).1 h).2.1)
    clear hi
    go_wp2_with fail
    go_returns
    exact ⟨rfl, HV.out.2.2⟩
  have ni : (s.e.id != t.e.id) = false := by simpa using hi
  have Hi := Lib.hid hi
  clear hi
  cases sv with
  | false =>
    obtain rfl : b = false := by rw [← hb.out]; exact decide_eq_false (fun h => of_decide_eq_false HSV.out ⟨((o_eq _ _).1 h).2.2.1, ((o_eq _ _).1 h).2.2.2.1, ((o_eq _ _).1 h).2.2.2.2.1⟩)
    go_wp2_with fail
    go_returns
    exact ⟨rfl, HV.out.2.2⟩
  | true =>
    by_cases hp : s.e.pol = t.e.pol
    rotate_left 1
    · have np : (s.e.pol != t.e.pol) = true := by simpa using hp
      obtain rfl : b = false := by rw [← hb.out]; exact decide_eq_false (fun h => hp ((o_eq _ _).1 h).2.2.2.2.2.1)
      clear hp
      go_wp2_with fail
      go_returns
      exact ⟨rfl, HV.out.2.2⟩
    have np : (s.e.pol != t.e.pol) = false := by simpa using hp
    have Hp := Lib.hid hp
    clear hp
    by_cases ha : s.e.at_ = t.e.at_
    rotate_left 1
    · have na : (s.e.at_ != t.e.at_) = true := by simpa using ha
      obtain rfl : b = false := by rw [← hb.out]; exact decide_eq_false (fun h => ha ((o_eq _ _).1 h).2.2.2.2.2.2.1)
      clear ha
      go_wp2_with fail
      go_returns
      exact ⟨rfl, HV.out.2.2⟩
    have na : (s.e.at_ != t.e.at_) = false := by simpa using ha
    have Ha := Lib.hid ha
    clear ha
    by_cases hn : s.n = t.n
    rotate_left 1
    · have nn : ((s.n : Int) != (t.n : Int)) = true := by simp; omega
      obtain rfl : b = false := by rw [← hb.out]; exact decide_eq_false (fun h => hn (by have := congrArg List.length ((o_eq _ _).1 h).2.2.2.2.2.2.2; omega))
      clear hn
      go_wp2_with fail
      go_returns
      exact ⟨rfl, HV.out.2.2⟩
    have nn : ((s.n : Int) != (t.n : Int)) = false := by simp; omega
    have HN := Lib.hid hn
    have hbt : Hid (decide (s.e.ts = t.e.ts) = b) := Lib.hid (by
      rw [← hb.out]
      have e := of_decide_eq_true HSV.out
      exact decide_eq_decide.2 ⟨fun h => (o_eq _ _).2 ⟨Hk.out, Hi.out, e.1, e.2.1, e.2.2, Hp.out, Ha.out, h⟩, fun h => ((o_eq _ _).1 h).2.2.2.2.2.2.2⟩)
    have hst : s.n ≤ t.n ∧ t.n ≤ s.n := by omega
    clear hn
    go_upto_region 4 with (fail)
    clear r3 nk ni np na nn c0 d0 c1 d1 c2 d2 c3 d3 c4 d4 c5 d5 c6 d6 c7 d7
    go_loopw [51] (fun v51 wr => ∃ k : Nat, v51 = .int .i64 (k : Int) ∧ k ≤ s.n ∧ Hid (Ext V wr ∧ ∀ j, j < k → s.e.ts[j]? = t.e.ts[j]?)) (fun v51 _ => s.n - (intOf v51).toNat)
    case atStart => exact ⟨0, rfl, by omega, Ext.refl V, fun j hj => by omega⟩
    case round =>
      obtain ⟨k, rfl, hk, HI⟩ := hrel
      by_cases hlt : k < s.n
      · obtain ⟨x, hx⟩ : ∃ x, s.e.ts[k]? = some x := ⟨s.e.ts[k]'(by omega), List.getElem?_eq_getElem _⟩
        obtain ⟨y, hy⟩ : ∃ y, t.e.ts[k]? = some y := ⟨t.e.ts[k]'(by omega), List.getElem?_eq_getElem _⟩
        obtain ⟨k4, hk4⟩ : ∃ k4, k * 4 = k4 := ⟨_, rfl⟩
        have X0 := HV.out.2.2.trans HI.out.1
        obtain ⟨ad, hA, y0, y1, y2, y3⟩ := (HR.out.1.ext X0).task hx hk4
        obtain ⟨ae, hB, z0, z1, z2, z3⟩ := (HR.out.2.ext X0).task hy hk4
        have c6 : wr.cell? ⟨ob, 6, none⟩ = some (.slice (some ad) s.n s.c) := by rw [← hA]; exact (block_cell ((HI.out.1.block ob (block_lt HV.out.1)).trans HV.out.1) 6)
        have d6 : wr.cell? ⟨ob + 1, 6, none⟩ = some (.slice (some ae) t.n t.c) := by rw [← hB]; exact (block_cell ((HI.out.1.block _ (block_lt HV.out.2.1)).trans HV.out.2.1) 6)
        have k0 : (0 : Int) ≤ k := by omega
        have k1 : (k : Int) < s.n := by omega
        have k2 : (k : Int) < t.n := by omega
        have rt := fun W => neq_task x y W
        have HX := Lib.hid (And.intro hx (And.intro hy (And.intro hA hB)))
        clear hx hy hA hB X0
        by_cases he : x = y
        · have e1 : decide (x = y) = true := decide_eq_true he
          rw [e1] at rt
          have HE := Lib.hid he
          clear he e1
          go_upto_region 6 with (fail)
          go_quiet (fail)
          go_wp2_with fail
          go_roundw
          case rel => exact ⟨k + 1, by go_num, by omega, HI.out.1.drewN _, fun j hj => by
            by_cases e : j = k
            · rw [e, HX.out.1, HX.out.2.1, HE.out]
            · exact HI.out.2 j (by omega)⟩
          case measure => simp [intOf]; omega
        · have e1 : decide (x = y) = false := decide_eq_false he
          rw [e1] at rt
          obtain rfl : b = false := by
            rw [← hbt.out]
            exact decide_eq_false (fun h => he (by have := HX.out.1; rw [h, HX.out.2.1] at this; injection this with this; exact this.symm))
          clear he e1
          go_upto_region 6 with (fail)
          go_quiet (fail)
          go_wp2_with fail
          go_returns
          exact ⟨rfl, (HV.out.2.2.trans HI.out.1).drewN _⟩
      · have e : b = true := by
          rw [← hbt.out]
          exact decide_eq_true (List.ext_getElem? fun j => by
            rcases Nat.lt_or_ge j k with h | h
            · exact HI.out.2 j h
            · rw [List.getElem?_eq_none (by omega), List.getElem?_eq_none (by omega)])
        subst e
        go_wp2_with fail
        go_returns
        exact ⟨rfl, HV.out.2.2.trans HI.out.1⟩
end Go.Proofs.YteflnnlihblpgaaDoor
namespace Go.Proofs.YteflnnlihblpgaaDoor
set_option maxRecDepth 100000
open Go.RowKit
set_option linter.unusedVariables false
section
variable {P : Program} {ops : Array Oper} {Q : Exit → Act → World → Prop} {md : Region.Mode} {S : World → Prop} {T : List Nat}
/-- The worlds of which is spoken: all that meet S, as long as none of T has come up; then the one at hand. -/
def Meets (S : World → Prop) (T : List Nat) (listed : Array Bool) (w w1 : World) : Prop := (unlisted_ listed T = true → S w1) ∧ (unlisted_ listed T = false → w1 = w)
def AnyW (P : Program) (md : Region.Mode) (ops : Array Oper) (Q : Exit → Act → World → Prop) (S : World → Prop) (T : List Nat) : Nat → Array Bool → Act → World → Prop
  | 0, listed, a, w => Region.ready md ops listed = [] ∧ ∀ w1, Meets S T listed w w1 → Q .normal a w1
  | fuel + 1, listed, a, w => ∀ w1, Meets S T listed w w1 → (Region.ready md ops listed = [] → Q .normal a w1) ∧ ∀ j ∈ Region.ready md ops listed, wpOp P ops Q j (fun a' w' => (T.contains j = false → unlisted_ listed T = true → S w') ∧ AnyW P md ops Q S T fuel (listed.setIfInBounds j true) a' w') a w1
theorem unlisted_set {listed : Array Bool} {j : Nat} (hj : listed.getD j true = false) (h : unlisted_ (listed.setIfInBounds j true) T = true) : T.contains j = false ∧ unlisted_ listed T = true := by
  have hlt : j < listed.size := by
    rcases Nat.lt_or_ge j listed.size with h1 | h1
    · exact h1
    · simp [Array.getElem?_eq_none h1] at hj
  have hc : T.contains j = false := by
    cases hc : T.contains j with
    | false => rfl
    | true =>
      have h1 := unlisted_at h hc
      simp [hlt] at h1
  refine ⟨hc, List.all_eq_true.2 fun t ht => ?_⟩
  have h1 := unlisted_at h (t := t) (by simpa using ht)
  have hne : j ≠ t := fun e => by
    rw [e] at hc
    have : T.contains t = true := by simpa using ht
    rw [hc] at this
    cases this
  rw [getD_set_ne true hne] at h1
  simpa using h1
theorem any_of_w : ∀ (fuel : Nat) (listed : Array Bool) (a : Act) (w : World), (unlisted_ listed T = true → S w) → AnyW P md ops Q S T fuel listed a w → wpAny P md ops Q fuel listed a w
  | 0, _, _, w, hw, h => ⟨h.1, h.2 w ⟨hw, fun _ => rfl⟩⟩
  | _ + 1, _, _, w, hw, h => ⟨(h w ⟨hw, fun _ => rfl⟩).1, fun j hj => wpOp_mono (fun a' w' q => any_of_w _ _ a' w' (fun hu => by
      obtain ⟨h1, h2⟩ := unlisted_set (mem_ready.1 hj).1 hu
      exact q.1 h1 h2) q.2) ((h w ⟨hw, fun _ => rfl⟩).2 j hj)⟩
/-- In every world that meets S the operation leaves v, and a world that meets S. -/
def YieldsW (P : Program) (ops : Array Oper) (S : World → Prop) (o : Oper) (v : Value) (a : Act) : Prop :=
  (Region.wanted o (yielded ops a.tmps) = true ∧ ∀ w, S w → ((∃ w', (execOp a.eval o).run P w = .ok (.value v) w' ∧ S w') ∨ ∃ f args w', (execOp a.eval o).run P w = .ok (.enter f args) w' ∧ Calls P f args w' (fun e w'' => e = .returned v ∧ S w''))) ∨
  (Region.wanted o (yielded ops a.tmps) = false ∧ v = undef)
theorem YieldsIf.yieldsW {o : Oper} {v : Value} {a : Act} (h : YieldsIf P ops S o v a) : YieldsW P ops S o v a :=
  h.imp (fun ⟨hw, hv⟩ => ⟨hw, fun w hs => .inl ⟨w, hv w hs, hs⟩⟩) id
theorem YieldsW.wpOp {i : Nat} {o : Oper} {v : Value} {a : Act} (hi : ops[i]? = some o) (hy : YieldsW P ops S o v a)
    {K : Act → World → Prop} {w : World} (hS : S w) (h : ∀ w', S w' → K (a.put o.dst v) w') : wpOp P ops Q i K a w := by
  unfold Go.wpOp
  simp only [hi]
  rcases hy with ⟨hw, hv⟩ | ⟨hw, rfl⟩
  · simp only [hw, if_true, Oper.wp]
    refine .inl ?_
    rcases hv w hS with ⟨w', e, s⟩ | ⟨f, args, w', e, c⟩
    · simp only [e, Oper.upon]; exact h w' s
    · simp only [e, Oper.upon]
      exact Calls.mono c (fun e w'' ⟨he, hs⟩ => by subst he; exact h w'' hs)
  · simp only [hw, Bool.false_eq_true, if_false]; exact h w hS
theorem YieldsW.of_same {o : Oper} {v : Value} {a a' : Act} (hy : YieldsW P ops S o v a) (he : execOp a'.eval o = execOp a.eval o)
    (hw : Region.wanted o (yielded ops a'.tmps) = Region.wanted o (yielded ops a.tmps)) : YieldsW P ops S o v a' := by
  unfold YieldsW at *
  rw [he, hw]
  exact hy
theorem wpOp_putW {j : Nat} {oi oj : Oper} {v : Value} (hj : ops[j]? = some oj) (hap : oi.apart ops oj = true)
    (hsi : ∀ cs b, oi.op ≠ .select cs b) (hsj : ∀ cs b, oj.op ≠ .select cs b)
    (hQ : ∀ c a w, Q (.panic c) (a.put oi.dst v) w → Q (.panic c) a w) {K : Act → World → Prop} {a : Act} {w : World}
    (hy : YieldsW P ops S oi v a) (h : wpOp P ops Q j K (a.put oi.dst v) w) :
    wpOp P ops Q j (fun a' w' => YieldsW P ops S oi v a' ∧ K (a'.put oi.dst v) w') a w := by
  obtain ⟨h1, h2, h3⟩ := Oper.apart_spec hap
  have keep : ∀ (a : Act), YieldsW P ops S oi v a → ∀ u, YieldsW P ops S oi v (a.put oj.dst u) := fun a hy u =>
    hy.of_same (execOp_put oi hsi a oj.dst u h3) (wanted_put oi a oj.dst u h3)
  have keepD : ∀ d, YieldsW P ops S oi v { a with defers := d :: a.defers } := fun d => hy.of_same rfl rfl
  unfold Go.wpOp at *
  simp only [hj] at *
  rw [wanted_put oj a oi.dst v h1] at h
  split
  · rename_i hw
    simp only [hw, if_true] at h
    rcases h with h | ⟨hasks, hlets⟩
    case inr => exact .inr ⟨by unfold Oper.asks at *; rw [execOp_put oj hsj a oi.dst v h1] at hasks; exact hasks, hlets⟩
    refine .inl ?_
    unfold Oper.wp at *
    rw [execOp_put oj hsj a oi.dst v h1] at h
    generalize (execOp a.eval oj).run P w = r at *
    cases r with
    | ok n w' =>
      cases n <;> simp only [Oper.upon] at h ⊢
      case value u => exact ⟨keep a hy u, by rw [← Act.put_comm a v u h2]; exact h⟩
      case skip => exact ⟨keep a hy _, by rw [← Act.put_comm a v undef h2]; exact h⟩
      case defer d =>
        refine ⟨keep _ (keepD d) _, ?_⟩
        rw [← Act.put_comm _ v undef h2, ← Act.put_defers]
        exact h
      case enter f args =>
        refine Calls.mono h fun e w'' he => ?_
        cases e with
        | returned u => exact ⟨keep a hy u, by rw [← Act.put_comm a v u h2]; exact he⟩
        | panicked c => exact hQ _ _ _ he
        | outgrown => exact he
      case row row args => exact Rows.mono h fun u w'' he => ⟨keep a hy u, by rw [← Act.put_comm a v u h2]; exact he⟩
    | halt x w' =>
      cases x <;> simp only [Oper.upon] at h ⊢
      case panic u => exact hQ _ _ _ h
  · rename_i hw
    simp only [hw] at h
    exact ⟨keep a hy _, by rw [← Act.put_comm a v undef h2]; exact h⟩
theorem unlisted_sub {listed : Array Bool} {D : List Nat} (hTD : (T.all fun t => D.contains t) = true) (hu : unlisted_ listed D = true) : unlisted_ listed T = true :=
  List.all_eq_true.2 fun t ht => by simpa using unlisted_at hu (List.all_eq_true.1 hTD t ht)
theorem w_first {i : Nat} {oi : Oper} {v : Value} {D : List Nat} (hi : ops[i]? = some oi) (hns : Region.noSelect ops = true) (hQ : ∀ c a w, Q (.panic c) (a.put oi.dst v) w → Q (.panic c) a w)
    (hw : waits_ md ops i D = true) (hTD : (T.all fun t => D.contains t) = true) :
    ∀ (fuel : Nat) (listed : Array Bool) (a : Act) (w : World), unlisted_ listed D = true →
      (∀ j oj, ops[j]? = some oj → j ≠ i → listed.getD j true = false → (∀ e ∈ oj.after, Region.binds md e = true → e.on ≠ i) → oi.apart ops oj = true) →
      i ∈ Region.ready md ops listed → YieldsW P ops S oi v a →
      AnyW P md ops Q S T fuel (listed.setIfInBounds i true) (a.put oi.dst v) w → AnyW P md ops Q S T (fuel + 1) listed a w := by
  have hsel := fun j o cs b => Region.noSelect_spec hns j o cs b
  intro fuel
  induction fuel with
  | zero =>
    intro listed a w hu _ hr hy H w1 hm
    have hS := hm.1 (unlisted_sub hTD hu)
    refine ⟨fun h => absurd hr (by rw [h]; simp), fun j hj => ?_⟩
    rcases Decidable.em (j = i) with e | e
    · subst e
      refine hy.wpOp hi hS fun w' s => ⟨fun _ _ => s, H.1, fun w2 hm2 => H.2 w2 ⟨hm2.1, fun hf => ?_⟩⟩
      have hT : T.contains j = false := by
        cases hc : T.contains j with
        | false => rfl
        | true =>
          have := not_waiting hw hu hr hr
          have h2 := List.all_eq_true.1 hTD j (by simpa using hc)
          rw [this] at h2
          cases h2
      have : unlisted_ (listed.setIfInBounds j true) T = true := List.all_eq_true.2 fun t ht => by
        have hne : j ≠ t := fun e => by
          have : T.contains t = true := by simpa using ht
          rw [← e, hT] at this
          cases this
        rw [getD_set_ne true hne]
        simpa using unlisted_at (unlisted_sub hTD hu) (t := t) (by simpa using ht)
      rw [this] at hf
      cases hf
    · have h0 := ready_mono hj e
      rw [H.1] at h0
      simp at h0
  | succ fuel ih =>
    intro listed a w hu hfree hr hy H w1 hm
    have huT := unlisted_sub hTD hu
    have hS := hm.1 huT
    have notT : ∀ j, j ∈ Region.ready md ops listed → T.contains j = false := fun j hj => by
      cases hc : T.contains j with
      | false => rfl
      | true =>
        have := not_waiting hw hu hr hj
        have h2 := List.all_eq_true.1 hTD j (by simpa using hc)
        rw [this] at h2
        cases h2
    have stay : ∀ j, T.contains j = false → unlisted_ (listed.setIfInBounds j true) T = true := fun j hT => List.all_eq_true.2 fun t ht => by
      have hne : j ≠ t := fun e => by
        have : T.contains t = true := by simpa using ht
        rw [← e, hT] at this
        cases this
      rw [getD_set_ne true hne]
      simpa using unlisted_at huT (t := t) (by simpa using ht)
    have hui := stay i (notT i hr)
    refine ⟨fun h => absurd hr (by rw [h]; simp), fun j hj => ?_⟩
    rcases Decidable.em (j = i) with e | e
    · subst e
      exact hy.wpOp hi hS fun w' s => ⟨fun _ _ => s, fun w2 hm2 => H w2 ⟨hm2.1, fun hf => by rw [hui] at hf; cases hf⟩⟩
    obtain ⟨hjun, oj, hoj, hall⟩ := mem_ready.1 hj
    have hno : ∀ q ∈ oj.after, Region.binds md q = true → q.on ≠ i := fun q hq hb heq => by
      have h1 := hall q hq hb
      have h2 := (mem_ready.1 hr).1
      rw [heq] at h1
      rcases Nat.lt_or_ge i listed.size with hlt | hge
      · simp [hlt] at h1 h2
        rw [h2] at h1
        cases h1
      · simp [Array.getElem?_eq_none hge] at h1
    have h1 := (H w1 ⟨fun _ => hS, fun hf => by rw [hui] at hf; cases hf⟩).2 j (ready_mono hj e)
    have h2 := wpOp_putW hoj (hfree j oj hoj e hjun hno) (fun cs b => hsel i oi cs b hi) (fun cs b => hsel j oj cs b hoj) hQ hy h1
    have hDj : D.contains j = false := not_waiting hw hu hr hj
    refine wpOp_mono (fun a' w' q => ⟨fun ht _ => q.2.1 ht hui, ih (listed.setIfInBounds j true) a' w' ?_ (fun k ok hk hki hun hnk => ?_) (ready_mono hr (Ne.symm e)) q.1 ?_⟩) h2
    · refine List.all_eq_true.2 fun t ht => ?_
      have ht' : D.contains t = true := by simpa using ht
      have hne2 : j ≠ t := fun e => by rw [e, ht'] at hDj; cases hDj
      rw [getD_set_ne true hne2]
      simpa using unlisted_at hu ht'
    · refine hfree k ok hk hki ?_ hnk
      rcases Decidable.em (j = k) with e2 | e2
      · subst e2; exact hjun
      · rwa [getD_set_ne true e2] at hun
    · rw [Array.setIfInBounds_comm _ _ e]
      exact q.2.2
/-- An operation whose value is settled is taken first; all of T wait for it. -/
theorem w_take {i : Nat} (D : List Nat) (dst : Option Nat) {oi : Oper} {v : Value} {fuel : Nat} {listed : Array Bool} {a : Act} {w : World} (hi : ops[i]? = some oi) (hdst : oi.dst = dst) (hns : Region.noSelect ops = true) (hf : Region.free md ops listed i = true) (hr : (Region.ready md ops listed).contains i = true)
    (hw : waits_ md ops i D = true) (hu : unlisted_ listed D = true) (hTD : (T.all fun t => D.contains t) = true)
    (hQ : ∀ c a w, Q (.panic c) (a.put oi.dst v) w → Q (.panic c) a w) (hy : YieldsW P ops S oi v a)
    (h : AnyW P md ops Q S T fuel (listed.setIfInBounds i true) (a.put dst v) w) : AnyW P md ops Q S T (fuel + 1) listed a w := by
  subst hdst
  exact w_first hi hns hQ hw hTD fuel listed a w hu (Region.free_spec hi hf) (by simpa using hr) hy h
/-- One of T alone may come up, none of T has. -/
theorem w_head {i : Nat} {oi : Oper} {fuel : Nat} {listed : Array Bool} {a : Act} {w : World} (hr : Region.ready md ops listed = [i]) (hi : ops[i]? = some oi) (hw : Region.wanted oi (yielded ops a.tmps) = true) (hu : unlisted_ listed T = true) (hu2 : unlisted_ (listed.setIfInBounds i true) T = false)
    (h : ∀ w1, S w1 → ∀ K : Act → World → Prop, Hid (∀ a w, AnyW P md ops Q S T fuel (listed.setIfInBounds i true) a w → K a w) → Oper.wp P oi a w1 K Q) : AnyW P md ops Q S T (fuel + 1) listed a w := fun w1 hm =>
  ⟨fun e => by rw [hr] at e; simp at e, fun j hj => by
    rw [hr] at hj
    obtain rfl := List.mem_singleton.1 hj
    exact wpOp_step hi (fun K hK => by
      rw [if_pos hw]
      have hT : T.contains j = true := by
        cases hc : T.contains j with
        | true => rfl
        | false =>
          have : unlisted_ (listed.setIfInBounds j true) T = true := List.all_eq_true.2 fun t ht => by
            have hne : j ≠ t := fun e => by
              have : T.contains t = true := by simpa using ht
              rw [← e, hc] at this
              cases this
            rw [getD_set_ne true hne]
            simpa using unlisted_at hu (t := t) (by simpa using ht)
          rw [this] at hu2
          cases hu2
      exact h w1 (hm.1 hu) K (Lib.hid fun a w h2 => hK a w ⟨fun h => (by rw [hT] at h; cases h), h2⟩))⟩
/-- One alone may come up, behind one of T. -/
theorem w_tail {i : Nat} {oi : Oper} {fuel : Nat} {listed : Array Bool} {a : Act} {w : World} (hr : Region.ready md ops listed = [i]) (hi : ops[i]? = some oi) (hw : Region.wanted oi (yielded ops a.tmps) = true) (hu : unlisted_ listed T = false)
    (h : ∀ K : Act → World → Prop, Hid (∀ a w, AnyW P md ops Q S T fuel (listed.setIfInBounds i true) a w → K a w) → Oper.wp P oi a w K Q) : AnyW P md ops Q S T (fuel + 1) listed a w := fun w1 hm =>
  ⟨fun e => by rw [hr] at e; simp at e, fun j hj => by
    rw [hr] at hj
    obtain rfl := List.mem_singleton.1 hj
    obtain rfl := hm.2 hu
    exact wpOp_step hi (fun K hK => by
      rw [if_pos hw]
      exact h K (Lib.hid fun a w h2 => hK a w ⟨fun _ h => (by rw [hu] at h; cases h), h2⟩))⟩
/-- All have come up, none of T among them. -/
theorem w_done {listed : Array Bool} {a : Act} {w : World} (hr : Region.ready md ops listed = []) (hu : unlisted_ listed T = true) (h : ∀ w, S w → Q .normal a w) : ∀ fuel, AnyW P md ops Q S T fuel listed a w
  | 0 => ⟨hr, fun w1 hm => h w1 (hm.1 hu)⟩
  | _ + 1 => fun w1 hm => ⟨fun _ => h w1 (hm.1 hu), by rw [hr]; simp⟩
/-- All have come up. -/
theorem w_end {listed : Array Bool} {a : Act} {w : World} (hr : Region.ready md ops listed = []) (hu : unlisted_ listed T = false) (h : Q .normal a w) : ∀ fuel, AnyW P md ops Q S T fuel listed a w
  | 0 => ⟨hr, fun w1 hm => by rw [hm.2 hu]; exact h⟩
  | _ + 1 => fun w1 hm => ⟨fun _ => by rw [hm.2 hu]; exact h, by rw [hr]; simp⟩
/-- The beginning. -/
theorem w_region (S : World → Prop) (T : List Nat) {id : Nat} {a : Act} {w : World} (hm : P.follows .mixedOrders = true) (hS : S w.drew) (h : AnyW P .any ops Q S T ops.size (Array.replicate ops.size false) a w.drew) : (Code.region id ops true).wp P Q a w :=
  wp_region_any hm (any_of_w _ _ _ _ (fun _ => hS) h)
/-- One of two may come up. -/
theorem d_two {i j : Nat} {oi oj : Oper} {fuel : Nat} {listed : Array Bool} {a : Act} {w : World} (hr : Region.ready md ops listed = [i, j]) (hi : ops[i]? = some oi) (hj : ops[j]? = some oj) (hgi : oi.guard = none) (hgj : oj.guard = none)
    (h1 : ∀ K : Act → World → Prop, Hid (∀ a w, (T.contains i = false → S w) → AnyD P md ops Q S T fuel (listed.setIfInBounds i true) a w → K a w) → Oper.wp P oi a w K Q)
    (h2 : ∀ K : Act → World → Prop, Hid (∀ a w, (T.contains j = false → S w) → AnyD P md ops Q S T fuel (listed.setIfInBounds j true) a w → K a w) → Oper.wp P oj a w K Q) : AnyD P md ops Q S T (fuel + 1) listed a w :=
  ⟨fun e => by rw [hr] at e; simp at e, fun k hk => by
    rw [hr] at hk
    rcases List.mem_cons.1 hk with rfl | hk
    · exact wpOp_step hi (fun K hK => by
        rw [if_pos (by simp [Region.wanted, hgi])]
        exact h1 K (Lib.hid fun a w h1 h2 => hK a w ⟨h1, h2⟩))
    · obtain rfl := List.mem_singleton.1 hk
      exact wpOp_step hj (fun K hK => by
        rw [if_pos (by simp [Region.wanted, hgj])]
        exact h2 K (Lib.hid fun a w h1 h2 => hK a w ⟨h1, h2⟩))⟩
end
end Go.Proofs.YteflnnlihblpgaaDoor
