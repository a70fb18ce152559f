/-
  supply.Row: the row as an iterator, walked.
-/
import Derived.Test.YtimjmacjkefljaaDoorSrLaw
namespace Go.Proofs.YtimjmacjkefljaaDoor
open Go.RowKit Go.Shelf
set_option maxRecDepth 100000
set_option linter.unusedVariables false
theorem block_cell {w : World} {b : Nat} {cs : Array Value} {t : TypeId} (h : w.heap[b]? = some (.cells cs t (0, 0))) (k : Nat) : w.cell? ⟨b, k, none⟩ = cs[k]? := cell_of_row _ _ _ _ _ _ h
theorem block_fz {w : World} {b : Nat} {cs : Array Value} {t : TypeId} (h : w.heap[b]? = some (.cells cs t (0, 0))) (k : Nat) : w.frozen? ⟨b, k, none⟩ = false := by simp only [World.frozen?, h]; simp
theorem block_lt {w : World} {b : Nat} {o : Obj} (h : w.heap[b]? = some o) : b < w.heap.size := (Array.getElem?_eq_some_iff.1 h).1
abbrev rowBox (g q t : Int) : Obj := .cells #[.int .i64 g, .int .i64 q, .int .i64 t] 35 (0, 0)
abbrev errBox (v : Value) : Obj := .cells #[v] 31 (0, 0)
/-- Row, what of answers being known. -/
theorem row_ok (K Q T g q t : Int) (w : World) (hof : ∀ W, Ext w W → Calls Tryd.prog 9 #[srv K Q T] W fun e w' => e = RowE g q t .nilIface ∧ Ext W w') :
    Calls Tryd.prog 5 #[srv K Q T] w fun e w' => ∃ rb eb, e = .returned (.func (.func 10) #[] #[.pointer (some ⟨eb, 0, none⟩), .pointer (some ⟨rb, 0, none⟩)]) ∧ w'.heap[rb]? = some (rowBox g q t) ∧ w'.heap[eb]? = some (errBox .nilIface) ∧ Ext w w' := by
  have HO := Lib.hid (hof (w.alloc (.cells #[.int .i64 K, .int .i64 Q, .int .i64 T] 23)) ((Ext.refl w).alloc _))
  unfold srv RowE rowV at *
  clear hof
  go_enter Tryd.func5, Tryd.ntmps5
  go_wp2_with fail
  refine HO.out.mono ?_
  rintro e w1 ⟨rfl, x1⟩
  have X1 := Lib.hid (((Ext.refl w).alloc _).trans x1)
  clear HO x1
  go_wp2_with fail
  go_returns
  have s1 : (w1.alloc (.cells #[.int .i64 g, .int .i64 q, .int .i64 t] 35)).heap.size = w1.heap.size + 1 := World.size_alloc _ _
  have k1 := heap_alloc_new w1 (.cells #[.int .i64 g, .int .i64 q, .int .i64 t] 35)
  have k2 := heap_alloc_new (w1.alloc (.cells #[.int .i64 g, .int .i64 q, .int .i64 t] 35)) (.cells #[.nilIface] 31)
  rw [s1] at k2
  exact ⟨w1.heap.size, w1.heap.size + 1, rfl, (((Ext.refl (w1.alloc (.cells #[.int .i64 g, .int .i64 q, .int .i64 t] 35))).alloc _).block _ (block_lt k1)).trans k1, k2, X1.out.trans (((Ext.refl w1).alloc _).trans ((Ext.refl _).alloc _))⟩
/-- Row, what of answers being known. -/
theorem row_bad (K Q T g q t : Int) (a : Addr) (w : World) (hof : ∀ W, Ext w W → Calls Tryd.prog 9 #[srv K Q T] W fun e w' => e = RowE g q t (.iface 42 (.pointer (some a))) ∧ Ext W w') :
    Calls Tryd.prog 5 #[srv K Q T] w fun e w' => ∃ rb eb, e = .returned (.func (.func 10) #[] #[.pointer (some ⟨eb, 0, none⟩), .pointer (some ⟨rb, 0, none⟩)]) ∧ w'.heap[rb]? = some (rowBox g q t) ∧ w'.heap[eb]? = some (errBox (.iface 42 (.pointer (some a)))) ∧ Ext w w' := by
  have HO := Lib.hid (hof (w.alloc (.cells #[.int .i64 K, .int .i64 Q, .int .i64 T] 23)) ((Ext.refl w).alloc _))
  unfold srv RowE rowV at *
  clear hof
  go_enter Tryd.func5, Tryd.ntmps5
  go_wp2_with fail
  refine HO.out.mono ?_
  rintro e w1 ⟨rfl, x1⟩
  have X1 := Lib.hid (((Ext.refl w).alloc _).trans x1)
  clear HO x1
  go_wp2_with fail
  go_returns
  have s1 : (w1.alloc (.cells #[.int .i64 g, .int .i64 q, .int .i64 t] 35)).heap.size = w1.heap.size + 1 := World.size_alloc _ _
  have k1 := heap_alloc_new w1 (.cells #[.int .i64 g, .int .i64 q, .int .i64 t] 35)
  have k2 := heap_alloc_new (w1.alloc (.cells #[.int .i64 g, .int .i64 q, .int .i64 t] 35)) (.cells #[(.iface 42 (.pointer (some a)))] 31)
  rw [s1] at k2
  exact ⟨w1.heap.size, w1.heap.size + 1, rfl, (((Ext.refl (w1.alloc (.cells #[.int .i64 g, .int .i64 q, .int .i64 t] 35))).alloc _).block _ (block_lt k1)).trans k1, k2, X1.out.trans (((Ext.refl w1).alloc _).trans ((Ext.refl _).alloc _))⟩
theorem mod_step {x t R : Int} (h : x % t = R) : (x + 1) % t = (R + 1) % t := by
  have h1 := Int.ediv_mul_add_emod x t
  rw [h] at h1
  rw [show x + 1 = (R + 1) + x / t * t by omega, Int.add_mul_emod_self_right]
theorem atB_low {g q t : Int} {k : Nat} (h : (k : Int) < g) : atB g q t k = false := by unfold atB; rw [decide_eq_false_iff_not]; omega
theorem atB_high {g q t : Int} {k : Nat} (h : g ≤ (k : Int)) : atB g q t k = decide (t - q ≤ ((k : Int) - g) % t) := by
  unfold atB
  exact decide_eq_decide.2 ⟨fun e => e.2, fun e => ⟨h, e⟩⟩
open Classical in
/-- How many rounds are left at most, read off the world. -/
noncomputable def leftK (N : Nat) (J : Nat → World → Prop) (W : World) : Nat := if h : ∃ k, J k W then N - h.choose else 0
theorem leftK_eq {N : Nat} {J : Nat → World → Prop} (hU : ∀ k k' V, J k V → J k' V → k = k') {k : Nat} {W : World} (h : J k W) : leftK N J W = N - k := by
  have e : ∃ k, J k W := ⟨k, h⟩
  unfold leftK
  rw [dif_pos e, hU _ _ _ e.choose_spec h]
set_option maxHeartbeats 3200000 in
/-- The row of a legal server. -/
theorem gives_ok (F : Fence) (n : Nat) (h10 : F.fn 10) (hro : F.round = none) (hn : 1 ≤ n) {g q t : Int} (hb : 0 ≤ g ∧ g ≤ 255 ∧ 1 ≤ q ∧ q ≤ t ∧ t ≤ 256) (rb eb n₀ N : Nat) (I : Nat → World → Prop) (w : World) (hn0 : n₀ ≤ w.heap.size) (hrb : rb < n₀) (heb : eb < n₀)
    (hr : w.heap[rb]? = some (rowBox g q t)) (he : w.heap[eb]? = some (errBox .nilIface)) (hIN : ∀ k V, I k V → k < N) (hIU : ∀ k k' V, I k V → I k' V → k = k') :
    GivesAt F n Tryd.prog 10 #[.pointer (some ⟨eb, 0, none⟩), .pointer (some ⟨rb, 0, none⟩)] (fun k => .bool (atB g q t k)) n₀ False I w := by
  intro l J Jx W hW hJI hY h0
  have hr1 := (hW.block rb (by omega)).trans hr
  have he1 := (hW.block eb (by omega)).trans he
  have hJN : ∀ k V, J k V → k < N := fun k V h => hIN k V (hJI k V h)
  have hJU : ∀ k k' V, J k V → J k' V → k = k' := fun k k' V h h' => hIU k k' V (hJI k V h) (hJI k' V h')
  obtain ⟨b0, b1, b2, b3, b4⟩ := hb
  clear hIN hIU hJI hr he
  have HC := Lib.hid (And.intro hr1 he1)
  have c0 : W.cell? ⟨eb, 0, none⟩ = some .nilIface := block_cell he1 0
  have c1 : W.cell? ⟨rb, 0, none⟩ = some (.int .i64 g) := block_cell hr1 0
  clear hr1 he1
  refine callsIn_of_wp Tryd.func10 rfl h10 ?_ hro
  simp only [Tryd.ntmps10, List.size_toArray, List.length_cons, List.length_nil, Nat.reduceAdd, Nat.reduceSub, Array.replicate_succ, Array.replicate_zero, List.push_toArray, List.append_toArray, List.nil_append, List.cons_append]
  gi_wp2
  clear c0 c1
  gi_loopw [9] (fun v wr => ∃ k : Nat, v = .int .i64 (k : Int) ∧ (k : Int) ≤ g ∧ J k wr ∧ Below n₀ W wr) (fun v _ => g.toNat - (intOf v).toNat)
  case atStart => exact ⟨0, rfl, by omega, h0, Below.refl _ _⟩
  case round =>
    obtain ⟨k, rfl, hk, hJs, hnx⟩ := hrel
    by_cases hlt : (k : Int) < g
    · obtain ⟨fn, tmps, assign, body, hy, hR⟩ := hY k wr hJs
      rw [atB_low hlt] at hy
      gi_wp2
      refine hR.mono ?_
      rintro e W3 (⟨rfl, hJ3, hk3⟩ | ⟨rfl, hJx3⟩)
      · gi_wp2
        go_roundw
        case rel => exact ⟨k + 1, by go_num, by omega, hJ3, hnx.trans hk3⟩
        case measure => simp [intOf]; omega
      · gi_wp2
        refine bodyPost_ret (results_none rfl _ _ _) rfl ?_
        exact ⟨⟨_, rfl⟩, .inl ⟨_, hJx3⟩⟩
    · have hkg : (k : Int) = g := by omega
      have e0 : ((k : Int) - g) % t = 0 := by rw [hkg, Int.sub_self, Int.zero_emod]
      have HK := Lib.hid (And.intro hkg e0)
      clear hkg e0
      gi_wp2
      gi_loopw [4] (fun v wr => ∃ (k : Nat) (R : Int), v = .int .i64 R ∧ Hid (g ≤ (k : Int) ∧ ((k : Int) - g) % t = R) ∧ 0 ≤ R ∧ R < t ∧ J k wr ∧ Below n₀ W wr) (fun _ wr => leftK N J wr)
      case atStart => exact ⟨k, 0, rfl, Lib.hid ⟨by have := HK.out; omega, HK.out.2⟩, by omega, by omega, hJs, hnx⟩
      case round =>
        obtain ⟨k, R, rfl, HR, hR0, hRt, hJs, hnx⟩ := hrel
        obtain ⟨fn, tmps, assign, body, hy, hR⟩ := hY k wr hJs
        rw [atB_high HR.out.1, HR.out.2] at hy
        have hr1 := (hnx.block rb hrb).trans HC.out.1
        have c1 : wr.cell? ⟨rb, 1, none⟩ = some (.int .i64 q) := block_cell hr1 1
        have c2 : wr.cell? ⟨rb, 2, none⟩ = some (.int .i64 t) := block_cell hr1 2
        have wq : IntKind.i64.wrap (t - q) = t - q := by rw [IntKind.wrap_i64]; omega
        clear hr1
        gi_wp2
        refine hR.mono ?_
        rintro e W3 (⟨rfl, hJ3, hk3⟩ | ⟨rfl, hJx3⟩)
        · have hr3 := ((hnx.trans hk3).block rb hrb).trans HC.out.1
          have d2 : W3.cell? ⟨rb, 2, none⟩ = some (.int .i64 t) := block_cell hr3 2
          have ht0 : (t == 0) = false := by rw [beq_eq_false_iff_ne]; omega
          obtain ⟨R', hR', hR1, hR2, hR3⟩ : ∃ R', Int.tmod (R + 1) t = R' ∧ 0 ≤ R' ∧ R' < t ∧ ((k : Int) + 1 - g) % t = R' := by
            refine ⟨(R + 1) % t, Int.tmod_eq_emod_of_nonneg (by omega), Int.emod_nonneg _ (by omega), Int.emod_lt_of_pos _ (by omega), ?_⟩
            rw [show (k : Int) + 1 - g = ((k : Int) - g) + 1 by omega, mod_step HR.out.2]
          have HR3 := Lib.hid hR3
          clear c1 c2 hr3 hR3
          gi_wp2
          go_roundw
          case rel => exact ⟨k + 1, R', by go_num, Lib.hid ⟨by have := HR.out.1; omega, by rw [← HR3.out]; congr 1⟩, hR1, hR2, hJ3, hnx.trans hk3⟩
          case measure => rw [leftK_eq hJU hJ3, leftK_eq hJU hJs]; have := hJN k wr hJs; omega
        · clear c1 c2
          gi_wp2
          refine bodyPost_ret (results_none rfl _ _ _) rfl ?_
          exact ⟨⟨_, rfl⟩, .inl ⟨_, hJx3⟩⟩
/-- A server that is not legal has no row. -/
theorem gives_none (F : Fence) (n : Nat) (h10 : F.fn 10) (hro : F.round = none) (rb eb : Nat) (a : Addr) (w : World) (he : w.heap[eb]? = some (errBox (.iface 42 (.pointer (some a))))) (l : Nat) (W : World) (hW : Below w.heap.size w W) :
    CallsIn F n Tryd.prog 10 (#[.func (.yield l) #[] #[]] ++ #[.pointer (some ⟨eb, 0, none⟩), .pointer (some ⟨rb, 0, none⟩)]) W fun e V => (∃ v, e = .returned v) ∧ V = W := by
  have c0 : W.cell? ⟨eb, 0, none⟩ = some (.iface 42 (.pointer (some a))) := block_cell ((hW.block eb (block_lt he)).trans he) 0
  clear he
  refine callsIn_of_wp Tryd.func10 rfl h10 ?_ hro
  simp only [Tryd.ntmps10, List.size_toArray, List.length_cons, List.length_nil, Nat.reduceAdd, Nat.reduceSub, Array.replicate_succ, Array.replicate_zero, List.push_toArray, List.append_toArray, List.nil_append, List.cons_append]
  gi_wp2
  refine bodyPost_ret (results_none rfl _ _ _) rfl ?_
  exact ⟨⟨_, rfl⟩, rfl⟩
/-- Row of a server that has a row. -/
theorem row_row {K Q T g q t : Int} (h : Row K Q T g q t) (w : World) : Calls Tryd.prog 5 #[srv K Q T] w fun e w' => ∃ rb eb, e = .returned (.func (.func 10) #[] #[.pointer (some ⟨eb, 0, none⟩), .pointer (some ⟨rb, 0, none⟩)]) ∧ w'.heap[rb]? = some (rowBox g q t) ∧ w'.heap[eb]? = some (errBox .nilIface) ∧ Ext w w' :=
  row_ok K Q T g q t w (fun W _ => of_row W h)
theorem row_no {K Q T : Int} (a : Addr) (w : World) (hS : Sen w 1 a) (hK : I64 K) (hQ : I64 Q) (hT : I64 T) (h : NoRow K Q T) : Calls Tryd.prog 5 #[srv K Q T] w fun e w' => ∃ rb eb, e = .returned (.func (.func 10) #[] #[.pointer (some ⟨eb, 0, none⟩), .pointer (some ⟨rb, 0, none⟩)]) ∧ w'.heap[rb]? = some (rowBox 0 0 0) ∧ w'.heap[eb]? = some (errBox (.iface 42 (.pointer (some a)))) ∧ Ext w w' :=
  row_bad K Q T 0 0 0 a w (fun W hx => of_no K Q T a W (hS.ext hx) hK hQ hT h.2 h.1)
end Go.Proofs.YtimjmacjkefljaaDoor
