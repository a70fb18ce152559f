/-
  Package guest: Release of a job that is taken, walked.
-/
import Derived.Test.YtbpbmelfhgbogaaDoorGsRel
import Derived.Test.YtbpbmelfhgbogaaDoorOrd
namespace Go.Proofs.YtbpbmelfhgbogaaDoor
set_option maxRecDepth 100000
open Go.RowKit
set_option linter.unusedVariables false
/-- A call of max in a region: its run is known. -/
theorem step_max {P : Program} {w : World} {ops : Array Oper} {o : Oper} {a : Act} {K : Act → World → Prop} {Q : Exit → Act → World → Prop} {X : Prop} {t1 t2 : TypeId} {vs vx v : Value}
    (s x : Operand) (hgd : o.guard = none) (ho : o.op = .call { callee := .builtin .max, args := #[s, x], argTypes := #[t1, t2] })
    (hs : a.eval s = vs) (hx : a.eval x = vx) (hrun : (Builtin.max_ #[t1, t2] o.type #[vs, vx]).run P w = .ok v w) (hk : K (a.put o.dst v) w) :
    if Region.wanted o (yielded ops a.tmps) = true then Oper.wp P o a w K Q else X := by
  have hw : Region.wanted o (yielded ops a.tmps) = true := by simp [Region.wanted, hgd]
  rw [if_pos hw]
  unfold Oper.wp execOp
  simp only [ho, resolve, invoke, builtin, Sem.run_bind, Sem.run_pure, Result.andThen_ok, List.map_toArray, List.map_cons, List.map_nil, hs, hx, hrun]
  exact hk
/-- A call of min in a region: its run is known. -/
theorem step_min {P : Program} {w : World} {ops : Array Oper} {o : Oper} {a : Act} {K : Act → World → Prop} {Q : Exit → Act → World → Prop} {X : Prop} {t1 t2 : TypeId} {vs vx v : Value}
    (s x : Operand) (hgd : o.guard = none) (ho : o.op = .call { callee := .builtin .min, args := #[s, x], argTypes := #[t1, t2] })
    (hs : a.eval s = vs) (hx : a.eval x = vx) (hrun : (Builtin.min_ #[t1, t2] o.type #[vs, vx]).run P w = .ok v w) (hk : K (a.put o.dst v) w) :
    if Region.wanted o (yielded ops a.tmps) = true then Oper.wp P o a w K Q else X := by
  have hw : Region.wanted o (yielded ops a.tmps) = true := by simp [Region.wanted, hgd]
  rw [if_pos hw]
  unfold Oper.wp execOp
  simp only [ho, resolve, invoke, builtin, Sem.run_bind, Sem.run_pure, Result.andThen_ok, List.map_toArray, List.map_cons, List.map_nil, hs, hx, hrun]
  exact hk
section
variable {w w' : World} {g tn tc jn jc : Nat} {TA JA : Option Addr} {p : Int} {ks : List TkV} {js : List JobV}
theorem krel_rows {ks : List TkV} {k k6 : Nat} {x : TkV} (hx : ks[k]? = some x) (h6 : k * 6 = k6) (now : Int) :
    ((krows ks).flatten.set (k6 + 4) (.int .i64 now)).set (k6 + 5) (.bool true) = (krows (ks.set k ⟨x.t, now, true⟩)).flatten := by
  have hr := krows_at hx
  have hl : k < (krows ks).length := by rw [krows_len]; exact (List.getElem?_eq_some_iff.1 hx).1
  rw [← h6, flatten_set _ (krows_even ks) hr (by omega)]
  have hr2 : ((krows ks).set k (x.cells.set 4 (.int .i64 now)))[k]? = some (x.cells.set 4 (.int .i64 now)) := by rw [List.getElem?_set_self hl]
  rw [flatten_set _ (fun r hr => by
    rcases List.mem_or_eq_of_mem_set hr with h | h
    · exact krows_even ks r h
    · rw [h]; rfl) hr2 (by omega), List.set_set]
  congr 1
  show (krows ks).set k (TkV.mk x.t now true).cells = _
  unfold krows
  rw [← List.map_set]
theorem tsk_set {ks : List TkV} {k : Nat} {x : TkV} (hx : ks[k]? = some x) (now : Int) (b : Bool) : tsk (ks.set k ⟨x.t, now, b⟩) = tsk ks := by
  unfold tsk
  rw [List.map_set]
  apply List.ext_getElem?
  intro m
  rw [List.getElem?_set]
  split
  · rename_i e
    subst e
    simp only [List.length_map, List.getElem?_map, hx, Option.map_some]
    rw [if_pos (List.getElem?_eq_some_iff.1 hx).1]
  · rfl
/-- The guest behind a release's note at its task. -/
theorem GS.noted (h : GS w g TA tn tc JA jn jc p ks js) {S : Nat} (hS : TA = some ⟨S, 0, none⟩) (hf : Fr w w' (· = S)) {k : Nat} {x : TkV} (hx : ks[k]? = some x) {now : Int} (h0 : 0 ≤ now) (h1 : now ≤ 1099511627776)
    (ho : Own w' (g + 1) 66 6 TA tn tc (krows (ks.set k ⟨x.t, now, true⟩)).flatten) : GS w' g TA tn tc JA jn jc p (ks.set k ⟨x.t, now, true⟩) js :=
  ⟨(hf.block g h.lt (fun e => h.tg _ hS e.symm)).trans h.blk, ho, hf.own h.jow (fun a ha e => h.apart _ a hS ha e.symm), h.apart, by rw [tsk_set hx]; exact h.gi, h.pol, h.tn8, fun y hy => by
    rcases List.mem_or_eq_of_mem_set hy with hy | hy
    · exact h.low y hy
    · subst hy; exact ⟨h0, h1⟩⟩
/-- What a release that is taken leaves. -/
structure RelS (w w' : World) (g : Nat) (TA : Option Addr) (tn tc : Nat) (JA : Option Addr) (jn : Nat) (p : Int) (ks : List TkV) (js : List JobV) : Prop where
  ex : ∃ JA' jc', GS w' g TA tn tc JA' (jn + 1) jc' p ks js ∧ ∀ a, JA' = some a → JA.map (·.block) = some a.block ∨ w.heap.size ≤ a.block
  fr : Fr w w' (fun b => b = g ∨ TA.map (·.block) = some b ∨ JA.map (·.block) = some b)
theorem rel_end {V wq w3 : World} {jc c3 : Nat} {A3 : Option Addr} {nj : JobV} {k : Nat} {now ticks : Int} {t : TaskV} {ks' : List TkV} (h : GS V g TA tn tc JA jn jc p ks' js) (hgi : GI (tsk ks) (js ++ [newJ k now ticks t])) (hj : newJ k now ticks t = nj) (xq : Ext V wq)
    (o3 : Own w3 (g + 1) 46 5 A3 (jn + 1) c3 ((jrows js).flatten ++ nj.cells)) (g3 : Grows wq w3 JA) (hA3 : A3 = JA ∨ A3 = some ⟨wq.heap.size, 0, none⟩) (ht : tsk ks' = tsk ks) :
    GS (w3.setCell ⟨g, 1, none⟩ (.slice A3 (jn + 1) c3)) g TA tn tc A3 (jn + 1) c3 p ks' (js ++ [newJ k now ticks t]) ∧ Fr V (w3.setCell ⟨g, 1, none⟩ (.slice A3 (jn + 1) c3)) (fun b => b = g ∨ JA.map (·.block) = some b) ∧ ∀ a, A3 = some a → JA.map (·.block) = some a.block ∨ V.heap.size ≤ a.block := by
  have f3 : Fr V w3 (fun b => JA.map (·.block) = some b) := (Fr.of_ext xq _).trans (Fr.grows g3) (fun _ _ h => h)
  have hgA : ¬ JA.map (·.block) = some g := fun e => by
    obtain ⟨a, ha, hab⟩ := Option.map_eq_some_iff.1 e
    exact h.jg a ha hab
  have bg3 := (f3.block g h.lt hgA).trans h.blk
  have fs := Fr.store w3 ⟨g, 1, none⟩ (.slice A3 (jn + 1) c3)
  have FW : Fr V (w3.setCell ⟨g, 1, none⟩ (.slice A3 (jn + 1) c3)) (fun b => b = g ∨ JA.map (·.block) = some b) := (f3.mono (fun i _ h => .inr h)).trans fs (fun i _ h => .inl h)
  have hJ : ∀ a, A3 = some a → JA.map (·.block) = some a.block ∨ V.heap.size ≤ a.block := fun a ha => by
    rcases hA3 with e | e
    · left; rw [← e, ha]; rfl
    · right
      rw [ha] at e
      injection e with e
      rw [e]
      exact xq.size
  have o4 : Own w3 (g + 1) 46 5 A3 (jn + 1) c3 (jrows (js ++ [newJ k now ticks t])).flatten := by
    rw [hj]
    have e : (jrows (js ++ [nj])).flatten = (jrows js).flatten ++ nj.cells := by simp [jrows]
    rw [e]
    exact o3
  refine ⟨h.turn FW (heap_setCell_same w3 g 1 _ _ _ bg3) (fs.own o4 (fun a ha e => ?_)) (by rw [ht]; exact hgi) hJ, FW, hJ⟩
  have := o3.base_le a.block (by rw [ha]; rfl)
  have e : a.block = g := e
  omega
set_option maxHeartbeats 6400000 in
theorem rel_ok (h : GS w g TA tn tc JA jn jc p ks js) {k : Nat} {now : Int} (ticks : Int) {x : TkV} (hx : ks[k]? = some x) (h0 : 0 ≤ now) (h1 : now ≤ 1099511627776) (hf : x.free now) (hj : jn < 64) :
    Calls Tryd.prog 12 #[.pointer (some ⟨g, 0, none⟩), .int .i64 (k : Int), .int .i64 now, .int .i64 ticks] w fun e w' => e = .returned .nilIface ∧ RelS w w' g TA tn tc JA jn p (ks.set k ⟨x.t, now, true⟩) (js ++ [newJ k now ticks x.t]) := by
  have c0 := h.c0
  have c1 := h.c1
  obtain ⟨k6, hk6⟩ : ∃ k6, k * 6 = k6 := ⟨_, rfl⟩
  obtain ⟨S, rfl, hSl, hSg, e0, e1, e2, e3, e4, e5⟩ := h.tcell hx hk6
  have hl := h.low x (List.mem_of_getElem? hx)
  have hleg := h.gi.leg x.t (List.mem_map.2 ⟨x, List.mem_of_getElem? hx, rfl⟩)
  obtain ⟨g1, g2, g3, g4, _, _⟩ := hleg
  obtain ⟨l1, l2⟩ := hl
  have z0 : (0 : Int) ≤ k := by omega
  have z1 : (k : Int) < tn := by have := h.klen; have := (List.getElem?_eq_some_iff.1 hx).1; omega
  have z2 : 1 ≤ x.t.P := by omega
  obtain ⟨M, hM⟩ : ∃ M, max ticks 1 = M := ⟨_, rfl⟩
  obtain ⟨L, hL⟩ : ∃ L, min M x.t.C = L := ⟨_, rfl⟩
  have HJ := Lib.hid (show newJ k now ticks x.t = ⟨k, now, now + x.t.D, L, 0⟩ by unfold newJ cutT; rw [hM, hL])
  have hmax : ∀ w, (Builtin.max_ #[3, 3] 3 #[.int .i64 ticks, .int .i64 1]).run Tryd.prog w = .ok (.int .i64 M) w := fun w => by
    rw [run_max_int2, ← hM]
    congr 2
    split <;> omega
  have hmin : ∀ w, (Builtin.min_ #[3, 3] 3 #[.int .i64 M, .int .i64 x.t.C]).run Tryd.prog w = .ok (.int .i64 L) w := fun w => by
    rw [run_min_int2, ← hL]
    congr 2
    split <;> omega
  have HN := Lib.hid (And.intro h hx)
  have hfew : ¬ (64 : Int) ≤ (jn : Int) := by omega
  have hgl := h.lt
  have gip := Lib.hid (h.gi.push (ticks := ticks) (by have := h.jlen; omega) (i := k) (by rw [List.length_map]; exact (List.getElem?_eq_some_iff.1 hx).1) h0 h1)
  have hkt := tsk_at hx
  rw [hkt] at gip
  have HKR := Lib.hid (krel_rows hx hk6 now)
  obtain ⟨xt, xl, xw⟩ := x
  have hq : xw = false ∨ xw = true ∧ decide (now < xl + xt.P) = false := by
    cases xw with
    | false => exact .inl rfl
    | true =>
      rcases hf with e | e
      · cases e
      · exact .inr ⟨rfl, by simpa using e⟩
  dsimp only at *
  have hdk : decide (tn ≤ k) = false := by rw [decide_eq_false_iff_not]; omega
  clear h hx hf hM hL hkt
  go_enter Tryd.func12, Tryd.ntmps12
  go_upto_region 4 with (fail)
  go_cut [53] from 36 (fun v53 wx => v53 = .bool false ∧ Ext w wx)
  case first =>
    rcases hq with rfl | ⟨rfl, hd⟩
    all_goals
      go_quiet (fail)
      go_wp2_with fail
      go_meet
      case rel => exact ⟨rfl, (Ext.refl w).drewN _⟩
  case rest =>
    obtain ⟨rfl, XW⟩ := hcut
    have c1 := (HN.out.1.ex XW).c1
    clear c0 e0 e1 e2 e3 e4 e5 hq
    go_upto_region 8 with (fail)
    clear c1
    obtain ⟨W, hW⟩ : ∃ W, W = wc := ⟨_, rfl⟩
    subst hW
    have hGW := HN.out.1.ex XW
    have e4 : W.cell? ⟨S, k6 + 4, none⟩ = some (.int .i64 xl) := by
      obtain ⟨S', eS, _, _, _, _, _, _, q4, _⟩ := hGW.tcell HN.out.2 hk6
      injection eS with eS
      injection eS with eS
      subst eS
      exact q4
    obtain ⟨bw, e5⟩ : ∃ b, W.cell? ⟨S, k6 + 5, none⟩ = some (.bool b) := by
      obtain ⟨S', eS, _, _, _, _, _, _, _, q5⟩ := hGW.tcell HN.out.2 hk6
      injection eS with eS
      injection eS with eS
      subst eS
      exact ⟨_, q5⟩
    have f4 : W.frozen? ⟨S, k6 + 4, none⟩ = false := hGW.tow.frozenAt _
    have f5 : W.frozen? ⟨S, k6 + 5, none⟩ = false := hGW.tow.frozenAt _
    have O3 := (hGW.tow.stored (k6 + 4) (.int .i64 now)).stored (k6 + 5) (.bool true)
    rw [HKR.out] at O3
    have F3 : Fr W ((W.setCell ⟨S, k6 + 4, none⟩ (.int .i64 now)).setCell ⟨S, k6 + 5, none⟩ (.bool true)) (· = S) := (Fr.store W ⟨S, k6 + 4, none⟩ _).trans (Fr.store _ ⟨S, k6 + 5, none⟩ _) (fun _ _ h => h)
    have G3 := hGW.noted rfl F3 HN.out.2 h0 h1 O3
    have H3 := Lib.hid (And.intro G3 (And.intro F3 XW))
    clear O3 F3 G3 hGW XW
    go_upto_region 9 with (fail)
    clear e4 e5 f4 f5
    generalize (W.setCell ⟨S, k6 + 4, none⟩ (.int .i64 now)).setCell ⟨S, k6 + 5, none⟩ (.bool true) = V at *
    have hkl := (List.getElem?_eq_some_iff.1 HN.out.2).1
    obtain ⟨S', eS, _, _, e0, _, e2, _, _, _⟩ := H3.out.1.tcell (x := ⟨xt, now, true⟩) (by rw [List.getElem?_set_self hkl]) hk6
    injection eS with eS
    injection eS with eS
    subst eS
    have c1 := H3.out.1.c1
    have hgV := H3.out.1.lt
    have hSV := H3.out.1.tow.lt
    have OJ := Lib.hid H3.out.1.jow
    have XA : Ext V (V.alloc (.cells #[.int .i64 (k : Int), .int .i64 now, .int .i64 (now + xt.D), .int .i64 L, .int .i64 0] 46)) := (Ext.refl V).alloc _
    have RN : Rd (V.alloc (.cells #[.int .i64 (k : Int), .int .i64 now, .int .i64 (now + xt.D), .int .i64 L, .int .i64 0] 46)) 5 (some ⟨V.heap.size, 0, none⟩) 1 (JobV.mk k now (now + xt.D) L 0).cells :=
      ⟨rfl, fun _ => ⟨_, rfl, by rw [World.size_alloc]; exact Nat.lt_succ_self _, World.news_of_block (heap_alloc_new V _)⟩⟩
    have q1 := (XA.cell (p := ⟨g, 1, none⟩) hgV).trans c1
    have hnz : ∀ u ∈ (JobV.mk k now (now + xt.D) L 0).cells, u.oneCell' = true := fun u hu => by
      simp only [JobV.cells, List.mem_cons, List.not_mem_nil, or_false] at hu
      rcases hu with rfl | rfl | rfl | rfl | rfl <;> rfl
    have OX := Lib.hid (OJ.out.ext XA)
    have XD := XA.drew
    have hzq : g + 1 ≤ (V.alloc (.cells #[.int .i64 (k : Int), .int .i64 now, .int .i64 (now + xt.D), .int .i64 L, .int .i64 0] 46)).drew.heap.size := by simp; omega
    have hbV := H3.out.1.blk
    have HBV := Lib.hid hbV
    have HJG := Lib.hid H3.out.1.jg
    have U1 := Lib.hid (show jn + 1 ≤ 9223372036854775807 ∧ ∀ c, (jn + 1 ≤ c ∨ (jn + 1) * 40 ≤ 225000000000000 ∧ 40 ≤ 100000) from ⟨by omega, fun _ => .inr ⟨by omega, by omega⟩⟩)
    have eA0 := (XA.cell (p := ⟨S, k6, none⟩) hSV).trans e0
    have eA2 := (XA.cell (p := ⟨S, k6 + 2, none⟩) hSV).trans e2
    have wr1 : IntKind.i64.wrap (now + xt.D) = now + xt.D := by rw [IntKind.wrap_i64]; omega
    clear hbV
    have HS : V.drew.cell? ⟨g, 1, none⟩ = some (.slice JA jn jc) ∧ V.drew.cell? ⟨S, k6, none⟩ = some (.int .i64 xt.C) ∧ V.drew.cell? ⟨S, k6 + 2, none⟩ = some (.int .i64 xt.D) := ⟨c1, e0, e2⟩
    have HS2 : (V.alloc (.cells #[.int .i64 (k : Int), .int .i64 now, .int .i64 (now + xt.D), .int .i64 L, .int .i64 0] 46)).drew.cell? ⟨g, 1, none⟩ = some (.slice JA jn jc) ∧ (V.alloc (.cells #[.int .i64 (k : Int), .int .i64 now, .int .i64 (now + xt.D), .int .i64 L, .int .i64 0] 46)).drew.cell? ⟨S, k6, none⟩ = some (.int .i64 xt.C) ∧ (V.alloc (.cells #[.int .i64 (k : Int), .int .i64 now, .int .i64 (now + xt.D), .int .i64 L, .int .i64 0] 46)).drew.cell? ⟨S, k6 + 2, none⟩ = some (.int .i64 xt.D) := ⟨q1, eA0, eA2⟩
    have HAP := Lib.hid (fun a ha => H3.out.1.apart ⟨S, 0, none⟩ a rfl ha)
    refine d_region (fun w' : World => w'.cell? ⟨g, 1, none⟩ = some (.slice JA jn jc) ∧ w'.cell? ⟨S, k6, none⟩ = some (.int .i64 xt.C) ∧ w'.cell? ⟨S, k6 + 2, none⟩ = some (.int .i64 xt.D)) [25, 26, 27] (by kernel_rfl) ?_
    refine d_take (i := 0) (v := ?_) [25, 26, 27] (some 69) rfl (by rfl) (by kernel_rfl) (by kernel_rfl) (by kernel_rfl) (by kernel_rfl) (by kernel_rfl) (by kernel_rfl) (fun _ _ _ h => h) (.inl ⟨by rfl, ?_⟩) HS ?_
    rotate_left 1
    · (intro W hW; (try dsimp only at hW); go_simp; try with_reducible rfl)
    try simp only [Act.put, List.setIfInBounds_toArray, List.set_cons_zero, List.set_cons_succ]
    refine d_take (i := 1) (v := ?_) [2, 3, 4, 24, 25, 26, 27] (some 70) rfl (by rfl) (by kernel_rfl) (by kernel_rfl) (by kernel_rfl) (by kernel_rfl) (by kernel_rfl) (by kernel_rfl) (fun _ _ _ h => h) (.inl ⟨by rfl, ?_⟩) HS ?_
    rotate_left 1
    · (intro W hW; (try dsimp only at hW); go_simp; try with_reducible rfl)
    try simp only [Act.put, List.setIfInBounds_toArray, List.set_cons_zero, List.set_cons_succ]
    refine d_take (i := 2) (v := ?_) [3, 4, 24, 25, 26, 27] (some 71) rfl (by rfl) (by kernel_rfl) (by kernel_rfl) (by kernel_rfl) (by kernel_rfl) (by kernel_rfl) (by kernel_rfl) (fun _ _ _ h => h) (.inl ⟨by rfl, ?_⟩) HS ?_
    rotate_left 1
    · (intro W hW; (try dsimp only at hW); go_simp; try with_reducible rfl)
    try simp only [Act.put, List.setIfInBounds_toArray, List.set_cons_zero, List.set_cons_succ]
    refine d_take (i := 3) (v := ?_) [4, 24, 25, 26, 27] (some 72) rfl (by rfl) (by kernel_rfl) (by kernel_rfl) (by kernel_rfl) (by kernel_rfl) (by kernel_rfl) (by kernel_rfl) (fun _ _ _ h => h) (.inl ⟨by rfl, ?_⟩) HS ?_
    rotate_left 1
    · (intro W hW; (try dsimp only at hW); go_simp; try with_reducible rfl)
    try simp only [Act.put, List.setIfInBounds_toArray, List.set_cons_zero, List.set_cons_succ]
    refine d_take (i := 4) (v := ?_) [24, 25, 26, 27] (some 73) rfl (by rfl) (by kernel_rfl) (by kernel_rfl) (by kernel_rfl) (by kernel_rfl) (by kernel_rfl) (by kernel_rfl) (fun _ _ _ h => h) (.inl ⟨by rfl, ?_⟩) HS ?_
    rotate_left 1
    · (intro W hW; (try dsimp only at hW); go_simp; try with_reducible rfl)
    try simp only [Act.put, List.setIfInBounds_toArray, List.set_cons_zero, List.set_cons_succ]
    refine d_take (i := 5) (v := ?_) [22, 23, 24, 25, 26, 27] (some 74) rfl (by rfl) (by kernel_rfl) (by kernel_rfl) (by kernel_rfl) (by kernel_rfl) (by kernel_rfl) (by kernel_rfl) (fun _ _ _ h => h) (.inl ⟨by rfl, ?_⟩) HS ?_
    rotate_left 1
    · (intro W hW; (try dsimp only at hW); go_simp; try with_reducible rfl)
    try simp only [Act.put, List.setIfInBounds_toArray, List.set_cons_zero, List.set_cons_succ]
    refine d_take (i := 6) (v := ?_) [22, 23, 24, 25, 26, 27] (some 75) rfl (by rfl) (by kernel_rfl) (by kernel_rfl) (by kernel_rfl) (by kernel_rfl) (by kernel_rfl) (by kernel_rfl) (fun _ _ _ h => h) (.inl ⟨by rfl, ?_⟩) HS ?_
    rotate_left 1
    · (intro W hW; (try dsimp only at hW); go_simp; try with_reducible rfl)
    try simp only [Act.put, List.setIfInBounds_toArray, List.set_cons_zero, List.set_cons_succ]
    refine d_take (i := 7) (v := ?_) [13, 22, 23, 24, 25, 26, 27] (some 76) rfl (by rfl) (by kernel_rfl) (by kernel_rfl) (by kernel_rfl) (by kernel_rfl) (by kernel_rfl) (by kernel_rfl) (fun _ _ _ h => h) (.inl ⟨by rfl, ?_⟩) HS ?_
    rotate_left 1
    · (intro W hW; (try dsimp only at hW); go_simp; try with_reducible rfl)
    try simp only [Act.put, List.setIfInBounds_toArray, List.set_cons_zero, List.set_cons_succ]
    refine d_take (i := 8) (v := ?_) [9, 10, 11, 12, 13, 22, 23, 24, 25, 26, 27] (some 77) rfl (by rfl) (by kernel_rfl) (by kernel_rfl) (by kernel_rfl) (by kernel_rfl) (by kernel_rfl) (by kernel_rfl) (fun _ _ _ h => h) (.inl ⟨by rfl, ?_⟩) HS ?_
    rotate_left 1
    · (intro W hW; (try dsimp only at hW); go_simp; try with_reducible rfl)
    try simp only [Act.put, List.setIfInBounds_toArray, List.set_cons_zero, List.set_cons_succ]
    refine d_take (i := 9) (v := ?_) [10, 11, 12, 13, 22, 23, 24, 25, 26, 27] (some 78) rfl (by rfl) (by kernel_rfl) (by kernel_rfl) (by kernel_rfl) (by kernel_rfl) (by kernel_rfl) (by kernel_rfl) (fun _ _ _ h => h) (.inl ⟨by rfl, ?_⟩) HS ?_
    rotate_left 1
    · (intro W hW; (try dsimp only at hW); go_simp; try with_reducible rfl)
    try simp only [Act.put, List.setIfInBounds_toArray, List.set_cons_zero, List.set_cons_succ]
    refine d_take (i := 10) (v := ?_) [11, 12, 13, 22, 23, 24, 25, 26, 27] (some 79) rfl (by rfl) (by kernel_rfl) (by kernel_rfl) (by kernel_rfl) (by kernel_rfl) (by kernel_rfl) (by kernel_rfl) (fun _ _ _ h => h) (.inl ⟨by rfl, ?_⟩) HS ?_
    rotate_left 1
    · (intro W hW; (try dsimp only at hW); go_simp; try with_reducible rfl)
    try simp only [Act.put, List.setIfInBounds_toArray, List.set_cons_zero, List.set_cons_succ]
    refine d_take (i := 11) (v := ?_) [12, 13, 22, 23, 24, 25, 26, 27] (some 80) rfl (by rfl) (by kernel_rfl) (by kernel_rfl) (by kernel_rfl) (by kernel_rfl) (by kernel_rfl) (by kernel_rfl) (fun _ _ _ h => h) (.inl ⟨by rfl, ?_⟩) HS ?_
    rotate_left 1
    · (intro W hW; (try dsimp only at hW); go_simp; try with_reducible rfl)
    try simp only [Act.put, List.setIfInBounds_toArray, List.set_cons_zero, List.set_cons_succ]
    refine d_take (i := 12) (v := ?_) [13, 22, 23, 24, 25, 26, 27] (some 81) rfl (by rfl) (by kernel_rfl) (by kernel_rfl) (by kernel_rfl) (by kernel_rfl) (by kernel_rfl) (by kernel_rfl) (fun _ _ _ h => h) (.inl ⟨by rfl, ?_⟩) HS ?_
    rotate_left 1
    · (intro W hW; (try dsimp only at hW); go_simp; try with_reducible rfl)
    try simp only [Act.put, List.setIfInBounds_toArray, List.set_cons_zero, List.set_cons_succ]
    refine d_take (i := 13) (v := ?_) [22, 23, 24, 25, 26, 27] (some 82) rfl (by rfl) (by kernel_rfl) (by kernel_rfl) (by kernel_rfl) (by kernel_rfl) (by kernel_rfl) (by kernel_rfl) (fun _ _ _ h => h) (.inl ⟨by rfl, ?_⟩) HS ?_
    rotate_left 1
    · (intro W hW; (try dsimp only at hW); go_simp; try with_reducible rfl)
    try simp only [Act.put, List.setIfInBounds_toArray, List.set_cons_zero, List.set_cons_succ]
    refine d_take (i := 14) (v := ?_) [15, 21, 22, 23, 24, 25, 26, 27] (some 83) rfl (by rfl) (by kernel_rfl) (by kernel_rfl) (by kernel_rfl) (by kernel_rfl) (by kernel_rfl) (by kernel_rfl) (fun _ _ _ h => h) (.inl ⟨by rfl, ?_⟩) HS ?_
    rotate_left 1
    · (intro W hW; (try dsimp only at hW); go_simp; try with_reducible rfl)
    try simp only [Act.put, List.setIfInBounds_toArray, List.set_cons_zero, List.set_cons_succ]
    refine d_take (i := 15) (v := ?_) [21, 22, 23, 24, 25, 26, 27] (some 84) rfl (by rfl) (by kernel_rfl) (by kernel_rfl) (by kernel_rfl) (by kernel_rfl) (by kernel_rfl) (by kernel_rfl) (fun _ _ _ h => h) (.inl ⟨by rfl, ?_⟩) HS ?_
    rotate_left 1
    · (intro W hW; (try dsimp only at hW); go_simp; try with_reducible rfl)
    try simp only [Act.put, List.setIfInBounds_toArray, List.set_cons_zero, List.set_cons_succ]
    refine d_take (i := 16) (v := ?_) [17, 18, 19, 20, 21, 22, 23, 24, 25, 26, 27] (some 85) rfl (by rfl) (by kernel_rfl) (by kernel_rfl) (by kernel_rfl) (by kernel_rfl) (by kernel_rfl) (by kernel_rfl) (fun _ _ _ h => h) (.inl ⟨by rfl, ?_⟩) HS ?_
    rotate_left 1
    · (intro W hW; (try dsimp only at hW); go_simp; try with_reducible rfl)
    try simp only [Act.put, List.setIfInBounds_toArray, List.set_cons_zero, List.set_cons_succ]
    refine d_take (i := 17) (v := ?_) [18, 19, 20, 21, 22, 23, 24, 25, 26, 27] (some 86) rfl (by rfl) (by kernel_rfl) (by kernel_rfl) (by kernel_rfl) (by kernel_rfl) (by kernel_rfl) (by kernel_rfl) (fun _ _ _ h => h) (.inl ⟨by rfl, ?_⟩) HS ?_
    rotate_left 1
    · (intro W hW; (try dsimp only at hW); go_simp; try with_reducible rfl)
    try simp only [Act.put, List.setIfInBounds_toArray, List.set_cons_zero, List.set_cons_succ]
    refine d_take (i := 18) (v := ?_) [19, 20, 21, 22, 23, 24, 25, 26, 27] (some 87) rfl (by rfl) (by kernel_rfl) (by kernel_rfl) (by kernel_rfl) (by kernel_rfl) (by kernel_rfl) (by kernel_rfl) (fun _ _ _ h => h) (.inl ⟨by rfl, ?_⟩) HS ?_
    rotate_left 1
    · (intro W hW; (try dsimp only at hW); go_simp; try with_reducible rfl)
    try simp only [Act.put, List.setIfInBounds_toArray, List.set_cons_zero, List.set_cons_succ]
    refine d_take (i := 19) (v := ?_) [20, 21, 22, 23, 24, 25, 26, 27] (some 88) rfl (by rfl) (by kernel_rfl) (by kernel_rfl) (by kernel_rfl) (by kernel_rfl) (by kernel_rfl) (by kernel_rfl) (fun _ _ _ h => h) (.inl ⟨by rfl, ?_⟩) HS ?_
    rotate_left 1
    · (intro W hW; (try dsimp only at hW); go_simp; try with_reducible rfl)
    try simp only [Act.put, List.setIfInBounds_toArray, List.set_cons_zero, List.set_cons_succ]
    refine d_take (i := 20) (v := ?_) [21, 22, 23, 24, 25, 26, 27] (some 89) rfl (by rfl) (by kernel_rfl) (by kernel_rfl) (by kernel_rfl) (by kernel_rfl) (by kernel_rfl) (by kernel_rfl) (fun _ _ _ h => h) (.inl ⟨by rfl, ?_⟩) HS ?_
    rotate_left 1
    · (intro W hW; (try dsimp only at hW); go_simp; try with_reducible rfl)
    try simp only [Act.put, List.setIfInBounds_toArray, List.set_cons_zero, List.set_cons_succ]
    refine d_take (i := 21) (v := ?_) [22, 23, 24, 25, 26, 27] (some 90) rfl (by rfl) (by kernel_rfl) (by kernel_rfl) (by kernel_rfl) (by kernel_rfl) (by kernel_rfl) (by kernel_rfl) (fun _ _ _ h => h) (.inl ⟨by rfl, ?_⟩) HS ?_
    rotate_left 1
    · (intro W hW; (try dsimp only at hW); go_simp; try with_reducible rfl)
    try simp only [Act.put, List.setIfInBounds_toArray, List.set_cons_zero, List.set_cons_succ]
    refine d_take (i := 22) (v := ?_) [23, 24, 25, 26, 27] (some 91) rfl (by rfl) (by kernel_rfl) (by kernel_rfl) (by kernel_rfl) (by kernel_rfl) (by kernel_rfl) (by kernel_rfl) (fun _ _ _ h => h) (.inl ⟨by rfl, ?_⟩) HS ?_
    rotate_left 1
    · (intro W hW; (try dsimp only at hW); go_simp; try with_reducible rfl)
    try simp only [Act.put, List.setIfInBounds_toArray, List.set_cons_zero, List.set_cons_succ]
    refine d_one (i := 23) (by kernel_rfl) rfl rfl (fun K hK => ?_)
    simp only [List.getElem_toArray, List.getElem_cons_succ, List.getElem_cons_zero]
    go_simp
    refine hK.out _ _ (fun _ => HS2) ?_
    clear hK K
    try simp only [Act.put, List.setIfInBounds_toArray, List.set_cons_zero, List.set_cons_succ]
    refine d_one (i := 24) (by kernel_rfl) rfl rfl (fun K hK => ?_)
    simp only [List.getElem_toArray, List.getElem_cons_succ, List.getElem_cons_zero]
    refine oper_app (w := (V.alloc (.cells #[.int .i64 (k : Int), .int .i64 now, .int .i64 (now + xt.D), .int .i64 L, .int .i64 0] 46)).drew) (m := 1) (d := 1) (news := (JobV.mk k now (now + xt.D) L 0).cells) eltJob OX.out RN hnz U1.out.1 (U1.out.2 _) hzq (.tmp 73) (.tmp 92) rfl rfl rfl ?_
    intro A3 c3 w3 o3 g3 hA3 _
    have b3 := (g3.block g hzq (fun e => by
      obtain ⟨a, ha, hab⟩ := Option.map_eq_some_iff.1 e.symm
      exact HJG.out a ha hab)).trans ((XD.block g hgV).trans HBV.out)
    have bS := g3.block S (Nat.lt_of_lt_of_le hSV XD.size) (fun e => by
      obtain ⟨a, ha, hab⟩ := Option.map_eq_some_iff.1 e.symm
      exact HAP.out a ha hab.symm)
    have x0 := (World.cell?_of_block (a := ⟨S, k6, none⟩) bS).trans eA0
    have x2 := (World.cell?_of_block (a := ⟨S, k6 + 2, none⟩) bS).trans eA2
    have s1 : w3.cell? ⟨g, 1, none⟩ = some (.slice JA jn jc) := block_cell b3 1
    have s2 := block_fz b3 1
    refine hK.out _ _ (fun _ => ⟨s1, x0, x2⟩) ?_
    clear hK K
    try simp only [Act.put, List.setIfInBounds_toArray, List.set_cons_zero, List.set_cons_succ]
    refine d_pure (i := 25) (v := ?_) (some 94) rfl (by rfl) (by kernel_rfl) (by kernel_rfl) (by kernel_rfl) (by kernel_rfl) (fun _ _ _ h => h) (.inl ⟨by rfl, ?_⟩) ?_
    rotate_left 1
    · (intro W hW; go_simp; try with_reducible rfl)
    try simp only [Act.put, List.setIfInBounds_toArray, List.set_cons_zero, List.set_cons_succ]
    refine d_pure (i := 26) (v := ?_) (some 95) rfl (by rfl) (by kernel_rfl) (by kernel_rfl) (by kernel_rfl) (by kernel_rfl) (fun _ _ _ h => h) (.inl ⟨by rfl, ?_⟩) ?_
    rotate_left 1
    · (intro W hW; go_simp; try with_reducible rfl)
    try simp only [Act.put, List.setIfInBounds_toArray, List.set_cons_zero, List.set_cons_succ]
    refine d_one (i := 27) (by kernel_rfl) rfl rfl (fun K hK => ?_)
    simp only [List.getElem_toArray, List.getElem_cons_succ, List.getElem_cons_zero]
    go_simp
    refine hK.out _ _ (fun h => absurd h (by decide)) ?_
    clear hK K
    try simp only [Act.put, List.setIfInBounds_toArray, List.set_cons_zero, List.set_cons_succ]
    refine d_done (by kernel_rfl) ?_ _
    have P := Lib.hid (rel_end H3.out.1 gip.out HJ.out XD o3 g3 hA3 (tsk_set HN.out.2 now true))
    have FP := Lib.hid ((Fr.of_ext H3.out.2.2 _).trans ((H3.out.2.1.mono (fun i _ e => (show _ from .inr (.inl (by rw [e]; rfl)) : i = g ∨ (some (⟨S, 0, none⟩ : Addr)).map (·.block) = some i ∨ JA.map (·.block) = some i))).trans P.out.2.1 (fun i _ e => e.imp id .inr)) (fun i _ e => e))
    clear o3 g3 hA3 b3 s1 s2 x0 x2 bS HS HS2 eA0 eA2 e0 e2 c1 q1 wr1 hmax hmin
    go_wp2_with fail
    go_returns
    refine ⟨rfl, ⟨_, _, P.out.1, fun a ha => ?_⟩, FP.out⟩
    have hz3 := H3.out.2.1.size
    have hzw := H3.out.2.2.size
    rcases P.out.2.2 a ha with e | e
    · exact .inl e
    · exact .inr (by omega)
end
end Go.Proofs.YtbpbmelfhgbogaaDoor
