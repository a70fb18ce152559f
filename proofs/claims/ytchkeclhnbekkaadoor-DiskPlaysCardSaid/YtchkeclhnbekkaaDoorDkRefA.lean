/-
  The document's disk: New, Flush, Lose, walked.
-/
import Derived.Test.YtchkeclhnbekkaaDoorDkRefS
namespace Go.Proofs.YtchkeclhnbekkaaDoor
set_option maxRecDepth 100000
open Go.RowKit Go.Maps
set_option linter.unusedVariables false
section
variable {P : Program} {ops : Array Oper} {Q : Exit → Act → World → Prop} {md : Region.Mode} {S : World → Prop} {T : List Nat}
/-- One of two may come up. -/
theorem d_two {i j : Nat} {oi oj : Oper} {fuel : Nat} {listed : Array Bool} {a : Act} {w : World} (hr : Region.ready md ops listed = [i, j]) (hi : ops[i]? = some oi) (hj : ops[j]? = some oj) (hgi : oi.guard = none) (hgj : oj.guard = none)
    (h1 : ∀ K : Act → World → Prop, Hid (∀ a w, (T.contains i = false → S w) → AnyD P md ops Q S T fuel (listed.setIfInBounds i true) a w → K a w) → Oper.wp P oi a w K Q)
    (h2 : ∀ K : Act → World → Prop, Hid (∀ a w, (T.contains j = false → S w) → AnyD P md ops Q S T fuel (listed.setIfInBounds j true) a w → K a w) → Oper.wp P oj a w K Q) : AnyD P md ops Q S T (fuel + 1) listed a w :=
  ⟨fun e => by rw [hr] at e; simp at e, fun k hk => by
    rw [hr] at hk
    rcases List.mem_cons.1 hk with rfl | hk
    · exact wpOp_step hi (fun K hK => by
        rw [if_pos (by simp [Region.wanted, hgi])]
        exact h1 K (Lib.hid fun a w h1 h2 => hK a w ⟨h1, h2⟩))
    · obtain rfl := List.mem_singleton.1 hk
      exact wpOp_step hj (fun K hK => by
        rw [if_pos (by simp [Region.wanted, hgj])]
        exact h2 K (Lib.hid fun a w h1 h2 => hK a w ⟨h1, h2⟩))⟩
end
/-- The document's disk with its blocks. -/
structure RL (w : World) (q : Nat) (M : Nat → Prop) (S : Nat) (SF NW : Int → List Nat) (l : List WrV) (wr : Int) (gone : Bool) : Prop where
  ex : ∃ (sb nb ac dc : Nat) (AA DA : Option Addr) (lb : List (Nat × Nat)), RDm w q sb nb AA ac DA dc S SF NW l lb wr gone ∧ M q ∧ M sb ∧ M nb ∧ (∀ a, AA = some a → M a.block) ∧ (∀ a, DA = some a → M a.block) ∧ ∀ p ∈ lb, M p.1
  lt : ∀ b, M b → b < w.heap.size
/-- What a call leaves. -/
structure RN (w w' : World) (q : Nat) (M : Nat → Prop) (S : Nat) (SF NW : Int → List Nat) (l : List WrV) (wr : Int) (gone : Bool) : Prop where
  ex : ∃ M', RL w' q M' S SF NW l wr gone ∧ ∀ b, M' b → M b ∨ w.heap.size ≤ b
  fr : Fr w w' M
section
variable {w w' : World} {q sb nb ac dc S : Nat} {AA DA : Option Addr} {SF NW : Int → List Nat} {l : List WrV} {lb : List (Nat × Nat)} {wr : Int} {gone : Bool} {M : Nat → Prop}
theorem RL.fr (h : RL w q M S SF NW l wr gone) {P : Nat → Prop} (hf : Fr w w' P) (hP : ∀ b, M b → ¬ P b) : RL w' q M S SF NW l wr gone := by
  obtain ⟨sb, nb, ac, dc, AA, DA, lb, h1, h2, h3, h4, h5, h6, h7⟩ := h.ex
  exact ⟨⟨sb, nb, ac, dc, AA, DA, lb, h1.fr hf (hP _ h2) (hP _ h3) (hP _ h4) (fun a ha => hP _ (h5 a ha)) (fun a ha => hP _ (h6 a ha)) (fun p hp => hP _ (h7 p hp)), h2, h3, h4, h5, h6, h7⟩, fun b hb => Nat.lt_of_lt_of_le (h.lt b hb) hf.size⟩
theorem RL.ext (h : RL w q M S SF NW l wr gone) (hx : Ext w w') : RL w' q M S SF NW l wr gone := h.fr (Fr.of_ext hx (fun _ => False)) (fun _ _ h => h)
theorem RN.same (h : RL w q M S SF NW l wr gone) (hx : Ext w w') : RN w w' q M S SF NW l wr gone := ⟨⟨M, h.ext hx, fun b hb => .inl hb⟩, Fr.of_ext hx M⟩
/-- Both lists of what waits are empty. -/
theorem RDm.clear (h : RDm w q sb nb AA ac DA dc S SF NW l lb wr gone) : RDm ((w.setCell ⟨q, 2, none⟩ (.slice none 0 0)).setCell ⟨q, 3, none⟩ (.slice none 0 0)) q sb nb none 0 none 0 S SF NW [] [] wr gone ∧ Fr w ((w.setCell ⟨q, 2, none⟩ (.slice none 0 0)).setCell ⟨q, 3, none⟩ (.slice none 0 0)) (· = q) := by
  have f1 := Fr.store w ⟨q, 2, none⟩ (.slice none 0 0)
  have f2 := Fr.store (w.setCell ⟨q, 2, none⟩ (.slice none 0 0)) ⟨q, 3, none⟩ (.slice none 0 0)
  have ff := f1.trans f2 (fun _ _ h => h)
  have k1 := heap_setCell_same w q 2 _ _ (.slice none 0 0) h.blk
  have k2 := heap_setCell_same (w.setCell ⟨q, 2, none⟩ (.slice none 0 0)) q 3 _ _ (.slice none 0 0) k1
  exact ⟨⟨k2, ff.own h.sf (fun a ha => by injection ha with ha; subst ha; exact h.d3.2.1), ff.own h.nw (fun a ha => by injection ha with ha; subst ha; exact h.d3.2.2), Own.nil_, Own.nil_, (fun k x hx => by simp at hx), ⟨h.ss.1, h.ss.2.1, (fun x hx => by cases hx), (fun x hx => by cases hx)⟩, h.sr, h.d3, (fun a ha => by cases ha), (fun a ha => by cases ha), (fun p hp => by cases hp)⟩, ff⟩
theorem RDm.gone_ (h : RDm w q sb nb AA ac DA dc S SF NW l lb wr gone) : RDm (w.setCell ⟨q, 5, none⟩ (.bool true)) q sb nb AA ac DA dc S SF NW l lb wr true ∧ Fr w (w.setCell ⟨q, 5, none⟩ (.bool true)) (· = q) := by
  have ff := Fr.store w ⟨q, 5, none⟩ (.bool true)
  have k1 := heap_setCell_same w q 5 _ _ (.bool true) h.blk
  exact ⟨⟨k1, ff.own h.sf (fun a ha => by injection ha with ha; subst ha; exact h.d3.2.1), ff.own h.nw (fun a ha => by injection ha with ha; subst ha; exact h.d3.2.2), ff.own h.at_ (fun a ha => (h.dA a ha).1), ff.own h.da (fun a ha => (h.dD a ha).1), fun k x hx => by
    obtain ⟨p, hp, hr⟩ := h.el k x hx
    exact ⟨p, hp, ff.rd hr (fun a ha => by injection ha with ha; subst ha; exact (h.dE p (List.mem_of_getElem? hp)).1)⟩, h.ss, h.sr, h.d3, h.dA, h.dD, h.dE⟩, ff⟩
/-- Safe becomes what is now. -/
theorem RDm.flushed (h : RDm w q sb nb AA ac DA dc S SF NW l lb wr gone) : RDm (w.setCells sb 0 (u8s (fl NW S))) q sb nb AA ac DA dc S NW NW l lb wr gone ∧ Fr w (w.setCells sb 0 (u8s (fl NW S))) (· = sb) := by
  have ff := Fr.setCells (g := sb) (u8s (fl NW S)) 0 w
  have hl : (u8s (fl NW S)).length = 64 * S := by rw [u8s_len, fl_len h.ss.2.1]
  have o1 := own_setCells h.sf (p := 0) (ds := u8s (fl NW S)) (by omega)
  rw [List.take_zero, List.nil_append, List.drop_eq_nil_of_le (by rw [Nat.zero_add, u8s_len, fl_len h.ss.1, hl]; exact Nat.le_refl _), List.append_nil] at o1
  exact ⟨⟨(ff.block q (block_lt h.blk) (fun e => h.d3.2.1 e.symm)).trans h.blk, o1, ff.own h.nw (fun a ha => by injection ha with ha; subst ha; exact fun e => h.d3.1 e.symm), ff.own h.at_ (fun a ha => (h.dA a ha).2.1), ff.own h.da (fun a ha => (h.dD a ha).2.1), fun k x hx => by
    obtain ⟨p, hp, hr⟩ := h.el k x hx
    exact ⟨p, hp, ff.rd hr (fun a ha => by injection ha with ha; subst ha; exact (h.dE p (List.mem_of_getElem? hp)).2.1)⟩, ⟨h.ss.2.1, h.ss.2.1, h.ss.2.2⟩, h.sr, h.d3, h.dA, h.dD, h.dE⟩, ff⟩
theorem oper_make {P : Program} {w w' : World} {K : Act → World → Prop} {Q : Exit → Act → World → Prop} {op : Oper} {a : Act} (t : TypeId) (x y : Operand) {u v r : Value} (ho : op.op = .makeSlice t x y) (hx : a.eval x = u) (hy : a.eval y = v) (hrun : (Instr.makeSlice t u v).run P w = .ok r w') (h : K (a.put op.dst r) w') : op.wp P a w K Q := by
  unfold Oper.wp execOp
  simp only [ho, hx, hy, Sem.run_bind, hrun, Result.andThen_ok, Sem.run_pure]
  exact h
theorem u8s_fl0 : ∀ S : Nat, u8s (fl (fun _ => z64) S) = List.replicate (64 * S) (.int .u8 0)
  | 0 => rfl
  | S + 1 => by
    rw [fl_succ, u8s_append, u8s_fl0 S, show u8s z64 = List.replicate 64 (.int .u8 0) from rfl, List.replicate_append_replicate]
    congr 1
theorem make_u8 (n64 : Nat) (hn : n64 ≤ 65536) (W : World) : (Instr.makeSlice 32 (.int .i64 (n64 : Int)) (.int .i64 (n64 : Int))).run Tryd.prog W = .ok (.slice (some ⟨W.heap.size, 0, none⟩) n64 n64) (W.alloc (.cells (List.replicate n64 (.int .u8 0)).toArray 5)) := by
  obtain ⟨i, hi, hz, hs, hby⟩ := info_parts eltU8.info
  have hr := run_make (P := Tryd.prog) W 32 5 i (.int .u8 0) eltU8.under hi hz .i64 .i64 n64 n64 (by omega) (Int.le_refl _) (by rw [hby]; omega) (by omega)
  rw [hr, hs, Nat.mul_one, Int.toNat_natCast]
  congr 3
  rw [← Array.toArray_toList (xs := madeCells _ _)]
  congr 1
  exact madeCells_one _ _
theorem rnew_done {S n64 : Nat} (hn : 64 * S = n64) (hs : 1 ≤ S ∧ S ≤ 1024) {W : World} {sb nb q k : Nat} (hq : W.heap[q]? = some (.cells #[.slice (some ⟨sb, 0, none⟩) n64 n64, .slice (some ⟨nb, 0, none⟩) n64 n64, .slice none 0 0, .slice none 0 0, .int .i64 0, .bool false] 53 (0, 0)))
    (h1 : W.heap[sb]? = some (.cells (List.replicate n64 (.int .u8 0)).toArray 5 (0, 0))) (h2 : W.heap[nb]? = some (.cells (List.replicate n64 (.int .u8 0)).toArray 5 (0, 0))) (hd : sb ≠ nb ∧ sb ≠ q ∧ nb ≠ q) (hk : k ≤ sb ∧ k ≤ nb ∧ k ≤ q) :
    ∃ M, RL W q M S (fun _ => z64) (fun _ => z64) [] 0 false ∧ ∀ b, M b → k ≤ b := by
  subst hn
  have ow : ∀ b, W.heap[b]? = some (.cells (List.replicate (64 * S) (.int .u8 0)).toArray 5 (0, 0)) → Own W 0 5 1 (some ⟨b, 0, none⟩) (64 * S) (64 * S) (u8s (fl (fun _ => z64) S)) := fun b hb => by
    rw [u8s_fl0]
    exact ⟨by simp, .inr ⟨b, 64 * S, _, rfl, Nat.zero_le _, hb, Nat.le_refl _, by simp [maxLen]; omega, by simp, by simp⟩⟩
  refine ⟨fun b => b = q ∨ b = sb ∨ b = nb, ⟨⟨sb, nb, 0, 0, none, none, [], ⟨hq, ow sb h1, ow nb h2, Own.nil_, Own.nil_, (fun k x hx => by simp at hx), ⟨fun _ => isSec_z64, fun _ => isSec_z64, (fun x hx => by cases hx), (fun x hx => by cases hx)⟩, hs, hd, (fun a ha => by cases ha), (fun a ha => by cases ha), (fun p hp => by cases hp)⟩, .inl rfl, .inr (.inl rfl), .inr (.inr rfl), (fun a ha => by cases ha), (fun a ha => by cases ha), (fun p hp => by cases hp)⟩, fun b hb => ?_⟩, fun b hb => ?_⟩
  · rcases hb with e | e | e <;> rw [e]
    · exact block_lt hq
    · exact block_lt h1
    · exact block_lt h2
  · rcases hb with e | e | e <;> rw [e]
    · exact hk.2.2
    · exact hk.1
    · exact hk.2.1
set_option maxHeartbeats 3200000 in
theorem rnew_any (w : World) (S : Nat) (hs : 1 ≤ S ∧ S ≤ 1024) : Calls Tryd.prog 16 #[.int .i64 (S : Int)] w fun e w' => ∃ q M, e = .returned (.pointer (some ⟨q, 0, none⟩)) ∧ RL w' q M S (fun _ => z64) (fun _ => z64) [] 0 false ∧ (∀ b, M b → w.heap.size ≤ b) ∧ Ext w w' := by
  obtain ⟨n64, hn64⟩ : ∃ n64, 64 * S = n64 := ⟨_, rfl⟩
  have hI : (64 : Int) * (S : Int) = (n64 : Int) := by omega
  have hnb : n64 ≤ 65536 := by omega
  have hm := make_u8 n64 hnb
  have wq : IntKind.i64.wrap (n64 : Int) = n64 := by rw [IntKind.wrap_i64]; omega
  have HN := Lib.hid (And.intro hn64 hs)
  obtain ⟨ZC, hZC⟩ : ∃ ZC : Array Value, (List.replicate n64 (.int .u8 0)).toArray = ZC := ⟨_, rfl⟩
  rw [hZC] at hm
  have HZ := Lib.hid hZC
  clear hn64 hZC
  have HS1 : True := trivial
  go_enter Tryd.func16, Tryd.ntmps16
  go_upto_region 1 with (fail)
  refine d_region (fun W : World => True) [] (by kernel_rfl) ?_
  refine d_take (i := 0) (v := ?_) [] (some 3) rfl (by rfl) (by kernel_rfl) (by kernel_rfl) (by kernel_rfl) (by kernel_rfl) (by kernel_rfl) (by kernel_rfl) (fun _ _ _ h => h) (.inl ⟨by rfl, ?_⟩) HS1 ?_
  rotate_left 1
  · (intro W hW; (try dsimp only at hW); go_simp; try with_reducible rfl)
  try simp only [Act.put, List.setIfInBounds_toArray, List.set_cons_zero, List.set_cons_succ]
  refine d_take (i := 1) (v := ?_) [] (some 4) rfl (by rfl) (by kernel_rfl) (by kernel_rfl) (by kernel_rfl) (by kernel_rfl) (by kernel_rfl) (by kernel_rfl) (fun _ _ _ h => h) (.inl ⟨by rfl, ?_⟩) HS1 ?_
  rotate_left 1
  · (intro W hW; (try dsimp only at hW); go_simp; try with_reducible rfl)
  try simp only [Act.put, List.setIfInBounds_toArray, List.set_cons_zero, List.set_cons_succ]
  refine d_take (i := 3) (v := ?_) [] (some 6) rfl (by rfl) (by kernel_rfl) (by kernel_rfl) (by kernel_rfl) (by kernel_rfl) (by kernel_rfl) (by kernel_rfl) (fun _ _ _ h => h) (.inl ⟨by rfl, ?_⟩) HS1 ?_
  rotate_left 1
  · (intro W hW; (try dsimp only at hW); go_simp; try with_reducible rfl)
  try simp only [Act.put, List.setIfInBounds_toArray, List.set_cons_zero, List.set_cons_succ]
  refine d_take (i := 4) (v := ?_) [] (some 7) rfl (by rfl) (by kernel_rfl) (by kernel_rfl) (by kernel_rfl) (by kernel_rfl) (by kernel_rfl) (by kernel_rfl) (fun _ _ _ h => h) (.inl ⟨by rfl, ?_⟩) HS1 ?_
  rotate_left 1
  · (intro W hW; (try dsimp only at hW); go_simp; try with_reducible rfl)
  try simp only [Act.put, List.setIfInBounds_toArray, List.set_cons_zero, List.set_cons_succ]
  refine d_two (i := 2) (j := 5) (by kernel_rfl) rfl rfl rfl rfl (fun K hK => ?_) (fun K hK => ?_)
  · simp only [List.getElem_toArray, List.getElem_cons_succ, List.getElem_cons_zero]
    refine oper_make 32 (.tmp 4) (.tmp 4) rfl rfl rfl (hm _) ?_
    refine hK.out _ _ (fun _ => trivial) ?_
    clear hK K
    try simp only [Act.put, List.setIfInBounds_toArray, List.set_cons_zero, List.set_cons_succ]
    refine d_one (i := 5) (by kernel_rfl) rfl rfl (fun K hK => ?_)
    simp only [List.getElem_toArray, List.getElem_cons_succ, List.getElem_cons_zero]
    refine oper_make 32 (.tmp 7) (.tmp 7) rfl rfl rfl (hm _) ?_
    refine hK.out _ _ (fun _ => trivial) ?_
    clear hK K
    try simp only [Act.put, List.setIfInBounds_toArray, List.set_cons_zero, List.set_cons_succ]
    clear hm wq
    refine d_one (i := 6) (by kernel_rfl) rfl rfl (fun K hK => ?_)
    simp only [List.getElem_toArray, List.getElem_cons_succ, List.getElem_cons_zero]
    go_simp
    refine hK.out _ _ (fun _ => trivial) ?_
    clear hK K
    try simp only [Act.put, List.setIfInBounds_toArray, List.set_cons_zero, List.set_cons_succ]
    refine d_one (i := 7) (by kernel_rfl) rfl rfl (fun K hK => ?_)
    simp only [List.getElem_toArray, List.getElem_cons_succ, List.getElem_cons_zero]
    go_simp
    refine hK.out _ _ (fun _ => trivial) ?_
    clear hK K
    try simp only [Act.put, List.setIfInBounds_toArray, List.set_cons_zero, List.set_cons_succ]
    refine d_one (i := 8) (by kernel_rfl) rfl rfl (fun K hK => ?_)
    simp only [List.getElem_toArray, List.getElem_cons_succ, List.getElem_cons_zero]
    go_simp
    refine hK.out _ _ (fun _ => trivial) ?_
    clear hK K
    try simp only [Act.put, List.setIfInBounds_toArray, List.set_cons_zero, List.set_cons_succ]
    refine d_done (by kernel_rfl) ?_ _
    clear HS1
    have e1 : (w.alloc (.cells ZC 5)).heap.size = w.heap.size + 1 := World.size_alloc _ _
    have e2 : ((w.alloc (.cells ZC 5)).alloc (.cells ZC 5)).heap.size = w.heap.size + 1 + 1 := by rw [World.size_alloc, e1]
    have k1 := heap_alloc_new w (.cells ZC 5)
    have k2 := heap_alloc_new (w.alloc (.cells ZC 5)) (.cells ZC 5)
    have k3 := heap_alloc_new ((w.alloc (.cells ZC 5)).alloc (.cells ZC 5)) (.cells #[.slice (some ⟨w.heap.size, 0, none⟩) n64 n64, .slice (some ⟨w.heap.size + 1, 0, none⟩) n64 n64, .slice none 0 0, .slice none 0 0, .int .i64 0, .bool false] 53)
    rw [e1] at k2
    rw [e2] at k3
    have y1 := (Ext.refl w).alloc (.cells ZC 5)
    have y2 := (Ext.refl (w.alloc (.cells ZC 5))).alloc (.cells ZC 5)
    have y3 := ((Ext.refl ((w.alloc (.cells ZC 5)).alloc (.cells ZC 5))).alloc (.cells #[.slice (some ⟨w.heap.size, 0, none⟩) n64 n64, .slice (some ⟨w.heap.size + 1, 0, none⟩) n64 n64, .slice none 0 0, .slice none 0 0, .int .i64 0, .bool false] 53)).drew
    obtain ⟨M, hR, hM⟩ := rnew_done (k := w.heap.size) HN.out.1 HN.out.2 k3 (by rw [HZ.out]; exact ((y2.trans y3).block _ (block_lt k1)).trans k1) (by rw [HZ.out]; exact (y3.block _ (block_lt k2)).trans k2) (by omega) (by omega)
    have HR := Lib.hid (And.intro (hR.ext (Ext.refl _).drew) (And.intro hM (y1.trans (y2.trans y3))))
    clear e1 e2 k1 k2 k3 y1 y2 y3 hR hM
    go_wp2_with fail
    go_returns
    exact ⟨_, rfl, M, HR.out⟩
  · simp only [List.getElem_toArray, List.getElem_cons_succ, List.getElem_cons_zero]
    refine oper_make 32 (.tmp 7) (.tmp 7) rfl rfl rfl (hm _) ?_
    refine hK.out _ _ (fun _ => trivial) ?_
    clear hK K
    try simp only [Act.put, List.setIfInBounds_toArray, List.set_cons_zero, List.set_cons_succ]
    refine d_one (i := 2) (by kernel_rfl) rfl rfl (fun K hK => ?_)
    simp only [List.getElem_toArray, List.getElem_cons_succ, List.getElem_cons_zero]
    refine oper_make 32 (.tmp 4) (.tmp 4) rfl rfl rfl (hm _) ?_
    refine hK.out _ _ (fun _ => trivial) ?_
    clear hK K
    try simp only [Act.put, List.setIfInBounds_toArray, List.set_cons_zero, List.set_cons_succ]
    clear hm wq
    refine d_one (i := 6) (by kernel_rfl) rfl rfl (fun K hK => ?_)
    simp only [List.getElem_toArray, List.getElem_cons_succ, List.getElem_cons_zero]
    go_simp
    refine hK.out _ _ (fun _ => trivial) ?_
    clear hK K
    try simp only [Act.put, List.setIfInBounds_toArray, List.set_cons_zero, List.set_cons_succ]
    refine d_one (i := 7) (by kernel_rfl) rfl rfl (fun K hK => ?_)
    simp only [List.getElem_toArray, List.getElem_cons_succ, List.getElem_cons_zero]
    go_simp
    refine hK.out _ _ (fun _ => trivial) ?_
    clear hK K
    try simp only [Act.put, List.setIfInBounds_toArray, List.set_cons_zero, List.set_cons_succ]
    refine d_one (i := 8) (by kernel_rfl) rfl rfl (fun K hK => ?_)
    simp only [List.getElem_toArray, List.getElem_cons_succ, List.getElem_cons_zero]
    go_simp
    refine hK.out _ _ (fun _ => trivial) ?_
    clear hK K
    try simp only [Act.put, List.setIfInBounds_toArray, List.set_cons_zero, List.set_cons_succ]
    refine d_done (by kernel_rfl) ?_ _
    clear HS1
    have e1 : (w.alloc (.cells ZC 5)).heap.size = w.heap.size + 1 := World.size_alloc _ _
    have e2 : ((w.alloc (.cells ZC 5)).alloc (.cells ZC 5)).heap.size = w.heap.size + 1 + 1 := by rw [World.size_alloc, e1]
    have k1 := heap_alloc_new w (.cells ZC 5)
    have k2 := heap_alloc_new (w.alloc (.cells ZC 5)) (.cells ZC 5)
    have k3 := heap_alloc_new ((w.alloc (.cells ZC 5)).alloc (.cells ZC 5)) (.cells #[.slice (some ⟨w.heap.size + 1, 0, none⟩) n64 n64, .slice (some ⟨w.heap.size, 0, none⟩) n64 n64, .slice none 0 0, .slice none 0 0, .int .i64 0, .bool false] 53)
    rw [e1] at k2
    rw [e2] at k3
    have y1 := (Ext.refl w).alloc (.cells ZC 5)
    have y2 := (Ext.refl (w.alloc (.cells ZC 5))).alloc (.cells ZC 5)
    have y3 := ((Ext.refl ((w.alloc (.cells ZC 5)).alloc (.cells ZC 5))).alloc (.cells #[.slice (some ⟨w.heap.size + 1, 0, none⟩) n64 n64, .slice (some ⟨w.heap.size, 0, none⟩) n64 n64, .slice none 0 0, .slice none 0 0, .int .i64 0, .bool false] 53)).drew
    obtain ⟨M, hR, hM⟩ := rnew_done (k := w.heap.size) HN.out.1 HN.out.2 k3 (by rw [HZ.out]; exact (y3.block _ (block_lt k2)).trans k2) (by rw [HZ.out]; exact ((y2.trans y3).block _ (block_lt k1)).trans k1) (by omega) (by omega)
    have HR := Lib.hid (And.intro (hR.ext (Ext.refl _).drew) (And.intro hM (y1.trans (y2.trans y3))))
    clear e1 e2 k1 k2 k3 y1 y2 y3 hR hM
    go_wp2_with fail
    go_returns
    exact ⟨_, rfl, M, HR.out⟩
set_option maxHeartbeats 1600000 in
theorem rflush_gone (h : RL w q M S SF NW l wr true) : Calls Tryd.prog 26 #[.pointer (some ⟨q, 0, none⟩)] w fun e w' => e = .returned (.int .i64 9) ∧ Ext w w' := by
  obtain ⟨sb, nb, ac, dc, AA, DA, lb, h1, _⟩ := h.ex
  obtain ⟨c0, c1, c2, c3, c4, c5⟩ := h1.cells
  clear h h1
  go_enter Tryd.func26, Tryd.ntmps26
  go_wp2_with fail
  go_returns
  exact ⟨rfl, Ext.refl w⟩
set_option maxHeartbeats 3200000 in
theorem rflush_ok (h : RL w q M S SF NW l wr false) : Calls Tryd.prog 26 #[.pointer (some ⟨q, 0, none⟩)] w fun e w' => e = .returned (.int .i64 0) ∧ RN w w' q M S NW NW [] wr false := by
  obtain ⟨sb, nb, ac, dc, AA, DA, lb, h1, m1, m2, m3, m4, m5, m6⟩ := h.ex
  obtain ⟨c0, c1, c2, c3, c4, c5⟩ := h1.cells
  have HD := Lib.hid (h1.ex (Ext.refl w).drew)
  have HM := Lib.hid (And.intro m1 (And.intro m2 (And.intro m3 h.lt)))
  obtain ⟨n64, hn64⟩ : ∃ n64, 64 * S = n64 := ⟨_, rfl⟩
  rw [hn64] at c0 c1
  have hsr := h1.sr
  have hnb : n64 ≤ 65536 := by omega
  have HN := Lib.hid hn64
  have HS1 : w.drew.cell? ⟨q, 0, none⟩ = some (.slice (some ⟨sb, 0, none⟩) n64 n64) ∧ w.drew.cell? ⟨q, 1, none⟩ = some (.slice (some ⟨nb, 0, none⟩) n64 n64) := ⟨c0, c1⟩
  have hl : (u8s (fl NW S)).length = n64 := by rw [u8s_len, fl_len HD.out.ss.2.1, hn64]
  have RC := Lib.hid (run_copy_cells (P := Tryd.prog) w.drew 32 32 3 5 sb 0 n64 n64 ⟨nb, 0, none⟩ n64 n64 (u8s (fl NW S)) Tryd.underlying32 (by kernel_rfl) (by rw [hl]; exact (Nat.min_self _).symm)
    (fun j v hv => by
      rw [Addr.add_mid, Nat.zero_add]
      exact HD.out.nw.celln hv)
    (fun j hj => by
      rw [Nat.zero_add]
      have h2 := HD.out.sf.len
      rw [HD.out.sf.celln (List.getElem?_eq_getElem (show j < (u8s (fl SF S)).length from by omega))]
      rfl)
    (fun j hj => by rw [Nat.zero_add]; exact HD.out.sf.frozenAt j) (u8s_one _))
  have F1 := HD.out.flushed
  have F2 := F1.1.clear
  have HR := Lib.hid (show RN w _ q M S NW NW [] wr false from ⟨⟨fun b => b = q ∨ b = sb ∨ b = nb, ⟨⟨sb, nb, 0, 0, none, none, [], F2.1, .inl rfl, .inr (.inl rfl), .inr (.inr rfl), (fun a ha => by cases ha), (fun a ha => by cases ha), (fun p hp => by cases hp)⟩, fun b hb => by
    have z1 := F1.2.size
    have z2 := F2.2.size
    have z3 : w.drew.heap.size = w.heap.size := rfl
    rcases hb with e | e | e <;> rw [e]
    · have := HM.out.2.2.2 q HM.out.1; omega
    · have := HM.out.2.2.2 sb HM.out.2.1; omega
    · have := HM.out.2.2.2 nb HM.out.2.2.1; omega⟩, fun b hb => .inl (by
    rcases hb with e | e | e <;> rw [e]
    · exact HM.out.1
    · exact HM.out.2.1
    · exact HM.out.2.2.1)⟩, ((Fr.of_ext (Ext.refl w).drew M).trans F1.2 (fun i _ e => by rw [e]; exact HM.out.2.1)).trans F2.2 (fun i _ e => by rw [e]; exact HM.out.1)⟩)
  have B1 := F1.1.blk
  have b2 : (w.drew.setCells sb 0 (u8s (fl NW S))).frozen? ⟨q, 2, none⟩ = false := block_fz B1 2
  have b3 : (w.drew.setCells sb 0 (u8s (fl NW S))).frozen? ⟨q, 3, none⟩ = false := block_fz B1 3
  have e2 : (w.drew.setCells sb 0 (u8s (fl NW S))).cell? ⟨q, 2, none⟩ = some (.slice AA l.length ac) := block_cell B1 2
  have e3 : (w.drew.setCells sb 0 (u8s (fl NW S))).cell? ⟨q, 3, none⟩ = some (.slice DA l.length dc) := block_cell B1 3
  clear h h1 m1 m2 m3 m4 m5 m6 hn64 hl F1 F2 B1
  go_enter Tryd.func26, Tryd.ntmps26
  go_upto_region 3 with (fail)
  clear c0 c1 c2 c3 c4 c5
  refine d_region (fun W : World => W.cell? ⟨q, 0, none⟩ = some (.slice (some ⟨sb, 0, none⟩) n64 n64) ∧ W.cell? ⟨q, 1, none⟩ = some (.slice (some ⟨nb, 0, none⟩) n64 n64)) [8] (by kernel_rfl) ?_
  refine d_take (i := 0) (v := ?_) [1, 2, 3, 8] (some 7) rfl (by rfl) (by kernel_rfl) (by kernel_rfl) (by kernel_rfl) (by kernel_rfl) (by kernel_rfl) (by kernel_rfl) (fun _ _ _ h => h) (.inl ⟨by rfl, ?_⟩) HS1 ?_
  rotate_left 1
  · (intro W hW; (try dsimp only at hW); go_simp; try with_reducible rfl)
  try simp only [Act.put, List.setIfInBounds_toArray, List.set_cons_zero, List.set_cons_succ]
  refine d_take (i := 1) (v := ?_) [2, 3, 8] (some 8) rfl (by rfl) (by kernel_rfl) (by kernel_rfl) (by kernel_rfl) (by kernel_rfl) (by kernel_rfl) (by kernel_rfl) (fun _ _ _ h => h) (.inl ⟨by rfl, ?_⟩) HS1 ?_
  rotate_left 1
  · (intro W hW; (try dsimp only at hW); go_simp; try with_reducible rfl)
  try simp only [Act.put, List.setIfInBounds_toArray, List.set_cons_zero, List.set_cons_succ]
  refine d_take (i := 2) (v := ?_) [3, 8] (some 9) rfl (by rfl) (by kernel_rfl) (by kernel_rfl) (by kernel_rfl) (by kernel_rfl) (by kernel_rfl) (by kernel_rfl) (fun _ _ _ h => h) (.inl ⟨by rfl, ?_⟩) HS1 ?_
  rotate_left 1
  · (intro W hW; (try dsimp only at hW); go_simp; try with_reducible rfl)
  try simp only [Act.put, List.setIfInBounds_toArray, List.set_cons_zero, List.set_cons_succ]
  refine d_take (i := 3) (v := ?_) [8] (some 10) rfl (by rfl) (by kernel_rfl) (by kernel_rfl) (by kernel_rfl) (by kernel_rfl) (by kernel_rfl) (by kernel_rfl) (fun _ _ _ h => h) (.inl ⟨by rfl, ?_⟩) HS1 ?_
  rotate_left 1
  · (intro W hW; (try dsimp only at hW); go_simp; try with_reducible rfl)
  try simp only [Act.put, List.setIfInBounds_toArray, List.set_cons_zero, List.set_cons_succ]
  refine d_take (i := 4) (v := ?_) [5, 6, 7, 8] (some 11) rfl (by rfl) (by kernel_rfl) (by kernel_rfl) (by kernel_rfl) (by kernel_rfl) (by kernel_rfl) (by kernel_rfl) (fun _ _ _ h => h) (.inl ⟨by rfl, ?_⟩) HS1 ?_
  rotate_left 1
  · (intro W hW; (try dsimp only at hW); go_simp; try with_reducible rfl)
  try simp only [Act.put, List.setIfInBounds_toArray, List.set_cons_zero, List.set_cons_succ]
  refine d_take (i := 5) (v := ?_) [6, 7, 8] (some 12) rfl (by rfl) (by kernel_rfl) (by kernel_rfl) (by kernel_rfl) (by kernel_rfl) (by kernel_rfl) (by kernel_rfl) (fun _ _ _ h => h) (.inl ⟨by rfl, ?_⟩) HS1 ?_
  rotate_left 1
  · (intro W hW; (try dsimp only at hW); go_simp; try with_reducible rfl)
  try simp only [Act.put, List.setIfInBounds_toArray, List.set_cons_zero, List.set_cons_succ]
  refine d_take (i := 6) (v := ?_) [7, 8] (some 13) rfl (by rfl) (by kernel_rfl) (by kernel_rfl) (by kernel_rfl) (by kernel_rfl) (by kernel_rfl) (by kernel_rfl) (fun _ _ _ h => h) (.inl ⟨by rfl, ?_⟩) HS1 ?_
  rotate_left 1
  · (intro W hW; (try dsimp only at hW); go_simp; try with_reducible rfl)
  try simp only [Act.put, List.setIfInBounds_toArray, List.set_cons_zero, List.set_cons_succ]
  refine d_take (i := 7) (v := ?_) [8] (some 14) rfl (by rfl) (by kernel_rfl) (by kernel_rfl) (by kernel_rfl) (by kernel_rfl) (by kernel_rfl) (by kernel_rfl) (fun _ _ _ h => h) (.inl ⟨by rfl, ?_⟩) HS1 ?_
  rotate_left 1
  · (intro W hW; (try dsimp only at hW); go_simp; try with_reducible rfl)
  try simp only [Act.put, List.setIfInBounds_toArray, List.set_cons_zero, List.set_cons_succ]
  refine d_one (i := 8) (by kernel_rfl) rfl rfl (fun K hK => ?_)
  simp only [List.getElem_toArray, List.getElem_cons_succ, List.getElem_cons_zero]
  refine oper_copy (.tmp 10) (.tmp 14) rfl rfl rfl RC.out ?_
  refine hK.out _ _ (fun h => absurd h (by decide)) ?_
  clear hK K RC HS1
  generalize w.drew.setCells sb 0 (u8s (fl NW S)) = V at *
  try simp only [Act.put, List.setIfInBounds_toArray, List.set_cons_zero, List.set_cons_succ]
  refine d_done (by kernel_rfl) ?_ _
  go_wp2_with fail
  go_returns
  exact ⟨rfl, HR.out⟩
set_option maxHeartbeats 1600000 in
theorem rlose_any (h : RL w q M S SF NW l wr gone) : Calls Tryd.prog 29 #[.pointer (some ⟨q, 0, none⟩)] w fun e w' => e = .returned (.tuple #[]) ∧ RN w w' q M S SF NW [] wr true := by
  obtain ⟨sb, nb, ac, dc, AA, DA, lb, h1, m1, m2, m3, m4, m5, m6⟩ := h.ex
  obtain ⟨c0, c1, c2, c3, c4, c5⟩ := h1.cells
  have hlt := h.lt
  have F1 := h1.gone_
  have F2 := F1.1.clear
  have HR := Lib.hid (show RN w _ q M S SF NW [] wr true from ⟨⟨fun b => b = q ∨ b = sb ∨ b = nb, ⟨⟨sb, nb, 0, 0, none, none, [], F2.1, .inl rfl, .inr (.inl rfl), .inr (.inr rfl), (fun a ha => by cases ha), (fun a ha => by cases ha), (fun p hp => by cases hp)⟩, fun b hb => by
    have z1 := F1.2.size
    have z2 := F2.2.size
    rcases hb with e | e | e <;> rw [e]
    · have := hlt q m1; omega
    · have := hlt sb m2; omega
    · have := hlt nb m3; omega⟩, fun b hb => .inl (by
    rcases hb with e | e | e <;> rw [e] <;> assumption)⟩, (F1.2.mono (fun i _ e => by rw [e]; exact m1)).trans F2.2 (fun i _ e => by rw [e]; exact m1)⟩)
  have B1 := F1.1.blk
  have z5 := block_fz h1.blk 5
  have b2 : (w.setCell ⟨q, 5, none⟩ (.bool true)).frozen? ⟨q, 2, none⟩ = false := block_fz B1 2
  have b3 : (w.setCell ⟨q, 5, none⟩ (.bool true)).frozen? ⟨q, 3, none⟩ = false := block_fz B1 3
  have e2 : (w.setCell ⟨q, 5, none⟩ (.bool true)).cell? ⟨q, 2, none⟩ = some (.slice AA l.length ac) := block_cell B1 2
  have e3 : (w.setCell ⟨q, 5, none⟩ (.bool true)).cell? ⟨q, 3, none⟩ = some (.slice DA l.length dc) := block_cell B1 3
  clear h h1 m1 m2 m3 m4 m5 m6 F1 F2 B1 hlt
  go_enter Tryd.func29, Tryd.ntmps29
  go_wp2_with fail
  go_returns
  exact ⟨rfl, HR.out⟩
end
end Go.Proofs.YtchkeclhnbekkaaDoor
