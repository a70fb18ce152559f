/-
  The document's guest: New, walked.
-/
import Derived.Test.YtbpbmelfhgbogaaDoorGmNext
namespace Go.Proofs.YtbpbmelfhgbogaaDoor
set_option maxRecDepth 100000
open Go.RowKit
set_option linter.unusedVariables false
section
variable {P : Program} {ops : Array Oper} {Q : Exit → Act → World → Prop} {md : Region.Mode} {S : World → Prop} {T : List Nat}
/-- One of two may come up. -/
theorem d_two {i j : Nat} {oi oj : Oper} {fuel : Nat} {listed : Array Bool} {a : Act} {w : World} (hr : Region.ready md ops listed = [i, j]) (hi : ops[i]? = some oi) (hj : ops[j]? = some oj) (hgi : oi.guard = none) (hgj : oj.guard = none)
    (h1 : ∀ K : Act → World → Prop, Hid (∀ a w, (T.contains i = false → S w) → AnyD P md ops Q S T fuel (listed.setIfInBounds i true) a w → K a w) → Oper.wp P oi a w K Q)
    (h2 : ∀ K : Act → World → Prop, Hid (∀ a w, (T.contains j = false → S w) → AnyD P md ops Q S T fuel (listed.setIfInBounds j true) a w → K a w) → Oper.wp P oj a w K Q) : AnyD P md ops Q S T (fuel + 1) listed a w :=
  ⟨fun e => by rw [hr] at e; simp at e, fun k hk => by
    rw [hr] at hk
    rcases List.mem_cons.1 hk with rfl | hk
    · exact wpOp_step hi (fun K hK => by
        rw [if_pos (by simp [Region.wanted, hgi])]
        exact h1 K (Lib.hid fun a w h1 h2 => hK a w ⟨h1, h2⟩))
    · obtain rfl := List.mem_singleton.1 hk
      exact wpOp_step hj (fun K hK => by
        rw [if_pos (by simp [Region.wanted, hgj])]
        exact h2 K (Lib.hid fun a w h1 h2 => hK a w ⟨h1, h2⟩))⟩
end
theorem eltIn : Elt Tryd.prog 44 3 1 8 (.int .i64 0) := ⟨Tryd.underlying44, by kernel_rfl, rfl, by omega⟩
theorem eltT4 : Elt Tryd.prog 22 41 4 32 (.agg #[.int .i64 0, .int .i64 0, .int .i64 0, .int .i64 0]) := ⟨Tryd.underlying22, by kernel_rfl, rfl, by omega⟩
theorem trows_one (ts : List TaskV) : ∀ u ∈ (trows ts).flatten, u.oneCell' = true := by
  intro u hu
  obtain ⟨r, hr, hu⟩ := List.mem_flatten.1 hu
  obtain ⟨x, _, rfl⟩ := List.mem_map.1 hr
  simp only [TaskV.cells, List.mem_cons, List.not_mem_nil, or_false] at hu
  rcases hu with rfl | rfl | rfl | rfl <;> rfl
theorem ms_new {V : World} {B n c3 lc : Nat} {A3 LA : Option Addr} {p : Int} {ts : List TaskV} (o3 : Own V B 41 4 A3 n c3 (trows ts).flatten) (oL : Own V B 3 1 LA n lc (List.replicate n (.int .i64 0)))
    (hne : ∀ a b, A3 = some a → LA = some b → a.block ≠ b.block) (hL : LG p ts) (hn : ts.length = n) (hB : B ≤ V.heap.size) :
    MS (V.alloc (.cells #[.int .i64 p, .slice A3 n c3, .slice LA n lc, .slice none 0 0] 74)) B V.heap.size A3 n c3 LA lc none 0 0 p (fresh ts) [] := by
  have X := (Ext.refl V).alloc (.cells #[.int .i64 p, .slice A3 n c3, .slice LA n lc, .slice none 0 0] 74)
  have e : noteL (fresh ts) = List.replicate n (.int .i64 0) := by
    refine List.eq_replicate_iff.2 ⟨by simp [noteL, fresh, hn], fun b hb => ?_⟩
    obtain ⟨x, hx, rfl⟩ := List.mem_map.1 hb
    obtain ⟨t, _, rfl⟩ := List.mem_map.1 hx
    rfl
  exact ⟨heap_alloc_new V _, by rw [fresh_tsk]; exact o3.ext X, by rw [e]; exact oL.ext X, Own.nil_, fun a ha e => (by have := o3.lt_at ha; omega), fun a ha e => (by have := oL.lt_at ha; omega), (fun a ha => by cases ha), hne, (fun a b _ hb => by cases hb), (fun a b _ hb => by cases hb), hB,
    ⟨by simp, (by rw [fresh_tsk]; exact hL.2.2.2), fun j hj => (by cases hj)⟩, hL.1, (by have := hL.2.2.1; omega), fun x hx => (by
      obtain ⟨t, _, rfl⟩ := List.mem_map.1 hx
      exact ⟨by show (0 : Int) ≤ 0; omega, by show (0 : Int) ≤ 1099511627776; omega⟩)⟩
set_option maxHeartbeats 6400000 in
theorem rnew_any (p : Int) (A : Option Addr) (n c : Nat) (ts : List TaskV) (w : World) (hr : Rd w 4 A n (trows ts).flatten) (h : LG p ts) :
    Calls Tryd.prog 15 #[.int .i64 p, .slice A n c] w fun e w' => ∃ g TA tc LA lc, e = .returned (.pointer (some ⟨g, 0, none⟩)) ∧ MS w' w.heap.size g TA n tc LA lc none 0 0 p (fresh ts) [] ∧ Ext w w' := by
  have hn := hr.len_t
  have hn8 : n ≤ 8 := by have := h.2.2.1; omega
  have HR := Lib.hid (And.intro hr (And.intro hn h))
  clear hr h
  go_enter Tryd.func15, Tryd.ntmps15
  go_upto_region 1 with (fail)
  refine d_region (fun _ => True) [] (by kernel_rfl) ?_
  refine d_take (i := 0) (v := ?_) [] (some 5) rfl (by rfl) (by kernel_rfl) (by kernel_rfl) (by kernel_rfl) (by kernel_rfl) (by kernel_rfl) (by kernel_rfl) (fun _ _ _ h => h) (.inl ⟨by rfl, ?_⟩) trivial ?_
  rotate_left 1
  · (intro W hW; (try dsimp only at hW); go_simp; try with_reducible rfl)
  try simp only [Act.put, List.setIfInBounds_toArray, List.set_cons_zero, List.set_cons_succ]
  refine d_take (i := 2) (v := ?_) [] (some 7) rfl (by rfl) (by kernel_rfl) (by kernel_rfl) (by kernel_rfl) (by kernel_rfl) (by kernel_rfl) (by kernel_rfl) (fun _ _ _ h => h) (.inl ⟨by rfl, ?_⟩) trivial ?_
  rotate_left 1
  · (intro W hW; (try dsimp only at hW); go_simp; try with_reducible rfl)
  try simp only [Act.put, List.setIfInBounds_toArray, List.set_cons_zero, List.set_cons_succ]
  refine d_take (i := 4) (v := ?_) [] (some 9) rfl (by rfl) (by kernel_rfl) (by kernel_rfl) (by kernel_rfl) (by kernel_rfl) (by kernel_rfl) (by kernel_rfl) (fun _ _ _ h => h) (.inl ⟨by rfl, ?_⟩) trivial ?_
  rotate_left 1
  · (intro W hW; (try dsimp only at hW); go_simp; try with_reducible rfl)
  try simp only [Act.put, List.setIfInBounds_toArray, List.set_cons_zero, List.set_cons_succ]
  refine d_take (i := 5) (v := ?_) [] (some 10) rfl (by rfl) (by kernel_rfl) (by kernel_rfl) (by kernel_rfl) (by kernel_rfl) (by kernel_rfl) (by kernel_rfl) (fun _ _ _ h => h) (.inl ⟨by rfl, ?_⟩) trivial ?_
  rotate_left 1
  · (intro W hW; (try dsimp only at hW); go_simp; try with_reducible rfl)
  try simp only [Act.put, List.setIfInBounds_toArray, List.set_cons_zero, List.set_cons_succ]
  refine d_two (i := 1) (j := 6) (by kernel_rfl) rfl rfl rfl rfl (fun K hK => ?_) (fun K hK => ?_)
  · as_aux_lemma =>
      simp only [List.getElem_toArray, List.getElem_cons_succ, List.getElem_cons_zero]
      go_simp
      refine hK.out _ _ (fun _ => trivial) ?_
      clear hK K
      try simp only [Act.put, List.setIfInBounds_toArray, List.set_cons_zero, List.set_cons_succ]
      have oB : Own (w.drew.alloc (.cells #[] 41)) w.heap.size 41 4 (some ⟨w.drew.heap.size, 0, none⟩) 0 0 [] := World.ownsRow_lit (size := 4) w.drew #[] 0 ((Ext.refl w).drew).size (by simp [maxLen]) rfl
      have xB : Ext w (w.drew.alloc (.cells #[] 41)) := ((Ext.refl w).drew).trans ((Ext.refl _).alloc _)
      have nB : ∀ l, l < w.drew.heap.size → (some (⟨w.drew.heap.size, 0, none⟩ : Addr)).map (·.block) ≠ some l := fun l hl e => by injection e with e; have e : w.drew.heap.size = l := e; omega
      refine d_two (i := 3) (j := 6) (by kernel_rfl) rfl rfl rfl rfl (fun K hK => ?_) (fun K hK => ?_)
      · as_aux_lemma =>
          simp only [List.getElem_toArray, List.getElem_cons_succ, List.getElem_cons_zero]
          refine oper_app (w := (w.alloc (.cells #[] 41)).drew) (m := n) (d := c) (news := (trows ts).flatten) eltT4 oB (HR.out.1.ext xB) (trows_one ts) (by omega) (.inr ⟨by omega, by omega⟩) xB.size (.tmp 6) (.tmp 7) rfl rfl rfl ?_
          intro A3 c3 w3 o3 g3 hA3 _
          rw [List.nil_append, Nat.zero_add] at o3
          rw [Nat.zero_add]
          have x3 : Ext w w3 := g3.ext xB oB.base_le
          refine hK.out _ _ (fun _ => trivial) ?_
          clear hK K
          try simp only [Act.put, List.setIfInBounds_toArray, List.set_cons_zero, List.set_cons_succ]
          refine d_one (i := 6) (by kernel_rfl) rfl rfl (fun K hK => ?_)
          obtain ⟨w4, hm4, oL, x4, hs4⟩ := run_mkn (P := Tryd.prog) (w := w3) eltIn rfl w.heap.size .i64 .i64 (n : Int) (by omega) (by omega) (by omega) (x3).size
          rw [Int.toNat_natCast] at hm4 oL
          have HS4 := Lib.hid hs4
          clear hs4
          simp only [List.getElem_toArray, List.getElem_cons_succ, List.getElem_cons_zero]
          go_simp
          refine hK.out _ _ (fun _ => trivial) ?_
          clear hK K
          try simp only [Act.put, List.setIfInBounds_toArray, List.set_cons_zero, List.set_cons_succ]
          clear hm4
          have hne : ∀ a b, A3 = some a → (some (⟨w3.heap.size, 0, none⟩ : Addr)) = some b → a.block ≠ b.block := fun a b ha hb => by
            injection hb with hb
            subst hb
            have := o3.lt_at ha
            show a.block ≠ w3.heap.size
            omega
          have o3 := o3.ext x4
          have x4 : Ext w w4 := (x3).trans x4
          refine d_take (i := 7) (v := ?_) [] (some 12) rfl (by rfl) (by kernel_rfl) (by kernel_rfl) (by kernel_rfl) (by kernel_rfl) (by kernel_rfl) (by kernel_rfl) (fun _ _ _ h => h) (.inl ⟨by rfl, ?_⟩) trivial ?_
          rotate_left 1
          · (intro W hW; (try dsimp only at hW); go_simp; try with_reducible rfl)
          try simp only [Act.put, List.setIfInBounds_toArray, List.set_cons_zero, List.set_cons_succ]
          refine d_one (i := 8) (by kernel_rfl) rfl rfl (fun K hK => ?_)
          simp only [List.getElem_toArray, List.getElem_cons_succ, List.getElem_cons_zero]
          go_simp
          refine hK.out _ _ (fun _ => trivial) ?_
          clear hK K
          try simp only [Act.put, List.setIfInBounds_toArray, List.set_cons_zero, List.set_cons_succ]
          refine d_one (i := 9) (by kernel_rfl) rfl rfl (fun K hK => ?_)
          simp only [List.getElem_toArray, List.getElem_cons_succ, List.getElem_cons_zero]
          go_simp
          refine hK.out _ _ (fun _ => trivial) ?_
          clear hK K
          try simp only [Act.put, List.setIfInBounds_toArray, List.set_cons_zero, List.set_cons_succ]
          refine d_done (by kernel_rfl) ?_ _
          have M := ms_new o3 oL hne HR.out.2.2 HR.out.2.1 x4.size
          have XM := x4.trans ((Ext.refl w4).alloc (.cells #[.int .i64 p, .slice A3 n c3, .slice (some ⟨w3.heap.size, 0, none⟩) n n, .slice none 0 0] 74))
          have HM := Lib.hid (And.intro M XM)
          clear M XM o3 oL
          go_wp2_with fail
          go_returns
          exact ⟨_, _, _, _, _, rfl, HM.out.1, HM.out.2⟩
      · as_aux_lemma =>
          obtain ⟨w4, hm4, oL, x4, hs4⟩ := run_mkn (P := Tryd.prog) (w := (w.alloc (.cells #[] 41)).drew) eltIn rfl w.heap.size .i64 .i64 (n : Int) (by omega) (by omega) (by omega) (xB).size
          rw [Int.toNat_natCast] at hm4 oL
          have HS4 := Lib.hid hs4
          clear hs4
          simp only [List.getElem_toArray, List.getElem_cons_succ, List.getElem_cons_zero]
          go_simp
          refine hK.out _ _ (fun _ => trivial) ?_
          clear hK K
          try simp only [Act.put, List.setIfInBounds_toArray, List.set_cons_zero, List.set_cons_succ]
          clear hm4
          have oB := oB.ext x4
          have x4 : Ext w w4 := (xB).trans x4
          refine d_one (i := 3) (by kernel_rfl) rfl rfl (fun K hK => ?_)
          simp only [List.getElem_toArray, List.getElem_cons_succ, List.getElem_cons_zero]
          refine oper_app (w := w4) (m := n) (d := c) (news := (trows ts).flatten) eltT4 oB (HR.out.1.ext x4) (trows_one ts) (by omega) (.inr ⟨by omega, by omega⟩) x4.size (.tmp 6) (.tmp 7) rfl rfl rfl ?_
          intro A3 c3 w3 o3 g3 hA3 _
          rw [List.nil_append, Nat.zero_add] at o3
          rw [Nat.zero_add]
          have x3 : Ext w w3 := g3.ext x4 oB.base_le
          have hc1 : w.drew.heap.size ≠ (w.alloc (.cells #[] 41)).drew.heap.size := by show w.heap.size ≠ (w.alloc _).heap.size; rw [World.size_alloc]; omega
          have hc2 : w4.heap.size ≠ (w.alloc (.cells #[] 41)).drew.heap.size := by have := HS4.out; omega
          have hne : ∀ a b, A3 = some a → (some (⟨(w.alloc (.cells #[] 41)).drew.heap.size, 0, none⟩ : Addr)) = some b → a.block ≠ b.block := fun a b ha hb => by
            injection hb with hb
            subst hb
            rcases hA3 with e | e
            · rw [ha] at e; injection e with e; subst e; exact hc1
            · rw [ha] at e; injection e with e; subst e; exact hc2
          have oL := (Fr.grows g3).own oL (fun a ha e => by injection ha with ha; subst ha; injection e with e; exact hc1 e)
          clear hc1 hc2
          refine hK.out _ _ (fun _ => trivial) ?_
          clear hK K
          try simp only [Act.put, List.setIfInBounds_toArray, List.set_cons_zero, List.set_cons_succ]
          refine d_take (i := 7) (v := ?_) [] (some 12) rfl (by rfl) (by kernel_rfl) (by kernel_rfl) (by kernel_rfl) (by kernel_rfl) (by kernel_rfl) (by kernel_rfl) (fun _ _ _ h => h) (.inl ⟨by rfl, ?_⟩) trivial ?_
          rotate_left 1
          · (intro W hW; (try dsimp only at hW); go_simp; try with_reducible rfl)
          try simp only [Act.put, List.setIfInBounds_toArray, List.set_cons_zero, List.set_cons_succ]
          refine d_one (i := 8) (by kernel_rfl) rfl rfl (fun K hK => ?_)
          simp only [List.getElem_toArray, List.getElem_cons_succ, List.getElem_cons_zero]
          go_simp
          refine hK.out _ _ (fun _ => trivial) ?_
          clear hK K
          try simp only [Act.put, List.setIfInBounds_toArray, List.set_cons_zero, List.set_cons_succ]
          refine d_one (i := 9) (by kernel_rfl) rfl rfl (fun K hK => ?_)
          simp only [List.getElem_toArray, List.getElem_cons_succ, List.getElem_cons_zero]
          go_simp
          refine hK.out _ _ (fun _ => trivial) ?_
          clear hK K
          try simp only [Act.put, List.setIfInBounds_toArray, List.set_cons_zero, List.set_cons_succ]
          refine d_done (by kernel_rfl) ?_ _
          have M := ms_new o3 oL hne HR.out.2.2 HR.out.2.1 x3.size
          have XM := x3.trans ((Ext.refl w3).alloc (.cells #[.int .i64 p, .slice A3 n c3, .slice (some ⟨(w.alloc (.cells #[] 41)).drew.heap.size, 0, none⟩) n n, .slice none 0 0] 74))
          have eS : (w.alloc (.cells #[] 41)).drew.heap.size = w.heap.size + 1 := World.size_alloc _ _
          rw [eS] at M XM
          clear eS
          have HM := Lib.hid (And.intro M XM)
          clear M XM o3 oL
          go_wp2_with fail
          go_returns
          exact ⟨_, _, _, _, _, rfl, HM.out.1, HM.out.2⟩
  · as_aux_lemma =>
      obtain ⟨w4, hm4, oL, x4, hs4⟩ := run_mkn (P := Tryd.prog) (w := w.drew) eltIn rfl w.heap.size .i64 .i64 (n : Int) (by omega) (by omega) (by omega) ((Ext.refl w).drew).size
      rw [Int.toNat_natCast] at hm4 oL
      have HS4 := Lib.hid hs4
      clear hs4
      simp only [List.getElem_toArray, List.getElem_cons_succ, List.getElem_cons_zero]
      go_simp
      refine hK.out _ _ (fun _ => trivial) ?_
      clear hK K
      try simp only [Act.put, List.setIfInBounds_toArray, List.set_cons_zero, List.set_cons_succ]
      clear hm4
      have x4 : Ext w w4 := ((Ext.refl w).drew).trans x4
      refine d_one (i := 1) (by kernel_rfl) rfl rfl (fun K hK => ?_)
      simp only [List.getElem_toArray, List.getElem_cons_succ, List.getElem_cons_zero]
      go_simp
      refine hK.out _ _ (fun _ => trivial) ?_
      clear hK K
      try simp only [Act.put, List.setIfInBounds_toArray, List.set_cons_zero, List.set_cons_succ]
      have oB : Own (w4.alloc (.cells #[] 41)) w.heap.size 41 4 (some ⟨w4.heap.size, 0, none⟩) 0 0 [] := World.ownsRow_lit (size := 4) w4 #[] 0 (x4).size (by simp [maxLen]) rfl
      have xB : Ext w (w4.alloc (.cells #[] 41)) := (x4).trans ((Ext.refl _).alloc _)
      have nB : ∀ l, l < w4.heap.size → (some (⟨w4.heap.size, 0, none⟩ : Addr)).map (·.block) ≠ some l := fun l hl e => by injection e with e; have e : w4.heap.size = l := e; omega
      have oL := oL.ext ((Ext.refl _).alloc (.cells #[] 41))
      refine d_one (i := 3) (by kernel_rfl) rfl rfl (fun K hK => ?_)
      simp only [List.getElem_toArray, List.getElem_cons_succ, List.getElem_cons_zero]
      refine oper_app (w := (w4.alloc (.cells #[] 41))) (m := n) (d := c) (news := (trows ts).flatten) eltT4 oB (HR.out.1.ext xB) (trows_one ts) (by omega) (.inr ⟨by omega, by omega⟩) xB.size (.tmp 6) (.tmp 7) rfl rfl rfl ?_
      intro A3 c3 w3 o3 g3 hA3 _
      rw [List.nil_append, Nat.zero_add] at o3
      rw [Nat.zero_add]
      have x3 : Ext w w3 := g3.ext xB oB.base_le
      have hc1 : w4.heap.size ≠ w.drew.heap.size := by have := HS4.out; omega
      have hc2 : (w4.alloc (.cells #[] 41)).heap.size ≠ w.drew.heap.size := by rw [World.size_alloc]; have := HS4.out; omega
      have hne : ∀ a b, A3 = some a → (some (⟨w.drew.heap.size, 0, none⟩ : Addr)) = some b → a.block ≠ b.block := fun a b ha hb => by
        injection hb with hb
        subst hb
        rcases hA3 with e | e
        · rw [ha] at e; injection e with e; subst e; exact hc1
        · rw [ha] at e; injection e with e; subst e; exact hc2
      have oL := (Fr.grows g3).own oL (fun a ha e => by injection ha with ha; subst ha; injection e with e; exact hc1 e)
      clear hc1 hc2
      refine hK.out _ _ (fun _ => trivial) ?_
      clear hK K
      try simp only [Act.put, List.setIfInBounds_toArray, List.set_cons_zero, List.set_cons_succ]
      refine d_take (i := 7) (v := ?_) [] (some 12) rfl (by rfl) (by kernel_rfl) (by kernel_rfl) (by kernel_rfl) (by kernel_rfl) (by kernel_rfl) (by kernel_rfl) (fun _ _ _ h => h) (.inl ⟨by rfl, ?_⟩) trivial ?_
      rotate_left 1
      · (intro W hW; (try dsimp only at hW); go_simp; try with_reducible rfl)
      try simp only [Act.put, List.setIfInBounds_toArray, List.set_cons_zero, List.set_cons_succ]
      refine d_one (i := 8) (by kernel_rfl) rfl rfl (fun K hK => ?_)
      simp only [List.getElem_toArray, List.getElem_cons_succ, List.getElem_cons_zero]
      go_simp
      refine hK.out _ _ (fun _ => trivial) ?_
      clear hK K
      try simp only [Act.put, List.setIfInBounds_toArray, List.set_cons_zero, List.set_cons_succ]
      refine d_one (i := 9) (by kernel_rfl) rfl rfl (fun K hK => ?_)
      simp only [List.getElem_toArray, List.getElem_cons_succ, List.getElem_cons_zero]
      go_simp
      refine hK.out _ _ (fun _ => trivial) ?_
      clear hK K
      try simp only [Act.put, List.setIfInBounds_toArray, List.set_cons_zero, List.set_cons_succ]
      refine d_done (by kernel_rfl) ?_ _
      have M := ms_new o3 oL hne HR.out.2.2 HR.out.2.1 x3.size
      have XM := x3.trans ((Ext.refl w3).alloc (.cells #[.int .i64 p, .slice A3 n c3, .slice (some ⟨w.drew.heap.size, 0, none⟩) n n, .slice none 0 0] 74))
      have HM := Lib.hid (And.intro M XM)
      clear M XM o3 oL
      go_wp2_with fail
      go_returns
      exact ⟨_, _, _, _, _, rfl, HM.out.1, HM.out.2⟩
end Go.Proofs.YtbpbmelfhgbogaaDoor
