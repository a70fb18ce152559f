/-
  Package queue: things' Push, walked.
-/
import Derived.Test.YtocjbllkgbjihaaDoorQuWalk
namespace Go.Proofs.YtocjbllkgbjihaaDoor
set_option maxRecDepth 100000
open Go.RowKit Go.Maps
set_option linter.unusedVariables false
section
variable {w w' : World} {g b n c Z : Nat} {A : Option Addr} {L : List Th} {ty : TypeId}
/-- A value of the interface is a thing. -/
theorem assertR (v : Value) (xT : TypeId) (w : World) : (Instr.typeAssert (.iface 34 v) xT 34 true).run Tryd.prog w = .ok (.tuple #[v, .bool true]) w := by kernel_rfl
theorem push_end {w W2 w3 : World} {g b n c Z m c3 : Nat} {A A3 : Option Addr} {L : List Th} {x : Th} {ty : TypeId} {f : Int → Option Value} (h : TS w g b A n c L Z ty) (hf : Fr w W2 (· = b)) (hm : MapI Tryd.prog 3 W2 b (m + 1) f) (hmZ : m ≤ Z) (hix : Ix (L ++ [x]) f) (hx : i64 x.id)
    (hg : W2.heap[g]? = some (.cells #[.slice A n c, .map (some b)] ty (0, 0))) (o3 : Own w3 0 34 2 A3 (n + 1) c3 ((trows L).flatten ++ trow x)) (g3 : Grows W2 w3 A) (hA3 : A3 = A ∨ A3 = some ⟨W2.heap.size, 0, none⟩) :
    TN w (w3.setCell ⟨g, 0, none⟩ (.slice A3 (n + 1) c3)) g b A (L ++ [x]) (Z + 1) ty := by
  have hgA : A.map (·.block) ≠ some g := fun e => by
    obtain ⟨a, ha, hab⟩ := Option.map_eq_some_iff.1 e
    exact (h.ag a ha).1 hab
  have hbA : A.map (·.block) ≠ some b := fun e => by
    obtain ⟨a, ha, hab⟩ := Option.map_eq_some_iff.1 e
    exact (h.ag a ha).2 hab
  have hz := hf.size
  have hlt := h.lt
  have b3 := (g3.block g (block_lt hg) (fun e => hgA e.symm)).trans hg
  have ff := Fr.store w3 ⟨g, 0, none⟩ (.slice A3 (n + 1) c3)
  have m3 := (hm.fr (Fr.grows g3) hbA).fr ff h.bg
  have hag : ∀ a, A3 = some a → a.block ≠ g ∧ a.block ≠ b := fun a ha => by
    rcases hA3 with e | e
    · exact h.ag a (e ▸ ha)
    · rw [e] at ha
      injection ha with ha
      subst ha
      exact ⟨by show W2.heap.size ≠ g; omega, by show W2.heap.size ≠ b; omega⟩
  refine ⟨⟨A3, n + 1, c3, ⟨heap_setCell_same w3 g 0 _ _ _ b3, ⟨f, m + 1, m3, by omega, hix⟩, ?_, fun y hy => ?_, h.bg, hag⟩, fun a ha => ?_⟩, ?_⟩
  · have e : (trows (L ++ [x])).flatten = (trows L).flatten ++ trow x := by simp [trows]
    rw [e]
    exact ff.own o3 (fun a ha => (hag a ha).1)
  · rcases List.mem_append.1 hy with hy | hy
    · exact h.rng y hy
    · obtain rfl := List.mem_singleton.1 hy
      exact hx
  · rcases hA3 with e | e
    · exact .inl (by rw [← e, ha]; rfl)
    · rw [e] at ha
      injection ha with ha
      subst ha
      exact .inr hz
  · exact ((hf.mono (Q := fun k => k = g ∨ k = b ∨ A.map (·.block) = some k) (fun _ _ e => .inr (.inl e))).trans (Fr.grows g3) (fun _ _ e => .inr (.inr e))).trans ff (fun _ _ e => .inl e)
set_option maxHeartbeats 3200000 in
theorem tpush_any (h : TS w g b A n c L Z ty) (x : Th) (hx : i64 x.id) (hnew : ∀ y ∈ L, y.id ≠ x.id) (hn : n ≤ 1000000000000) (hZ : Z < 4611686018427387904) :
    Calls Tryd.prog 31 #[.pointer (some ⟨g, 0, none⟩), .iface 34 (.agg #[.int .i64 x.id, .int .i64 x.rank])] w fun e w' => e = .returned (.tuple #[]) ∧ TN w w' g b A (L ++ [x]) (Z + 1) ty := by
  obtain ⟨c0, c1⟩ := h.cells
  have HD := Lib.hid h
  have HN := Lib.hid (And.intro hx hnew)
  clear h hx hnew
  have hass := assertR
  go_enter Tryd.func31, Tryd.ntmps31
  go_upto_region 2 with (fail)
  have hob := heap_alloc_new w (.cells #[.int .i64 x.id, .int .i64 x.rank] 34)
  have X0 := (Ext.refl w).alloc (.cells #[.int .i64 x.id, .int .i64 x.rank] 34)
  have HV := Lib.hid (And.intro (HD.out.ex X0) (And.intro hob X0))
  clear hob X0 c0 c1 hass
  generalize w.alloc (.cells #[.int .i64 x.id, .int .i64 x.rank] 34) = V at *
  have HOB := Lib.hid (And.intro HD.out.lt (fun (a : Addr) (ha : A = some a) => HD.out.own.lt_at ha))
  generalize w.heap.size = ob at *
  obtain ⟨c0, c1⟩ := HV.out.1.cells
  obtain ⟨f, m, hm, hmZ, hix⟩ := HV.out.1.map
  have hlen := HV.out.1.len
  have hmd : MapI Tryd.prog 3 V.drew b m f := hm.ext (Ext.refl V).drew
  obtain ⟨w1, r1, m1, f1⟩ := hmd.store Tryd.underlying61 Tryd.underlying3 (by omega) HN.out.1 (.int .i64 (n : Int))
  have HM := Lib.hid (And.intro m1 (And.intro f1 (And.intro hmZ (show Ix (L ++ [x]) (fun y => if y = x.id then some (.int .i64 (n : Int)) else f y) from hlen ▸ hix.push HN.out.2))))
  clear m1 f1 hmZ hix hlen hm hmd
  have HS1 : V.drew.cell? ⟨g, 0, none⟩ = some (.slice A n c) ∧ V.drew.cell? ⟨g, 1, none⟩ = some (.map (some b)) ∧ V.drew.cell? ⟨ob, 0, none⟩ = some (.int .i64 x.id) := ⟨c0, c1, block_cell (w := V.drew) (show V.drew.heap[ob]? = _ from HV.out.2.1) 0⟩
  refine d_region (fun W : World => W.cell? ⟨g, 0, none⟩ = some (.slice A n c) ∧ W.cell? ⟨g, 1, none⟩ = some (.map (some b)) ∧ W.cell? ⟨ob, 0, none⟩ = some (.int .i64 x.id)) [11] (by kernel_rfl) ?_
  refine d_take (i := 0) (v := ?_) [1, 2, 3, 11] (some 12) rfl (by rfl) (by kernel_rfl) (by kernel_rfl) (by kernel_rfl) (by kernel_rfl) (by kernel_rfl) (by kernel_rfl) (fun _ _ _ h => h) (.inl ⟨by rfl, ?_⟩) HS1 ?_
  rotate_left 1
  · (intro W hW; (try dsimp only at hW); go_simp; try with_reducible rfl)
  try simp only [Act.put, List.setIfInBounds_toArray, List.set_cons_zero, List.set_cons_succ]
  refine d_take (i := 1) (v := ?_) [2, 3, 11] (some 13) rfl (by rfl) (by kernel_rfl) (by kernel_rfl) (by kernel_rfl) (by kernel_rfl) (by kernel_rfl) (by kernel_rfl) (fun _ _ _ h => h) (.inl ⟨by rfl, ?_⟩) HS1 ?_
  rotate_left 1
  · (intro W hW; (try dsimp only at hW); go_simp; try with_reducible rfl)
  try simp only [Act.put, List.setIfInBounds_toArray, List.set_cons_zero, List.set_cons_succ]
  refine d_take (i := 2) (v := ?_) [3, 11] (some 14) rfl (by rfl) (by kernel_rfl) (by kernel_rfl) (by kernel_rfl) (by kernel_rfl) (by kernel_rfl) (by kernel_rfl) (fun _ _ _ h => h) (.inl ⟨by rfl, ?_⟩) HS1 ?_
  rotate_left 1
  · (intro W hW; (try dsimp only at hW); go_simp; try with_reducible rfl)
  try simp only [Act.put, List.setIfInBounds_toArray, List.set_cons_zero, List.set_cons_succ]
  refine d_take (i := 3) (v := ?_) [11] (some 15) rfl (by rfl) (by kernel_rfl) (by kernel_rfl) (by kernel_rfl) (by kernel_rfl) (by kernel_rfl) (by kernel_rfl) (fun _ _ _ h => h) (.inl ⟨by rfl, ?_⟩) HS1 ?_
  rotate_left 1
  · (intro W hW; (try dsimp only at hW); go_simp; try with_reducible rfl)
  try simp only [Act.put, List.setIfInBounds_toArray, List.set_cons_zero, List.set_cons_succ]
  refine d_take (i := 4) (v := ?_) [5, 11] (some 16) rfl (by rfl) (by kernel_rfl) (by kernel_rfl) (by kernel_rfl) (by kernel_rfl) (by kernel_rfl) (by kernel_rfl) (fun _ _ _ h => h) (.inl ⟨by rfl, ?_⟩) HS1 ?_
  rotate_left 1
  · (intro W hW; (try dsimp only at hW); go_simp; try with_reducible rfl)
  try simp only [Act.put, List.setIfInBounds_toArray, List.set_cons_zero, List.set_cons_succ]
  refine d_take (i := 5) (v := ?_) [11] (some 17) rfl (by rfl) (by kernel_rfl) (by kernel_rfl) (by kernel_rfl) (by kernel_rfl) (by kernel_rfl) (by kernel_rfl) (fun _ _ _ h => h) (.inl ⟨by rfl, ?_⟩) HS1 ?_
  rotate_left 1
  · (intro W hW; (try dsimp only at hW); go_simp; try with_reducible rfl)
  try simp only [Act.put, List.setIfInBounds_toArray, List.set_cons_zero, List.set_cons_succ]
  refine d_take (i := 6) (v := ?_) [7, 8, 9, 10, 11] (some 18) rfl (by rfl) (by kernel_rfl) (by kernel_rfl) (by kernel_rfl) (by kernel_rfl) (by kernel_rfl) (by kernel_rfl) (fun _ _ _ h => h) (.inl ⟨by rfl, ?_⟩) HS1 ?_
  rotate_left 1
  · (intro W hW; (try dsimp only at hW); go_simp; try with_reducible rfl)
  try simp only [Act.put, List.setIfInBounds_toArray, List.set_cons_zero, List.set_cons_succ]
  refine d_take (i := 7) (v := ?_) [8, 9, 10, 11] (some 19) rfl (by rfl) (by kernel_rfl) (by kernel_rfl) (by kernel_rfl) (by kernel_rfl) (by kernel_rfl) (by kernel_rfl) (fun _ _ _ h => h) (.inl ⟨by rfl, ?_⟩) HS1 ?_
  rotate_left 1
  · (intro W hW; (try dsimp only at hW); go_simp; try with_reducible rfl)
  try simp only [Act.put, List.setIfInBounds_toArray, List.set_cons_zero, List.set_cons_succ]
  refine d_take (i := 8) (v := ?_) [9, 10, 11] (some 20) rfl (by rfl) (by kernel_rfl) (by kernel_rfl) (by kernel_rfl) (by kernel_rfl) (by kernel_rfl) (by kernel_rfl) (fun _ _ _ h => h) (.inl ⟨by rfl, ?_⟩) HS1 ?_
  rotate_left 1
  · (intro W hW; (try dsimp only at hW); go_simp; try with_reducible rfl)
  try simp only [Act.put, List.setIfInBounds_toArray, List.set_cons_zero, List.set_cons_succ]
  refine d_take (i := 9) (v := ?_) [10, 11] (some 21) rfl (by rfl) (by kernel_rfl) (by kernel_rfl) (by kernel_rfl) (by kernel_rfl) (by kernel_rfl) (by kernel_rfl) (fun _ _ _ h => h) (.inl ⟨by rfl, ?_⟩) HS1 ?_
  rotate_left 1
  · (intro W hW; (try dsimp only at hW); go_simp; try with_reducible rfl)
  try simp only [Act.put, List.setIfInBounds_toArray, List.set_cons_zero, List.set_cons_succ]
  refine d_take (i := 10) (v := ?_) [11] (some 22) rfl (by rfl) (by kernel_rfl) (by kernel_rfl) (by kernel_rfl) (by kernel_rfl) (by kernel_rfl) (by kernel_rfl) (fun _ _ _ h => h) (.inl ⟨by rfl, ?_⟩) HS1 ?_
  rotate_left 1
  · (intro W hW; (try dsimp only at hW); go_simp; try with_reducible rfl)
  try simp only [Act.put, List.setIfInBounds_toArray, List.set_cons_zero, List.set_cons_succ]
  refine d_one (i := 11) (by kernel_rfl) rfl rfl (fun K hK => ?_)
  simp only [List.getElem_toArray, List.getElem_cons_succ, List.getElem_cons_zero]
  go_simp
  refine hK.out _ _ (fun h => absurd h (by decide)) ?_
  clear hK K r1 HS1 c0 c1
  try simp only [Act.put, List.setIfInBounds_toArray, List.set_cons_zero, List.set_cons_succ]
  refine d_done (by kernel_rfl) ?_ _
  have XD : Ext V V.drew := (Ext.refl V).drew
  have hgb : ¬ g = b := fun e => HV.out.1.bg e.symm
  have hob' : ¬ ob = b := fun e => by have := HOB.out.1.2; omega
  have b1 := (HM.out.2.1.block g (HV.out.1.ex XD).lt.1 hgb).trans (HV.out.1.ex XD).blk
  have b2 := (HM.out.2.1.block ob (block_lt (w := V.drew) (show V.drew.heap[ob]? = _ from HV.out.2.1)) hob').trans (show V.drew.heap[ob]? = _ from HV.out.2.1)
  have o1 := HM.out.2.1.own (HV.out.1.ex XD).own (fun a ha => (HV.out.1.ag a ha).2)
  have FW : Fr w w1 (· = b) := (Fr.of_ext (HV.out.2.2.trans XD) (· = b)).trans HM.out.2.1 (fun _ _ h => h)
  have H1 := Lib.hid (And.intro b1 (And.intro b2 (And.intro o1 FW)))
  clear b1 b2 o1 FW XD hgb hob'
  go_upto_region 3 with (fail)
  have q0 := block_cell (w := w1.drew) (show w1.drew.heap[g]? = _ from H1.out.1) 0
  have q2 := block_cell (w := w1.drew) (show w1.drew.heap[ob]? = _ from H1.out.2.1) 0
  have q3 := block_cell (w := w1.drew) (show w1.drew.heap[ob]? = _ from H1.out.2.1) 1
  have HS1 : w1.drew.cell? ⟨g, 0, none⟩ = some (.slice A n c) ∧ w1.drew.cell? ⟨ob, 0, none⟩ = some (.int .i64 x.id) ∧ w1.drew.cell? ⟨ob, 1, none⟩ = some (.int .i64 x.rank) := ⟨q0, q2, q3⟩
  refine d_region (fun W : World => W.cell? ⟨g, 0, none⟩ = some (.slice A n c) ∧ W.cell? ⟨ob, 0, none⟩ = some (.int .i64 x.id) ∧ W.cell? ⟨ob, 1, none⟩ = some (.int .i64 x.rank)) [10] (by kernel_rfl) ?_
  refine d_take (i := 0) (v := ?_) [8, 9, 10] (some 23) rfl (by rfl) (by kernel_rfl) (by kernel_rfl) (by kernel_rfl) (by kernel_rfl) (by kernel_rfl) (by kernel_rfl) (fun _ _ _ h => h) (.inl ⟨by rfl, ?_⟩) HS1 ?_
  rotate_left 1
  · (intro W hW; (try dsimp only at hW); go_simp; try with_reducible rfl)
  try simp only [Act.put, List.setIfInBounds_toArray, List.set_cons_zero, List.set_cons_succ]
  refine d_take (i := 1) (v := ?_) [2, 3, 4, 7, 8, 9, 10] (some 24) rfl (by rfl) (by kernel_rfl) (by kernel_rfl) (by kernel_rfl) (by kernel_rfl) (by kernel_rfl) (by kernel_rfl) (fun _ _ _ h => h) (.inl ⟨by rfl, ?_⟩) HS1 ?_
  rotate_left 1
  · (intro W hW; (try dsimp only at hW); go_simp; try with_reducible rfl)
  try simp only [Act.put, List.setIfInBounds_toArray, List.set_cons_zero, List.set_cons_succ]
  refine d_take (i := 2) (v := ?_) [3, 4, 7, 8, 9, 10] (some 25) rfl (by rfl) (by kernel_rfl) (by kernel_rfl) (by kernel_rfl) (by kernel_rfl) (by kernel_rfl) (by kernel_rfl) (fun _ _ _ h => h) (.inl ⟨by rfl, ?_⟩) HS1 ?_
  rotate_left 1
  · (intro W hW; (try dsimp only at hW); go_simp; try with_reducible rfl)
  try simp only [Act.put, List.setIfInBounds_toArray, List.set_cons_zero, List.set_cons_succ]
  refine d_take (i := 3) (v := ?_) [4, 7, 8, 9, 10] (some 26) rfl (by rfl) (by kernel_rfl) (by kernel_rfl) (by kernel_rfl) (by kernel_rfl) (by kernel_rfl) (by kernel_rfl) (fun _ _ _ h => h) (.inl ⟨by rfl, ?_⟩) HS1 ?_
  rotate_left 1
  · (intro W hW; (try dsimp only at hW); go_simp; try with_reducible rfl)
  try simp only [Act.put, List.setIfInBounds_toArray, List.set_cons_zero, List.set_cons_succ]
  refine d_take (i := 4) (v := ?_) [7, 8, 9, 10] (some 27) rfl (by rfl) (by kernel_rfl) (by kernel_rfl) (by kernel_rfl) (by kernel_rfl) (by kernel_rfl) (by kernel_rfl) (fun _ _ _ h => h) (.inl ⟨by rfl, ?_⟩) HS1 ?_
  rotate_left 1
  · (intro W hW; (try dsimp only at hW); go_simp; try with_reducible rfl)
  try simp only [Act.put, List.setIfInBounds_toArray, List.set_cons_zero, List.set_cons_succ]
  refine d_take (i := 5) (v := ?_) [6, 7, 8, 9, 10] (some 28) rfl (by rfl) (by kernel_rfl) (by kernel_rfl) (by kernel_rfl) (by kernel_rfl) (by kernel_rfl) (by kernel_rfl) (fun _ _ _ h => h) (.inl ⟨by rfl, ?_⟩) HS1 ?_
  rotate_left 1
  · (intro W hW; (try dsimp only at hW); go_simp; try with_reducible rfl)
  try simp only [Act.put, List.setIfInBounds_toArray, List.set_cons_zero, List.set_cons_succ]
  refine d_one (i := 6) (by kernel_rfl) rfl rfl (fun K hK => ?_)
  simp only [List.getElem_toArray, List.getElem_cons_succ, List.getElem_cons_zero]
  go_simp
  have XA : Ext w1 (w1.alloc (.cells #[.int .i64 x.id, .int .i64 x.rank] 34)) := (Ext.refl w1).alloc _
  have XD := XA.drew
  have RN : Rd (w1.alloc (.cells #[.int .i64 x.id, .int .i64 x.rank] 34)).drew 2 (some ⟨w1.heap.size, 0, none⟩) 1 (trow x) :=
    ⟨rfl, fun _ => ⟨_, rfl, by simp, World.news_of_block (heap_alloc_new w1 _)⟩⟩
  have b1 := (XD.block g (block_lt H1.out.1)).trans H1.out.1
  have b2 := (XD.block ob (block_lt H1.out.2.1)).trans H1.out.2.1
  have HS2 : (w1.alloc (.cells #[.int .i64 x.id, .int .i64 x.rank] 34)).drew.cell? ⟨g, 0, none⟩ = some (.slice A n c) ∧ (w1.alloc (.cells #[.int .i64 x.id, .int .i64 x.rank] 34)).drew.cell? ⟨ob, 0, none⟩ = some (.int .i64 x.id) ∧ (w1.alloc (.cells #[.int .i64 x.id, .int .i64 x.rank] 34)).drew.cell? ⟨ob, 1, none⟩ = some (.int .i64 x.rank) := ⟨block_cell b1 0, block_cell b2 0, block_cell b2 1⟩
  have H2 := Lib.hid (And.intro b1 (And.intro b2 (And.intro (H1.out.2.2.1.ext XD) (And.intro (H1.out.2.2.2.trans (Fr.of_ext XD (fun _ => False)) (fun _ _ h => h.elim)) (And.intro RN (HM.out.1.ext XD))))))
  have HZ := Lib.hid (And.intro H1.out.2.2.2.size XA.size)
  refine hK.out _ _ (fun _ => HS2) ?_
  clear hK K HS1 HS2 b1 b2 q0 q2 q3 XA XD RN
  try simp only [Act.put, List.setIfInBounds_toArray, List.set_cons_zero, List.set_cons_succ]
  generalize hW : (w1.alloc (.cells #[.int .i64 x.id, .int .i64 x.rank] 34)).drew = W2 at *
  refine d_one (i := 7) (by kernel_rfl) rfl rfl (fun K hK => ?_)
  simp only [List.getElem_toArray, List.getElem_cons_succ, List.getElem_cons_zero]
  refine oper_app (w := W2) (m := 1) (d := 1) (news := trow x) eltR H2.out.2.2.1 H2.out.2.2.2.2.1 (trow_one x) (by omega) (.inr ⟨by omega, by omega⟩) (Nat.zero_le _) (.tmp 27) (.tmp 29) rfl rfl rfl ?_
  intro A3 c3 w3 o3 g3 hA3 _
  have hgA : A.map (·.block) ≠ some g := fun e => by
    obtain ⟨a, ha, hab⟩ := Option.map_eq_some_iff.1 e
    exact (HV.out.1.ag a ha).1 hab
  have hobA : A.map (·.block) ≠ some ob := fun e => by
    obtain ⟨a, ha, hab⟩ := Option.map_eq_some_iff.1 e
    have := HOB.out.2 a ha
    omega
  have hbA : A.map (·.block) ≠ some b := fun e => by
    obtain ⟨a, ha, hab⟩ := Option.map_eq_some_iff.1 e
    exact (HV.out.1.ag a ha).2 hab
  have b3 := (g3.block g (block_lt H2.out.1) (fun e => hgA e.symm)).trans H2.out.1
  have b4 := (g3.block ob (block_lt H2.out.2.1) (fun e => hobA e.symm)).trans H2.out.2.1
  have m3 := H2.out.2.2.2.2.2.fr (Fr.grows g3) hbA
  have HS3 : w3.cell? ⟨g, 0, none⟩ = some (.slice A n c) ∧ w3.cell? ⟨ob, 0, none⟩ = some (.int .i64 x.id) ∧ w3.cell? ⟨ob, 1, none⟩ = some (.int .i64 x.rank) := ⟨block_cell b3 0, block_cell b4 0, block_cell b4 1⟩
  have z3 : w3.frozen? ⟨g, 0, none⟩ = false := block_fz b3 0
  have HE := Lib.hid (push_end HD.out H2.out.2.2.2.1 H2.out.2.2.2.2.2 HM.out.2.2.1 HM.out.2.2.2 HN.out.1 H2.out.1 o3 g3 hA3)
  refine hK.out _ _ (fun _ => HS3) ?_
  clear hK K b3 b4 m3 o3 g3 hA3 hgA hobA hbA HD H1 H2 HM HV HOB HZ hW HN
  try simp only [Act.put, List.setIfInBounds_toArray, List.set_cons_zero, List.set_cons_succ]
  refine d_take (i := 8) (v := ?_) [9, 10] (some 31) rfl (by rfl) (by kernel_rfl) (by kernel_rfl) (by kernel_rfl) (by kernel_rfl) (by kernel_rfl) (by kernel_rfl) (fun _ _ _ h => h) (.inl ⟨by rfl, ?_⟩) HS3 ?_
  rotate_left 1
  · (intro W hW; (try dsimp only at hW); go_simp; try with_reducible rfl)
  try simp only [Act.put, List.setIfInBounds_toArray, List.set_cons_zero, List.set_cons_succ]
  refine d_take (i := 9) (v := ?_) [10] (some 32) rfl (by rfl) (by kernel_rfl) (by kernel_rfl) (by kernel_rfl) (by kernel_rfl) (by kernel_rfl) (by kernel_rfl) (fun _ _ _ h => h) (.inl ⟨by rfl, ?_⟩) HS3 ?_
  rotate_left 1
  · (intro W hW; (try dsimp only at hW); go_simp; try with_reducible rfl)
  try simp only [Act.put, List.setIfInBounds_toArray, List.set_cons_zero, List.set_cons_succ]
  refine d_one (i := 10) (by kernel_rfl) rfl rfl (fun K hK => ?_)
  simp only [List.getElem_toArray, List.getElem_cons_succ, List.getElem_cons_zero]
  go_simp
  refine hK.out _ _ (fun h => absurd h (by decide)) ?_
  clear hK K 
  try simp only [Act.put, List.setIfInBounds_toArray, List.set_cons_zero, List.set_cons_succ]
  refine d_done (by kernel_rfl) ?_ _
  go_wp2_with fail
  go_returns
  exact ⟨rfl, HE.out⟩
end
end Go.Proofs.YtocjbllkgbjihaaDoor
