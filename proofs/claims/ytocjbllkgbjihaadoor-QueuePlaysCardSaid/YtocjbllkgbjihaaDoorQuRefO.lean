/-
  The document's queue: out, Pop, walked.
-/
import Derived.Test.YtocjbllkgbjihaaDoorQuRefS
namespace Go.Proofs.YtocjbllkgbjihaaDoor
set_option maxRecDepth 100000
open Go.RowKit Go.Maps
set_option linter.unusedVariables false
theorem trows_one (L : List Th) : ∀ u ∈ (trows L).flatten, u.oneCell' = true := by
  intro u hu
  obtain ⟨r, hr, hur⟩ := List.mem_flatten.1 hu
  obtain ⟨x, _, rfl⟩ := List.mem_map.1 hr
  exact trow_one x u hur
section
variable {w w' : World} {q : Nat} {F : Nat → Prop} {L : List Th}
set_option maxHeartbeats 3200000 in
theorem rout_any (h : RQ w q F L) {i : Nat} (hi : i < L.length) (hfew : L.length ≤ 1000000000) {x : Th} (hx : Hid (x = at_ L i)) :
    Calls Tryd.prog 48 #[.pointer (some ⟨q, 0, none⟩), .int .i64 (i : Int)] w fun e w' => e = .returned (.agg #[.int .i64 x.id, .int .i64 x.rank]) ∧ ∃ F', RN w w' q F F' (L.eraseIdx i) := by
  have HQ := Lib.hid h
  obtain ⟨⟨A, n, c, h1, h2, h3⟩, h4, h5⟩ := h
  have hlen := rlen_eq h2
  obtain ⟨T, rfl⟩ := h2.head (by omega)
  obtain ⟨i2, hi2⟩ : ∃ i2, i * 2 = i2 := ⟨_, rfl⟩
  have hxi := at_some (L := L) (k := i) hi
  rw [← hx.out] at hxi
  have X0 := (Ext.refl w).alloc (.cells #[.int .i64 0, .int .i64 0] 34)
  have hb0 := heap_alloc_new w (.cells #[.int .i64 0, .int .i64 0] 34)
  have hcap := h2.cap_le
  have H0 := Lib.hid (And.intro ((X0.block q (block_lt h1)).trans h1) (And.intro (h2.ext X0) (And.intro hb0 (And.intro X0 (And.intro hlen (And.intro hxi (And.intro (block_lt h1) h2.lt)))))))
  have HF := Lib.hid (And.intro h3 (And.intro h4 h5))
  have k0 : (0 : Int) ≤ i := by omega
  have k1 : (i : Int) < n := by omega
  clear h1 h2 h3 h4 h5 X0 hb0 hxi
  go_enter Tryd.func48, Tryd.ntmps48
  go_upto_region 1 with (fail)
  generalize w.alloc (.cells #[.int .i64 0, .int .i64 0] 34) = V0 at *
  generalize hrb : w.heap.size = rb at *
  have HRB := Lib.hid hrb
  clear hrb
  have y0 : V0.cell? ⟨q, 0, none⟩ = some (.slice (some ⟨T, 0, none⟩) n c) := block_cell H0.out.1 0
  obtain ⟨y1, y2, _, _⟩ := own_at H0.out.2.1 H0.out.2.2.2.2.2.1 hi2
  go_upto_region 2 with (fail)
  have X1 := (Ext.refl V0).alloc (.cells #[.int .i64 x.id, .int .i64 x.rank] 34)
  have hb1 := heap_alloc_new V0 (.cells #[.int .i64 x.id, .int .i64 x.rank] 34)
  have hVl := block_lt H0.out.2.2.1
  have H1 := Lib.hid (And.intro ((X1.block q (block_lt H0.out.1)).trans H0.out.1) (And.intro (H0.out.2.1.ext X1) (And.intro ((X1.block rb hVl).trans H0.out.2.2.1) (And.intro hb1 (And.intro (H0.out.2.2.2.1.trans X1) (And.intro (show rb < V0.heap.size from hVl) (show V0.heap.size < (V0.alloc (.cells #[.int .i64 x.id, .int .i64 x.rank] 34)).heap.size from by simp)))))))
  clear y0 y1 y2 X1 hb1 hVl
  generalize V0.alloc (.cells #[.int .i64 x.id, .int .i64 x.rank] 34) = V1 at *
  generalize V0.heap.size = xb at *
  have rs1 := run_slice_hi (P := Tryd.prog) eltR (some ⟨T, 0, none⟩) n c .i64 i (by omega)
  obtain ⟨XA, hXA⟩ : ∃ XA, (if c = i + 1 then (some (⟨T, 0, none⟩ : Addr)) else (some (⟨T, 0, none⟩ : Addr)).map (·.add ((i + 1) * 2))) = XA := ⟨_, rfl⟩
  have rs2 := run_slice_at (P := Tryd.prog) eltR (some ⟨T, 0, none⟩) n c .i64 (i + 1) (by omega) hXA
  have e2 : ((i + 1 : Nat) : Int) = (i : Int) + 1 := by omega
  rw [e2] at rs2
  have f1 : IntKind.i64.wrap ((i : Int) + 1) = (i : Int) + 1 := by rw [IntKind.wrap_i64]; omega
  have y0 : V1.drew.cell? ⟨q, 0, none⟩ = some (.slice (some ⟨T, 0, none⟩) n c) := block_cell (w := V1.drew) (show V1.drew.heap[q]? = _ from H1.out.1) 0
  have HXA := Lib.hid hXA
  clear e2 hXA
  refine d_region (fun W : World => W.cell? ⟨q, 0, none⟩ = some (.slice (some ⟨T, 0, none⟩) n c)) [19] (by kernel_rfl) ?_
  refine d_take (i := 0) (v := ?_) [17, 18, 19] (some 13) rfl (by rfl) (by kernel_rfl) (by kernel_rfl) (by kernel_rfl) (by kernel_rfl) (by kernel_rfl) (by kernel_rfl) (fun _ _ _ h => h) (.inl ⟨by rfl, ?_⟩) y0 ?_
  rotate_left 1
  · (intro W hW; (try dsimp only at hW); go_simp; try with_reducible rfl)
  try simp only [Act.put, List.setIfInBounds_toArray, List.set_cons_zero, List.set_cons_succ]
  refine d_take (i := 2) (v := ?_) [3, 4, 5, 7, 8, 16, 17, 18, 19] (some 15) rfl (by rfl) (by kernel_rfl) (by kernel_rfl) (by kernel_rfl) (by kernel_rfl) (by kernel_rfl) (by kernel_rfl) (fun _ _ _ h => h) (.inl ⟨by rfl, ?_⟩) y0 ?_
  rotate_left 1
  · (intro W hW; (try dsimp only at hW); go_simp; try with_reducible rfl)
  try simp only [Act.put, List.setIfInBounds_toArray, List.set_cons_zero, List.set_cons_succ]
  refine d_take (i := 3) (v := ?_) [4, 5, 7, 8, 16, 17, 18, 19] (some 16) rfl (by rfl) (by kernel_rfl) (by kernel_rfl) (by kernel_rfl) (by kernel_rfl) (by kernel_rfl) (by kernel_rfl) (fun _ _ _ h => h) (.inl ⟨by rfl, ?_⟩) y0 ?_
  rotate_left 1
  · (intro W hW; (try dsimp only at hW); go_simp; try with_reducible rfl)
  try simp only [Act.put, List.setIfInBounds_toArray, List.set_cons_zero, List.set_cons_succ]
  refine d_take (i := 4) (v := ?_) [5, 7, 8, 16, 17, 18, 19] (some 17) rfl (by rfl) (by kernel_rfl) (by kernel_rfl) (by kernel_rfl) (by kernel_rfl) (by kernel_rfl) (by kernel_rfl) (fun _ _ _ h => h) (.inl ⟨by rfl, ?_⟩) y0 ?_
  rotate_left 1
  · (intro W hW; (try dsimp only at hW); go_simp; try with_reducible rfl)
  try simp only [Act.put, List.setIfInBounds_toArray, List.set_cons_zero, List.set_cons_succ]
  refine d_take (i := 5) (v := ?_) [7, 8, 16, 17, 18, 19] (some 18) rfl (by rfl) (by kernel_rfl) (by kernel_rfl) (by kernel_rfl) (by kernel_rfl) (by kernel_rfl) (by kernel_rfl) (fun _ _ _ h => h) (.inl ⟨by rfl, ?_⟩) y0 ?_
  rotate_left 1
  · (intro W hW; (try dsimp only at hW); go_simp; try with_reducible rfl)
  try simp only [Act.put, List.setIfInBounds_toArray, List.set_cons_zero, List.set_cons_succ]
  refine d_take (i := 6) (v := ?_) [7, 8, 16, 17, 18, 19] (some 19) rfl (by rfl) (by kernel_rfl) (by kernel_rfl) (by kernel_rfl) (by kernel_rfl) (by kernel_rfl) (by kernel_rfl) (fun _ _ _ h => h) (.inl ⟨by rfl, ?_⟩) y0 ?_
  rotate_left 1
  · (intro W hW; (try dsimp only at hW); go_simp; try with_reducible rfl)
  try simp only [Act.put, List.setIfInBounds_toArray, List.set_cons_zero, List.set_cons_succ]
  refine d_take (i := 7) (v := ?_) [8, 16, 17, 18, 19] (some 20) rfl (by rfl) (by kernel_rfl) (by kernel_rfl) (by kernel_rfl) (by kernel_rfl) (by kernel_rfl) (by kernel_rfl) (fun _ _ _ h => h) (.inl ⟨by rfl, ?_⟩) y0 ?_
  rotate_left 1
  · (intro W hW; (try dsimp only at hW); go_simp; try with_reducible rfl)
  try simp only [Act.put, List.setIfInBounds_toArray, List.set_cons_zero, List.set_cons_succ]
  refine d_take (i := 9) (v := ?_) [10, 11, 12, 15, 16, 17, 18, 19] (some 22) rfl (by rfl) (by kernel_rfl) (by kernel_rfl) (by kernel_rfl) (by kernel_rfl) (by kernel_rfl) (by kernel_rfl) (fun _ _ _ h => h) (.inl ⟨by rfl, ?_⟩) y0 ?_
  rotate_left 1
  · (intro W hW; (try dsimp only at hW); go_simp; try with_reducible rfl)
  try simp only [Act.put, List.setIfInBounds_toArray, List.set_cons_zero, List.set_cons_succ]
  refine d_take (i := 10) (v := ?_) [11, 12, 15, 16, 17, 18, 19] (some 23) rfl (by rfl) (by kernel_rfl) (by kernel_rfl) (by kernel_rfl) (by kernel_rfl) (by kernel_rfl) (by kernel_rfl) (fun _ _ _ h => h) (.inl ⟨by rfl, ?_⟩) y0 ?_
  rotate_left 1
  · (intro W hW; (try dsimp only at hW); go_simp; try with_reducible rfl)
  try simp only [Act.put, List.setIfInBounds_toArray, List.set_cons_zero, List.set_cons_succ]
  refine d_take (i := 11) (v := ?_) [12, 15, 16, 17, 18, 19] (some 24) rfl (by rfl) (by kernel_rfl) (by kernel_rfl) (by kernel_rfl) (by kernel_rfl) (by kernel_rfl) (by kernel_rfl) (fun _ _ _ h => h) (.inl ⟨by rfl, ?_⟩) y0 ?_
  rotate_left 1
  · (intro W hW; (try dsimp only at hW); go_simp; try with_reducible rfl)
  try simp only [Act.put, List.setIfInBounds_toArray, List.set_cons_zero, List.set_cons_succ]
  refine d_take (i := 12) (v := ?_) [15, 16, 17, 18, 19] (some 25) rfl (by rfl) (by kernel_rfl) (by kernel_rfl) (by kernel_rfl) (by kernel_rfl) (by kernel_rfl) (by kernel_rfl) (fun _ _ _ h => h) (.inl ⟨by rfl, ?_⟩) y0 ?_
  rotate_left 1
  · (intro W hW; (try dsimp only at hW); go_simp; try with_reducible rfl)
  try simp only [Act.put, List.setIfInBounds_toArray, List.set_cons_zero, List.set_cons_succ]
  refine d_take (i := 13) (v := ?_) [14, 15, 16, 17, 18, 19] (some 26) rfl (by rfl) (by kernel_rfl) (by kernel_rfl) (by kernel_rfl) (by kernel_rfl) (by kernel_rfl) (by kernel_rfl) (fun _ _ _ h => h) (.inl ⟨by rfl, ?_⟩) y0 ?_
  rotate_left 1
  · (intro W hW; (try dsimp only at hW); go_simp; try with_reducible rfl)
  try simp only [Act.put, List.setIfInBounds_toArray, List.set_cons_zero, List.set_cons_succ]
  refine d_take (i := 14) (v := ?_) [15, 16, 17, 18, 19] (some 27) rfl (by rfl) (by kernel_rfl) (by kernel_rfl) (by kernel_rfl) (by kernel_rfl) (by kernel_rfl) (by kernel_rfl) (fun _ _ _ h => h) (.inl ⟨by rfl, ?_⟩) y0 ?_
  rotate_left 1
  · (intro W hW; (try dsimp only at hW); go_simp; try with_reducible rfl)
  try simp only [Act.put, List.setIfInBounds_toArray, List.set_cons_zero, List.set_cons_succ]
  refine d_take (i := 15) (v := ?_) [16, 17, 18, 19] (some 28) rfl (by rfl) (by kernel_rfl) (by kernel_rfl) (by kernel_rfl) (by kernel_rfl) (by kernel_rfl) (by kernel_rfl) (fun _ _ _ h => h) (.inl ⟨by rfl, ?_⟩) y0 ?_
  rotate_left 1
  · (intro W hW; (try dsimp only at hW); go_simp; try with_reducible rfl)
  try simp only [Act.put, List.setIfInBounds_toArray, List.set_cons_zero, List.set_cons_succ]
  refine d_one (i := 1) (by kernel_rfl) rfl rfl (fun K hK => ?_)
  simp only [List.getElem_toArray, List.getElem_cons_succ, List.getElem_cons_zero]
  go_simp
  have XA1 := ((Ext.refl V1).alloc (.cells #[] 34)).drew
  have ho : Own (V1.alloc (.cells #[] 34)).drew w.heap.size 34 2 (some ⟨V1.heap.size, 0, none⟩) 0 0 [] := (World.ownsRow_lit (size := 2) V1 #[] 0 H1.out.2.2.2.2.1.size (by simp [maxLen]) rfl : Own (V1.alloc (.cells #[] 34)) w.heap.size 34 2 (some ⟨V1.heap.size, 0, none⟩) 0 0 [])
  have bq := (XA1.block q (block_lt H1.out.1)).trans H1.out.1
  have HS2 : (V1.alloc (.cells #[] 34)).drew.cell? ⟨q, 0, none⟩ = some (.slice (some ⟨T, 0, none⟩) n c) := block_cell bq 0
  have oT := (H1.out.2.1.ext XA1)
  have hr1 : Rd (V1.alloc (.cells #[] 34)).drew 2 (some ⟨T, 0, none⟩) i ((trows L).flatten.take (i * 2)) := oT.rd.take_ (by omega)
  have hr2 : Rd (V1.alloc (.cells #[] 34)).drew 2 XA (n - (i + 1)) ((trows L).flatten.drop ((i + 1) * 2)) := by
    rw [← HXA.out]
    exact oT.rd.cut (by omega) oT.cap_le
  have hqT : q < V1.heap.size ∧ T < V1.heap.size ∧ rb < V1.heap.size ∧ xb < V1.heap.size := by have := H0.out.2.2.2.2.2.2; have := H1.out.2.2.2.2.2; omega
  have t5 := (XA1.block rb (block_lt H1.out.2.2.1)).trans H1.out.2.2.1
  have t6 := (XA1.block xb (block_lt H1.out.2.2.2.1)).trans H1.out.2.2.2.1
  have t7 := H1.out.2.2.2.2.1.trans XA1
  have t9 : (V1.alloc (.cells #[] 34)).drew.heap.size = V1.heap.size + 1 := by simp
  have HR := Lib.hid (And.intro ho (And.intro hr1 (And.intro hr2 (And.intro bq (And.intro t5 (And.intro t6 (And.intro t7 (And.intro hqT t9))))))))
  clear t5 t6 t7 t9
  have hXAb : ∀ b, XA = some b → b.block = T := fun b hb => by
    have h := HXA.out
    rw [hb] at h
    split at h
    · injection h with h; rw [← h]
    · simp only [Option.map_some, Option.some.injEq] at h
      rw [← h, add_block]
  refine hK.out _ _ (fun _ => HS2) ?_
  clear hK K XA1 ho bq HS2 oT hr1 hr2 hqT y0 rs1 rs2 f1
  try simp only [Act.put, List.setIfInBounds_toArray, List.set_cons_zero, List.set_cons_succ]
  generalize hV2 : (V1.alloc (.cells #[] 34)).drew = V2 at *
  generalize V1.heap.size = eb at *
  refine d_one (i := 8) (by kernel_rfl) rfl rfl (fun K hK => ?_)
  simp only [List.getElem_toArray, List.getElem_cons_succ, List.getElem_cons_zero]
  refine oper_app (w := V2) (m := i) (d := c) (news := (trows L).flatten.take (i * 2)) eltR HR.out.1 HR.out.2.1 (fun u hu => trows_one L u (List.mem_of_mem_take hu)) (by omega) (.inr ⟨by omega, by omega⟩) HR.out.2.2.2.2.2.2.1.size (.tmp 14) (.tmp 20) rfl rfl rfl ?_
  intro A3 c3 w3 o3 g3 hA3 _
  rw [Nat.zero_add, List.nil_append] at o3
  rw [Nat.zero_add]
  have hz2 : V2.heap.size = eb + 1 := HR.out.2.2.2.2.2.2.2.2
  have hA3b : ∀ a, A3 = some a → eb ≤ a.block := fun a ha => by
    rcases hA3 with e | e
    · rw [e] at ha; injection ha with ha; rw [← ha]; exact Nat.le_refl _
    · rw [e] at ha; injection ha with ha; rw [← ha]; show eb ≤ V2.heap.size; omega
  have ne3 : ∀ b, b < eb → ¬ (some (⟨eb, 0, none⟩ : Addr)).map (·.block) = some b := fun b hb e => by injection e with e; have e3 : eb = b := e; omega
  have bq3 := (g3.block q (block_lt HR.out.2.2.2.1) (fun e => ne3 q HR.out.2.2.2.2.2.2.2.1.1 e.symm)).trans HR.out.2.2.2.1
  have HS3 : w3.cell? ⟨q, 0, none⟩ = some (.slice (some ⟨T, 0, none⟩) n c) := block_cell bq3 0
  have hq8 := HR.out.2.2.2.2.2.2.2.1
  have br3 := (g3.block rb (block_lt HR.out.2.2.2.2.1) (fun e => ne3 rb hq8.2.2.1 e.symm)).trans HR.out.2.2.2.2.1
  have bx3 := (g3.block xb (block_lt HR.out.2.2.2.2.2.1) (fun e => ne3 xb hq8.2.2.2 e.symm)).trans HR.out.2.2.2.2.2.1
  have hr3 : Rd w3 2 XA (n - (i + 1)) ((trows L).flatten.drop ((i + 1) * 2)) := g3.rd HR.out.2.2.1 (fun b hb e => ne3 b.block (by rw [hXAb b hb]; exact hq8.2.1) e)
  have x3 : Ext w w3 := g3.ext HR.out.2.2.2.2.2.2.1 (fun b hb => by injection hb with hb; have hb' : eb = b := hb; have := HRB.out; omega)
  have H3 := Lib.hid (And.intro o3 (And.intro bq3 (And.intro br3 (And.intro bx3 (And.intro hr3 (And.intro x3 (And.intro hA3b (And.intro hq8 (show eb + 1 ≤ w3.heap.size from by have := g3.size; omega)))))))))
  have hx3 := x3.size
  clear hV2 o3 g3 hA3 hA3b ne3 bq3 br3 bx3 hr3 x3 hz2 hq8
  refine hK.out _ _ (fun _ => HS3) ?_
  clear hK K HR
  try simp only [Act.put, List.setIfInBounds_toArray, List.set_cons_zero, List.set_cons_succ]
  refine d_one (i := 16) (by kernel_rfl) rfl rfl (fun K hK => ?_)
  simp only [List.getElem_toArray, List.getElem_cons_succ, List.getElem_cons_zero]
  refine oper_app (w := w3) (m := n - (i + 1)) (d := c - (i + 1)) (news := (trows L).flatten.drop ((i + 1) * 2)) eltR H3.out.1 H3.out.2.2.2.2.1 (fun u hu => trows_one L u (List.mem_of_mem_drop hu)) (by omega) (.inr ⟨by omega, by omega⟩) hx3 (.tmp 21) (.tmp 28) rfl rfl rfl ?_
  intro A4 c4 w4 o4 g4 hA4 _
  have hq8 := H3.out.2.2.2.2.2.2.2.1
  have hA4b : ∀ a, A4 = some a → eb ≤ a.block := fun a ha => by
    rcases hA4 with e | e
    · exact H3.out.2.2.2.2.2.2.1 a (e ▸ ha)
    · rw [e] at ha; injection ha with ha; rw [← ha]; show eb ≤ w3.heap.size; have := H3.out.2.2.2.2.2.2.2.2; omega
  have ne4 : ∀ b, b < eb → ¬ A3.map (·.block) = some b := fun b hb e => by
    obtain ⟨a, ha, hab⟩ := Option.map_eq_some_iff.1 e
    have := H3.out.2.2.2.2.2.2.1 a ha
    omega
  have bq4 := (g4.block q (block_lt H3.out.2.1) (fun e => ne4 q hq8.1 e.symm)).trans H3.out.2.1
  have br4 := (g4.block rb (block_lt H3.out.2.2.1) (fun e => ne4 rb hq8.2.2.1 e.symm)).trans H3.out.2.2.1
  have bx4 := (g4.block xb (block_lt H3.out.2.2.2.1) (fun e => ne4 xb hq8.2.2.2 e.symm)).trans H3.out.2.2.2.1
  have x4 : Ext w w4 := g4.ext H3.out.2.2.2.2.2.1 (fun b hb => by
    obtain ⟨a, ha, hab⟩ := Option.map_eq_some_iff.1 hb
    have := H3.out.2.2.2.2.2.2.1 a ha
    have := HRB.out
    omega)
  have hrows : (trows L).flatten.take (i * 2) ++ (trows L).flatten.drop ((i + 1) * 2) = (trows (L.eraseIdx i)).flatten := by
    rw [(trows_even L).take, (trows_even L).drop, ← List.flatten_append, List.eraseIdx_eq_take_drop_succ]
    simp [trows, List.map_take, List.map_drop]
  rw [hrows] at o4
  have HS4 : w4.cell? ⟨q, 0, none⟩ = some (.slice (some ⟨T, 0, none⟩) n c) := block_cell bq4 0
  have H4 := Lib.hid (And.intro o4 (And.intro bq4 (And.intro br4 (And.intro bx4 (And.intro x4 (And.intro hA4b hq8))))))
  have z4 := block_fz bq4 0
  clear o4 g4 hA4 hA4b ne4 bq4 br4 bx4 x4 hrows hq8 H3 hx3
  refine hK.out _ _ (fun _ => HS4) ?_
  clear hK K 
  try simp only [Act.put, List.setIfInBounds_toArray, List.set_cons_zero, List.set_cons_succ]
  refine d_take (i := 17) (v := ?_) [18, 19] (some 30) rfl (by rfl) (by kernel_rfl) (by kernel_rfl) (by kernel_rfl) (by kernel_rfl) (by kernel_rfl) (by kernel_rfl) (fun _ _ _ h => h) (.inl ⟨by rfl, ?_⟩) HS4 ?_
  rotate_left 1
  · (intro W hW; (try dsimp only at hW); go_simp; try with_reducible rfl)
  try simp only [Act.put, List.setIfInBounds_toArray, List.set_cons_zero, List.set_cons_succ]
  refine d_take (i := 18) (v := ?_) [19] (some 31) rfl (by rfl) (by kernel_rfl) (by kernel_rfl) (by kernel_rfl) (by kernel_rfl) (by kernel_rfl) (by kernel_rfl) (fun _ _ _ h => h) (.inl ⟨by rfl, ?_⟩) HS4 ?_
  rotate_left 1
  · (intro W hW; (try dsimp only at hW); go_simp; try with_reducible rfl)
  try simp only [Act.put, List.setIfInBounds_toArray, List.set_cons_zero, List.set_cons_succ]
  refine d_one (i := 19) (by kernel_rfl) rfl rfl (fun K hK => ?_)
  simp only [List.getElem_toArray, List.getElem_cons_succ, List.getElem_cons_zero]
  go_simp
  have b5 := heap_setCell_same w4 q 0 _ _ (.slice A4 (i + (n - (i + 1))) c4) H4.out.2.1
  have f5 := Fr.store w4 ⟨q, 0, none⟩ (.slice A4 (i + (n - (i + 1))) c4)
  have hq8 := H4.out.2.2.2.2.2.2
  have hqr : q < rb := H0.out.2.2.2.2.2.2.1
  have bx5 := (f5.block xb (block_lt H4.out.2.2.2.1) (fun e => by have e2 : xb = q := e; have := H1.out.2.2.2.2.2; omega)).trans H4.out.2.2.2.1
  have br5 := (f5.block rb (block_lt H4.out.2.2.1) (fun e => by have e2 : rb = q := e; omega)).trans H4.out.2.2.1
  have o5 := f5.own H4.out.1 (fun a ha e => by have e2 : a.block = q := e; have := H4.out.2.2.2.2.2.1 a ha; omega)
  have HS5 : (w4.setCell ⟨q, 0, none⟩ (.slice A4 (i + (n - (i + 1))) c4)).cell? ⟨q, 0, none⟩ = some (.slice (some ⟨T, 0, none⟩) n c) → True := fun _ => trivial
  have fw : Fr w (w4.setCell ⟨q, 0, none⟩ (.slice A4 (i + (n - (i + 1))) c4)) F := (Fr.of_ext H4.out.2.2.2.2.1 F).trans f5 (fun k _ e => by have e2 : k = q := e; rw [e2]; exact HF.out.2.1)
  have H5 := Lib.hid (And.intro b5 (And.intro bx5 (And.intro br5 (And.intro o5 fw))))
  have hA4q := H4.out.2.2.2.2.2.1
  clear b5 f5 bx5 br5 o5 HS5 fw z4
  refine hK.out _ _ (fun h => absurd h (by decide)) ?_
  clear hK K HS4
  try simp only [Act.put, List.setIfInBounds_toArray, List.set_cons_zero, List.set_cons_succ]
  generalize w4.setCell ⟨q, 0, none⟩ (.slice A4 (i + (n - (i + 1))) c4) = w5 at *
  refine d_done (by kernel_rfl) ?_ _
  have y0 : w5.cell? ⟨rb, 0, none⟩ = some (.int .i64 0) := block_cell H5.out.2.2.1 0
  have y1 : w5.cell? ⟨rb, 1, none⟩ = some (.int .i64 0) := block_cell H5.out.2.2.1 1
  have z0 := block_fz H5.out.2.2.1 0
  have z1 := block_fz H5.out.2.2.1 1
  have v0 : w5.cell? ⟨xb, 0, none⟩ = some (.int .i64 x.id) := block_cell H5.out.2.1 0
  have v1 : w5.cell? ⟨xb, 1, none⟩ = some (.int .i64 x.rank) := block_cell H5.out.2.1 1
  have HE : Hid (((w5.setCell ⟨rb, 0, none⟩ (.int .i64 x.id)).setCell ⟨rb, 1, none⟩ (.int .i64 x.rank)).heap[rb]? = some (.cells #[.int .i64 x.id, .int .i64 x.rank] 34 (0, 0)) ∧ ∃ F', RN w ((w5.setCell ⟨rb, 0, none⟩ (.int .i64 x.id)).setCell ⟨rb, 1, none⟩ (.int .i64 x.rank)) q F F' (L.eraseIdx i)) := Lib.hid (by
    have f6 := Fr.store2 w5 rb 0 1 (.int .i64 x.id) (.int .i64 x.rank)
    have hw : w.heap.size ≤ w5.heap.size := H5.out.2.2.2.2.size
    have hrbq : ¬ q = rb := by omega
    have hA4r : ∀ a, A4 = some a → ¬ a.block = rb := fun a ha => by have := hA4q a ha; omega
    refine ⟨set2_blk H5.out.2.2.1, fun k => F k ∨ A4.map (·.block) = some k, ⟨⟨A4, i + (n - (i + 1)), c4, (f6.block q (block_lt H5.out.1) hrbq).trans H5.out.1, (f6.own H5.out.2.2.2.1 hA4r).base_mono (Nat.zero_le _), fun a ha => ⟨.inr (by rw [ha]; rfl), fun e => by have := hA4q a ha; omega⟩⟩, .inl HF.out.2.1, fun k hk => ?_⟩, H5.out.2.2.2.2.trans f6 (fun k hk e => absurd hk (by have e2 : k = rb := e; have := HRB.out; omega)), fun k hk => ?_⟩
    · rcases hk with hk | hk
      · have := HF.out.2.2 k hk; have := HRB.out; have := f6.size; omega
      · obtain ⟨a, ha, rfl⟩ := Option.map_eq_some_iff.1 hk
        exact Nat.lt_of_lt_of_le (H5.out.2.2.2.1.lt_at ha) f6.size
    · rcases hk with hk | hk
      · exact .inl hk
      · obtain ⟨a, ha, rfl⟩ := Option.map_eq_some_iff.1 hk
        have := hA4q a ha; have := HRB.out
        exact .inr (by omega))
  clear hA4q hqr
  go_wp2_with fail
  generalize (w5.setCell ⟨rb, 0, none⟩ (.int .i64 x.id)).setCell ⟨rb, 1, none⟩ (.int .i64 x.rank) = w6 at *
  have s0 : w6.cell? ⟨rb, 0, none⟩ = some (.int .i64 x.id) := block_cell HE.out.1 0
  have s1 : w6.cell? ⟨rb, 1, none⟩ = some (.int .i64 x.rank) := block_cell HE.out.1 1
  refine bodyPost_ret (v := .agg #[.int .i64 x.id, .int .i64 x.rank]) (by simp [results, Tryd.results48, go_sem, s0, s1]) rfl ?_
  exact ⟨rfl, HE.out.2⟩
end
end Go.Proofs.YtocjbllkgbjihaaDoor
