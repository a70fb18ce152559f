/-
  play, walked: Push, Turn, Drop.
-/
import Derived.Test.YtocjbllkgbjihaaDoorQuBoth
import Derived.Test.YtocjbllkgbjihaaDoorOrd
namespace Go.Proofs.YtocjbllkgbjihaaDoor
set_option maxRecDepth 100000
open Go.RowKit Go.Maps
set_option linter.unusedVariables false
section
variable {W w : World} {g q Z : Nat} {U : Nat → Prop}
set_option maxHeartbeats 6400000 in
theorem play_push (E : Nat → Addr) (h : QPair w g q U Z) (hZ : Z < 4611686018427000000) (hW : Ext W w) (hU : ∀ b, U b → W.heap.size ≤ b) (hE : Errs W E) (Wh I R : Int) (hI : i64 I)
    {Post : Ending → World → Prop} (hPost : Hid (∀ w', QNxt w w' g q U (Z + 20000) → Post (.returned (.bool true)) w')) :
    Calls Tryd.prog 25 #[.pointer (some ⟨g, 0, none⟩), .pointer (some ⟨q, 0, none⟩), .agg #[.int .i64 1, .int .i64 Wh, .int .i64 I, .int .i64 R]] w Post := by
  obtain ⟨F, M, L, N, J, hp⟩ := h.start
  have HE := Lib.hid (fun w' (hf : Fr w w' U) => (show Errs w' E from hE.ext (Fr.ext hW hf hU)))
  have X0 := (Ext.refl w).alloc (.cells #[.int .i64 1, .int .i64 Wh, .int .i64 I, .int .i64 R] 58)
  have hob := heap_alloc_new w (.cells #[.int .i64 1, .int .i64 Wh, .int .i64 I, .int .i64 R] 58)
  have HB := Lib.hid (And.intro (fun b (hb : F b) => J.qp.lt b hb) (fun b (hb : M b) => J.rq.lt b hb))
  have J0 := J.ex X0
  obtain ⟨r, n, BS⟩ := both_push (E := E) (q := q) J0.qp hp (HE.out _ J0.fr) I R hI hZ
  have HV := Lib.hid (And.intro J0 (And.intro hob BS.num))
  have C1 := Lib.hid BS.g
  clear BS h hI hp J X0 hob J0 hW hU hE
  go_enter Tryd.func25, Tryd.ntmps25
  go_upto_region 3 with (fail)
  generalize w.alloc (.cells #[.int .i64 1, .int .i64 Wh, .int .i64 I, .int .i64 R] 58) = V at *
  generalize hobn : w.heap.size = ob at *
  have HOB := Lib.hid hobn
  clear hobn
  have c2 : V.cell? ⟨ob, 2, none⟩ = some (.int .i64 I) := block_cell HV.out.2.1 2
  have c3 : V.cell? ⟨ob, 3, none⟩ = some (.int .i64 R) := block_cell HV.out.2.1 3
  go_upto_region 4 with (go_at_call 10; refine C1.out.mono ?_; rintro e w1 ⟨rfl, F1, L1, n1, HM⟩)
  have J1 := HV.out.1.step_g n1
  have b1 := n1.blk HV.out.2.1 (fun e => by have := HB.out.1 ob e; have := HOB.out; omega)
  have y2 : w1.drew.cell? ⟨ob, 2, none⟩ = some (.int .i64 I) := block_cell (w := w1.drew) (show w1.drew.heap[ob]? = _ from b1) 2
  have y3 : w1.drew.cell? ⟨ob, 3, none⟩ = some (.int .i64 R) := block_cell (w := w1.drew) (show w1.drew.heap[ob]? = _ from b1) 3
  have HS1 : w1.drew.cell? ⟨ob, 2, none⟩ = some (.int .i64 I) ∧ w1.drew.cell? ⟨ob, 3, none⟩ = some (.int .i64 R) := ⟨y2, y3⟩
  have NU := Lib.hid (HV.out.2.2 w1.drew (HE.out _ (J1.fr.drew)))
  have H1 := Lib.hid (And.intro (J1.ex (Ext.refl w1).drew) HM)
  clear C1 n1 J1 b1 HM c2 c3
  refine d_region (fun w : World => w.cell? ⟨ob, 2, none⟩ = some (.int .i64 I) ∧ w.cell? ⟨ob, 3, none⟩ = some (.int .i64 R)) [7, 8, 9] (by kernel_rfl) ?_
  refine d_take (i := 0) (v := ?_) [1, 7, 8, 9] (some 30) rfl (by rfl) (by kernel_rfl) (by kernel_rfl) (by kernel_rfl) (by kernel_rfl) (by kernel_rfl) (by kernel_rfl) (fun _ _ _ h => h) (.inl ⟨by rfl, ?_⟩) HS1 ?_
  rotate_left 1
  · (intro W hW; (try dsimp only at hW); go_simp; try with_reducible rfl)
  try simp only [Act.put, List.setIfInBounds_toArray, List.set_cons_zero, List.set_cons_succ]
  refine d_take (i := 2) (v := ?_) [7, 8, 9] (some 32) rfl (by rfl) (by kernel_rfl) (by kernel_rfl) (by kernel_rfl) (by kernel_rfl) (by kernel_rfl) (by kernel_rfl) (fun _ _ _ h => h) (.inl ⟨by rfl, ?_⟩) HS1 ?_
  rotate_left 1
  · (intro W hW; (try dsimp only at hW); go_simp; try with_reducible rfl)
  try simp only [Act.put, List.setIfInBounds_toArray, List.set_cons_zero, List.set_cons_succ]
  refine d_take (i := 3) (v := ?_) [4, 7, 8, 9] (some 33) rfl (by rfl) (by kernel_rfl) (by kernel_rfl) (by kernel_rfl) (by kernel_rfl) (by kernel_rfl) (by kernel_rfl) (fun _ _ _ h => h) (.inl ⟨by rfl, ?_⟩) HS1 ?_
  rotate_left 1
  · (intro W hW; (try dsimp only at hW); go_simp; try with_reducible rfl)
  try simp only [Act.put, List.setIfInBounds_toArray, List.set_cons_zero, List.set_cons_succ]
  refine d_take (i := 4) (v := ?_) [7, 8, 9] (some 34) rfl (by rfl) (by kernel_rfl) (by kernel_rfl) (by kernel_rfl) (by kernel_rfl) (by kernel_rfl) (by kernel_rfl) (fun _ _ _ h => h) (.inl ⟨by rfl, ?_⟩) HS1 ?_
  rotate_left 1
  · (intro W hW; (try dsimp only at hW); go_simp; try with_reducible rfl)
  try simp only [Act.put, List.setIfInBounds_toArray, List.set_cons_zero, List.set_cons_succ]
  refine d_take (i := 5) (v := ?_) [6, 7, 8, 9] (some 35) rfl (by rfl) (by kernel_rfl) (by kernel_rfl) (by kernel_rfl) (by kernel_rfl) (by kernel_rfl) (by kernel_rfl) (fun _ _ _ h => h) (.inl ⟨by rfl, ?_⟩) HS1 ?_
  rotate_left 1
  · (intro W hW; (try dsimp only at hW); go_simp; try with_reducible rfl)
  try simp only [Act.put, List.setIfInBounds_toArray, List.set_cons_zero, List.set_cons_succ]
  refine d_take (i := 6) (v := ?_) [7, 8, 9] (some 36) rfl (by rfl) (by kernel_rfl) (by kernel_rfl) (by kernel_rfl) (by kernel_rfl) (by kernel_rfl) (by kernel_rfl) (fun _ _ _ h => h) (.inl ⟨by rfl, ?_⟩) HS1 ?_
  rotate_left 1
  · (intro W hW; (try dsimp only at hW); go_simp; try with_reducible rfl)
  try simp only [Act.put, List.setIfInBounds_toArray, List.set_cons_zero, List.set_cons_succ]
  refine d_call (i := 1) (by kernel_rfl) rfl (by rfl) (fun K hK => ?_)
  simp only [List.getElem_toArray, List.getElem_cons_succ, List.getElem_cons_zero]
  go_simp
  refine NU.out.mono ?_
  rintro e w2 ⟨rfl, x2⟩
  go_simp
  have J2 := H1.out.1.ex x2
  have C3 := Lib.hid (H1.out.2 w2 _ J2.rq)
  have H2 := Lib.hid J2
  have HS2 : w2.cell? ⟨ob, 2, none⟩ = some (.int .i64 I) ∧ w2.cell? ⟨ob, 3, none⟩ = some (.int .i64 R) := ⟨ext_cell2 x2 y2, ext_cell2 x2 y3⟩
  clear NU J2
  refine hK.out _ _ (fun _ => HS2) ?_
  clear hK K HS1 y2 y3 x2 HS2
  try simp only [Act.put, List.setIfInBounds_toArray, List.set_cons_zero, List.set_cons_succ]
  refine d_call (i := 7) (by kernel_rfl) rfl (by rfl) (fun K hK => ?_)
  simp only [List.getElem_toArray, List.getElem_cons_succ, List.getElem_cons_zero]
  go_simp
  refine C3.out.mono ?_
  rintro e w3 ⟨rfl, M3, N3, n3, p3⟩
  go_simp
  have HF := Lib.hid ((H2.out.step_m n3).done p3)
  clear C3 n3 p3
  refine hK.out _ _ (fun h => absurd h (by decide)) ?_
  clear hK K 
  try simp only [Act.put, List.setIfInBounds_toArray, List.set_cons_zero, List.set_cons_succ]
  refine d_call (i := 8) (by kernel_rfl) rfl (by rfl) (fun K hK => ?_)
  simp only [List.getElem_toArray, List.getElem_cons_succ, List.getElem_cons_zero]
  go_simp
  refine hK.out _ _ (fun h => absurd h (by decide)) ?_
  clear hK K 
  try simp only [Act.put, List.setIfInBounds_toArray, List.set_cons_zero, List.set_cons_succ]
  refine d_call (i := 9) (by kernel_rfl) rfl (by rfl) (fun K hK => ?_)
  simp only [List.getElem_toArray, List.getElem_cons_succ, List.getElem_cons_zero]
  go_simp
  refine hK.out _ _ (fun h => absurd h (by decide)) ?_
  clear hK K 
  try simp only [Act.put, List.setIfInBounds_toArray, List.set_cons_zero, List.set_cons_succ]
  refine d_done (by kernel_rfl) ?_ _
  go_wp2_with fail
  exact hPost.out _ HF.out
set_option maxHeartbeats 6400000 in
theorem play_turn (E : Nat → Addr) (h : QPair w g q U Z) (hZ : Z < 4611686018427000000) (hW : Ext W w) (hU : ∀ b, U b → W.heap.size ≤ b) (hE : Errs W E) (Wh I R : Int) (hI : i64 I)
    {Post : Ending → World → Prop} (hPost : Hid (∀ w', QNxt w w' g q U (Z + 20000) → Post (.returned (.bool true)) w')) :
    Calls Tryd.prog 25 #[.pointer (some ⟨g, 0, none⟩), .pointer (some ⟨q, 0, none⟩), .agg #[.int .i64 4, .int .i64 Wh, .int .i64 I, .int .i64 R]] w Post := by
  obtain ⟨F, M, L, N, J, hp⟩ := h.start
  have HE := Lib.hid (fun w' (hf : Fr w w' U) => (show Errs w' E from hE.ext (Fr.ext hW hf hU)))
  have X0 := (Ext.refl w).alloc (.cells #[.int .i64 4, .int .i64 Wh, .int .i64 I, .int .i64 R] 58)
  have hob := heap_alloc_new w (.cells #[.int .i64 4, .int .i64 Wh, .int .i64 I, .int .i64 R] 58)
  have HB := Lib.hid (And.intro (fun b (hb : F b) => J.qp.lt b hb) (fun b (hb : M b) => J.rq.lt b hb))
  have J0 := J.ex X0
  obtain ⟨r, n, BS⟩ := both_turn (E := E) (q := q) J0.qp hp (HE.out _ J0.fr) I R hI hZ
  have HV := Lib.hid (And.intro J0 (And.intro hob BS.num))
  have C1 := Lib.hid BS.g
  clear BS h hI hp J X0 hob J0 hW hU hE
  go_enter Tryd.func25, Tryd.ntmps25
  go_upto_region 16 with (fail)
  generalize w.alloc (.cells #[.int .i64 4, .int .i64 Wh, .int .i64 I, .int .i64 R] 58) = V at *
  generalize hobn : w.heap.size = ob at *
  have HOB := Lib.hid hobn
  clear hobn
  have c2 : V.cell? ⟨ob, 2, none⟩ = some (.int .i64 I) := block_cell HV.out.2.1 2
  have c3 : V.cell? ⟨ob, 3, none⟩ = some (.int .i64 R) := block_cell HV.out.2.1 3
  go_upto_region 17 with (go_at_call 12; refine C1.out.mono ?_; rintro e w1 ⟨rfl, F1, L1, n1, HM⟩)
  have J1 := HV.out.1.step_g n1
  have b1 := n1.blk HV.out.2.1 (fun e => by have := HB.out.1 ob e; have := HOB.out; omega)
  have y2 : w1.drew.cell? ⟨ob, 2, none⟩ = some (.int .i64 I) := block_cell (w := w1.drew) (show w1.drew.heap[ob]? = _ from b1) 2
  have y3 : w1.drew.cell? ⟨ob, 3, none⟩ = some (.int .i64 R) := block_cell (w := w1.drew) (show w1.drew.heap[ob]? = _ from b1) 3
  have HS1 : w1.drew.cell? ⟨ob, 2, none⟩ = some (.int .i64 I) ∧ w1.drew.cell? ⟨ob, 3, none⟩ = some (.int .i64 R) := ⟨y2, y3⟩
  have NU := Lib.hid (HV.out.2.2 w1.drew (HE.out _ (J1.fr.drew)))
  have H1 := Lib.hid (And.intro (J1.ex (Ext.refl w1).drew) HM)
  clear C1 n1 J1 b1 HM c2 c3
  refine d_region (fun w : World => w.cell? ⟨ob, 2, none⟩ = some (.int .i64 I) ∧ w.cell? ⟨ob, 3, none⟩ = some (.int .i64 R)) [7, 8, 9] (by kernel_rfl) ?_
  refine d_take (i := 0) (v := ?_) [1, 7, 8, 9] (some 100) rfl (by rfl) (by kernel_rfl) (by kernel_rfl) (by kernel_rfl) (by kernel_rfl) (by kernel_rfl) (by kernel_rfl) (fun _ _ _ h => h) (.inl ⟨by rfl, ?_⟩) HS1 ?_
  rotate_left 1
  · (intro W hW; (try dsimp only at hW); go_simp; try with_reducible rfl)
  try simp only [Act.put, List.setIfInBounds_toArray, List.set_cons_zero, List.set_cons_succ]
  refine d_take (i := 2) (v := ?_) [7, 8, 9] (some 102) rfl (by rfl) (by kernel_rfl) (by kernel_rfl) (by kernel_rfl) (by kernel_rfl) (by kernel_rfl) (by kernel_rfl) (fun _ _ _ h => h) (.inl ⟨by rfl, ?_⟩) HS1 ?_
  rotate_left 1
  · (intro W hW; (try dsimp only at hW); go_simp; try with_reducible rfl)
  try simp only [Act.put, List.setIfInBounds_toArray, List.set_cons_zero, List.set_cons_succ]
  refine d_take (i := 3) (v := ?_) [4, 7, 8, 9] (some 103) rfl (by rfl) (by kernel_rfl) (by kernel_rfl) (by kernel_rfl) (by kernel_rfl) (by kernel_rfl) (by kernel_rfl) (fun _ _ _ h => h) (.inl ⟨by rfl, ?_⟩) HS1 ?_
  rotate_left 1
  · (intro W hW; (try dsimp only at hW); go_simp; try with_reducible rfl)
  try simp only [Act.put, List.setIfInBounds_toArray, List.set_cons_zero, List.set_cons_succ]
  refine d_take (i := 4) (v := ?_) [7, 8, 9] (some 104) rfl (by rfl) (by kernel_rfl) (by kernel_rfl) (by kernel_rfl) (by kernel_rfl) (by kernel_rfl) (by kernel_rfl) (fun _ _ _ h => h) (.inl ⟨by rfl, ?_⟩) HS1 ?_
  rotate_left 1
  · (intro W hW; (try dsimp only at hW); go_simp; try with_reducible rfl)
  try simp only [Act.put, List.setIfInBounds_toArray, List.set_cons_zero, List.set_cons_succ]
  refine d_take (i := 5) (v := ?_) [6, 7, 8, 9] (some 105) rfl (by rfl) (by kernel_rfl) (by kernel_rfl) (by kernel_rfl) (by kernel_rfl) (by kernel_rfl) (by kernel_rfl) (fun _ _ _ h => h) (.inl ⟨by rfl, ?_⟩) HS1 ?_
  rotate_left 1
  · (intro W hW; (try dsimp only at hW); go_simp; try with_reducible rfl)
  try simp only [Act.put, List.setIfInBounds_toArray, List.set_cons_zero, List.set_cons_succ]
  refine d_take (i := 6) (v := ?_) [7, 8, 9] (some 106) rfl (by rfl) (by kernel_rfl) (by kernel_rfl) (by kernel_rfl) (by kernel_rfl) (by kernel_rfl) (by kernel_rfl) (fun _ _ _ h => h) (.inl ⟨by rfl, ?_⟩) HS1 ?_
  rotate_left 1
  · (intro W hW; (try dsimp only at hW); go_simp; try with_reducible rfl)
  try simp only [Act.put, List.setIfInBounds_toArray, List.set_cons_zero, List.set_cons_succ]
  refine d_call (i := 1) (by kernel_rfl) rfl (by rfl) (fun K hK => ?_)
  simp only [List.getElem_toArray, List.getElem_cons_succ, List.getElem_cons_zero]
  go_simp
  refine NU.out.mono ?_
  rintro e w2 ⟨rfl, x2⟩
  go_simp
  have J2 := H1.out.1.ex x2
  have C3 := Lib.hid (H1.out.2 w2 _ J2.rq)
  have H2 := Lib.hid J2
  have HS2 : w2.cell? ⟨ob, 2, none⟩ = some (.int .i64 I) ∧ w2.cell? ⟨ob, 3, none⟩ = some (.int .i64 R) := ⟨ext_cell2 x2 y2, ext_cell2 x2 y3⟩
  clear NU J2
  refine hK.out _ _ (fun _ => HS2) ?_
  clear hK K HS1 y2 y3 x2 HS2
  try simp only [Act.put, List.setIfInBounds_toArray, List.set_cons_zero, List.set_cons_succ]
  refine d_call (i := 7) (by kernel_rfl) rfl (by rfl) (fun K hK => ?_)
  simp only [List.getElem_toArray, List.getElem_cons_succ, List.getElem_cons_zero]
  go_simp
  refine C3.out.mono ?_
  rintro e w3 ⟨rfl, M3, N3, n3, p3⟩
  go_simp
  have HF := Lib.hid ((H2.out.step_m n3).done p3)
  clear C3 n3 p3
  refine hK.out _ _ (fun h => absurd h (by decide)) ?_
  clear hK K 
  try simp only [Act.put, List.setIfInBounds_toArray, List.set_cons_zero, List.set_cons_succ]
  refine d_call (i := 8) (by kernel_rfl) rfl (by rfl) (fun K hK => ?_)
  simp only [List.getElem_toArray, List.getElem_cons_succ, List.getElem_cons_zero]
  go_simp
  refine hK.out _ _ (fun h => absurd h (by decide)) ?_
  clear hK K 
  try simp only [Act.put, List.setIfInBounds_toArray, List.set_cons_zero, List.set_cons_succ]
  refine d_call (i := 9) (by kernel_rfl) rfl (by rfl) (fun K hK => ?_)
  simp only [List.getElem_toArray, List.getElem_cons_succ, List.getElem_cons_zero]
  go_simp
  refine hK.out _ _ (fun h => absurd h (by decide)) ?_
  clear hK K 
  try simp only [Act.put, List.setIfInBounds_toArray, List.set_cons_zero, List.set_cons_succ]
  refine d_done (by kernel_rfl) ?_ _
  go_wp2_with fail
  exact hPost.out _ HF.out
set_option maxHeartbeats 6400000 in
theorem play_drop (E : Nat → Addr) (h : QPair w g q U Z) (hZ : Z < 4611686018427000000) (hW : Ext W w) (hU : ∀ b, U b → W.heap.size ≤ b) (hE : Errs W E) (Wh I R : Int) (hI : i64 I)
    {Post : Ending → World → Prop} (hPost : Hid (∀ w', QNxt w w' g q U (Z + 20000) → Post (.returned (.bool true)) w')) :
    Calls Tryd.prog 25 #[.pointer (some ⟨g, 0, none⟩), .pointer (some ⟨q, 0, none⟩), .agg #[.int .i64 5, .int .i64 Wh, .int .i64 I, .int .i64 R]] w Post := by
  obtain ⟨F, M, L, N, J, hp⟩ := h.start
  have HE := Lib.hid (fun w' (hf : Fr w w' U) => (show Errs w' E from hE.ext (Fr.ext hW hf hU)))
  have X0 := (Ext.refl w).alloc (.cells #[.int .i64 5, .int .i64 Wh, .int .i64 I, .int .i64 R] 58)
  have hob := heap_alloc_new w (.cells #[.int .i64 5, .int .i64 Wh, .int .i64 I, .int .i64 R] 58)
  have HB := Lib.hid (And.intro (fun b (hb : F b) => J.qp.lt b hb) (fun b (hb : M b) => J.rq.lt b hb))
  have J0 := J.ex X0
  obtain ⟨r, n, BS⟩ := both_drop (E := E) (q := q) J0.qp hp (HE.out _ J0.fr) I R hI hZ
  have HV := Lib.hid (And.intro J0 (And.intro hob BS.num))
  have C1 := Lib.hid BS.g
  clear BS h hI hp J X0 hob J0 hW hU hE
  go_enter Tryd.func25, Tryd.ntmps25
  go_upto_region 19 with (fail)
  generalize w.alloc (.cells #[.int .i64 5, .int .i64 Wh, .int .i64 I, .int .i64 R] 58) = V at *
  generalize hobn : w.heap.size = ob at *
  have HOB := Lib.hid hobn
  clear hobn
  have c2 : V.cell? ⟨ob, 2, none⟩ = some (.int .i64 I) := block_cell HV.out.2.1 2
  have c3 : V.cell? ⟨ob, 3, none⟩ = some (.int .i64 R) := block_cell HV.out.2.1 3
  go_upto_region 20 with (go_at_call 11; refine C1.out.mono ?_; rintro e w1 ⟨rfl, F1, L1, n1, HM⟩)
  have J1 := HV.out.1.step_g n1
  have b1 := n1.blk HV.out.2.1 (fun e => by have := HB.out.1 ob e; have := HOB.out; omega)
  have y2 : w1.drew.cell? ⟨ob, 2, none⟩ = some (.int .i64 I) := block_cell (w := w1.drew) (show w1.drew.heap[ob]? = _ from b1) 2
  have y3 : w1.drew.cell? ⟨ob, 3, none⟩ = some (.int .i64 R) := block_cell (w := w1.drew) (show w1.drew.heap[ob]? = _ from b1) 3
  have HS1 : w1.drew.cell? ⟨ob, 2, none⟩ = some (.int .i64 I) := y2
  have NU := Lib.hid (HV.out.2.2 w1.drew (HE.out _ (J1.fr.drew)))
  have H1 := Lib.hid (And.intro (J1.ex (Ext.refl w1).drew) HM)
  clear C1 n1 J1 b1 HM c2 c3
  refine d_region (fun w : World => w.cell? ⟨ob, 2, none⟩ = some (.int .i64 I)) [5, 6, 7] (by kernel_rfl) ?_
  refine d_take (i := 0) (v := ?_) [1, 5, 6, 7] (some 115) rfl (by rfl) (by kernel_rfl) (by kernel_rfl) (by kernel_rfl) (by kernel_rfl) (by kernel_rfl) (by kernel_rfl) (fun _ _ _ h => h) (.inl ⟨by rfl, ?_⟩) HS1 ?_
  rotate_left 1
  · (intro W hW; (try dsimp only at hW); go_simp; try with_reducible rfl)
  try simp only [Act.put, List.setIfInBounds_toArray, List.set_cons_zero, List.set_cons_succ]
  refine d_take (i := 2) (v := ?_) [5, 6, 7] (some 117) rfl (by rfl) (by kernel_rfl) (by kernel_rfl) (by kernel_rfl) (by kernel_rfl) (by kernel_rfl) (by kernel_rfl) (fun _ _ _ h => h) (.inl ⟨by rfl, ?_⟩) HS1 ?_
  rotate_left 1
  · (intro W hW; (try dsimp only at hW); go_simp; try with_reducible rfl)
  try simp only [Act.put, List.setIfInBounds_toArray, List.set_cons_zero, List.set_cons_succ]
  refine d_take (i := 3) (v := ?_) [4, 5, 6, 7] (some 118) rfl (by rfl) (by kernel_rfl) (by kernel_rfl) (by kernel_rfl) (by kernel_rfl) (by kernel_rfl) (by kernel_rfl) (fun _ _ _ h => h) (.inl ⟨by rfl, ?_⟩) HS1 ?_
  rotate_left 1
  · (intro W hW; (try dsimp only at hW); go_simp; try with_reducible rfl)
  try simp only [Act.put, List.setIfInBounds_toArray, List.set_cons_zero, List.set_cons_succ]
  refine d_take (i := 4) (v := ?_) [5, 6, 7] (some 119) rfl (by rfl) (by kernel_rfl) (by kernel_rfl) (by kernel_rfl) (by kernel_rfl) (by kernel_rfl) (by kernel_rfl) (fun _ _ _ h => h) (.inl ⟨by rfl, ?_⟩) HS1 ?_
  rotate_left 1
  · (intro W hW; (try dsimp only at hW); go_simp; try with_reducible rfl)
  try simp only [Act.put, List.setIfInBounds_toArray, List.set_cons_zero, List.set_cons_succ]
  refine d_call (i := 1) (by kernel_rfl) rfl (by rfl) (fun K hK => ?_)
  simp only [List.getElem_toArray, List.getElem_cons_succ, List.getElem_cons_zero]
  go_simp
  refine NU.out.mono ?_
  rintro e w2 ⟨rfl, x2⟩
  go_simp
  have J2 := H1.out.1.ex x2
  have C3 := Lib.hid (H1.out.2 w2 _ J2.rq)
  have H2 := Lib.hid J2
  have HS2 : w2.cell? ⟨ob, 2, none⟩ = some (.int .i64 I) := ext_cell2 x2 y2
  clear NU J2
  refine hK.out _ _ (fun _ => HS2) ?_
  clear hK K HS1 y2 y3 x2 HS2
  try simp only [Act.put, List.setIfInBounds_toArray, List.set_cons_zero, List.set_cons_succ]
  refine d_call (i := 5) (by kernel_rfl) rfl (by rfl) (fun K hK => ?_)
  simp only [List.getElem_toArray, List.getElem_cons_succ, List.getElem_cons_zero]
  go_simp
  refine C3.out.mono ?_
  rintro e w3 ⟨rfl, M3, N3, n3, p3⟩
  go_simp
  have HF := Lib.hid ((H2.out.step_m n3).done p3)
  clear C3 n3 p3
  refine hK.out _ _ (fun h => absurd h (by decide)) ?_
  clear hK K 
  try simp only [Act.put, List.setIfInBounds_toArray, List.set_cons_zero, List.set_cons_succ]
  refine d_call (i := 6) (by kernel_rfl) rfl (by rfl) (fun K hK => ?_)
  simp only [List.getElem_toArray, List.getElem_cons_succ, List.getElem_cons_zero]
  go_simp
  refine hK.out _ _ (fun h => absurd h (by decide)) ?_
  clear hK K 
  try simp only [Act.put, List.setIfInBounds_toArray, List.set_cons_zero, List.set_cons_succ]
  refine d_call (i := 7) (by kernel_rfl) rfl (by rfl) (fun K hK => ?_)
  simp only [List.getElem_toArray, List.getElem_cons_succ, List.getElem_cons_zero]
  go_simp
  refine hK.out _ _ (fun h => absurd h (by decide)) ?_
  clear hK K 
  try simp only [Act.put, List.setIfInBounds_toArray, List.set_cons_zero, List.set_cons_succ]
  refine d_done (by kernel_rfl) ?_ _
  go_wp2_with fail
  exact hPost.out _ HF.out
end
end Go.Proofs.YtocjbllkgbjihaaDoor
