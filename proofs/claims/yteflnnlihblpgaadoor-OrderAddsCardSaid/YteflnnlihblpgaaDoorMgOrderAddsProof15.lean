/-
  Add, the document's and the program's, walked.
-/
import Derived.Test.YteflnnlihblpgaaDoorMgOrderAddsProof14
namespace Go.Proofs.YteflnnlihblpgaaDoor
set_option maxRecDepth 100000
open Go.RowKit
set_option linter.unusedVariables false
set_option maxHeartbeats 1600000 in
theorem radd_there (A : Option Addr) (n c : Nat) (ss : List EnS) (s : EnS) (w : World) (hs : Led w A n ss) (he : s.Lies w) (hn : n ≤ 1470000000000) (p : Nat) (hp : placeL (ents ss) s.e.cl s.e.nu = p + 1) : Calls Tryd.prog 15 #[.slice A n c, .agg #[.int .i64 s.e.cl, .int .i64 s.e.nu, .int .i64 s.e.kd, .int .i64 s.e.id, .int .i64 s.e.sk, .int .i64 s.e.sq, .int .i64 s.e.st, .int .i64 s.e.pol, .slice s.A s.n s.c, .int .i64 s.e.at_]] w fun x w' => x = .returned (.tuple #[.slice A n c, .int .i64 ((p + 1 : Nat) : Int), .int .i64 0]) ∧ Ext w w' := by
  have HS := Lib.hid (And.intro hs he)
  have hsl := hs.len
  have HP := Lib.hid hp
  clear hp
  have X1 := (Ext.refl w).alloc (.cells #[.int .i64 s.e.cl, .int .i64 s.e.nu, .int .i64 s.e.kd, .int .i64 s.e.id, .int .i64 s.e.sk, .int .i64 s.e.sq, .int .i64 s.e.st, .int .i64 s.e.pol, .slice s.A s.n s.c, .int .i64 s.e.at_] 29)
  have b1 := heap_alloc_new w (.cells #[.int .i64 s.e.cl, .int .i64 s.e.nu, .int .i64 s.e.kd, .int .i64 s.e.id, .int .i64 s.e.sk, .int .i64 s.e.sq, .int .i64 s.e.st, .int .i64 s.e.pol, .slice s.A s.n s.c, .int .i64 s.e.at_] 29)
  have HV := Lib.hid (And.intro b1 X1)
  clear X1 b1
  clear hs he
  go_enter Tryd.func15, Tryd.ntmps15
  go_upto_region 1 with (fail)
  generalize w.alloc (.cells #[.int .i64 s.e.cl, .int .i64 s.e.nu, .int .i64 s.e.kd, .int .i64 s.e.id, .int .i64 s.e.sk, .int .i64 s.e.sq, .int .i64 s.e.st, .int .i64 s.e.pol, .slice s.A s.n s.c, .int .i64 s.e.at_] 29) = V at *
  generalize w.heap.size = ob at *
  have c0 : V.cell? ⟨ob, 0, none⟩ = some (.int .i64 s.e.cl) := block_cell (HV.out.1) 0
  have c1 : V.cell? ⟨ob, 1, none⟩ = some (.int .i64 s.e.nu) := block_cell (HV.out.1) 1
  have c2 : V.cell? ⟨ob, 2, none⟩ = some (.int .i64 s.e.kd) := block_cell (HV.out.1) 2
  have c3 : V.cell? ⟨ob, 3, none⟩ = some (.int .i64 s.e.id) := block_cell (HV.out.1) 3
  have c4 : V.cell? ⟨ob, 4, none⟩ = some (.int .i64 s.e.sk) := block_cell (HV.out.1) 4
  have c5 : V.cell? ⟨ob, 5, none⟩ = some (.int .i64 s.e.sq) := block_cell (HV.out.1) 5
  have c6 : V.cell? ⟨ob, 6, none⟩ = some (.int .i64 s.e.st) := block_cell (HV.out.1) 6
  have c7 : V.cell? ⟨ob, 7, none⟩ = some (.int .i64 s.e.pol) := block_cell (HV.out.1) 7
  have c8 : V.cell? ⟨ob, 8, none⟩ = some (.slice s.A s.n s.c) := block_cell (HV.out.1) 8
  have c9 : V.cell? ⟨ob, 9, none⟩ = some (.int .i64 s.e.at_) := block_cell (HV.out.1) 9
  have CP := Lib.hid (rplace_any A n c ss V s.e.cl s.e.nu (HS.out.1.ext HV.out.2) (by omega))
  rw [HP.out] at CP
  have hp0 : (0 : Int) < ((p + 1 : Nat) : Int) := by omega
  go_wp2_with (go_at_call 19; refine CP.out.mono ?_; rintro e w1 ⟨rfl, x1⟩)
  go_returns
  exact ⟨rfl, HV.out.2.trans x1⟩
set_option maxHeartbeats 1600000 in
theorem radd_full (A : Option Addr) (n c : Nat) (ss : List EnS) (s : EnS) (w : World) (hs : Led w A n ss) (he : s.Lies w) (hn : n ≤ 1470000000000) (hp : placeL (ents ss) s.e.cl s.e.nu = 0) (h64 : 64 ≤ n) : Calls Tryd.prog 15 #[.slice A n c, .agg #[.int .i64 s.e.cl, .int .i64 s.e.nu, .int .i64 s.e.kd, .int .i64 s.e.id, .int .i64 s.e.sk, .int .i64 s.e.sq, .int .i64 s.e.st, .int .i64 s.e.pol, .slice s.A s.n s.c, .int .i64 s.e.at_]] w fun x w' => x = .returned (.tuple #[.slice none 0 0, .int .i64 0, .int .i64 7]) ∧ Ext w w' := by
  have HS := Lib.hid (And.intro hs he)
  have hsl := hs.len
  have HP := Lib.hid hp
  clear hp
  have X1 := (Ext.refl w).alloc (.cells #[.int .i64 s.e.cl, .int .i64 s.e.nu, .int .i64 s.e.kd, .int .i64 s.e.id, .int .i64 s.e.sk, .int .i64 s.e.sq, .int .i64 s.e.st, .int .i64 s.e.pol, .slice s.A s.n s.c, .int .i64 s.e.at_] 29)
  have b1 := heap_alloc_new w (.cells #[.int .i64 s.e.cl, .int .i64 s.e.nu, .int .i64 s.e.kd, .int .i64 s.e.id, .int .i64 s.e.sk, .int .i64 s.e.sq, .int .i64 s.e.st, .int .i64 s.e.pol, .slice s.A s.n s.c, .int .i64 s.e.at_] 29)
  have HV := Lib.hid (And.intro b1 X1)
  clear X1 b1
  clear hs he
  go_enter Tryd.func15, Tryd.ntmps15
  go_upto_region 1 with (fail)
  generalize w.alloc (.cells #[.int .i64 s.e.cl, .int .i64 s.e.nu, .int .i64 s.e.kd, .int .i64 s.e.id, .int .i64 s.e.sk, .int .i64 s.e.sq, .int .i64 s.e.st, .int .i64 s.e.pol, .slice s.A s.n s.c, .int .i64 s.e.at_] 29) = V at *
  generalize w.heap.size = ob at *
  have c0 : V.cell? ⟨ob, 0, none⟩ = some (.int .i64 s.e.cl) := block_cell (HV.out.1) 0
  have c1 : V.cell? ⟨ob, 1, none⟩ = some (.int .i64 s.e.nu) := block_cell (HV.out.1) 1
  have c2 : V.cell? ⟨ob, 2, none⟩ = some (.int .i64 s.e.kd) := block_cell (HV.out.1) 2
  have c3 : V.cell? ⟨ob, 3, none⟩ = some (.int .i64 s.e.id) := block_cell (HV.out.1) 3
  have c4 : V.cell? ⟨ob, 4, none⟩ = some (.int .i64 s.e.sk) := block_cell (HV.out.1) 4
  have c5 : V.cell? ⟨ob, 5, none⟩ = some (.int .i64 s.e.sq) := block_cell (HV.out.1) 5
  have c6 : V.cell? ⟨ob, 6, none⟩ = some (.int .i64 s.e.st) := block_cell (HV.out.1) 6
  have c7 : V.cell? ⟨ob, 7, none⟩ = some (.int .i64 s.e.pol) := block_cell (HV.out.1) 7
  have c8 : V.cell? ⟨ob, 8, none⟩ = some (.slice s.A s.n s.c) := block_cell (HV.out.1) 8
  have c9 : V.cell? ⟨ob, 9, none⟩ = some (.int .i64 s.e.at_) := block_cell (HV.out.1) 9
  have CP := Lib.hid (rplace_any A n c ss V s.e.cl s.e.nu (HS.out.1.ext HV.out.2) (by omega))
  rw [HP.out] at CP
  have h64' : (64 : Int) ≤ (n : Int) := by omega
  go_wp2_with (go_at_call 19; refine CP.out.mono ?_; rintro e w1 ⟨rfl, x1⟩)
  go_returns
  exact ⟨rfl, HV.out.2.trans x1⟩
set_option maxHeartbeats 1600000 in
theorem radd_new (A : Option Addr) (n c : Nat) (ss : List EnS) (s : EnS) (w : World) (hs : Led w A n ss) (he : s.Lies w) (hn : n ≤ 1470000000000) (hp : placeL (ents ss) s.e.cl s.e.nu = 0) (h64 : n < 64) : Calls Tryd.prog 15 #[.slice A n c, .agg #[.int .i64 s.e.cl, .int .i64 s.e.nu, .int .i64 s.e.kd, .int .i64 s.e.id, .int .i64 s.e.sk, .int .i64 s.e.sq, .int .i64 s.e.st, .int .i64 s.e.pol, .slice s.A s.n s.c, .int .i64 s.e.at_]] w fun x w' => ∃ B d uu, x = .returned (.tuple #[.slice B (n + 1) d, .int .i64 ((n + 1 : Nat) : Int), .int .i64 0]) ∧ ents uu = ents ss ++ [s.e] ∧ Led w' B (n + 1) uu ∧ Ext w w' := by
  have HS := Lib.hid (And.intro hs he)
  have hsl := hs.len
  have HP := Lib.hid hp
  clear hp
  have X1 := (Ext.refl w).alloc (.cells #[.int .i64 s.e.cl, .int .i64 s.e.nu, .int .i64 s.e.kd, .int .i64 s.e.id, .int .i64 s.e.sk, .int .i64 s.e.sq, .int .i64 s.e.st, .int .i64 s.e.pol, .slice s.A s.n s.c, .int .i64 s.e.at_] 29)
  have b1 := heap_alloc_new w (.cells #[.int .i64 s.e.cl, .int .i64 s.e.nu, .int .i64 s.e.kd, .int .i64 s.e.id, .int .i64 s.e.sk, .int .i64 s.e.sq, .int .i64 s.e.st, .int .i64 s.e.pol, .slice s.A s.n s.c, .int .i64 s.e.at_] 29)
  have HV := Lib.hid (And.intro b1 X1)
  clear X1 b1
  clear hs he
  go_enter Tryd.func15, Tryd.ntmps15
  go_upto_region 1 with (fail)
  generalize w.alloc (.cells #[.int .i64 s.e.cl, .int .i64 s.e.nu, .int .i64 s.e.kd, .int .i64 s.e.id, .int .i64 s.e.sk, .int .i64 s.e.sq, .int .i64 s.e.st, .int .i64 s.e.pol, .slice s.A s.n s.c, .int .i64 s.e.at_] 29) = V at *
  generalize w.heap.size = ob at *
  have c0 : V.cell? ⟨ob, 0, none⟩ = some (.int .i64 s.e.cl) := block_cell (HV.out.1) 0
  have c1 : V.cell? ⟨ob, 1, none⟩ = some (.int .i64 s.e.nu) := block_cell (HV.out.1) 1
  have c2 : V.cell? ⟨ob, 2, none⟩ = some (.int .i64 s.e.kd) := block_cell (HV.out.1) 2
  have c3 : V.cell? ⟨ob, 3, none⟩ = some (.int .i64 s.e.id) := block_cell (HV.out.1) 3
  have c4 : V.cell? ⟨ob, 4, none⟩ = some (.int .i64 s.e.sk) := block_cell (HV.out.1) 4
  have c5 : V.cell? ⟨ob, 5, none⟩ = some (.int .i64 s.e.sq) := block_cell (HV.out.1) 5
  have c6 : V.cell? ⟨ob, 6, none⟩ = some (.int .i64 s.e.st) := block_cell (HV.out.1) 6
  have c7 : V.cell? ⟨ob, 7, none⟩ = some (.int .i64 s.e.pol) := block_cell (HV.out.1) 7
  have c8 : V.cell? ⟨ob, 8, none⟩ = some (.slice s.A s.n s.c) := block_cell (HV.out.1) 8
  have c9 : V.cell? ⟨ob, 9, none⟩ = some (.int .i64 s.e.at_) := block_cell (HV.out.1) 9
  have CP := Lib.hid (rplace_any A n c ss V s.e.cl s.e.nu (HS.out.1.ext HV.out.2) (by omega))
  rw [HP.out] at CP
  have h64' : ¬ (64 : Int) ≤ (n : Int) := by omega
  go_upto_region 6 with (go_at_call 19; refine CP.out.mono ?_; rintro e w1 ⟨rfl, x1⟩)
  have HX1 := Lib.hid (And.intro (HV.out.2.trans x1) ((x1.block _ (block_lt HV.out.1)).trans HV.out.1))
  clear CP c0 c1 c2 c3 c4 c5 c6 c7 c8 c9
  have c0 : ∀ W, Ext w1 W → W.cell? ⟨ob, 0, none⟩ = some (.int .i64 s.e.cl) := fun W hx => block_cell ((hx.block _ (block_lt (HX1.out.2))).trans (HX1.out.2)) 0
  have c1 : ∀ W, Ext w1 W → W.cell? ⟨ob, 1, none⟩ = some (.int .i64 s.e.nu) := fun W hx => block_cell ((hx.block _ (block_lt (HX1.out.2))).trans (HX1.out.2)) 1
  have c2 : ∀ W, Ext w1 W → W.cell? ⟨ob, 2, none⟩ = some (.int .i64 s.e.kd) := fun W hx => block_cell ((hx.block _ (block_lt (HX1.out.2))).trans (HX1.out.2)) 2
  have c3 : ∀ W, Ext w1 W → W.cell? ⟨ob, 3, none⟩ = some (.int .i64 s.e.id) := fun W hx => block_cell ((hx.block _ (block_lt (HX1.out.2))).trans (HX1.out.2)) 3
  have c4 : ∀ W, Ext w1 W → W.cell? ⟨ob, 4, none⟩ = some (.int .i64 s.e.sk) := fun W hx => block_cell ((hx.block _ (block_lt (HX1.out.2))).trans (HX1.out.2)) 4
  have c5 : ∀ W, Ext w1 W → W.cell? ⟨ob, 5, none⟩ = some (.int .i64 s.e.sq) := fun W hx => block_cell ((hx.block _ (block_lt (HX1.out.2))).trans (HX1.out.2)) 5
  have c6 : ∀ W, Ext w1 W → W.cell? ⟨ob, 6, none⟩ = some (.int .i64 s.e.st) := fun W hx => block_cell ((hx.block _ (block_lt (HX1.out.2))).trans (HX1.out.2)) 6
  have c7 : ∀ W, Ext w1 W → W.cell? ⟨ob, 7, none⟩ = some (.int .i64 s.e.pol) := fun W hx => block_cell ((hx.block _ (block_lt (HX1.out.2))).trans (HX1.out.2)) 7
  have c8 : ∀ W, Ext w1 W → W.cell? ⟨ob, 8, none⟩ = some (.slice s.A s.n s.c) := fun W hx => block_cell ((hx.block _ (block_lt (HX1.out.2))).trans (HX1.out.2)) 8
  have c9 : ∀ W, Ext w1 W → W.cell? ⟨ob, 9, none⟩ = some (.int .i64 s.e.at_) := fun W hx => block_cell ((hx.block _ (block_lt (HX1.out.2))).trans (HX1.out.2)) 9
  have CC := Lib.hid (fun W (hx : Ext w1 W) => rcopy_any A n c ss W (HS.out.1.ext (HX1.out.1.trans hx)) (by omega))
  have r1 : IntKind.i64.wrap ((n : Int) + 1) = ((n + 1 : Nat) : Int) := by rw [IntKind.wrap_i64]; omega
  have HY : Ext w1 w1.drew := (Ext.refl w1).drew
  refine d_region (fun W => Ext w1 W) [] (by kernel_rfl) ?_
  refine d_take (i := 0) (v := ?_) [] (some 21) rfl (by rfl) (by kernel_rfl) (by kernel_rfl) (by kernel_rfl) (by kernel_rfl) (by kernel_rfl) (by kernel_rfl) (fun _ _ _ h => h) (.inl ⟨by rfl, ?_⟩) HY ?_
  rotate_left 1
  · (intro W hW; (try dsimp only at hW); go_simp; try with_reducible rfl)
  try simp only [Act.put, List.setIfInBounds_toArray, List.set_cons_zero, List.set_cons_succ]
  refine d_take (i := 2) (v := ?_) [] (some 23) rfl (by rfl) (by kernel_rfl) (by kernel_rfl) (by kernel_rfl) (by kernel_rfl) (by kernel_rfl) (by kernel_rfl) (fun _ _ _ h => h) (.inl ⟨by rfl, ?_⟩) HY ?_
  rotate_left 1
  · (intro W hW; (try dsimp only at hW); go_simp; try with_reducible rfl)
  try simp only [Act.put, List.setIfInBounds_toArray, List.set_cons_zero, List.set_cons_succ]
  refine d_take (i := 5) (v := ?_) [] (some 26) rfl (by rfl) (by kernel_rfl) (by kernel_rfl) (by kernel_rfl) (by kernel_rfl) (by kernel_rfl) (by kernel_rfl) (fun _ _ _ h => h) (.inl ⟨by rfl, ?_⟩) HY ?_
  rotate_left 1
  · (intro W hW; (try dsimp only at hW); go_simp; try with_reducible rfl)
  try simp only [Act.put, List.setIfInBounds_toArray, List.set_cons_zero, List.set_cons_succ]
  refine d_take (i := 6) (v := ?_) [] (some 27) rfl (by rfl) (by kernel_rfl) (by kernel_rfl) (by kernel_rfl) (by kernel_rfl) (by kernel_rfl) (by kernel_rfl) (fun _ _ _ h => h) (.inl ⟨by rfl, ?_⟩) HY ?_
  rotate_left 1
  · (intro W hW; (try dsimp only at hW); go_simp; try with_reducible rfl)
  try simp only [Act.put, List.setIfInBounds_toArray, List.set_cons_zero, List.set_cons_succ]
  refine d_take (i := 7) (v := ?_) [] (some 28) rfl (by rfl) (by kernel_rfl) (by kernel_rfl) (by kernel_rfl) (by kernel_rfl) (by kernel_rfl) (by kernel_rfl) (fun _ _ _ h => h) (.inl ⟨by rfl, ?_⟩) HY ?_
  rotate_left 1
  · (intro W hW; (try dsimp only at hW); go_simp; try with_reducible rfl)
  try simp only [Act.put, List.setIfInBounds_toArray, List.set_cons_zero, List.set_cons_succ]
  refine d_two (i := 1) (j := 3) (by kernel_rfl) rfl rfl rfl rfl (fun K hK => ?_) (fun K hK => ?_)
  · simp only [List.getElem_toArray, List.getElem_cons_succ, List.getElem_cons_zero]
    go_simp
    refine (CC.out _ HY).mono ?_
    rintro e w2 ⟨B, d, tt, rfl, ht, ho, x2⟩
    have ho := ho.base_mono HY.size
    have x2 := HY.trans x2
    refine hK.out _ _ (fun _ => x2) ?_
    clear hK K 
    try simp only [Act.put, List.setIfInBounds_toArray, List.set_cons_zero, List.set_cons_succ]
    refine d_one (i := 3) (by kernel_rfl) rfl rfl (fun K hK => ?_)
    simp only [List.getElem_toArray, List.getElem_cons_succ, List.getElem_cons_zero]
    go_simp
    refine hK.out _ _ (fun _ => x2.alloc _) ?_
    clear hK K 
    try simp only [Act.put, List.setIfInBounds_toArray, List.set_cons_zero, List.set_cons_succ]
    have XA := (Ext.refl w2).alloc (.cells #[.int .i64 s.e.cl, .int .i64 s.e.nu, .int .i64 s.e.kd, .int .i64 s.e.id, .int .i64 s.e.sk, .int .i64 s.e.sq, .int .i64 s.e.st, .int .i64 s.e.pol, .slice s.A s.n s.c, .int .i64 s.e.at_] 29)
    refine d_one (i := 4) (by kernel_rfl) rfl rfl (fun K hK => ?_)
    simp only [List.getElem_toArray, List.getElem_cons_succ, List.getElem_cons_zero]
    refine oper_app (w := w2.alloc (.cells #[.int .i64 s.e.cl, .int .i64 s.e.nu, .int .i64 s.e.kd, .int .i64 s.e.id, .int .i64 s.e.sk, .int .i64 s.e.sq, .int .i64 s.e.st, .int .i64 s.e.pol, .slice s.A s.n s.c, .int .i64 s.e.at_] 29)) (m := 1) (d := 1) (news := s.vals) eltEn (ho.ext XA).own (rd_entry s w2) (vals_one s) (by omega) (.inr ⟨by omega, by omega⟩) (x2.trans XA).size (.tmp 22) (.tmp 24) rfl rfl rfl ?_
    intro A3 c3 w3 o3 g3 _ _
    have x3 : Ext w1 w3 := g3.ext (x2.trans XA) (ho.ext XA).own.base_le
    have hl3 : Led w3 A3 (n + 1) (tt ++ [s]) := ⟨by rw [erows_app]; simpa [erows] using o3.rd, fun q hq => by
      rcases List.mem_append.1 hq with hq | hq
      · exact ((ho.ext XA).grown g3 q hq).1
      · obtain rfl := List.mem_singleton.1 hq
        exact HS.out.2.ext (HX1.out.1.trans x3)⟩
    have H3 := Lib.hid (And.intro hl3 x3)
    clear hl3 o3 g3
    refine hK.out _ _ (fun _ => x3) ?_
    clear hK K 
    try simp only [Act.put, List.setIfInBounds_toArray, List.set_cons_zero, List.set_cons_succ]
    clear x3
    refine d_one (i := 8) (by kernel_rfl) rfl rfl (fun K hK => ?_)
    simp only [List.getElem_toArray, List.getElem_cons_succ, List.getElem_cons_zero]
    go_simp
    refine hK.out _ _ (fun _ => H3.out.2) ?_
    clear hK K 
    try simp only [Act.put, List.setIfInBounds_toArray, List.set_cons_zero, List.set_cons_succ]
    refine d_one (i := 9) (by kernel_rfl) rfl rfl (fun K hK => ?_)
    simp only [List.getElem_toArray, List.getElem_cons_succ, List.getElem_cons_zero]
    go_simp
    refine hK.out _ _ (fun _ => H3.out.2) ?_
    clear hK K 
    try simp only [Act.put, List.setIfInBounds_toArray, List.set_cons_zero, List.set_cons_succ]
    refine d_one (i := 10) (by kernel_rfl) rfl rfl (fun K hK => ?_)
    simp only [List.getElem_toArray, List.getElem_cons_succ, List.getElem_cons_zero]
    go_simp
    refine hK.out _ _ (fun _ => H3.out.2) ?_
    clear hK K 
    try simp only [Act.put, List.setIfInBounds_toArray, List.set_cons_zero, List.set_cons_succ]
    refine d_done (by kernel_rfl) ?_ _
    go_wp2_with fail
    go_returns
    exact ⟨A3, c3, tt ++ [s], rfl, by rw [show ents (tt ++ [s]) = ents tt ++ [s.e] by simp [ents], ht], H3.out.1, HX1.out.1.trans H3.out.2⟩
  · simp only [List.getElem_toArray, List.getElem_cons_succ, List.getElem_cons_zero]
    go_simp
    refine hK.out _ _ (fun _ => HY.trans ((Ext.refl _).alloc _)) ?_
    clear hK K 
    try simp only [Act.put, List.setIfInBounds_toArray, List.set_cons_zero, List.set_cons_succ]
    have XB : Ext w1 (w1.alloc (.cells #[.int .i64 s.e.cl, .int .i64 s.e.nu, .int .i64 s.e.kd, .int .i64 s.e.id, .int .i64 s.e.sk, .int .i64 s.e.sq, .int .i64 s.e.st, .int .i64 s.e.pol, .slice s.A s.n s.c, .int .i64 s.e.at_] 29)).drew := ((Ext.refl w1).alloc (.cells #[.int .i64 s.e.cl, .int .i64 s.e.nu, .int .i64 s.e.kd, .int .i64 s.e.id, .int .i64 s.e.sk, .int .i64 s.e.sq, .int .i64 s.e.st, .int .i64 s.e.pol, .slice s.A s.n s.c, .int .i64 s.e.at_] 29)).drew
    refine d_one (i := 1) (by kernel_rfl) rfl rfl (fun K hK => ?_)
    simp only [List.getElem_toArray, List.getElem_cons_succ, List.getElem_cons_zero]
    go_simp
    refine (CC.out _ XB).mono ?_
    rintro e w2 ⟨B, d, tt, rfl, ht, ho, x2⟩
    have RB := (rd_entry s w1).ext ((Ext.refl (w1.alloc (.cells #[.int .i64 s.e.cl, .int .i64 s.e.nu, .int .i64 s.e.kd, .int .i64 s.e.id, .int .i64 s.e.sk, .int .i64 s.e.sq, .int .i64 s.e.st, .int .i64 s.e.pol, .slice s.A s.n s.c, .int .i64 s.e.at_] 29))).drew.trans x2)
    have ho := ho.base_mono XB.size
    have x2 := XB.trans x2
    refine hK.out _ _ (fun _ => x2) ?_
    clear hK K 
    try simp only [Act.put, List.setIfInBounds_toArray, List.set_cons_zero, List.set_cons_succ]
    refine d_one (i := 4) (by kernel_rfl) rfl rfl (fun K hK => ?_)
    simp only [List.getElem_toArray, List.getElem_cons_succ, List.getElem_cons_zero]
    refine oper_app (w := w2) (m := 1) (d := 1) (news := s.vals) eltEn (ho).own (RB) (vals_one s) (by omega) (.inr ⟨by omega, by omega⟩) (x2).size (.tmp 22) (.tmp 24) rfl rfl rfl ?_
    intro A3 c3 w3 o3 g3 _ _
    have x3 : Ext w1 w3 := g3.ext (x2) (ho).own.base_le
    have hl3 : Led w3 A3 (n + 1) (tt ++ [s]) := ⟨by rw [erows_app]; simpa [erows] using o3.rd, fun q hq => by
      rcases List.mem_append.1 hq with hq | hq
      · exact ((ho).grown g3 q hq).1
      · obtain rfl := List.mem_singleton.1 hq
        exact HS.out.2.ext (HX1.out.1.trans x3)⟩
    have H3 := Lib.hid (And.intro hl3 x3)
    clear hl3 o3 g3
    refine hK.out _ _ (fun _ => x3) ?_
    clear hK K 
    try simp only [Act.put, List.setIfInBounds_toArray, List.set_cons_zero, List.set_cons_succ]
    clear x3
    refine d_one (i := 8) (by kernel_rfl) rfl rfl (fun K hK => ?_)
    simp only [List.getElem_toArray, List.getElem_cons_succ, List.getElem_cons_zero]
    go_simp
    refine hK.out _ _ (fun _ => H3.out.2) ?_
    clear hK K 
    try simp only [Act.put, List.setIfInBounds_toArray, List.set_cons_zero, List.set_cons_succ]
    refine d_one (i := 9) (by kernel_rfl) rfl rfl (fun K hK => ?_)
    simp only [List.getElem_toArray, List.getElem_cons_succ, List.getElem_cons_zero]
    go_simp
    refine hK.out _ _ (fun _ => H3.out.2) ?_
    clear hK K 
    try simp only [Act.put, List.setIfInBounds_toArray, List.set_cons_zero, List.set_cons_succ]
    refine d_one (i := 10) (by kernel_rfl) rfl rfl (fun K hK => ?_)
    simp only [List.getElem_toArray, List.getElem_cons_succ, List.getElem_cons_zero]
    go_simp
    refine hK.out _ _ (fun _ => H3.out.2) ?_
    clear hK K 
    try simp only [Act.put, List.setIfInBounds_toArray, List.set_cons_zero, List.set_cons_succ]
    refine d_done (by kernel_rfl) ?_ _
    go_wp2_with fail
    go_returns
    exact ⟨A3, c3, tt ++ [s], rfl, by rw [show ents (tt ++ [s]) = ents tt ++ [s.e] by simp [ents], ht], H3.out.1, HX1.out.1.trans H3.out.2⟩
set_option maxHeartbeats 1600000 in
theorem add_there (A : Option Addr) (n c : Nat) (ss : List EnS) (s : EnS) (w : World) (hs : Led w A n ss) (he : s.Lies w) (hn : n ≤ 1470000000000) (p : Nat) (hp : placeL (ents ss) s.e.cl s.e.nu = p + 1) : Calls Tryd.prog 14 #[.slice A n c, .agg #[.int .i64 s.e.cl, .int .i64 s.e.nu, .int .i64 s.e.kd, .int .i64 s.e.id, .int .i64 s.e.sk, .int .i64 s.e.sq, .int .i64 s.e.st, .int .i64 s.e.pol, .slice s.A s.n s.c, .int .i64 s.e.at_]] w fun x w' => ∃ B d uu, x = .returned (.tuple #[.slice B n d, .int .i64 ((p + 1 : Nat) : Int), .nilIface]) ∧ ents uu = ents ss ∧ OLed w' w.heap.size B n d uu ∧ Ext w w' := by
  have HS := Lib.hid (And.intro hs he)
  have hsl := hs.len
  have HP := Lib.hid hp
  clear hp
  have X1 := (Ext.refl w).alloc (.cells #[.int .i64 s.e.cl, .int .i64 s.e.nu, .int .i64 s.e.kd, .int .i64 s.e.id, .int .i64 s.e.sk, .int .i64 s.e.sq, .int .i64 s.e.st, .int .i64 s.e.pol, .slice s.A s.n s.c, .int .i64 s.e.at_] 29)
  have b1 := heap_alloc_new w (.cells #[.int .i64 s.e.cl, .int .i64 s.e.nu, .int .i64 s.e.kd, .int .i64 s.e.id, .int .i64 s.e.sk, .int .i64 s.e.sq, .int .i64 s.e.st, .int .i64 s.e.pol, .slice s.A s.n s.c, .int .i64 s.e.at_] 29)
  have HV := Lib.hid (And.intro b1 X1)
  clear X1 b1
  clear hs he
  go_enter Tryd.func14, Tryd.ntmps14
  go_upto_region 1 with (fail)
  generalize w.alloc (.cells #[.int .i64 s.e.cl, .int .i64 s.e.nu, .int .i64 s.e.kd, .int .i64 s.e.id, .int .i64 s.e.sk, .int .i64 s.e.sq, .int .i64 s.e.st, .int .i64 s.e.pol, .slice s.A s.n s.c, .int .i64 s.e.at_] 29) = V at *
  generalize w.heap.size = ob at *
  have c0 : V.cell? ⟨ob, 0, none⟩ = some (.int .i64 s.e.cl) := block_cell (HV.out.1) 0
  have c1 : V.cell? ⟨ob, 1, none⟩ = some (.int .i64 s.e.nu) := block_cell (HV.out.1) 1
  have c2 : V.cell? ⟨ob, 2, none⟩ = some (.int .i64 s.e.kd) := block_cell (HV.out.1) 2
  have c3 : V.cell? ⟨ob, 3, none⟩ = some (.int .i64 s.e.id) := block_cell (HV.out.1) 3
  have c4 : V.cell? ⟨ob, 4, none⟩ = some (.int .i64 s.e.sk) := block_cell (HV.out.1) 4
  have c5 : V.cell? ⟨ob, 5, none⟩ = some (.int .i64 s.e.sq) := block_cell (HV.out.1) 5
  have c6 : V.cell? ⟨ob, 6, none⟩ = some (.int .i64 s.e.st) := block_cell (HV.out.1) 6
  have c7 : V.cell? ⟨ob, 7, none⟩ = some (.int .i64 s.e.pol) := block_cell (HV.out.1) 7
  have c8 : V.cell? ⟨ob, 8, none⟩ = some (.slice s.A s.n s.c) := block_cell (HV.out.1) 8
  have c9 : V.cell? ⟨ob, 9, none⟩ = some (.int .i64 s.e.at_) := block_cell (HV.out.1) 9
  have CP := Lib.hid (place_ok A n c ss V s.e.cl s.e.nu (HS.out.1.ext HV.out.2) (by omega) p HP.out)
  have CC := Lib.hid (fun W (hx : Ext V W) => copied_any A n c ss W (HS.out.1.ext (HV.out.2.trans hx)) (by omega))
  go_wp2_with (first | (go_at_call 18; refine CP.out.mono ?_; rintro e w1 ⟨rfl, x1⟩) | (go_at_call 45; refine (CC.out _ x1).mono ?_; rintro e w2 ⟨B, d, tt, rfl, ht, ho, x2⟩))
  go_returns
  exact ⟨B, d, tt, rfl, ht, ho.base_mono (HV.out.2.trans x1).size, (HV.out.2.trans x1).trans x2⟩
set_option maxHeartbeats 1600000 in
theorem add_full (A : Option Addr) (n c : Nat) (ss : List EnS) (s : EnS) (w : World) (hs : Led w A n ss) (he : s.Lies w) (hn : n ≤ 1470000000000) (hp : placeL (ents ss) s.e.cl s.e.nu = 0) (h64 : 64 ≤ n) {ps : Addr} (hG : Sen w 0 ps) {pf : Addr} (hF : Sen w 4 pf) : Calls Tryd.prog 14 #[.slice A n c, .agg #[.int .i64 s.e.cl, .int .i64 s.e.nu, .int .i64 s.e.kd, .int .i64 s.e.id, .int .i64 s.e.sk, .int .i64 s.e.sq, .int .i64 s.e.st, .int .i64 s.e.pol, .slice s.A s.n s.c, .int .i64 s.e.at_]] w fun x w' => x = .returned (.tuple #[.slice none 0 0, .int .i64 0, .iface 149 (.pointer (some pf))]) ∧ Ext w w' := by
  have HS := Lib.hid (And.intro hs he)
  have hsl := hs.len
  have HP := Lib.hid (And.intro hp (And.intro hG hF))
  clear hp hG hF
  have X1 := (Ext.refl w).alloc (.cells #[.int .i64 s.e.cl, .int .i64 s.e.nu, .int .i64 s.e.kd, .int .i64 s.e.id, .int .i64 s.e.sk, .int .i64 s.e.sq, .int .i64 s.e.st, .int .i64 s.e.pol, .slice s.A s.n s.c, .int .i64 s.e.at_] 29)
  have b1 := heap_alloc_new w (.cells #[.int .i64 s.e.cl, .int .i64 s.e.nu, .int .i64 s.e.kd, .int .i64 s.e.id, .int .i64 s.e.sk, .int .i64 s.e.sq, .int .i64 s.e.st, .int .i64 s.e.pol, .slice s.A s.n s.c, .int .i64 s.e.at_] 29)
  have HV := Lib.hid (And.intro b1 X1)
  clear X1 b1
  clear hs he
  go_enter Tryd.func14, Tryd.ntmps14
  go_upto_region 1 with (fail)
  generalize w.alloc (.cells #[.int .i64 s.e.cl, .int .i64 s.e.nu, .int .i64 s.e.kd, .int .i64 s.e.id, .int .i64 s.e.sk, .int .i64 s.e.sq, .int .i64 s.e.st, .int .i64 s.e.pol, .slice s.A s.n s.c, .int .i64 s.e.at_] 29) = V at *
  generalize w.heap.size = ob at *
  have c0 : V.cell? ⟨ob, 0, none⟩ = some (.int .i64 s.e.cl) := block_cell (HV.out.1) 0
  have c1 : V.cell? ⟨ob, 1, none⟩ = some (.int .i64 s.e.nu) := block_cell (HV.out.1) 1
  have c2 : V.cell? ⟨ob, 2, none⟩ = some (.int .i64 s.e.kd) := block_cell (HV.out.1) 2
  have c3 : V.cell? ⟨ob, 3, none⟩ = some (.int .i64 s.e.id) := block_cell (HV.out.1) 3
  have c4 : V.cell? ⟨ob, 4, none⟩ = some (.int .i64 s.e.sk) := block_cell (HV.out.1) 4
  have c5 : V.cell? ⟨ob, 5, none⟩ = some (.int .i64 s.e.sq) := block_cell (HV.out.1) 5
  have c6 : V.cell? ⟨ob, 6, none⟩ = some (.int .i64 s.e.st) := block_cell (HV.out.1) 6
  have c7 : V.cell? ⟨ob, 7, none⟩ = some (.int .i64 s.e.pol) := block_cell (HV.out.1) 7
  have c8 : V.cell? ⟨ob, 8, none⟩ = some (.slice s.A s.n s.c) := block_cell (HV.out.1) 8
  have c9 : V.cell? ⟨ob, 9, none⟩ = some (.int .i64 s.e.at_) := block_cell (HV.out.1) 9
  have CP := Lib.hid (place_no A n c ss V s.e.cl s.e.nu (HS.out.1.ext HV.out.2) (by omega) HP.out.1 (HP.out.2.1.ext HV.out.2))
  have h64' : (64 : Int) ≤ (n : Int) := by omega
  go_upto_region 5 with (go_at_call 18; refine CP.out.mono ?_; rintro e w1 ⟨rfl, x1⟩)
  have sf := (HP.out.2.2.ext (HV.out.2.trans x1)).2.1
  clear c0 c1 c2 c3 c4 c5 c6 c7 c8 c9
  go_quiet (fail)
  go_wp2_with fail
  go_returns
  exact ⟨rfl, (HV.out.2.trans x1).drewN _⟩
set_option maxHeartbeats 1600000 in
theorem add_new (A : Option Addr) (n c : Nat) (ss : List EnS) (s : EnS) (w : World) (hs : Led w A n ss) (he : s.Lies w) (hn : n ≤ 1470000000000) (hp : placeL (ents ss) s.e.cl s.e.nu = 0) (h64 : n < 64) {ps : Addr} (hG : Sen w 0 ps) : Calls Tryd.prog 14 #[.slice A n c, .agg #[.int .i64 s.e.cl, .int .i64 s.e.nu, .int .i64 s.e.kd, .int .i64 s.e.id, .int .i64 s.e.sk, .int .i64 s.e.sq, .int .i64 s.e.st, .int .i64 s.e.pol, .slice s.A s.n s.c, .int .i64 s.e.at_]] w fun x w' => ∃ B d uu, x = .returned (.tuple #[.slice B (n + 1) d, .int .i64 ((n + 1 : Nat) : Int), .nilIface]) ∧ ents uu = ents ss ++ [s.e] ∧ OLed w' w.heap.size B (n + 1) d uu ∧ Ext w w' := by
  have HS := Lib.hid (And.intro hs he)
  have hsl := hs.len
  have HP := Lib.hid (And.intro hp hG)
  clear hp hG
  have X1 := (Ext.refl w).alloc (.cells #[.int .i64 s.e.cl, .int .i64 s.e.nu, .int .i64 s.e.kd, .int .i64 s.e.id, .int .i64 s.e.sk, .int .i64 s.e.sq, .int .i64 s.e.st, .int .i64 s.e.pol, .slice s.A s.n s.c, .int .i64 s.e.at_] 29)
  have b1 := heap_alloc_new w (.cells #[.int .i64 s.e.cl, .int .i64 s.e.nu, .int .i64 s.e.kd, .int .i64 s.e.id, .int .i64 s.e.sk, .int .i64 s.e.sq, .int .i64 s.e.st, .int .i64 s.e.pol, .slice s.A s.n s.c, .int .i64 s.e.at_] 29)
  have HV := Lib.hid (And.intro b1 X1)
  clear X1 b1
  clear hs he
  go_enter Tryd.func14, Tryd.ntmps14
  go_upto_region 1 with (fail)
  generalize w.alloc (.cells #[.int .i64 s.e.cl, .int .i64 s.e.nu, .int .i64 s.e.kd, .int .i64 s.e.id, .int .i64 s.e.sk, .int .i64 s.e.sq, .int .i64 s.e.st, .int .i64 s.e.pol, .slice s.A s.n s.c, .int .i64 s.e.at_] 29) = V at *
  generalize w.heap.size = ob at *
  have c0 : V.cell? ⟨ob, 0, none⟩ = some (.int .i64 s.e.cl) := block_cell (HV.out.1) 0
  have c1 : V.cell? ⟨ob, 1, none⟩ = some (.int .i64 s.e.nu) := block_cell (HV.out.1) 1
  have c2 : V.cell? ⟨ob, 2, none⟩ = some (.int .i64 s.e.kd) := block_cell (HV.out.1) 2
  have c3 : V.cell? ⟨ob, 3, none⟩ = some (.int .i64 s.e.id) := block_cell (HV.out.1) 3
  have c4 : V.cell? ⟨ob, 4, none⟩ = some (.int .i64 s.e.sk) := block_cell (HV.out.1) 4
  have c5 : V.cell? ⟨ob, 5, none⟩ = some (.int .i64 s.e.sq) := block_cell (HV.out.1) 5
  have c6 : V.cell? ⟨ob, 6, none⟩ = some (.int .i64 s.e.st) := block_cell (HV.out.1) 6
  have c7 : V.cell? ⟨ob, 7, none⟩ = some (.int .i64 s.e.pol) := block_cell (HV.out.1) 7
  have c8 : V.cell? ⟨ob, 8, none⟩ = some (.slice s.A s.n s.c) := block_cell (HV.out.1) 8
  have c9 : V.cell? ⟨ob, 9, none⟩ = some (.int .i64 s.e.at_) := block_cell (HV.out.1) 9
  have CP := Lib.hid (place_no A n c ss V s.e.cl s.e.nu (HS.out.1.ext HV.out.2) (by omega) HP.out.1 (HP.out.2.ext HV.out.2))
  have h64' : ¬ (64 : Int) ≤ (n : Int) := by omega
  go_upto_region 6 with (go_at_call 18; refine CP.out.mono ?_; rintro e w1 ⟨rfl, x1⟩)
  have HX1 := Lib.hid (And.intro (HV.out.2.trans x1) ((x1.block _ (block_lt HV.out.1)).trans HV.out.1))
  clear CP c0 c1 c2 c3 c4 c5 c6 c7 c8 c9
  have c0 : ∀ W, Ext w1 W → W.cell? ⟨ob, 0, none⟩ = some (.int .i64 s.e.cl) := fun W hx => block_cell ((hx.block _ (block_lt (HX1.out.2))).trans (HX1.out.2)) 0
  have c1 : ∀ W, Ext w1 W → W.cell? ⟨ob, 1, none⟩ = some (.int .i64 s.e.nu) := fun W hx => block_cell ((hx.block _ (block_lt (HX1.out.2))).trans (HX1.out.2)) 1
  have c2 : ∀ W, Ext w1 W → W.cell? ⟨ob, 2, none⟩ = some (.int .i64 s.e.kd) := fun W hx => block_cell ((hx.block _ (block_lt (HX1.out.2))).trans (HX1.out.2)) 2
  have c3 : ∀ W, Ext w1 W → W.cell? ⟨ob, 3, none⟩ = some (.int .i64 s.e.id) := fun W hx => block_cell ((hx.block _ (block_lt (HX1.out.2))).trans (HX1.out.2)) 3
  have c4 : ∀ W, Ext w1 W → W.cell? ⟨ob, 4, none⟩ = some (.int .i64 s.e.sk) := fun W hx => block_cell ((hx.block _ (block_lt (HX1.out.2))).trans (HX1.out.2)) 4
  have c5 : ∀ W, Ext w1 W → W.cell? ⟨ob, 5, none⟩ = some (.int .i64 s.e.sq) := fun W hx => block_cell ((hx.block _ (block_lt (HX1.out.2))).trans (HX1.out.2)) 5
  have c6 : ∀ W, Ext w1 W → W.cell? ⟨ob, 6, none⟩ = some (.int .i64 s.e.st) := fun W hx => block_cell ((hx.block _ (block_lt (HX1.out.2))).trans (HX1.out.2)) 6
  have c7 : ∀ W, Ext w1 W → W.cell? ⟨ob, 7, none⟩ = some (.int .i64 s.e.pol) := fun W hx => block_cell ((hx.block _ (block_lt (HX1.out.2))).trans (HX1.out.2)) 7
  have c8 : ∀ W, Ext w1 W → W.cell? ⟨ob, 8, none⟩ = some (.slice s.A s.n s.c) := fun W hx => block_cell ((hx.block _ (block_lt (HX1.out.2))).trans (HX1.out.2)) 8
  have c9 : ∀ W, Ext w1 W → W.cell? ⟨ob, 9, none⟩ = some (.int .i64 s.e.at_) := fun W hx => block_cell ((hx.block _ (block_lt (HX1.out.2))).trans (HX1.out.2)) 9
  have CC := Lib.hid (fun W (hx : Ext w1 W) => copied_any A n c ss W (HS.out.1.ext (HX1.out.1.trans hx)) (by omega))
  have CD := Lib.hid (fun W (hx : Ext w1 W) b (hr : Rd W 10 (some ⟨b, 0, none⟩) 1 s.vals) => copied_any (some ⟨b, 0, none⟩) 1 1 [s] W ⟨by simpa [erows] using hr, fun q hq => by
    obtain rfl := List.mem_singleton.1 hq
    exact HS.out.2.ext (HX1.out.1.trans hx)⟩ (by omega))
  have HY : Ext w1 w1.drew := (Ext.refl w1).drew
  refine d_region (fun W => Ext w1 W) [] (by kernel_rfl) ?_
  refine d_take (i := 0) (v := ?_) [] (some 28) rfl (by rfl) (by kernel_rfl) (by kernel_rfl) (by kernel_rfl) (by kernel_rfl) (by kernel_rfl) (by kernel_rfl) (fun _ _ _ h => h) (.inl ⟨by rfl, ?_⟩) HY ?_
  rotate_left 1
  · (intro W hW; (try dsimp only at hW); go_simp; try with_reducible rfl)
  try simp only [Act.put, List.setIfInBounds_toArray, List.set_cons_zero, List.set_cons_succ]
  refine d_take (i := 2) (v := ?_) [] (some 30) rfl (by rfl) (by kernel_rfl) (by kernel_rfl) (by kernel_rfl) (by kernel_rfl) (by kernel_rfl) (by kernel_rfl) (fun _ _ _ h => h) (.inl ⟨by rfl, ?_⟩) HY ?_
  rotate_left 1
  · (intro W hW; (try dsimp only at hW); go_simp; try with_reducible rfl)
  try simp only [Act.put, List.setIfInBounds_toArray, List.set_cons_zero, List.set_cons_succ]
  refine d_two (i := 1) (j := 3) (by kernel_rfl) rfl rfl rfl rfl (fun K hK => ?_) (fun K hK => ?_)
  · simp only [List.getElem_toArray, List.getElem_cons_succ, List.getElem_cons_zero]
    go_simp
    refine (CC.out _ HY).mono ?_
    rintro e w2 ⟨B, d, tt, rfl, ht, ho, x2⟩
    have ho := ho.base_mono HY.size
    have x2 := HY.trans x2
    refine hK.out _ _ (fun _ => x2) ?_
    clear hK K 
    try simp only [Act.put, List.setIfInBounds_toArray, List.set_cons_zero, List.set_cons_succ]
    refine d_one (i := 3) (by kernel_rfl) rfl rfl (fun K hK => ?_)
    simp only [List.getElem_toArray, List.getElem_cons_succ, List.getElem_cons_zero]
    go_simp
    refine hK.out _ _ (fun _ => x2.alloc _) ?_
    clear hK K 
    try simp only [Act.put, List.setIfInBounds_toArray, List.set_cons_zero, List.set_cons_succ]
    have XA := (Ext.refl w2).alloc (.cells #[.int .i64 s.e.cl, .int .i64 s.e.nu, .int .i64 s.e.kd, .int .i64 s.e.id, .int .i64 s.e.sk, .int .i64 s.e.sq, .int .i64 s.e.st, .int .i64 s.e.pol, .slice s.A s.n s.c, .int .i64 s.e.at_] 29)
    refine d_one (i := 4) (by kernel_rfl) rfl rfl (fun K hK => ?_)
    simp only [List.getElem_toArray, List.getElem_cons_succ, List.getElem_cons_zero]
    go_simp
    refine (CD.out _ (x2.trans XA) _ (rd_entry s w2)).mono ?_
    rintro e w5 ⟨B5, d5, uu, rfl, hu, hv, x5⟩
    have hu : ents uu = [s.e] := hu
    have ho5 := (ho.ext XA).ext x5
    have hv := hv.base_mono (x2.trans XA).size
    have x5 := (x2.trans XA).trans x5
    refine hK.out _ _ (fun _ => x5) ?_
    clear hK K 
    try simp only [Act.put, List.setIfInBounds_toArray, List.set_cons_zero, List.set_cons_succ]
    refine d_one (i := 5) (by kernel_rfl) rfl rfl (fun K hK => ?_)
    simp only [List.getElem_toArray, List.getElem_cons_succ, List.getElem_cons_zero]
    refine oper_app (w := w5) (m := 1) (d := d5) (news := (erows uu).flatten) eltEn ho5.own hv.own.rd (erows_one uu) (by omega) (.inr ⟨by omega, by omega⟩) x5.size (.tmp 29) (.tmp 32) rfl rfl rfl ?_
    intro A3 c3 w3 o3 g3 _ _
    have x3 : Ext w1 w3 := g3.ext x5 ho5.own.base_le
    have H3 := Lib.hid (And.intro (ho5.app g3 hv.all o3) x3)
    clear o3 g3 ho5 hv
    refine hK.out _ _ (fun _ => x3) ?_
    clear hK K 
    try simp only [Act.put, List.setIfInBounds_toArray, List.set_cons_zero, List.set_cons_succ]
    clear x3 x5
    refine d_one (i := 6) (by kernel_rfl) rfl rfl (fun K hK => ?_)
    simp only [List.getElem_toArray, List.getElem_cons_succ, List.getElem_cons_zero]
    go_simp
    refine hK.out _ _ (fun _ => H3.out.2) ?_
    clear hK K 
    try simp only [Act.put, List.setIfInBounds_toArray, List.set_cons_zero, List.set_cons_succ]
    refine d_done (by kernel_rfl) ?_ _
    go_wp2_with fail
    go_returns
    exact ⟨A3, c3, tt ++ uu, rfl, by rw [show ents (tt ++ uu) = ents tt ++ ents uu by simp [ents], ht, hu], H3.out.1.base_mono HX1.out.1.size, HX1.out.1.trans H3.out.2⟩
  · simp only [List.getElem_toArray, List.getElem_cons_succ, List.getElem_cons_zero]
    go_simp
    refine hK.out _ _ (fun _ => HY.trans ((Ext.refl _).alloc _)) ?_
    clear hK K 
    try simp only [Act.put, List.setIfInBounds_toArray, List.set_cons_zero, List.set_cons_succ]
    have XB : Ext w1 (w1.alloc (.cells #[.int .i64 s.e.cl, .int .i64 s.e.nu, .int .i64 s.e.kd, .int .i64 s.e.id, .int .i64 s.e.sk, .int .i64 s.e.sq, .int .i64 s.e.st, .int .i64 s.e.pol, .slice s.A s.n s.c, .int .i64 s.e.at_] 29)).drew := ((Ext.refl w1).alloc (.cells #[.int .i64 s.e.cl, .int .i64 s.e.nu, .int .i64 s.e.kd, .int .i64 s.e.id, .int .i64 s.e.sk, .int .i64 s.e.sq, .int .i64 s.e.st, .int .i64 s.e.pol, .slice s.A s.n s.c, .int .i64 s.e.at_] 29)).drew
    refine d_one (i := 1) (by kernel_rfl) rfl rfl (fun K hK => ?_)
    simp only [List.getElem_toArray, List.getElem_cons_succ, List.getElem_cons_zero]
    go_simp
    refine (CC.out _ XB).mono ?_
    rintro e w2 ⟨B, d, tt, rfl, ht, ho, x2⟩
    have RB := (rd_entry s w1).ext ((Ext.refl (w1.alloc (.cells #[.int .i64 s.e.cl, .int .i64 s.e.nu, .int .i64 s.e.kd, .int .i64 s.e.id, .int .i64 s.e.sk, .int .i64 s.e.sq, .int .i64 s.e.st, .int .i64 s.e.pol, .slice s.A s.n s.c, .int .i64 s.e.at_] 29))).drew.trans x2)
    have ho := ho.base_mono XB.size
    have x2 := XB.trans x2
    refine hK.out _ _ (fun _ => x2) ?_
    clear hK K 
    try simp only [Act.put, List.setIfInBounds_toArray, List.set_cons_zero, List.set_cons_succ]
    refine d_one (i := 4) (by kernel_rfl) rfl rfl (fun K hK => ?_)
    simp only [List.getElem_toArray, List.getElem_cons_succ, List.getElem_cons_zero]
    go_simp
    refine (CD.out _ (x2) _ (RB)).mono ?_
    rintro e w5 ⟨B5, d5, uu, rfl, hu, hv, x5⟩
    have hu : ents uu = [s.e] := hu
    have ho5 := (ho).ext x5
    have hv := hv.base_mono (x2).size
    have x5 := (x2).trans x5
    refine hK.out _ _ (fun _ => x5) ?_
    clear hK K 
    try simp only [Act.put, List.setIfInBounds_toArray, List.set_cons_zero, List.set_cons_succ]
    refine d_one (i := 5) (by kernel_rfl) rfl rfl (fun K hK => ?_)
    simp only [List.getElem_toArray, List.getElem_cons_succ, List.getElem_cons_zero]
    refine oper_app (w := w5) (m := 1) (d := d5) (news := (erows uu).flatten) eltEn ho5.own hv.own.rd (erows_one uu) (by omega) (.inr ⟨by omega, by omega⟩) x5.size (.tmp 29) (.tmp 32) rfl rfl rfl ?_
    intro A3 c3 w3 o3 g3 _ _
    have x3 : Ext w1 w3 := g3.ext x5 ho5.own.base_le
    have H3 := Lib.hid (And.intro (ho5.app g3 hv.all o3) x3)
    clear o3 g3 ho5 hv
    refine hK.out _ _ (fun _ => x3) ?_
    clear hK K 
    try simp only [Act.put, List.setIfInBounds_toArray, List.set_cons_zero, List.set_cons_succ]
    clear x3 x5
    refine d_one (i := 6) (by kernel_rfl) rfl rfl (fun K hK => ?_)
    simp only [List.getElem_toArray, List.getElem_cons_succ, List.getElem_cons_zero]
    go_simp
    refine hK.out _ _ (fun _ => H3.out.2) ?_
    clear hK K 
    try simp only [Act.put, List.setIfInBounds_toArray, List.set_cons_zero, List.set_cons_succ]
    refine d_done (by kernel_rfl) ?_ _
    go_wp2_with fail
    go_returns
    exact ⟨A3, c3, tt ++ uu, rfl, by rw [show ents (tt ++ uu) = ents tt ++ ents uu by simp [ents], ht, hu], H3.out.1.base_mono HX1.out.1.size, HX1.out.1.trans H3.out.2⟩
end Go.Proofs.YteflnnlihblpgaaDoor
