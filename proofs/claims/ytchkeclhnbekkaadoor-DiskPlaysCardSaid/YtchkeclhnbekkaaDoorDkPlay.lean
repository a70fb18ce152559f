/-
  play, walked.
-/
import Derived.Test.YtchkeclhnbekkaaDoorDkBytes
import Derived.BigRegion
namespace Go.Proofs.YtchkeclhnbekkaaDoor
set_option maxRecDepth 100000
open Go.RowKit Go.Maps
set_option linter.unusedVariables false
section
variable {W w : World} {g q S Zm : Nat} {E : Nat → Addr}
set_option maxHeartbeats 6400000 in
theorem play_write (hE : Errs W E) (h : BX W w g q S Zm) (hZ : Zm < 2600000000000) (I T : Int) (kp : Nat) (hkp : kp < 18446744073709551616) (B : Option Addr) (k d : Nat) (l0 : List Nat) (hr : Rd w 1 B k (u8s l0)) (hb : ∀ y ∈ l0, y < 256) (hk : k ≤ 140737488351232)
    {Post : Ending → World → Prop} (hPost : Hid (∀ w', BX W w' g q S (Zm + 1) → Post (.returned (.bool true)) w')) :
    Calls Tryd.prog 17 #[.pointer (some ⟨g, 0, none⟩), .pointer (some ⟨q, 0, none⟩), .agg #[.int .i64 1, .int .i64 I, .int .i64 T, .int .u64 (kp : Int), .slice B k d]] w Post := by
  obtain ⟨M, f, l, nw, lost, SF, NW, P0, HC0⟩ := h.ex
  have hob := heap_alloc_new w (.cells #[.int .i64 1, .int .i64 I, .int .i64 T, .int .u64 (kp : Int), .slice B k d] 42)
  have X0 := (Ext.refl w).alloc (.cells #[.int .i64 1, .int .i64 I, .int .i64 T, .int .u64 (kp : Int), .slice B k d] 42)
  have hz0 : (w.alloc (.cells #[.int .i64 1, .int .i64 I, .int .i64 T, .int .u64 (kp : Int), .slice B k d] 42)).heap.size = w.heap.size + 1 := World.size_alloc _ _
  have HV := Lib.hid (And.intro P0 (And.intro hob (And.intro X0 (And.intro HC0 hz0))))
  have HR := Lib.hid (And.intro hr (And.intro hb hE))
  clear h P0 HC0 hr hb hob X0 hE hz0
  go_enter Tryd.func17, Tryd.ntmps17
  go_upto_region 4 with (fail)
  generalize w.alloc (.cells #[.int .i64 1, .int .i64 I, .int .i64 T, .int .u64 (kp : Int), .slice B k d] 42) = V at *
  generalize hobn : w.heap.size = ob at *
  have HOB := Lib.hid hobn
  clear hobn
  have c0 : V.cell? ⟨ob, 0, none⟩ = some (.int .i64 1) := block_cell HV.out.2.1 0
  have c4 : V.cell? ⟨ob, 4, none⟩ = some (.slice B k d) := block_cell HV.out.2.1 4
  have BY := Lib.hid (bytes_own B k d l0 V hk (HR.out.1.ext HV.out.2.2.1))
  go_wp2_with fail
  refine BY.out.mono ?_
  rintro e w1 ⟨rfl, o1, x1⟩
  generalize hgb : V.heap.size = g1 at *
  have hlt1 : g1 < w1.heap.size := o1.lt
  have b1 := (x1.block ob (block_lt HV.out.2.1)).trans HV.out.2.1
  have X1 := HV.out.2.2.1.trans x1
  have hg1 : ob ≤ g1 := by have := HV.out.2.2.2.2; omega
  clear c0 c4 BY
  have c0 : w1.cell? ⟨ob, 0, none⟩ = some (.int .i64 1) := block_cell b1 0
  have c4 : w1.cell? ⟨ob, 4, none⟩ = some (.slice B k d) := block_cell b1 4
  have H2 := Lib.hid (And.intro (HV.out.1.grow X1 (Y := fun b => ob ≤ b ∧ b < w1.heap.size) (fun b hb => .inr (by have := HOB.out; exact ⟨by omega, hb.2⟩))) (And.intro b1 (And.intro o1.rd.unmark (And.intro ((u8w_own o1).mono (Nat.le_add_right k 6)) (And.intro hg1 hlt1)))))
  clear o1 x1 b1 X1 hg1 hlt1 c4 hgb
  generalize w1 = w2 at *
  generalize g1 = gb at *
  have cv := run_str (P := Tryd.prog) (s := 9) Tryd.underlying32 Tryd.underlying5 Tryd.underlying9 (k + 6) H2.out.2.2.1
  go_upto_region 8 with (fail)
  clear cv
  have P2 := Lib.hid (H2.out.1.ext (Ext.refl w2).drew)
  have HS1 : w2.drew.cell? ⟨ob, 1, none⟩ = some (.int .i64 I) := block_cell (w := w2.drew) (show w2.drew.heap[ob]? = _ from H2.out.2.1) 1
  obtain ⟨v, kk, l', nw', NW', BC, BN, BM, BCor⟩ := both_write (q := q) (M := M) (SF := SF) (NW := NW) HR.out.2.2 P2.out.dl hZ HV.out.2.2.2.1 I gb k (k + 6) HR.out.2.1 (H2.out.2.2.1.ext (Ext.refl w2).drew) (.inl H2.out.2.2.2.2) (fun e => (P2.out.mx gb e).2 H2.out.2.2.2.2) P2.out.rl.secs
  have D1 := Lib.hid BC
  have HBN := Lib.hid BN
  have HBM := Lib.hid BM
  have HCor := Lib.hid BCor
  clear BC BN BM BCor
  refine d_region (fun W : World => W.cell? ⟨ob, 1, none⟩ = some (.int .i64 I)) [] (by kernel_rfl) ?_
  refine d_take (i := 0) (v := ?_) [] (some 33) rfl (by rfl) (by kernel_rfl) (by kernel_rfl) (by kernel_rfl) (by kernel_rfl) (by kernel_rfl) (by kernel_rfl) (fun _ _ _ h => h) (.inl ⟨by rfl, ?_⟩) HS1 ?_
  rotate_left 1
  · (intro W hW; (try dsimp only at hW); go_simp; try with_reducible rfl)
  try simp only [Act.put, List.setIfInBounds_toArray, List.set_cons_zero, List.set_cons_succ]
  refine d_take (i := 1) (v := ?_) [] (some 34) rfl (by rfl) (by kernel_rfl) (by kernel_rfl) (by kernel_rfl) (by kernel_rfl) (by kernel_rfl) (by kernel_rfl) (fun _ _ _ h => h) (.inl ⟨by rfl, ?_⟩) HS1 ?_
  rotate_left 1
  · (intro W hW; (try dsimp only at hW); go_simp; try with_reducible rfl)
  try simp only [Act.put, List.setIfInBounds_toArray, List.set_cons_zero, List.set_cons_succ]
  refine d_take (i := 2) (v := ?_) [] (some 35) rfl (by rfl) (by kernel_rfl) (by kernel_rfl) (by kernel_rfl) (by kernel_rfl) (by kernel_rfl) (by kernel_rfl) (fun _ _ _ h => h) (.inl ⟨by rfl, ?_⟩) HS1 ?_
  rotate_left 1
  · (intro W hW; (try dsimp only at hW); go_simp; try with_reducible rfl)
  try simp only [Act.put, List.setIfInBounds_toArray, List.set_cons_zero, List.set_cons_succ]
  refine d_take (i := 3) (v := ?_) [] (some 36) rfl (by rfl) (by kernel_rfl) (by kernel_rfl) (by kernel_rfl) (by kernel_rfl) (by kernel_rfl) (by kernel_rfl) (fun _ _ _ h => h) (.inl ⟨by rfl, ?_⟩) HS1 ?_
  rotate_left 1
  · (intro W hW; (try dsimp only at hW); go_simp; try with_reducible rfl)
  try simp only [Act.put, List.setIfInBounds_toArray, List.set_cons_zero, List.set_cons_succ]
  refine d_take (i := 6) (v := ?_) [] (some 39) rfl (by rfl) (by kernel_rfl) (by kernel_rfl) (by kernel_rfl) (by kernel_rfl) (by kernel_rfl) (by kernel_rfl) (fun _ _ _ h => h) (.inl ⟨by rfl, ?_⟩) HS1 ?_
  rotate_left 1
  · (intro W hW; (try dsimp only at hW); go_simp; try with_reducible rfl)
  try simp only [Act.put, List.setIfInBounds_toArray, List.set_cons_zero, List.set_cons_succ]
  refine d_take (i := 7) (v := ?_) [] (some 40) rfl (by rfl) (by kernel_rfl) (by kernel_rfl) (by kernel_rfl) (by kernel_rfl) (by kernel_rfl) (by kernel_rfl) (fun _ _ _ h => h) (.inl ⟨by rfl, ?_⟩) HS1 ?_
  rotate_left 1
  · (intro W hW; (try dsimp only at hW); go_simp; try with_reducible rfl)
  try simp only [Act.put, List.setIfInBounds_toArray, List.set_cons_zero, List.set_cons_succ]
  refine d_take (i := 8) (v := ?_) [] (some 41) rfl (by rfl) (by kernel_rfl) (by kernel_rfl) (by kernel_rfl) (by kernel_rfl) (by kernel_rfl) (by kernel_rfl) (fun _ _ _ h => h) (.inl ⟨by rfl, ?_⟩) HS1 ?_
  rotate_left 1
  · (intro W hW; (try dsimp only at hW); go_simp; try with_reducible rfl)
  try simp only [Act.put, List.setIfInBounds_toArray, List.set_cons_zero, List.set_cons_succ]
  refine d_take (i := 9) (v := ?_) [] (some 42) rfl (by rfl) (by kernel_rfl) (by kernel_rfl) (by kernel_rfl) (by kernel_rfl) (by kernel_rfl) (by kernel_rfl) (fun _ _ _ h => h) (.inl ⟨by rfl, ?_⟩) HS1 ?_
  rotate_left 1
  · (intro W hW; (try dsimp only at hW); go_simp; try with_reducible rfl)
  try simp only [Act.put, List.setIfInBounds_toArray, List.set_cons_zero, List.set_cons_succ]
  refine d_call (i := 4) (by kernel_rfl) rfl (by rfl) (fun K hK => ?_)
  simp only [List.getElem_toArray, List.getElem_cons_succ, List.getElem_cons_zero]
  go_simp
  refine D1.out.mono ?_
  rintro e0 w3 ⟨rfl, n1⟩
  have F3 := DLN.frx P2.out.dl n1
  have hobX : ob < w2.heap.size := by have h2 := H2.out.2.2.2.2; omega
  have b3 := (F3.block ob hobX (fun e => e (.inl ⟨Nat.le_refl _, hobX⟩))).trans H2.out.2.1
  have H3 := Lib.hid (And.intro (P2.out.d n1) (And.intro b3 (And.intro (F3.rd (H2.out.2.2.1.ext (Ext.refl w2).drew) (fun a ha e => by injection ha with ha; subst ha; exact e (.inl H2.out.2.2.2.2))) ((H2.out.2.2.2.1.ext (Ext.refl w2).drew).fr F3 (fun e => e (.inl H2.out.2.2.2.2))))))
  have HS2 : w3.cell? ⟨ob, 1, none⟩ = some (.int .i64 I) := block_cell b3 1
  have D2 := Lib.hid (HBN.out w3 (HR.out.2.2.ext H3.out.1.dl.ext))
  clear D1 n1 F3 b3
  go_simp
  refine hK.out _ _ (fun _ => HS2) ?_
  clear hK K
  try simp only [Act.put, List.setIfInBounds_toArray, List.set_cons_zero, List.set_cons_succ]
  refine d_call (i := 5) (by kernel_rfl) rfl (by rfl) (fun K hK => ?_)
  simp only [List.getElem_toArray, List.getElem_cons_succ, List.getElem_cons_zero]
  go_simp
  refine D2.out.mono ?_
  rintro e0 w4 ⟨rfl, x4⟩
  have b4 := (x4.block ob (block_lt H3.out.2.1)).trans H3.out.2.1
  have H4 := Lib.hid (And.intro (H3.out.1.ext x4) (And.intro b4 (And.intro (H3.out.2.2.1.ext x4) (H3.out.2.2.2.ext x4))))
  have HS3 : w4.cell? ⟨ob, 1, none⟩ = some (.int .i64 I) := block_cell b4 1
  have D3 := Lib.hid (HBM.out w4 H4.out.1.rl H4.out.2.2.1)
  clear D2 x4 b4
  go_simp
  refine hK.out _ _ (fun _ => HS3) ?_
  clear hK K
  try simp only [Act.put, List.setIfInBounds_toArray, List.set_cons_zero, List.set_cons_succ]
  refine d_call (i := 10) (by kernel_rfl) rfl (by rfl) (fun K hK => ?_)
  simp only [List.getElem_toArray, List.getElem_cons_succ, List.getElem_cons_zero]
  go_simp
  refine D3.out.mono ?_
  rintro e0 w5 ⟨rfl, n5⟩
  have nob : ∀ b, ob ≤ b ∧ b < w2.heap.size → ¬ M b := fun b hb e => (P2.out.mx b e).2 hb
  have b5 := (n5.fr.block ob (block_lt H4.out.2.1) (nob ob ⟨Nat.le_refl _, hobX⟩)).trans H4.out.2.1
  have rd5 := n5.fr.rd H4.out.2.2.1 (fun a ha e => by injection ha with ha; subst ha; exact nob gb H2.out.2.2.2.2 e)
  have u5 := H4.out.2.2.2.fr n5.fr (nob gb H2.out.2.2.2.2)
  obtain ⟨M', P5⟩ := H4.out.1.r n5
  have H5 := Lib.hid (And.intro P5 u5)
  have HS4 : w5.cell? ⟨ob, 1, none⟩ = some (.int .i64 I) := block_cell b5 1
  have cv := run_str (P := Tryd.prog) (s := 9) Tryd.underlying32 Tryd.underlying5 Tryd.underlying9 (k + 6) rd5
  clear D3 n5 b5 rd5 u5 P5
  go_simp
  refine hK.out _ _ (fun _ => HS4) ?_
  clear hK K
  try simp only [Act.put, List.setIfInBounds_toArray, List.set_cons_zero, List.set_cons_succ]
  refine d_take (i := 11) (v := ?_) [] (some 44) rfl (by rfl) (by kernel_rfl) (by kernel_rfl) (by kernel_rfl) (by kernel_rfl) (by kernel_rfl) (by kernel_rfl) (fun _ _ _ h => h) (.inl ⟨by rfl, ?_⟩) HS4 ?_
  rotate_left 1
  · (intro W hW; (try dsimp only at hW); go_simp; try with_reducible rfl)
  try simp only [Act.put, List.setIfInBounds_toArray, List.set_cons_zero, List.set_cons_succ]
  refine d_take (i := 12) (v := ?_) [] (some 45) rfl (by rfl) (by kernel_rfl) (by kernel_rfl) (by kernel_rfl) (by kernel_rfl) (by kernel_rfl) (by kernel_rfl) (fun _ _ _ h => h) (.inl ⟨by rfl, ?_⟩) HS4 ?_
  rotate_left 1
  · (intro W hW; (try dsimp only at hW); go_simp; try with_reducible rfl)
  try simp only [Act.put, List.setIfInBounds_toArray, List.set_cons_zero, List.set_cons_succ]
  refine d_take (i := 13) (v := ?_) [] (some 46) rfl (by rfl) (by kernel_rfl) (by kernel_rfl) (by kernel_rfl) (by kernel_rfl) (by kernel_rfl) (by kernel_rfl) (fun _ _ _ h => h) (.inl ⟨by rfl, ?_⟩) HS4 ?_
  rotate_left 1
  · (intro W hW; (try dsimp only at hW); go_simp; try with_reducible rfl)
  try simp only [Act.put, List.setIfInBounds_toArray, List.set_cons_zero, List.set_cons_succ]
  refine d_take (i := 15) (v := ?_) [] (some 48) rfl (by rfl) (by kernel_rfl) (by kernel_rfl) (by kernel_rfl) (by kernel_rfl) (by kernel_rfl) (by kernel_rfl) (fun _ _ _ h => h) (.inl ⟨by rfl, ?_⟩) HS4 ?_
  rotate_left 1
  · (intro W hW; (try dsimp only at hW); go_simp; try with_reducible rfl)
  try simp only [Act.put, List.setIfInBounds_toArray, List.set_cons_zero, List.set_cons_succ]
  refine d_call (i := 14) (by kernel_rfl) rfl (by rfl) (fun K hK => ?_)
  simp only [List.getElem_toArray, List.getElem_cons_succ, List.getElem_cons_zero]
  go_simp
  refine hK.out _ _ (fun _ => HS4) ?_
  clear hK K cv
  try simp only [Act.put, List.setIfInBounds_toArray, List.set_cons_zero, List.set_cons_succ]
  refine d_take (i := 16) (v := ?_) [] (some 49) rfl (by rfl) (by kernel_rfl) (by kernel_rfl) (by kernel_rfl) (by kernel_rfl) (by kernel_rfl) (by kernel_rfl) (fun _ _ _ h => h) (.inl ⟨by rfl, ?_⟩) HS4 ?_
  rotate_left 1
  · (intro W hW; (try dsimp only at hW); go_simp; try with_reducible rfl)
  try simp only [Act.put, List.setIfInBounds_toArray, List.set_cons_zero, List.set_cons_succ]
  refine d_take (i := 17) (v := ?_) [] (some 50) rfl (by rfl) (by kernel_rfl) (by kernel_rfl) (by kernel_rfl) (by kernel_rfl) (by kernel_rfl) (by kernel_rfl) (fun _ _ _ h => h) (.inl ⟨by rfl, ?_⟩) HS4 ?_
  rotate_left 1
  · (intro W hW; (try dsimp only at hW); go_simp; try with_reducible rfl)
  try simp only [Act.put, List.setIfInBounds_toArray, List.set_cons_zero, List.set_cons_succ]
  refine d_take (i := 18) (v := ?_) [] (some 9) rfl (by rfl) (by kernel_rfl) (by kernel_rfl) (by kernel_rfl) (by kernel_rfl) (by kernel_rfl) (by kernel_rfl) (fun _ _ _ h => h) (.inl ⟨by rfl, ?_⟩) HS4 ?_
  rotate_left 1
  · (intro W hW; (try dsimp only at hW); go_simp; try with_reducible rfl)
  try simp only [Act.put, List.setIfInBounds_toArray, List.set_cons_zero, List.set_cons_succ]
  refine d_done (by kernel_rfl) ?_ _
  clear HS1 HS2 HS3 HS4
  go_wp2_with fail
  go_loopw [53] (fun vL wr => ∃ j : Nat, vL = .int .i64 (j : Int) ∧ j ≤ k ∧ Hid (Fr w5 wr (· = gb) ∧ U8W wr gb k)) (fun vL _ => k - (intOf vL).toNat)
  case atStart => exact ⟨0, rfl, by omega, Fr.refl _ _, H5.out.2⟩
  case round =>
    obtain ⟨j, rfl, hj, HX⟩ := hrel
    by_cases hjk : j < k
    · obtain ⟨y, cy⟩ := HX.out.2.cell (j := j) hjk
      have fy := HX.out.2.fz j
      have z0 : (0 : Int) ≤ j := by omega
      have z1 : (j : Int) < k := by omega
      have z2 : j < (k + 6) := by omega
      have HN := Lib.hid (fun (v : Int) => (show Fr w5 (wr.setCell ⟨gb, j, none⟩ (.int .u8 v)) (· = gb) ∧ U8W (wr.setCell ⟨gb, j, none⟩ (.int .u8 v)) gb k from ⟨HX.out.1.trans (Fr.store wr ⟨gb, j, none⟩ _) (fun _ _ h => h), HX.out.2.set j v⟩))
      go_wp2_with fail
      go_roundw
      case rel => exact ⟨j + 1, by go_num, by omega, HN.out _⟩
      case measure => simp [intOf]; omega
    · obtain rfl : k = j := by omega
      have HZ := Lib.hid (H5.out.1.wr HX.out.1 (fun b e => by
        subst e
        exact ⟨H2.out.2.2.2.2, by have h1 := HOB.out; have h2 := HV.out.1.dl.ext.size; have h3 := (H2.out.2.2.2.2); omega⟩))
      go_wp2_with fail
      exact hPost.out _ (HZ.out.done HCor.out)
set_option maxHeartbeats 6400000 in
theorem play_fill (hE : Errs W E) (h : BX W w g q S Zm) (hZ : Zm < 2600000000000) (I T : Int) (kp : Nat) (hkp : kp < 18446744073709551616) (B : Option Addr) (k d : Nat) (l0 : List Nat) (hr : Rd w 1 B k (u8s l0)) (hb : ∀ y ∈ l0, y < 256) (hk : k ≤ 140737488351232)
    {Post : Ending → World → Prop} (hPost : Hid (∀ w', BX W w' g q S (Zm + 1) → Post (.returned (.bool true)) w')) :
    Calls Tryd.prog 17 #[.pointer (some ⟨g, 0, none⟩), .pointer (some ⟨q, 0, none⟩), .agg #[.int .i64 2, .int .i64 I, .int .i64 T, .int .u64 (kp : Int), .slice B k d]] w Post := by
  obtain ⟨M, f, l, nw, lost, SF, NW, P0, HC0⟩ := h.ex
  have hob := heap_alloc_new w (.cells #[.int .i64 2, .int .i64 I, .int .i64 T, .int .u64 (kp : Int), .slice B k d] 42)
  have X0 := (Ext.refl w).alloc (.cells #[.int .i64 2, .int .i64 I, .int .i64 T, .int .u64 (kp : Int), .slice B k d] 42)
  have hz0 : (w.alloc (.cells #[.int .i64 2, .int .i64 I, .int .i64 T, .int .u64 (kp : Int), .slice B k d] 42)).heap.size = w.heap.size + 1 := World.size_alloc _ _
  have HV := Lib.hid (And.intro P0 (And.intro hob (And.intro X0 (And.intro HC0 hz0))))
  have HR := Lib.hid (And.intro hr (And.intro hb hE))
  clear h P0 HC0 hr hb hob X0 hE hz0
  go_enter Tryd.func17, Tryd.ntmps17
  go_upto_region 4 with (fail)
  generalize w.alloc (.cells #[.int .i64 2, .int .i64 I, .int .i64 T, .int .u64 (kp : Int), .slice B k d] 42) = V at *
  generalize hobn : w.heap.size = ob at *
  have HOB := Lib.hid hobn
  clear hobn
  have c0 : V.cell? ⟨ob, 0, none⟩ = some (.int .i64 2) := block_cell HV.out.2.1 0
  have c4 : V.cell? ⟨ob, 4, none⟩ = some (.slice B k d) := block_cell HV.out.2.1 4
  have BY := Lib.hid (bytes_own B k d l0 V hk (HR.out.1.ext HV.out.2.2.1))
  go_wp2_with fail
  refine BY.out.mono ?_
  rintro e w1 ⟨rfl, o1, x1⟩
  generalize hgb : V.heap.size = g1 at *
  have hlt1 : g1 < w1.heap.size := o1.lt
  have b1 := (x1.block ob (block_lt HV.out.2.1)).trans HV.out.2.1
  have X1 := HV.out.2.2.1.trans x1
  have hg1 : ob ≤ g1 := by have := HV.out.2.2.2.2; omega
  clear c0 c4 BY
  have c0 : w1.cell? ⟨ob, 0, none⟩ = some (.int .i64 2) := block_cell b1 0
  have c4 : w1.cell? ⟨ob, 4, none⟩ = some (.slice B k d) := block_cell b1 4
  have H1 := Lib.hid (And.intro b1 (And.intro X1 hg1))
  have FL := Lib.hid (filled_any B k d l0 w1 hk (HR.out.1.ext X1))
  clear o1 x1 hlt1 b1 X1 hg1 hgb
  go_wp2_with fail
  refine FL.out.mono ?_
  rintro e w2 ⟨rfl, o2, x2⟩
  generalize hgb : w1.heap.size = gb at *
  have b2 := (x2.block ob (block_lt H1.out.1)).trans H1.out.1
  have X2 := H1.out.2.1.trans x2
  have hg : ob ≤ gb ∧ gb < w2.heap.size := ⟨by have := H1.out.2.1.size; have := HOB.out; omega, o2.lt⟩
  have H2 := Lib.hid (And.intro (HV.out.1.grow X2 (Y := fun b => ob ≤ b ∧ b < w2.heap.size) (fun b hb => .inr (by have := HOB.out; exact ⟨by omega, hb.2⟩))) (And.intro b2 (And.intro o2.rd (And.intro (u8w_own o2) hg))))
  clear FL o2 x2 b2 X2 hg c0 c4 hgb
  have cv := run_str (P := Tryd.prog) (s := 9) Tryd.underlying32 Tryd.underlying5 Tryd.underlying9 64 H2.out.2.2.1
  go_upto_region 8 with (fail)
  clear cv
  have P2 := Lib.hid (H2.out.1.ext (Ext.refl w2).drew)
  have HS1 : w2.drew.cell? ⟨ob, 1, none⟩ = some (.int .i64 I) := block_cell (w := w2.drew) (show w2.drew.heap[ob]? = _ from H2.out.2.1) 1
  obtain ⟨v, kk, l', nw', NW', BC, BN, BM, BCor⟩ := both_write (q := q) (M := M) (SF := SF) (NW := NW) HR.out.2.2 P2.out.dl hZ HV.out.2.2.2.1 I gb 64 64 (fillL_sec HR.out.2.1).2 (H2.out.2.2.1.ext (Ext.refl w2).drew) (.inl H2.out.2.2.2.2) (fun e => (P2.out.mx gb e).2 H2.out.2.2.2.2) P2.out.rl.secs
  have D1 := Lib.hid BC
  have HBN := Lib.hid BN
  have HBM := Lib.hid BM
  have HCor := Lib.hid BCor
  clear BC BN BM BCor
  refine d_region (fun W : World => W.cell? ⟨ob, 1, none⟩ = some (.int .i64 I)) [] (by kernel_rfl) ?_
  refine d_take (i := 0) (v := ?_) [] (some 33) rfl (by rfl) (by kernel_rfl) (by kernel_rfl) (by kernel_rfl) (by kernel_rfl) (by kernel_rfl) (by kernel_rfl) (fun _ _ _ h => h) (.inl ⟨by rfl, ?_⟩) HS1 ?_
  rotate_left 1
  · (intro W hW; (try dsimp only at hW); go_simp; try with_reducible rfl)
  try simp only [Act.put, List.setIfInBounds_toArray, List.set_cons_zero, List.set_cons_succ]
  refine d_take (i := 1) (v := ?_) [] (some 34) rfl (by rfl) (by kernel_rfl) (by kernel_rfl) (by kernel_rfl) (by kernel_rfl) (by kernel_rfl) (by kernel_rfl) (fun _ _ _ h => h) (.inl ⟨by rfl, ?_⟩) HS1 ?_
  rotate_left 1
  · (intro W hW; (try dsimp only at hW); go_simp; try with_reducible rfl)
  try simp only [Act.put, List.setIfInBounds_toArray, List.set_cons_zero, List.set_cons_succ]
  refine d_take (i := 2) (v := ?_) [] (some 35) rfl (by rfl) (by kernel_rfl) (by kernel_rfl) (by kernel_rfl) (by kernel_rfl) (by kernel_rfl) (by kernel_rfl) (fun _ _ _ h => h) (.inl ⟨by rfl, ?_⟩) HS1 ?_
  rotate_left 1
  · (intro W hW; (try dsimp only at hW); go_simp; try with_reducible rfl)
  try simp only [Act.put, List.setIfInBounds_toArray, List.set_cons_zero, List.set_cons_succ]
  refine d_take (i := 3) (v := ?_) [] (some 36) rfl (by rfl) (by kernel_rfl) (by kernel_rfl) (by kernel_rfl) (by kernel_rfl) (by kernel_rfl) (by kernel_rfl) (fun _ _ _ h => h) (.inl ⟨by rfl, ?_⟩) HS1 ?_
  rotate_left 1
  · (intro W hW; (try dsimp only at hW); go_simp; try with_reducible rfl)
  try simp only [Act.put, List.setIfInBounds_toArray, List.set_cons_zero, List.set_cons_succ]
  refine d_take (i := 6) (v := ?_) [] (some 39) rfl (by rfl) (by kernel_rfl) (by kernel_rfl) (by kernel_rfl) (by kernel_rfl) (by kernel_rfl) (by kernel_rfl) (fun _ _ _ h => h) (.inl ⟨by rfl, ?_⟩) HS1 ?_
  rotate_left 1
  · (intro W hW; (try dsimp only at hW); go_simp; try with_reducible rfl)
  try simp only [Act.put, List.setIfInBounds_toArray, List.set_cons_zero, List.set_cons_succ]
  refine d_take (i := 7) (v := ?_) [] (some 40) rfl (by rfl) (by kernel_rfl) (by kernel_rfl) (by kernel_rfl) (by kernel_rfl) (by kernel_rfl) (by kernel_rfl) (fun _ _ _ h => h) (.inl ⟨by rfl, ?_⟩) HS1 ?_
  rotate_left 1
  · (intro W hW; (try dsimp only at hW); go_simp; try with_reducible rfl)
  try simp only [Act.put, List.setIfInBounds_toArray, List.set_cons_zero, List.set_cons_succ]
  refine d_take (i := 8) (v := ?_) [] (some 41) rfl (by rfl) (by kernel_rfl) (by kernel_rfl) (by kernel_rfl) (by kernel_rfl) (by kernel_rfl) (by kernel_rfl) (fun _ _ _ h => h) (.inl ⟨by rfl, ?_⟩) HS1 ?_
  rotate_left 1
  · (intro W hW; (try dsimp only at hW); go_simp; try with_reducible rfl)
  try simp only [Act.put, List.setIfInBounds_toArray, List.set_cons_zero, List.set_cons_succ]
  refine d_take (i := 9) (v := ?_) [] (some 42) rfl (by rfl) (by kernel_rfl) (by kernel_rfl) (by kernel_rfl) (by kernel_rfl) (by kernel_rfl) (by kernel_rfl) (fun _ _ _ h => h) (.inl ⟨by rfl, ?_⟩) HS1 ?_
  rotate_left 1
  · (intro W hW; (try dsimp only at hW); go_simp; try with_reducible rfl)
  try simp only [Act.put, List.setIfInBounds_toArray, List.set_cons_zero, List.set_cons_succ]
  refine d_call (i := 4) (by kernel_rfl) rfl (by rfl) (fun K hK => ?_)
  simp only [List.getElem_toArray, List.getElem_cons_succ, List.getElem_cons_zero]
  go_simp
  refine D1.out.mono ?_
  rintro e0 w3 ⟨rfl, n1⟩
  have F3 := DLN.frx P2.out.dl n1
  have hobX : ob < w2.heap.size := by have h2 := H2.out.2.2.2.2; omega
  have b3 := (F3.block ob hobX (fun e => e (.inl ⟨Nat.le_refl _, hobX⟩))).trans H2.out.2.1
  have H3 := Lib.hid (And.intro (P2.out.d n1) (And.intro b3 (And.intro (F3.rd (H2.out.2.2.1.ext (Ext.refl w2).drew) (fun a ha e => by injection ha with ha; subst ha; exact e (.inl H2.out.2.2.2.2))) ((H2.out.2.2.2.1.ext (Ext.refl w2).drew).fr F3 (fun e => e (.inl H2.out.2.2.2.2))))))
  have HS2 : w3.cell? ⟨ob, 1, none⟩ = some (.int .i64 I) := block_cell b3 1
  have D2 := Lib.hid (HBN.out w3 (HR.out.2.2.ext H3.out.1.dl.ext))
  clear D1 n1 F3 b3
  go_simp
  refine hK.out _ _ (fun _ => HS2) ?_
  clear hK K
  try simp only [Act.put, List.setIfInBounds_toArray, List.set_cons_zero, List.set_cons_succ]
  refine d_call (i := 5) (by kernel_rfl) rfl (by rfl) (fun K hK => ?_)
  simp only [List.getElem_toArray, List.getElem_cons_succ, List.getElem_cons_zero]
  go_simp
  refine D2.out.mono ?_
  rintro e0 w4 ⟨rfl, x4⟩
  have b4 := (x4.block ob (block_lt H3.out.2.1)).trans H3.out.2.1
  have H4 := Lib.hid (And.intro (H3.out.1.ext x4) (And.intro b4 (And.intro (H3.out.2.2.1.ext x4) (H3.out.2.2.2.ext x4))))
  have HS3 : w4.cell? ⟨ob, 1, none⟩ = some (.int .i64 I) := block_cell b4 1
  have D3 := Lib.hid (HBM.out w4 H4.out.1.rl H4.out.2.2.1)
  clear D2 x4 b4
  go_simp
  refine hK.out _ _ (fun _ => HS3) ?_
  clear hK K
  try simp only [Act.put, List.setIfInBounds_toArray, List.set_cons_zero, List.set_cons_succ]
  refine d_call (i := 10) (by kernel_rfl) rfl (by rfl) (fun K hK => ?_)
  simp only [List.getElem_toArray, List.getElem_cons_succ, List.getElem_cons_zero]
  go_simp
  refine D3.out.mono ?_
  rintro e0 w5 ⟨rfl, n5⟩
  have nob : ∀ b, ob ≤ b ∧ b < w2.heap.size → ¬ M b := fun b hb e => (P2.out.mx b e).2 hb
  have b5 := (n5.fr.block ob (block_lt H4.out.2.1) (nob ob ⟨Nat.le_refl _, hobX⟩)).trans H4.out.2.1
  have rd5 := n5.fr.rd H4.out.2.2.1 (fun a ha e => by injection ha with ha; subst ha; exact nob gb H2.out.2.2.2.2 e)
  have u5 := H4.out.2.2.2.fr n5.fr (nob gb H2.out.2.2.2.2)
  obtain ⟨M', P5⟩ := H4.out.1.r n5
  have H5 := Lib.hid (And.intro P5 u5)
  have HS4 : w5.cell? ⟨ob, 1, none⟩ = some (.int .i64 I) := block_cell b5 1
  have cv := run_str (P := Tryd.prog) (s := 9) Tryd.underlying32 Tryd.underlying5 Tryd.underlying9 64 rd5
  clear D3 n5 b5 rd5 u5 P5
  go_simp
  refine hK.out _ _ (fun _ => HS4) ?_
  clear hK K
  try simp only [Act.put, List.setIfInBounds_toArray, List.set_cons_zero, List.set_cons_succ]
  refine d_take (i := 11) (v := ?_) [] (some 44) rfl (by rfl) (by kernel_rfl) (by kernel_rfl) (by kernel_rfl) (by kernel_rfl) (by kernel_rfl) (by kernel_rfl) (fun _ _ _ h => h) (.inl ⟨by rfl, ?_⟩) HS4 ?_
  rotate_left 1
  · (intro W hW; (try dsimp only at hW); go_simp; try with_reducible rfl)
  try simp only [Act.put, List.setIfInBounds_toArray, List.set_cons_zero, List.set_cons_succ]
  refine d_take (i := 12) (v := ?_) [] (some 45) rfl (by rfl) (by kernel_rfl) (by kernel_rfl) (by kernel_rfl) (by kernel_rfl) (by kernel_rfl) (by kernel_rfl) (fun _ _ _ h => h) (.inl ⟨by rfl, ?_⟩) HS4 ?_
  rotate_left 1
  · (intro W hW; (try dsimp only at hW); go_simp; try with_reducible rfl)
  try simp only [Act.put, List.setIfInBounds_toArray, List.set_cons_zero, List.set_cons_succ]
  refine d_take (i := 13) (v := ?_) [] (some 46) rfl (by rfl) (by kernel_rfl) (by kernel_rfl) (by kernel_rfl) (by kernel_rfl) (by kernel_rfl) (by kernel_rfl) (fun _ _ _ h => h) (.inl ⟨by rfl, ?_⟩) HS4 ?_
  rotate_left 1
  · (intro W hW; (try dsimp only at hW); go_simp; try with_reducible rfl)
  try simp only [Act.put, List.setIfInBounds_toArray, List.set_cons_zero, List.set_cons_succ]
  refine d_take (i := 15) (v := ?_) [] (some 48) rfl (by rfl) (by kernel_rfl) (by kernel_rfl) (by kernel_rfl) (by kernel_rfl) (by kernel_rfl) (by kernel_rfl) (fun _ _ _ h => h) (.inl ⟨by rfl, ?_⟩) HS4 ?_
  rotate_left 1
  · (intro W hW; (try dsimp only at hW); go_simp; try with_reducible rfl)
  try simp only [Act.put, List.setIfInBounds_toArray, List.set_cons_zero, List.set_cons_succ]
  refine d_call (i := 14) (by kernel_rfl) rfl (by rfl) (fun K hK => ?_)
  simp only [List.getElem_toArray, List.getElem_cons_succ, List.getElem_cons_zero]
  go_simp
  refine hK.out _ _ (fun _ => HS4) ?_
  clear hK K cv
  try simp only [Act.put, List.setIfInBounds_toArray, List.set_cons_zero, List.set_cons_succ]
  refine d_take (i := 16) (v := ?_) [] (some 49) rfl (by rfl) (by kernel_rfl) (by kernel_rfl) (by kernel_rfl) (by kernel_rfl) (by kernel_rfl) (by kernel_rfl) (fun _ _ _ h => h) (.inl ⟨by rfl, ?_⟩) HS4 ?_
  rotate_left 1
  · (intro W hW; (try dsimp only at hW); go_simp; try with_reducible rfl)
  try simp only [Act.put, List.setIfInBounds_toArray, List.set_cons_zero, List.set_cons_succ]
  refine d_take (i := 17) (v := ?_) [] (some 50) rfl (by rfl) (by kernel_rfl) (by kernel_rfl) (by kernel_rfl) (by kernel_rfl) (by kernel_rfl) (by kernel_rfl) (fun _ _ _ h => h) (.inl ⟨by rfl, ?_⟩) HS4 ?_
  rotate_left 1
  · (intro W hW; (try dsimp only at hW); go_simp; try with_reducible rfl)
  try simp only [Act.put, List.setIfInBounds_toArray, List.set_cons_zero, List.set_cons_succ]
  refine d_take (i := 18) (v := ?_) [] (some 9) rfl (by rfl) (by kernel_rfl) (by kernel_rfl) (by kernel_rfl) (by kernel_rfl) (by kernel_rfl) (by kernel_rfl) (fun _ _ _ h => h) (.inl ⟨by rfl, ?_⟩) HS4 ?_
  rotate_left 1
  · (intro W hW; (try dsimp only at hW); go_simp; try with_reducible rfl)
  try simp only [Act.put, List.setIfInBounds_toArray, List.set_cons_zero, List.set_cons_succ]
  refine d_done (by kernel_rfl) ?_ _
  clear HS1 HS2 HS3 HS4
  go_wp2_with fail
  go_loopw [53] (fun vL wr => ∃ j : Nat, vL = .int .i64 (j : Int) ∧ j ≤ 64 ∧ Hid (Fr w5 wr (· = gb) ∧ U8W wr gb 64)) (fun vL _ => 64 - (intOf vL).toNat)
  case atStart => exact ⟨0, rfl, by omega, Fr.refl _ _, H5.out.2⟩
  case round =>
    obtain ⟨j, rfl, hj, HX⟩ := hrel
    by_cases hjk : j < 64
    · obtain ⟨y, cy⟩ := HX.out.2.cell (j := j) hjk
      have fy := HX.out.2.fz j
      have z0 : (0 : Int) ≤ j := by omega
      have z1 : (j : Int) < 64 := by omega
      have z2 : j < 64 := by omega
      have HN := Lib.hid (fun (v : Int) => (show Fr w5 (wr.setCell ⟨gb, j, none⟩ (.int .u8 v)) (· = gb) ∧ U8W (wr.setCell ⟨gb, j, none⟩ (.int .u8 v)) gb 64 from ⟨HX.out.1.trans (Fr.store wr ⟨gb, j, none⟩ _) (fun _ _ h => h), HX.out.2.set j v⟩))
      go_wp2_with fail
      go_roundw
      case rel => exact ⟨j + 1, by go_num, by omega, HN.out _⟩
      case measure => simp [intOf]; omega
    · obtain rfl : j = 64 := by omega
      have HZ := Lib.hid (H5.out.1.wr HX.out.1 (fun b e => by
        subst e
        exact ⟨H2.out.2.2.2.2, by have h1 := HOB.out; have h2 := HV.out.1.dl.ext.size; have h3 := (H2.out.2.2.2.2); omega⟩))
      go_wp2_with fail
      exact hPost.out _ (HZ.out.done HCor.out)
set_option maxHeartbeats 6400000 in
theorem play_readgood (hE : Errs W E) {M : Nat → Prop} {f SF NW : Int → List Nat} {l : List WrV} {nw : Int} {lost : Bool} (P0 : PB W w g q (fun _ => False) M S f l nw lost Zm SF NW l nw lost) (HC0 : Cor S f l SF NW lost) (hZ : Zm < 2600000000000) (I T : Int) (kp : Nat) (hkp : kp < 18446744073709551616) (B : Option Addr) (k d : Nat) (l0 : List Nat) (hr : Rd w 1 B k (u8s l0)) (hb : ∀ y ∈ l0, y < 256) (hk : k ≤ 140737488351232) (hl : lost = false) (hI : 0 ≤ I ∧ I < (S : Int))
    {Post : Ending → World → Prop} (hPost : Hid (∀ w', BX W w' g q S (Zm + 1) → Post (.returned (.bool true)) w')) :
    Calls Tryd.prog 17 #[.pointer (some ⟨g, 0, none⟩), .pointer (some ⟨q, 0, none⟩), .agg #[.int .i64 3, .int .i64 I, .int .i64 T, .int .u64 (kp : Int), .slice B k d]] w Post := by
  have hob := heap_alloc_new w (.cells #[.int .i64 3, .int .i64 I, .int .i64 T, .int .u64 (kp : Int), .slice B k d] 42)
  have X0 := (Ext.refl w).alloc (.cells #[.int .i64 3, .int .i64 I, .int .i64 T, .int .u64 (kp : Int), .slice B k d] 42)
  have hz0 : (w.alloc (.cells #[.int .i64 3, .int .i64 I, .int .i64 T, .int .u64 (kp : Int), .slice B k d] 42)).heap.size = w.heap.size + 1 := World.size_alloc _ _
  have HV := Lib.hid (And.intro P0 (And.intro hob (And.intro X0 (And.intro HC0 hz0))))
  have HR := Lib.hid (And.intro hr (And.intro hb hE))
  clear  P0 HC0 hr hb hob X0 hE hz0
  subst hl
  obtain ⟨i, hi⟩ : ∃ i : Nat, I = (i : Int) := ⟨I.toNat, by omega⟩
  have HI := Lib.hid (And.intro hI.1 (And.intro hI.2 hi))
  clear hI hi
  go_enter Tryd.func17, Tryd.ntmps17
  go_upto_region 16 with (fail)
  generalize w.alloc (.cells #[.int .i64 3, .int .i64 I, .int .i64 T, .int .u64 (kp : Int), .slice B k d] 42) = V at *
  generalize hobn : w.heap.size = ob at *
  have HOB := Lib.hid hobn
  clear hobn
  have c1 : V.cell? ⟨ob, 1, none⟩ = some (.int .i64 I) := block_cell HV.out.2.1 1
  have P1 := Lib.hid (HV.out.1.grow HV.out.2.2.1 (Y := fun b => ob ≤ b ∧ b < V.heap.size) (fun b hb => .inr (by have := HOB.out; exact ⟨by omega, hb.2⟩)))
  have hobV : ob < V.heap.size := block_lt HV.out.2.1
  have D1 := Lib.hid (DL.read_good HR.out.2.2 P1.out.dl hZ I HI.out.1 HI.out.2.1)
  go_wp2_with fail
  refine D1.out.mono ?_
  rintro e w1 ⟨gb, rfl, r1, u1, hs1, x1⟩
  have b1 := (x1.block ob hobV).trans HV.out.2.1
  have hgb : gb < w1.heap.size := u1.lt
  have H1 := Lib.hid (And.intro (P1.out.ext x1) (And.intro b1 (And.intro r1 (And.intro u1 (And.intro x1 (show ob ≤ gb ∧ gb < w1.heap.size from ⟨by omega, hgb⟩))))))
  have D2 := Lib.hid (RL.read_good H1.out.1.rl (i := i) (by have := HI.out; omega))
  rw [(HV.out.2.2.2.1 rfl i (by have := HI.out; omega)).2, ← HI.out.2.2] at D2
  clear D1 c1 r1 u1 hs1 x1 hgb
  have c1 : w1.cell? ⟨ob, 1, none⟩ = some (.int .i64 I) := block_cell b1 1
  clear b1
  go_wp2_with fail
  refine D2.out.mono ?_
  rintro e w2 ⟨rb, cc, rfl, r2, x2⟩
  have H2 := Lib.hid (And.intro (H1.out.1.ext x2) (And.intro (H1.out.2.2.2.1.ext x2) (H1.out.2.2.2.2.1.trans x2)))
  have cv1 := run_str (P := Tryd.prog) (s := 9) Tryd.underlying32 Tryd.underlying5 Tryd.underlying9 64 (H1.out.2.2.1.ext x2)
  have cv2 := run_str (P := Tryd.prog) (s := 9) Tryd.underlying32 Tryd.underlying5 Tryd.underlying9 cc r2
  have NU := Lib.hid (num_nil w2)
  clear D2 c1 r2 x2
  go_wp2_with fail
  refine NU.out.mono ?_
  rintro e w3 ⟨rfl, x3⟩
  have H3 := Lib.hid (And.intro ((HV.out.1.grow (HV.out.2.2.1.trans (H2.out.2.2.trans x3)) (Y := fun b => ob ≤ b ∧ b < w3.heap.size) (fun b hb => .inr (by have := HOB.out; exact ⟨by omega, hb.2⟩)))) (And.intro (H2.out.2.1.ext x3) (show ob ≤ gb ∧ gb < w3.heap.size from ⟨H1.out.2.2.2.2.2.1, (H2.out.2.1.ext x3).lt⟩)))
  clear NU x3 cv1 cv2
  go_wp2_with fail
  go_loopw [93] (fun vL wr => ∃ j : Nat, vL = .int .i64 (j : Int) ∧ j ≤ 64 ∧ Hid (Fr w3 wr (· = gb) ∧ U8W wr gb 64)) (fun vL _ => 64 - (intOf vL).toNat)
  case atStart => exact ⟨0, rfl, by omega, Fr.refl _ _, H3.out.2.1⟩
  case round =>
    obtain ⟨j, rfl, hj, HX⟩ := hrel
    by_cases hjk : j < 64
    · obtain ⟨y, cy⟩ := HX.out.2.cell (j := j) hjk
      have fy := HX.out.2.fz j
      have z0 : (0 : Int) ≤ j := by omega
      have z1 : (j : Int) < 64 := by omega
      have z2 : j < 64 := by omega
      have HN := Lib.hid (fun (v : Int) => (show Fr w3 (wr.setCell ⟨gb, j, none⟩ (.int .u8 v)) (· = gb) ∧ U8W (wr.setCell ⟨gb, j, none⟩ (.int .u8 v)) gb 64 from ⟨HX.out.1.trans (Fr.store wr ⟨gb, j, none⟩ _) (fun _ _ h => h), HX.out.2.set j v⟩))
      go_wp2_with fail
      go_roundw
      case rel => exact ⟨j + 1, by go_num, by omega, HN.out _⟩
      case measure => simp [intOf]; omega
    · obtain rfl : j = 64 := by omega
      have HZ := Lib.hid (H3.out.1.wr HX.out.1 (fun b e => by
        subst e
        exact ⟨H3.out.2.2, by have h1 := HOB.out; have h2 := HV.out.1.dl.ext.size; have h3 := (H3.out.2.2); omega⟩))
      go_wp2_with fail
      exact hPost.out _ ((HZ.out.done HV.out.2.2.2.1).mono (Nat.le_succ _))
set_option maxHeartbeats 6400000 in
theorem play_readbad (hE : Errs W E) {M : Nat → Prop} {f SF NW : Int → List Nat} {l : List WrV} {nw : Int} {lost : Bool} (P0 : PB W w g q (fun _ => False) M S f l nw lost Zm SF NW l nw lost) (HC0 : Cor S f l SF NW lost) (hZ : Zm < 2600000000000) (I T : Int) (kp : Nat) (hkp : kp < 18446744073709551616) (B : Option Addr) (k d : Nat) (l0 : List Nat) (hr : Rd w 1 B k (u8s l0)) (hb : ∀ y ∈ l0, y < 256) (hk : k ≤ 140737488351232) (hbad : lost = true ∨ I < 0 ∨ (S : Int) ≤ I)
    {Post : Ending → World → Prop} (hPost : Hid (∀ w', BX W w' g q S (Zm + 1) → Post (.returned (.bool true)) w')) :
    Calls Tryd.prog 17 #[.pointer (some ⟨g, 0, none⟩), .pointer (some ⟨q, 0, none⟩), .agg #[.int .i64 3, .int .i64 I, .int .i64 T, .int .u64 (kp : Int), .slice B k d]] w Post := by
  have hob := heap_alloc_new w (.cells #[.int .i64 3, .int .i64 I, .int .i64 T, .int .u64 (kp : Int), .slice B k d] 42)
  have X0 := (Ext.refl w).alloc (.cells #[.int .i64 3, .int .i64 I, .int .i64 T, .int .u64 (kp : Int), .slice B k d] 42)
  have hz0 : (w.alloc (.cells #[.int .i64 3, .int .i64 I, .int .i64 T, .int .u64 (kp : Int), .slice B k d] 42)).heap.size = w.heap.size + 1 := World.size_alloc _ _
  have HV := Lib.hid (And.intro P0 (And.intro hob (And.intro X0 (And.intro HC0 hz0))))
  have HR := Lib.hid (And.intro hr (And.intro hb hE))
  clear  P0 HC0 hr hb hob X0 hE hz0
  have HB := Lib.hid hbad
  clear hbad
  go_enter Tryd.func17, Tryd.ntmps17
  go_upto_region 16 with (fail)
  generalize w.alloc (.cells #[.int .i64 3, .int .i64 I, .int .i64 T, .int .u64 (kp : Int), .slice B k d] 42) = V at *
  generalize hobn : w.heap.size = ob at *
  have HOB := Lib.hid hobn
  clear hobn
  have c1 : V.cell? ⟨ob, 1, none⟩ = some (.int .i64 I) := block_cell HV.out.2.1 1
  have P1 := Lib.hid (HV.out.1.grow HV.out.2.2.1 (Y := fun b => ob ≤ b ∧ b < V.heap.size) (fun b hb => .inr (by have := HOB.out; exact ⟨by omega, hb.2⟩)))
  have hobV : ob < V.heap.size := block_lt HV.out.2.1
  have D1 := Lib.hid (DL.read_bad HR.out.2.2 P1.out.dl I HB.out)
  go_wp2_with fail
  refine D1.out.mono ?_
  rintro e w1 ⟨rfl, x1⟩
  have b1 := (x1.block ob hobV).trans HV.out.2.1
  have H1 := Lib.hid (And.intro (P1.out.ext x1) b1)
  have D2 := Lib.hid (RL.read_bad H1.out.1.rl I HB.out)
  clear D1 c1 x1
  have c1 : w1.cell? ⟨ob, 1, none⟩ = some (.int .i64 I) := block_cell b1 1
  clear b1
  generalize hv : chkV (E 0) (E 2) S I lost = v at *
  generalize hkk : chkN S I lost = kk at *
  have HNI := Lib.hid (show NumIs E v kk from by rw [← hv, ← hkk]; exact numIs_chk E S I lost)
  clear hv hkk
  go_wp2_with fail
  refine D2.out.mono ?_
  rintro e w2 ⟨rfl, x2⟩
  have H2 := Lib.hid (H1.out.1.ext x2)
  have cv := run_str (P := Tryd.prog) (w := w2) (s := 9) Tryd.underlying32 Tryd.underlying5 Tryd.underlying9 0 (A := none) (n := 0) (l := []) Rd.nil_
  rw [show str [] = ⟨#[]⟩ from rfl] at cv
  have NU := Lib.hid (HNI.out w2 (HR.out.2.2.ext H2.out.dl.ext))
  clear D2 c1 x2
  go_wp2_with fail
  refine NU.out.mono ?_
  rintro e w3 ⟨rfl, x3⟩
  have H3 := Lib.hid (H2.out.ext x3)
  clear NU x3 cv
  go_wp2_with fail
  go_loopw [93] (fun vL wr => vL = .int .i64 0 ∧ w3 = wr) (fun vL _ => 0)
  case atStart => exact ⟨rfl, rfl⟩
  case round =>
    obtain ⟨rfl, rfl⟩ := hrel
    go_wp2_with fail
    exact hPost.out _ ((H3.out.done HV.out.2.2.2.1).mono (Nat.le_succ _))
set_option maxHeartbeats 6400000 in
theorem play_flush (hE : Errs W E) (h : BX W w g q S Zm) (hZ : Zm < 2600000000000) (I T : Int) (kp : Nat) (hkp : kp < 18446744073709551616) (B : Option Addr) (k d : Nat) (l0 : List Nat) (hr : Rd w 1 B k (u8s l0)) (hb : ∀ y ∈ l0, y < 256) (hk : k ≤ 140737488351232)
    {Post : Ending → World → Prop} (hPost : Hid (∀ w', BX W w' g q S (Zm + 1) → Post (.returned (.bool true)) w')) :
    Calls Tryd.prog 17 #[.pointer (some ⟨g, 0, none⟩), .pointer (some ⟨q, 0, none⟩), .agg #[.int .i64 4, .int .i64 I, .int .i64 T, .int .u64 (kp : Int), .slice B k d]] w Post := by
  obtain ⟨M, f, l, nw, lost, SF, NW, P0, HC0⟩ := h.ex
  have hob := heap_alloc_new w (.cells #[.int .i64 4, .int .i64 I, .int .i64 T, .int .u64 (kp : Int), .slice B k d] 42)
  have X0 := (Ext.refl w).alloc (.cells #[.int .i64 4, .int .i64 I, .int .i64 T, .int .u64 (kp : Int), .slice B k d] 42)
  have hz0 : (w.alloc (.cells #[.int .i64 4, .int .i64 I, .int .i64 T, .int .u64 (kp : Int), .slice B k d] 42)).heap.size = w.heap.size + 1 := World.size_alloc _ _
  have HV := Lib.hid (And.intro P0 (And.intro hob (And.intro X0 (And.intro HC0 hz0))))
  have HR := Lib.hid (And.intro hr (And.intro hb hE))
  clear h P0 HC0 hr hb hob X0 hE hz0
  go_enter Tryd.func17, Tryd.ntmps17
  go_upto_region 26 with (fail)
  generalize w.alloc (.cells #[.int .i64 4, .int .i64 I, .int .i64 T, .int .u64 (kp : Int), .slice B k d] 42) = V at *
  generalize hobn : w.heap.size = ob at *
  have HOB := Lib.hid hobn
  clear hobn
  have P1 := Lib.hid (HV.out.1.grow HV.out.2.2.1 (Y := fun b => ob ≤ b ∧ b < V.heap.size) (fun b hb => .inr (by have := HOB.out; exact ⟨by omega, hb.2⟩)))
  have hobV : ob < V.heap.size := block_lt HV.out.2.1
  obtain ⟨v, kk, f', l', SF', NW', BC, BN, BM, BCor⟩ := both_flush (q := q) (M := M) (SF := SF) (NW := NW) HR.out.2.2 P1.out.dl hZ HV.out.2.2.2.1
  have D1 := Lib.hid BC
  have HBN := Lib.hid BN
  have HBM := Lib.hid BM
  have HCor := Lib.hid BCor
  clear BC BN BM BCor
  go_wp2_with fail
  refine D1.out.mono ?_
  rintro e w1 ⟨rfl, n1⟩
  have H1 := Lib.hid (P1.out.d n1)
  have D2 := Lib.hid (HBN.out w1 (HR.out.2.2.ext H1.out.dl.ext))
  clear D1 n1
  go_wp2_with fail
  refine D2.out.mono ?_
  rintro e w2 ⟨rfl, x2⟩
  have H2 := Lib.hid (H1.out.ext x2)
  have D3 := Lib.hid (HBM.out w2 H2.out.rl)
  clear D2 x2
  go_wp2_with fail
  refine D3.out.mono ?_
  rintro e w3 ⟨rfl, n3⟩
  obtain ⟨M', P3⟩ := H2.out.r n3
  have H3 := Lib.hid P3
  clear D3 n3 P3
  go_wp2_with fail
  exact hPost.out _ (H3.out.done HCor.out)
set_option maxHeartbeats 6400000 in
theorem play_crash (hE : Errs W E) (h : BX W w g q S Zm) (hZ : Zm < 2600000000000) (I T : Int) (kp : Nat) (hkp : kp < 18446744073709551616) (B : Option Addr) (k d : Nat) (l0 : List Nat) (hr : Rd w 1 B k (u8s l0)) (hb : ∀ y ∈ l0, y < 256) (hk : k ≤ 140737488351232)
    {Post : Ending → World → Prop} (hPost : Hid (∀ w', BX W w' g q S (Zm + 1) → Post (.returned (.bool true)) w')) :
    Calls Tryd.prog 17 #[.pointer (some ⟨g, 0, none⟩), .pointer (some ⟨q, 0, none⟩), .agg #[.int .i64 5, .int .i64 I, .int .i64 T, .int .u64 (kp : Int), .slice B k d]] w Post := by
  obtain ⟨M, f, l, nw, lost, SF, NW, P0, HC0⟩ := h.ex
  have hob := heap_alloc_new w (.cells #[.int .i64 5, .int .i64 I, .int .i64 T, .int .u64 (kp : Int), .slice B k d] 42)
  have X0 := (Ext.refl w).alloc (.cells #[.int .i64 5, .int .i64 I, .int .i64 T, .int .u64 (kp : Int), .slice B k d] 42)
  have hz0 : (w.alloc (.cells #[.int .i64 5, .int .i64 I, .int .i64 T, .int .u64 (kp : Int), .slice B k d] 42)).heap.size = w.heap.size + 1 := World.size_alloc _ _
  have HV := Lib.hid (And.intro P0 (And.intro hob (And.intro X0 (And.intro HC0 hz0))))
  have HR := Lib.hid (And.intro hr (And.intro hb hE))
  clear h P0 HC0 hr hb hob X0 hE hz0
  go_enter Tryd.func17, Tryd.ntmps17
  go_upto_region 28 with (fail)
  generalize w.alloc (.cells #[.int .i64 5, .int .i64 I, .int .i64 T, .int .u64 (kp : Int), .slice B k d] 42) = V at *
  generalize hobn : w.heap.size = ob at *
  have HOB := Lib.hid hobn
  clear hobn
  have P1 := Lib.hid (HV.out.1.grow HV.out.2.2.1 (Y := fun b => ob ≤ b ∧ b < V.heap.size) (fun b hb => .inr (by have := HOB.out; exact ⟨by omega, hb.2⟩)))
  have hobV : ob < V.heap.size := block_lt HV.out.2.1
  have c2 : V.cell? ⟨ob, 2, none⟩ = some (.int .i64 T) := block_cell HV.out.2.1 2
  have c3 : V.cell? ⟨ob, 3, none⟩ = some (.int .u64 (kp : Int)) := block_cell HV.out.2.1 3
  have D1 := Lib.hid (DL.crash P1.out.dl hZ kp hkp T)
  go_wp2_with fail
  refine D1.out.mono ?_
  rintro e w1 ⟨rfl, n1⟩
  have F1 := DLN.frx P1.out.dl n1
  have b1 := (F1.block ob hobV (fun e => e (.inl ⟨Nat.le_refl _, hobV⟩))).trans HV.out.2.1
  have H1 := Lib.hid (P1.out.d n1)
  have D2 := Lib.hid (rcrash_any H1.out.rl kp hkp T (by have := P1.out.dl.ll; omega))
  clear D1 n1 F1 c2 c3
  have c2 : w1.cell? ⟨ob, 2, none⟩ = some (.int .i64 T) := block_cell b1 2
  have c3 : w1.cell? ⟨ob, 3, none⟩ = some (.int .u64 (kp : Int)) := block_cell b1 3
  clear b1
  go_wp2_with fail
  refine D2.out.mono ?_
  rintro e w2 ⟨rfl, n2⟩
  obtain ⟨M', P2⟩ := H1.out.r n2
  have H2 := Lib.hid P2
  clear D2 n2 P2
  go_wp2_with fail
  exact hPost.out _ ((H2.out.done (HV.out.2.2.2.1.crash kp T)).mono (Nat.le_succ _))
set_option maxHeartbeats 6400000 in
theorem play_lose (hE : Errs W E) (h : BX W w g q S Zm) (hZ : Zm < 2600000000000) (I T : Int) (kp : Nat) (hkp : kp < 18446744073709551616) (B : Option Addr) (k d : Nat) (l0 : List Nat) (hr : Rd w 1 B k (u8s l0)) (hb : ∀ y ∈ l0, y < 256) (hk : k ≤ 140737488351232)
    {Post : Ending → World → Prop} (hPost : Hid (∀ w', BX W w' g q S (Zm + 1) → Post (.returned (.bool true)) w')) :
    Calls Tryd.prog 17 #[.pointer (some ⟨g, 0, none⟩), .pointer (some ⟨q, 0, none⟩), .agg #[.int .i64 6, .int .i64 I, .int .i64 T, .int .u64 (kp : Int), .slice B k d]] w Post := by
  obtain ⟨M, f, l, nw, lost, SF, NW, P0, HC0⟩ := h.ex
  have hob := heap_alloc_new w (.cells #[.int .i64 6, .int .i64 I, .int .i64 T, .int .u64 (kp : Int), .slice B k d] 42)
  have X0 := (Ext.refl w).alloc (.cells #[.int .i64 6, .int .i64 I, .int .i64 T, .int .u64 (kp : Int), .slice B k d] 42)
  have hz0 : (w.alloc (.cells #[.int .i64 6, .int .i64 I, .int .i64 T, .int .u64 (kp : Int), .slice B k d] 42)).heap.size = w.heap.size + 1 := World.size_alloc _ _
  have HV := Lib.hid (And.intro P0 (And.intro hob (And.intro X0 (And.intro HC0 hz0))))
  have HR := Lib.hid (And.intro hr (And.intro hb hE))
  clear h P0 HC0 hr hb hob X0 hE hz0
  go_enter Tryd.func17, Tryd.ntmps17
  go_upto_region 31 with (fail)
  generalize w.alloc (.cells #[.int .i64 6, .int .i64 I, .int .i64 T, .int .u64 (kp : Int), .slice B k d] 42) = V at *
  generalize hobn : w.heap.size = ob at *
  have HOB := Lib.hid hobn
  clear hobn
  have P1 := Lib.hid (HV.out.1.grow HV.out.2.2.1 (Y := fun b => ob ≤ b ∧ b < V.heap.size) (fun b hb => .inr (by have := HOB.out; exact ⟨by omega, hb.2⟩)))
  have hobV : ob < V.heap.size := block_lt HV.out.2.1
  have D1 := Lib.hid (DL.lose P1.out.dl)
  go_wp2_with fail
  refine D1.out.mono ?_
  rintro e w1 ⟨rfl, n1⟩
  have F1 := DLN.frx P1.out.dl n1
  have b1 := (F1.block ob hobV (fun e => e (.inl ⟨Nat.le_refl _, hobV⟩))).trans HV.out.2.1
  have H1 := Lib.hid (P1.out.d n1)
  have D2 := Lib.hid (rlose_any H1.out.rl)
  clear D1 n1 F1 b1
  go_wp2_with fail
  refine D2.out.mono ?_
  rintro e w2 ⟨rfl, n2⟩
  obtain ⟨M', P2⟩ := H1.out.r n2
  have H2 := Lib.hid P2
  clear D2 n2 P2
  go_wp2_with fail
  exact hPost.out _ (H2.out.done Cor.lost_)
set_option maxHeartbeats 6400000 in
theorem play_else (hE : Errs W E) (h : BX W w g q S Zm) (hZ : Zm < 2600000000000) (I T : Int) (kp : Nat) (hkp : kp < 18446744073709551616) (B : Option Addr) (k d : Nat) (l0 : List Nat) (hr : Rd w 1 B k (u8s l0)) (hb : ∀ y ∈ l0, y < 256) (hk : k ≤ 140737488351232) (K : Int) (h1 : K ≠ 1) (h2 : K ≠ 2) (h3 : K ≠ 3) (h4 : K ≠ 4) (h5 : K ≠ 5) (h6 : K ≠ 6)
    {Post : Ending → World → Prop} (hPost : Hid (∀ w', BX W w' g q S (Zm + 1) → Post (.returned (.bool true)) w')) :
    Calls Tryd.prog 17 #[.pointer (some ⟨g, 0, none⟩), .pointer (some ⟨q, 0, none⟩), .agg #[.int .i64 K, .int .i64 I, .int .i64 T, .int .u64 (kp : Int), .slice B k d]] w Post := by
  obtain ⟨M, f, l, nw, lost, SF, NW, P0, HC0⟩ := h.ex
  have hob := heap_alloc_new w (.cells #[.int .i64 K, .int .i64 I, .int .i64 T, .int .u64 (kp : Int), .slice B k d] 42)
  have X0 := (Ext.refl w).alloc (.cells #[.int .i64 K, .int .i64 I, .int .i64 T, .int .u64 (kp : Int), .slice B k d] 42)
  have hz0 : (w.alloc (.cells #[.int .i64 K, .int .i64 I, .int .i64 T, .int .u64 (kp : Int), .slice B k d] 42)).heap.size = w.heap.size + 1 := World.size_alloc _ _
  have HV := Lib.hid (And.intro P0 (And.intro hob (And.intro X0 (And.intro HC0 hz0))))
  have HR := Lib.hid (And.intro hr (And.intro hb hE))
  clear h P0 HC0 hr hb hob X0 hE hz0
  have e1 : (K == 1) = false := by simpa using h1
  have e2 : (K == 2) = false := by simpa using h2
  have e3 : (K == 3) = false := by simpa using h3
  have e4 : (K == 4) = false := by simpa using h4
  have e5 : (K == 5) = false := by simpa using h5
  have e6 : (K == 6) = false := by simpa using h6
  clear h1 h2 h3 h4 h5 h6
  go_enter Tryd.func17, Tryd.ntmps17
  go_wp2_with fail
  exact hPost.out _ (((HV.out.1.ext HV.out.2.2.1).done HV.out.2.2.2.1).mono (Nat.le_succ _))

theorem play_any (hE : Errs W E) (h : BX W w g q S Zm) (hZ : Zm < 2600000000000) (K I T : Int) (kp : Nat) (hkp : kp < 18446744073709551616) (B : Option Addr) (k d : Nat) (l0 : List Nat) (hr : Rd w 1 B k (u8s l0)) (hb : ∀ y ∈ l0, y < 256) (hk : k ≤ 140737488351232)
    {Post : Ending → World → Prop} (hPost : Hid (∀ w', BX W w' g q S (Zm + 1) → Post (.returned (.bool true)) w')) :
    Calls Tryd.prog 17 #[.pointer (some ⟨g, 0, none⟩), .pointer (some ⟨q, 0, none⟩), .agg #[.int .i64 K, .int .i64 I, .int .i64 T, .int .u64 (kp : Int), .slice B k d]] w Post := by
  by_cases h1 : K = 1
  · subst h1; exact play_write hE h hZ I T kp hkp B k d l0 hr hb hk hPost
  by_cases h2 : K = 2
  · subst h2; exact play_fill hE h hZ I T kp hkp B k d l0 hr hb hk hPost
  by_cases h3 : K = 3
  · subst h3
    obtain ⟨M, f, l, nw, lost, SF, NW, P0, HC0⟩ := h.ex
    by_cases hbad : lost = true ∨ I < 0 ∨ (S : Int) ≤ I
    · exact play_readbad hE P0 HC0 hZ I T kp hkp B k d l0 hr hb hk hbad hPost
    · have hl : lost = false := by cases lost with
        | false => rfl
        | true => exact absurd (.inl rfl) hbad
      exact play_readgood hE P0 HC0 hZ I T kp hkp B k d l0 hr hb hk hl ⟨by omega, by omega⟩ hPost
  by_cases h4 : K = 4
  · subst h4; exact play_flush hE h hZ I T kp hkp B k d l0 hr hb hk hPost
  by_cases h5 : K = 5
  · subst h5; exact play_crash hE h hZ I T kp hkp B k d l0 hr hb hk hPost
  by_cases h6 : K = 6
  · subst h6; exact play_lose hE h hZ I T kp hkp B k d l0 hr hb hk hPost
  exact play_else hE h hZ I T kp hkp B k d l0 hr hb hk K h1 h2 h3 h4 h5 h6 hPost
end
end Go.Proofs.YtchkeclhnbekkaaDoor
