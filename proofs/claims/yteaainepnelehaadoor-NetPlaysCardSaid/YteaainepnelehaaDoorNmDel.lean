/-
  The document's net: Deliver, walked.
-/
import Derived.Test.YteaainepnelehaaDoorNmSend
import Derived.Test.YteaainepnelehaaDoorRowAt
namespace Go.Proofs.YteaainepnelehaaDoor
set_option maxRecDepth 100000
open Go.RowKit
set_option linter.unusedVariables false
/-- A block of four cells, written anew. -/
theorem set4_blk {w : World} {b : Nat} {t : TypeId} {o0 o1 o2 o3 : Value} (h : w.heap[b]? = some (.cells #[o0, o1, o2, o3] t (0, 0))) (v0 v1 v2 v3 : Value) :
    ((((w.setCell ⟨b, 0, none⟩ v0).setCell ⟨b, 1, none⟩ v1).setCell ⟨b, 2, none⟩ v2).setCell ⟨b, 3, none⟩ v3).heap[b]? = some (.cells #[v0, v1, v2, v3] t (0, 0)) :=
  heap_setCell_same _ b 3 _ _ _ (heap_setCell_same _ b 2 _ _ _ (heap_setCell_same _ b 1 _ _ _ (heap_setCell_same w b 0 _ _ _ h)))
theorem set4_fr (w : World) (b : Nat) (v0 v1 v2 v3 : Value) :
    Fr w ((((w.setCell ⟨b, 0, none⟩ v0).setCell ⟨b, 1, none⟩ v1).setCell ⟨b, 2, none⟩ v2).setCell ⟨b, 3, none⟩ v3) (· = b) :=
  (((Fr.store w ⟨b, 0, none⟩ _).trans (Fr.store _ ⟨b, 1, none⟩ _) (fun _ _ h => h)).trans (Fr.store _ ⟨b, 2, none⟩ _) (fun _ _ h => h)).trans (Fr.store _ ⟨b, 3, none⟩ _) (fun _ _ h => h)
theorem merase_rows (ls : List LetV) (i i1 : Nat) (h : i + 1 = i1) : ((mrows ls).take i).flatten ++ ((mrows ls).drop i1).flatten = (mrows (ls.eraseIdx i)).flatten := by
  rw [← h, ← List.flatten_append, ← List.eraseIdx_eq_take_drop_succ]
  unfold mrows
  congr 1
  apply List.ext_getElem?
  intro q
  simp only [List.getElem?_eraseIdx, List.getElem?_map]
  split <;> rfl
/-- What a letter that is taken leaves. -/
structure MDel (w w' : World) (B g : Nat) (A : Option Addr) (ls' : List LetV) (last : Nat) : Prop where
  ex : ∃ A' m' c', NMS w' B g A' m' c' ls' last ∧ ∀ a, A' = some a → w.heap.size ≤ a.block
  fr : Fr w w' (· = g)
section
variable {w w' : World} {B g m c last : Nat} {A : Option Addr} {ls : List LetV}
set_option maxHeartbeats 1600000 in
theorem mdel_gone (h : NMS w B g A m c ls last) {y : Int} (hy : ∀ x ∈ ls, (x.N : Int) ≠ y) :
    Calls Tryd.prog 15 #[.pointer (some ⟨g, 0, none⟩), .int .i64 y] w fun e w' => e = .returned (.tuple #[.agg #[.int .i64 0, .int .i64 0, .int .i64 0, .string ⟨#[]⟩], .int .i64 5]) ∧ Ext w w' := by
  have X0 := (Ext.refl w).alloc (.cells #[.int .i64 0, .int .i64 0, .int .i64 0, .string ⟨#[]⟩] 38)
  have hbr := heap_alloc_new w (.cells #[.int .i64 0, .int .i64 0, .int .i64 0, .string ⟨#[]⟩] 38)
  have FD := mfind_any (h.ex X0) y
  rw [findV_miss hy] at FD
  have FD := Lib.hid FD
  have HW := Lib.hid (And.intro X0 hbr)
  clear h hy X0 hbr
  go_enter Tryd.func15, Tryd.ntmps15
  go_wp2_with fail
  refine FD.out.mono ?_
  rintro e w1 ⟨rfl, x1⟩
  have X1 := HW.out.1.trans x1
  have br := (x1.block _ (block_lt HW.out.2)).trans HW.out.2
  generalize hb0 : w.heap.size = b0 at *
  have r0 : w1.cell? ⟨b0, 0, none⟩ = some (.int .i64 0) := block_cell br 0
  have r1 : w1.cell? ⟨b0, 1, none⟩ = some (.int .i64 0) := block_cell br 1
  have r2 : w1.cell? ⟨b0, 2, none⟩ = some (.int .i64 0) := block_cell br 2
  have r3 : w1.cell? ⟨b0, 3, none⟩ = some (.string ⟨#[]⟩) := block_cell br 3
  have q0 := block_fz br 0
  have q1 := block_fz br 1
  have q2 := block_fz br 2
  have q3 := block_fz br 3
  have HB := Lib.hid (set4_blk br (.int .i64 0) (.int .i64 0) (.int .i64 0) (.string ⟨#[]⟩))
  have HF := Lib.hid (Fr.ext X1 (set4_fr w1 b0 (.int .i64 0) (.int .i64 0) (.int .i64 0) (.string ⟨#[]⟩)) (fun i hi => by omega))
  clear X1 x1 br FD HW hb0
  go_wp2_with fail
  generalize (((w1.setCell ⟨b0, 0, none⟩ (.int .i64 0)).setCell ⟨b0, 1, none⟩ (.int .i64 0)).setCell ⟨b0, 2, none⟩ (.int .i64 0)).setCell ⟨b0, 3, none⟩ (.string ⟨#[]⟩) = w5 at *
  have t0 : w5.cell? ⟨b0, 0, none⟩ = some (.int .i64 0) := block_cell HB.out 0
  have t1 : w5.cell? ⟨b0, 1, none⟩ = some (.int .i64 0) := block_cell HB.out 1
  have t2 : w5.cell? ⟨b0, 2, none⟩ = some (.int .i64 0) := block_cell HB.out 2
  have t3 : w5.cell? ⟨b0, 3, none⟩ = some (.string ⟨#[]⟩) := block_cell HB.out 3
  refine bodyPost_ret (v := .tuple #[.agg #[.int .i64 0, .int .i64 0, .int .i64 0, .string ⟨#[]⟩], .int .i64 5]) (by simp [results, Tryd.results15, go_sem, t0, t1, t2, t3]) rfl ?_
  exact ⟨rfl, HF.out⟩
set_option maxHeartbeats 12800000 in
theorem mdel_ok (h : NMS w B g A m c ls last) (hr : Rising ls) {i : Nat} {y : Int} {x : LetV} (hk : ls[i]? = some x) (hy : (x.N : Int) = y) {Post : Ending → World → Prop}
    (hPost : Hid (∀ w', MDel w w' B g A (ls.eraseIdx i) last → Post (.returned (.tuple #[.agg #[.int .i64 (x.N : Int), .int .i64 x.F, .int .i64 x.T, .string (str x.l)], .int .i64 0])) w')) :
    Calls Tryd.prog 15 #[.pointer (some ⟨g, 0, none⟩), .int .i64 y] w Post := by
  have X0 := (Ext.refl w).alloc (.cells #[.int .i64 0, .int .i64 0, .int .i64 0, .string ⟨#[]⟩] 38)
  have hbr := heap_alloc_new w (.cells #[.int .i64 0, .int .i64 0, .int .i64 0, .string ⟨#[]⟩] 38)
  have FD := mfind_any (h.ex X0) y
  rw [findV_hit hk hy hr] at FD
  have FD := Lib.hid FD
  have HW := Lib.hid (And.intro X0 hbr)
  obtain ⟨i4, hi4⟩ : ∃ i4, i * 4 = i4 := ⟨_, rfl⟩
  have HG := Lib.hid (And.intro h hk)
  have hgl := h.lt
  have hfew := h.few
  have him : i < m := by have := h.len; have := (List.getElem?_eq_some_iff.1 hk).1; omega
  have z0 : (0 : Int) ≤ i := by omega
  have z1 : (i : Int) < m := by omega
  obtain ⟨S, rfl⟩ := h.own.head (by omega)
  have hSg := h.ag _ rfl
  have hSl := h.own.lt
  obtain ⟨s, hs⟩ : ∃ s, str x.l = s := ⟨_, rfl⟩
  rw [hs] at hPost
  have HSS := Lib.hid hs
  clear h hk hr hy X0 hbr hs
  go_enter Tryd.func15, Tryd.ntmps15
  go_wp2_with fail
  refine FD.out.mono ?_
  rintro e w3 ⟨rfl, x1⟩
  have X1 := HW.out.1.trans x1
  have br := (x1.block _ (block_lt HW.out.2)).trans HW.out.2
  generalize hb0 : w.heap.size = b0 at *
  have HB0 := Lib.hid hb0
  have h1 := HG.out.1.ex X1
  obtain ⟨S', eS, _, _, e0, e1, e2, e3⟩ := h1.lcell HG.out.2 hi4
  injection eS with eS
  injection eS with eS
  subst eS
  rw [HSS.out] at e3
  have c0 := h1.c0
  have X4 := (Ext.refl w3).alloc (.cells #[.int .i64 (x.N : Int), .int .i64 x.F, .int .i64 x.T, .string s] 38)
  have b8 := heap_alloc_new w3 (.cells #[.int .i64 (x.N : Int), .int .i64 x.F, .int .i64 x.T, .string s] 38)
  have br4 := (X4.block _ (block_lt br)).trans br
  have hbn' := block_lt br
  have H4 := Lib.hid (And.intro br4 (And.intro b8 (And.intro (h1.ex X4) (X1.trans X4))))
  clear x1 FD HW X1 br hb0 h1 X4 b8 br4
  go_upto_region 5 with (fail)
  clear e0 e1 e2 e3 c0
  generalize w3.alloc (.cells #[.int .i64 (x.N : Int), .int .i64 x.F, .int .i64 x.T, .string s] 38) = w4 at *
  generalize w3.heap.size = n8 at *
  have M4 := H4.out.2.2.1
  have O4 := M4.own
  have z4 := block_lt H4.out.2.1
  have c3 : w4.cell? ⟨g, 0, none⟩ = some (.slice (some ⟨S, 0, none⟩) m c) := M4.c0
  have hcap : m ≤ c := O4.cap_le
  have hBw : B ≤ w4.heap.size := by have h1 := M4.bg; have h2 := M4.lt; omega
  have hcap2 : (m : Int) ≤ (c : Int) := by omega
  have hic : i ≤ c := by omega
  have hbn : b0 ≠ n8 := by omega
  have hgn : g ≠ n8 := by omega
  obtain ⟨i1, hi1⟩ : ∃ i1, i + 1 = i1 := ⟨_, rfl⟩
  obtain ⟨X, hX⟩ : ∃ X, (if c = i1 then some (⟨S, 0, none⟩ : Addr) else (some (⟨S, 0, none⟩ : Addr)).map (·.add (i1 * 4))) = X := ⟨_, rfl⟩
  have hsl : ∀ w, (Instr.slice 28 (.slice (some ⟨S, 0, none⟩) m c) (some (.int .i64 (i1 : Int))) none none).run Tryd.prog w = .ok (.slice X (m - i1) (c - i1)) w := fun w => run_slice_at (P := Tryd.prog) eltMl (some ⟨S, 0, none⟩) m c .i64 i1 (by omega) hX w
  have wr3 : IntKind.i64.wrap ((i : Int) + 1) = (i1 : Int) := by rw [IntKind.wrap_i64]; omega
  have R1 := O4.rd.take_ (k := i) (by omega)
  have R2 := O4.rd.cut (k := i1) (by omega) hcap
  rw [hX] at R2
  rw [(mrows_even _).take i] at R1
  rw [(mrows_even _).drop i1] at R2
  have X0' := (Ext.refl w4).alloc (.cells #[] 38)
  have oE : Own (w4.alloc (.cells #[] 38)).drew B 38 4 (some ⟨w4.heap.size, 0, none⟩) 0 0 [] := (World.ownsRow_lit (size := 4) w4 #[] 0 hBw (by simp [maxLen]) rfl)
  have rows1 : ∀ u ∈ ((mrows ls).take i).flatten, u.oneCell' = true := fun u hu => mrows_one ls u (by
    obtain ⟨r, hr, hu⟩ := List.mem_flatten.1 hu
    exact List.mem_flatten.2 ⟨r, List.mem_of_mem_take hr, hu⟩)
  have rows2 : ∀ u ∈ ((mrows ls).drop i1).flatten, u.oneCell' = true := fun u hu => mrows_one ls u (by
    obtain ⟨r, hr, hu⟩ := List.mem_flatten.1 hu
    exact List.mem_flatten.2 ⟨r, List.mem_of_mem_drop hr, hu⟩)
  have hgl4 := M4.lt
  have XD := X0'.drew
  have HX4 := Lib.hid (And.intro hBw (And.intro R1 (And.intro R2 (And.intro oE (And.intro rows1 rows2)))))
  have HBL := Lib.hid (And.intro M4.blk (And.intro H4.out.2.1 (And.intro H4.out.1 XD)))
  have e4 := (XD.cell (p := ⟨g, 0, none⟩) hgl4).trans c3
  have HS : w4.drew.cell? ⟨g, 0, none⟩ = some (.slice (some ⟨S, 0, none⟩) m c) := c3
  have HS2 : (w4.alloc (.cells #[] 38)).drew.cell? ⟨g, 0, none⟩ = some (.slice (some ⟨S, 0, none⟩) m c) := e4
  have HNUM := Lib.hid hi1
  clear M4 O4 R1 R2 X0' oE rows1 rows2 XD e4 hX hi1
  refine d_region (fun W : World => W.cell? ⟨g, 0, none⟩ = some (.slice (some ⟨S, 0, none⟩) m c)) [17, 18, 19] (by kernel_rfl) ?_
  refine d_take (i := 0) (v := ?_) [17, 18, 19] (some 21) rfl (by rfl) (by kernel_rfl) (by kernel_rfl) (by kernel_rfl) (by kernel_rfl) (by kernel_rfl) (by kernel_rfl) (fun _ _ _ h => h) (.inl ⟨by rfl, ?_⟩) HS ?_
  rotate_left 1
  · (intro W hW; (try dsimp only at hW); go_simp; try with_reducible rfl)
  try simp only [Act.put, List.setIfInBounds_toArray, List.set_cons_zero, List.set_cons_succ]
  refine d_take (i := 2) (v := ?_) [3, 4, 5, 7, 8, 16, 17, 18, 19] (some 23) rfl (by rfl) (by kernel_rfl) (by kernel_rfl) (by kernel_rfl) (by kernel_rfl) (by kernel_rfl) (by kernel_rfl) (fun _ _ _ h => h) (.inl ⟨by rfl, ?_⟩) HS ?_
  rotate_left 1
  · (intro W hW; (try dsimp only at hW); go_simp; try with_reducible rfl)
  try simp only [Act.put, List.setIfInBounds_toArray, List.set_cons_zero, List.set_cons_succ]
  refine d_take (i := 3) (v := ?_) [4, 5, 7, 8, 16, 17, 18, 19] (some 24) rfl (by rfl) (by kernel_rfl) (by kernel_rfl) (by kernel_rfl) (by kernel_rfl) (by kernel_rfl) (by kernel_rfl) (fun _ _ _ h => h) (.inl ⟨by rfl, ?_⟩) HS ?_
  rotate_left 1
  · (intro W hW; (try dsimp only at hW); go_simp; try with_reducible rfl)
  try simp only [Act.put, List.setIfInBounds_toArray, List.set_cons_zero, List.set_cons_succ]
  refine d_take (i := 4) (v := ?_) [5, 7, 8, 16, 17, 18, 19] (some 25) rfl (by rfl) (by kernel_rfl) (by kernel_rfl) (by kernel_rfl) (by kernel_rfl) (by kernel_rfl) (by kernel_rfl) (fun _ _ _ h => h) (.inl ⟨by rfl, ?_⟩) HS ?_
  rotate_left 1
  · (intro W hW; (try dsimp only at hW); go_simp; try with_reducible rfl)
  try simp only [Act.put, List.setIfInBounds_toArray, List.set_cons_zero, List.set_cons_succ]
  refine d_take (i := 5) (v := ?_) [7, 8, 16, 17, 18, 19] (some 26) rfl (by rfl) (by kernel_rfl) (by kernel_rfl) (by kernel_rfl) (by kernel_rfl) (by kernel_rfl) (by kernel_rfl) (fun _ _ _ h => h) (.inl ⟨by rfl, ?_⟩) HS ?_
  rotate_left 1
  · (intro W hW; (try dsimp only at hW); go_simp; try with_reducible rfl)
  try simp only [Act.put, List.setIfInBounds_toArray, List.set_cons_zero, List.set_cons_succ]
  refine d_take (i := 6) (v := ?_) [7, 8, 16, 17, 18, 19] (some 27) rfl (by rfl) (by kernel_rfl) (by kernel_rfl) (by kernel_rfl) (by kernel_rfl) (by kernel_rfl) (by kernel_rfl) (fun _ _ _ h => h) (.inl ⟨by rfl, ?_⟩) HS ?_
  rotate_left 1
  · (intro W hW; (try dsimp only at hW); go_simp; try with_reducible rfl)
  try simp only [Act.put, List.setIfInBounds_toArray, List.set_cons_zero, List.set_cons_succ]
  refine d_take (i := 7) (v := ?_) [8, 16, 17, 18, 19] (some 28) rfl (by rfl) (by kernel_rfl) (by kernel_rfl) (by kernel_rfl) (by kernel_rfl) (by kernel_rfl) (by kernel_rfl) (fun _ _ _ h => h) (.inl ⟨by rfl, ?_⟩) HS ?_
  rotate_left 1
  · (intro W hW; (try dsimp only at hW); go_simp; try with_reducible rfl)
  try simp only [Act.put, List.setIfInBounds_toArray, List.set_cons_zero, List.set_cons_succ]
  refine d_take (i := 9) (v := ?_) [10, 11, 12, 15, 16, 17, 18, 19] (some 30) rfl (by rfl) (by kernel_rfl) (by kernel_rfl) (by kernel_rfl) (by kernel_rfl) (by kernel_rfl) (by kernel_rfl) (fun _ _ _ h => h) (.inl ⟨by rfl, ?_⟩) HS ?_
  rotate_left 1
  · (intro W hW; (try dsimp only at hW); go_simp; try with_reducible rfl)
  try simp only [Act.put, List.setIfInBounds_toArray, List.set_cons_zero, List.set_cons_succ]
  refine d_take (i := 10) (v := ?_) [11, 12, 15, 16, 17, 18, 19] (some 31) rfl (by rfl) (by kernel_rfl) (by kernel_rfl) (by kernel_rfl) (by kernel_rfl) (by kernel_rfl) (by kernel_rfl) (fun _ _ _ h => h) (.inl ⟨by rfl, ?_⟩) HS ?_
  rotate_left 1
  · (intro W hW; (try dsimp only at hW); go_simp; try with_reducible rfl)
  try simp only [Act.put, List.setIfInBounds_toArray, List.set_cons_zero, List.set_cons_succ]
  refine d_take (i := 11) (v := ?_) [12, 15, 16, 17, 18, 19] (some 32) rfl (by rfl) (by kernel_rfl) (by kernel_rfl) (by kernel_rfl) (by kernel_rfl) (by kernel_rfl) (by kernel_rfl) (fun _ _ _ h => h) (.inl ⟨by rfl, ?_⟩) HS ?_
  rotate_left 1
  · (intro W hW; (try dsimp only at hW); go_simp; try with_reducible rfl)
  try simp only [Act.put, List.setIfInBounds_toArray, List.set_cons_zero, List.set_cons_succ]
  refine d_take (i := 12) (v := ?_) [15, 16, 17, 18, 19] (some 33) rfl (by rfl) (by kernel_rfl) (by kernel_rfl) (by kernel_rfl) (by kernel_rfl) (by kernel_rfl) (by kernel_rfl) (fun _ _ _ h => h) (.inl ⟨by rfl, ?_⟩) HS ?_
  rotate_left 1
  · (intro W hW; (try dsimp only at hW); go_simp; try with_reducible rfl)
  try simp only [Act.put, List.setIfInBounds_toArray, List.set_cons_zero, List.set_cons_succ]
  refine d_take (i := 13) (v := ?_) [14, 15, 16, 17, 18, 19] (some 34) rfl (by rfl) (by kernel_rfl) (by kernel_rfl) (by kernel_rfl) (by kernel_rfl) (by kernel_rfl) (by kernel_rfl) (fun _ _ _ h => h) (.inl ⟨by rfl, ?_⟩) HS ?_
  rotate_left 1
  · (intro W hW; (try dsimp only at hW); go_simp; try with_reducible rfl)
  try simp only [Act.put, List.setIfInBounds_toArray, List.set_cons_zero, List.set_cons_succ]
  refine d_take (i := 14) (v := ?_) [15, 16, 17, 18, 19] (some 35) rfl (by rfl) (by kernel_rfl) (by kernel_rfl) (by kernel_rfl) (by kernel_rfl) (by kernel_rfl) (by kernel_rfl) (fun _ _ _ h => h) (.inl ⟨by rfl, ?_⟩) HS ?_
  rotate_left 1
  · (intro W hW; (try dsimp only at hW); go_simp; try with_reducible rfl)
  try simp only [Act.put, List.setIfInBounds_toArray, List.set_cons_zero, List.set_cons_succ]
  refine d_take (i := 15) (v := ?_) [16, 17, 18, 19] (some 36) rfl (by rfl) (by kernel_rfl) (by kernel_rfl) (by kernel_rfl) (by kernel_rfl) (by kernel_rfl) (by kernel_rfl) (fun _ _ _ h => h) (.inl ⟨by rfl, ?_⟩) HS ?_
  rotate_left 1
  · (intro W hW; (try dsimp only at hW); go_simp; try with_reducible rfl)
  try simp only [Act.put, List.setIfInBounds_toArray, List.set_cons_zero, List.set_cons_succ]
  refine d_one (i := 1) (by kernel_rfl) rfl rfl (fun K hK => ?_)
  simp only [List.getElem_toArray, List.getElem_cons_succ, List.getElem_cons_zero]
  go_simp
  refine hK.out _ _ (fun _ => HS2) ?_
  clear hK K
  try simp only [Act.put, List.setIfInBounds_toArray, List.set_cons_zero, List.set_cons_succ]
  refine d_one (i := 8) (by kernel_rfl) rfl rfl (fun K hK => ?_)
  simp only [List.getElem_toArray, List.getElem_cons_succ, List.getElem_cons_zero]
  refine oper_app (w := (w4.alloc (.cells #[] 38)).drew) (m := i) (d := c) (news := ((mrows ls).take i).flatten) eltMl HX4.out.2.2.2.1 (HX4.out.2.1.ext HBL.out.2.2.2) HX4.out.2.2.2.2.1 (by omega) (.inr ⟨by omega, by omega⟩) (by have h1 := HX4.out.1; have h2 := HBL.out.2.2.2.size; omega) (.tmp 22) (.tmp 28) rfl rfl rfl ?_
  intro A5 c5 w5 o5 g5 hA5 _
  rw [List.nil_append, Nat.zero_add] at o5
  rw [Nat.zero_add]
  have x5 : Ext w4 w5 := g5.ext HBL.out.2.2.2 (fun g hg => by injection hg with hg; rw [← hg]; exact Nat.le_refl _)
  have HS5 : w5.cell? ⟨g, 0, none⟩ = some (.slice (some ⟨S, 0, none⟩) m c) := (x5.cell (p := ⟨g, 0, none⟩) hgl4).trans c3
  have hA5b : ∀ a, A5 = some a → w4.heap.size ≤ a.block := fun a ha => by
    rcases hA5 with e | e
    · rw [ha] at e; injection e with e; rw [e]; exact Nat.le_refl _
    · rw [ha] at e; injection e with e; rw [e]; exact HBL.out.2.2.2.size
  have H5 := Lib.hid (And.intro o5 (And.intro x5 hA5b))
  clear o5 g5 hA5 x5 hA5b
  refine hK.out _ _ (fun _ => HS5) ?_
  clear hK K
  try simp only [Act.put, List.setIfInBounds_toArray, List.set_cons_zero, List.set_cons_succ]
  refine d_one (i := 16) (by kernel_rfl) rfl rfl (fun K hK => ?_)
  simp only [List.getElem_toArray, List.getElem_cons_succ, List.getElem_cons_zero]
  refine oper_app (w := w5) (m := m - i1) (d := c - i1) (news := ((mrows ls).drop i1).flatten) eltMl H5.out.1 (HX4.out.2.2.1.ext H5.out.2.1) HX4.out.2.2.2.2.2 (by omega) (.inr ⟨by omega, by omega⟩) (by have h1 := HX4.out.1; have h2 := H5.out.2.1.size; omega) (.tmp 29) (.tmp 36) rfl rfl rfl ?_
  intro A6 c6 w6' o6 g6 hA6 _
  have x6 : Ext w4 w6' := g6.ext H5.out.2.1 (fun b hb => by
    obtain ⟨a, ha, rfl⟩ := Option.map_eq_some_iff.1 hb
    exact H5.out.2.2 a ha)
  have hA6b : ∀ a, A6 = some a → w4.heap.size ≤ a.block := fun a ha => by
    rcases hA6 with e | e
    · exact H5.out.2.2 a (e ▸ ha)
    · rw [ha] at e; injection e with e; rw [e]; exact H5.out.2.1.size
  have HS6 : w6'.cell? ⟨g, 0, none⟩ = some (.slice (some ⟨S, 0, none⟩) m c) := (x6.cell (p := ⟨g, 0, none⟩) hgl4).trans c3
  have fz6 := block_fz ((x6.block g hgl4).trans HBL.out.1) 0
  refine hK.out _ _ (fun _ => HS6) ?_
  clear hK K
  try simp only [Act.put, List.setIfInBounds_toArray, List.set_cons_zero, List.set_cons_succ]
  refine d_pure (i := 17) (v := ?_) (some 38) rfl (by rfl) (by kernel_rfl) (by kernel_rfl) (by kernel_rfl) (by kernel_rfl) (fun _ _ _ h => h) (.inl ⟨by rfl, ?_⟩) ?_
  rotate_left 1
  · (intro W hW; go_simp; try with_reducible rfl)
  try simp only [Act.put, List.setIfInBounds_toArray, List.set_cons_zero, List.set_cons_succ]
  refine d_pure (i := 18) (v := ?_) (some 39) rfl (by rfl) (by kernel_rfl) (by kernel_rfl) (by kernel_rfl) (by kernel_rfl) (fun _ _ _ h => h) (.inl ⟨by rfl, ?_⟩) ?_
  rotate_left 1
  · (intro W hW; go_simp; try with_reducible rfl)
  try simp only [Act.put, List.setIfInBounds_toArray, List.set_cons_zero, List.set_cons_succ]
  refine d_one (i := 19) (by kernel_rfl) rfl rfl (fun K hK => ?_)
  simp only [List.getElem_toArray, List.getElem_cons_succ, List.getElem_cons_zero]
  go_simp
  refine hK.out _ _ (fun h => absurd h (by decide)) ?_
  clear hK K
  try simp only [Act.put, List.setIfInBounds_toArray, List.set_cons_zero, List.set_cons_succ]
  refine d_done (by kernel_rfl) ?_ _
  obtain ⟨n6, hn6⟩ : ∃ n6, i + (m - i1) = n6 := ⟨_, rfl⟩
  rw [hn6] at o6 ⊢
  have bg6 := (x6.block g hgl4).trans HBL.out.1
  have fs := Fr.store w6' ⟨g, 0, none⟩ (.slice A6 n6 c6)
  have F6 : Fr w4 (w6'.setCell ⟨g, 0, none⟩ (.slice A6 n6 c6)) (· = g) := (Fr.of_ext x6 _).trans fs (fun i _ h => h)
  rw [merase_rows ls i i1 HNUM.out] at o6
  have hw4 := H4.out.2.2.2.size
  have bg7 : (w6'.setCell ⟨g, 0, none⟩ (.slice A6 n6 c6)).heap[g]? = some (.cells #[.slice A6 n6 c6, .int .i64 (last : Int)] 30 (0, 0)) := heap_setCell_same w6' g 0 _ _ _ bg6
  have G6 := H4.out.2.2.1.turn (last' := last) bg7 (fs.own o6 (fun a ha e => by
    have h1 := hA6b a ha
    have e : a.block = g := e
    omega)) (fun a ha => .inr (hA6b a ha)) (by have h1 := HNUM.out; omega) HG.out.1.low
  have b86 := (fs.block n8 (Nat.lt_of_lt_of_le z4 x6.size) (fun e => hgn e.symm)).trans ((x6.block n8 z4).trans HBL.out.2.1)
  have br6 := (fs.block b0 (Nat.lt_of_lt_of_le (block_lt HBL.out.2.2.1) x6.size) (by show ¬ b0 = g; omega)).trans ((x6.block b0 (block_lt HBL.out.2.2.1)).trans HBL.out.2.2.1)
  have H6 := Lib.hid (And.intro (And.intro G6 hA6b) (And.intro ((Fr.of_ext H4.out.2.2.2 (· = g)).trans F6 (fun i _ e => e)) (And.intro b86 br6)))
  have HZ4 := Lib.hid (And.intro z4 (block_lt HBL.out.2.2.1))
  clear o6 g6 hA6 x6 hA6b bg6 fs F6 bg7 G6 b86 br6 H4 c3 HS HS2 HS5 HS6 fz6 hsl wr3 H5 HX4 HBL hw4
  go_upto_region 6 with (fail)
  generalize w6'.setCell ⟨g, 0, none⟩ (.slice A6 n6 c6) = w6 at *
  have bw := H6.out.2.2.2
  have b8 := H6.out.2.2.1
  have r0 : w6.cell? ⟨b0, 0, none⟩ = some (.int .i64 0) := block_cell bw 0
  have r1 : w6.cell? ⟨b0, 1, none⟩ = some (.int .i64 0) := block_cell bw 1
  have r2 : w6.cell? ⟨b0, 2, none⟩ = some (.int .i64 0) := block_cell bw 2
  have r3 : w6.cell? ⟨b0, 3, none⟩ = some (.string ⟨#[]⟩) := block_cell bw 3
  have q0 := block_fz bw 0
  have q1 := block_fz bw 1
  have q2 := block_fz bw 2
  have q3 := block_fz bw 3
  have m0 : w6.cell? ⟨n8, 0, none⟩ = some (.int .i64 (x.N : Int)) := block_cell b8 0
  have m1 : w6.cell? ⟨n8, 1, none⟩ = some (.int .i64 x.F) := block_cell b8 1
  have m2 : w6.cell? ⟨n8, 2, none⟩ = some (.int .i64 x.T) := block_cell b8 2
  have m3 : w6.cell? ⟨n8, 3, none⟩ = some (.string s) := block_cell b8 3
  have HB := Lib.hid (set4_blk bw (.int .i64 (x.N : Int)) (.int .i64 x.F) (.int .i64 x.T) (.string s))
  have F7 := set4_fr w6 b0 (.int .i64 (x.N : Int)) (.int .i64 x.F) (.int .i64 x.T) (.string s)
  have HGG := Lib.hid (H6.out.1.1.fr F7 (by omega) (fun a ha e => by
    have h1 := H6.out.1.2 a ha
    have h2 := HZ4.out.2
    have e : a.block = b0 := e
    omega))
  have HF := Lib.hid (H6.out.2.1.trans F7 (fun i hi e => by rw [HB0.out] at hi; omega))
  have HJ := Lib.hid (fun (a : Addr) (ha : _ = some a) => (show w.heap.size ≤ a.block from by
    have h1 := H6.out.1.2 a ha
    have h2 := HZ4.out.2
    rw [HB0.out]
    omega))
  clear bw b8 F7
  go_wp2_with fail
  clear m0 m1 m2 m3
  generalize (((w6.setCell ⟨b0, 0, none⟩ (.int .i64 (x.N : Int))).setCell ⟨b0, 1, none⟩ (.int .i64 x.F)).setCell ⟨b0, 2, none⟩ (.int .i64 x.T)).setCell ⟨b0, 3, none⟩ (.string s) = w7 at *
  have t0 : w7.cell? ⟨b0, 0, none⟩ = some (.int .i64 (x.N : Int)) := block_cell HB.out 0
  have t1 : w7.cell? ⟨b0, 1, none⟩ = some (.int .i64 x.F) := block_cell HB.out 1
  have t2 : w7.cell? ⟨b0, 2, none⟩ = some (.int .i64 x.T) := block_cell HB.out 2
  have t3 : w7.cell? ⟨b0, 3, none⟩ = some (.string s) := block_cell HB.out 3
  refine bodyPost_ret (v := .tuple #[.agg #[.int .i64 (x.N : Int), .int .i64 x.F, .int .i64 x.T, .string s], .int .i64 0]) (by simp [results, Tryd.results15, go_sem, t0, t1, t2, t3]) rfl ?_
  exact hPost.out _ ⟨⟨_, _, _, HGG.out, HJ.out⟩, HF.out⟩
end
end Go.Proofs.YteaainepnelehaaDoor
