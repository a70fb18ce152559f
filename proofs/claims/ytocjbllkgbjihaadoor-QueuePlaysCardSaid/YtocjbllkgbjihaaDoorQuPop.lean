/-
  Package queue: things' Pop, walked.
-/
import Derived.Test.YtocjbllkgbjihaaDoorQuPush
namespace Go.Proofs.YtocjbllkgbjihaaDoor
set_option maxRecDepth 100000
open Go.RowKit Go.Maps
set_option linter.unusedVariables false
theorem run_slice_hi {P : Program} {t e : TypeId} {size bytes : Nat} {z : Value} (E : Elt P t e size bytes z) (A : Option Addr) (n c : Nat) (k : IntKind) (j : Nat) (h1 : j ≤ c) (w : World) :
    (Instr.slice t (.slice A n c) none (some (.int k (j : Int))) none).run P w = .ok (.slice A j c) w := by
  obtain ⟨i, hi, hz, hs, hby⟩ := info_parts E.info
  have e1 : (if c = 0 then A else A.map (·.add (0 * i.size))) = A := by
    split
    · rfl
    · cases A with
      | none => rfl
      | some a => simp [Addr.add]
  simp [Instr.slice, run_underlying E.under, Instr.sliceBounds, run_sliceBound, sizeOf, typeInfo, hi, h1] at e1 ⊢
  exact e1
theorem Own.max {w : World} {base n c : Nat} {e : TypeId} {size : Nat} {A : Option Addr} {xs : List Value} (h : Own w base e size A n c xs) : c ≤ 9223372036854775807 := by
  rcases h.2 with ⟨h', h0⟩ | ⟨g', cap, cur, h', _, _, hnc, hm, _⟩
  · injection h' with _ h1 h2; omega
  · injection h' with _ h1 h2; unfold maxLen at hm; omega
section
variable {w w' : World} {g b n c Z : Nat} {A : Option Addr} {L : List Th} {ty : TypeId}
set_option maxHeartbeats 3200000 in
theorem tpop_any (h : TS w g b A (n + 1) c L Z ty) {x : Th} (hx : L[n]? = some x) :
    Calls Tryd.prog 85 #[.pointer (some ⟨g, 0, none⟩)] w fun e w' => e = .returned (.iface 34 (.agg #[.int .i64 x.id, .int .i64 x.rank])) ∧ TS w' g b A n c (L.take n) Z ty ∧ Fr w w' (fun k => k = g ∨ k = b) := by
  obtain ⟨c0, c1⟩ := h.cells
  obtain ⟨n2, h2⟩ : ∃ n2, n * 2 = n2 := ⟨_, rfl⟩
  obtain ⟨T, rfl, hTw, hTg, hTb, y0, y1, _, _⟩ := h.at_ hx h2
  have hcap := h.own.cap_le
  have hmax := h.own.max
  have wr : wrap64 (n : Int) = n := by unfold wrap64; omega
  have rs := run_slice_hi (P := Tryd.prog) eltR (some ⟨T, 0, none⟩) (n + 1) c .i64 n (by omega)
  have k0 : (0 : Int) ≤ n := by omega
  have k1 : (n : Int) < (n : Int) + 1 := by omega
  have HD := Lib.hid (And.intro h hx)
  have HL := Lib.hid (And.intro hTw (And.intro hTg hTb))
  have fz : w.frozen? ⟨g, 0, none⟩ = false := block_fz h.blk 0
  clear h hx hTw hTg hTb
  go_enter Tryd.func85, Tryd.ntmps85
  go_upto_region 3 with (fail)
  have hob := heap_alloc_new w (.cells #[.int .i64 x.id, .int .i64 x.rank] 34)
  have X0 := (Ext.refl w).alloc (.cells #[.int .i64 x.id, .int .i64 x.rank] 34)
  have HV := Lib.hid (And.intro (HD.out.1.ex X0) (And.intro hob X0))
  have HOB := Lib.hid HD.out.1.lt
  clear hob X0 c0 c1 y0 y1 fz
  generalize w.alloc (.cells #[.int .i64 x.id, .int .i64 x.rank] 34) = V at *
  generalize w.heap.size = ob at *
  obtain ⟨c0, c1⟩ := HV.out.1.cells
  have fz : V.frozen? ⟨g, 0, none⟩ = false := block_fz HV.out.1.blk 0
  go_upto_region 4 with (fail)
  have b1 := heap_setCell_same V g 0 _ _ (.slice (some ⟨T, 0, none⟩) n c) HV.out.1.blk
  have ff := Fr.store V ⟨g, 0, none⟩ (.slice (some ⟨T, 0, none⟩) n c)
  have b2 := (ff.block ob (block_lt HV.out.2.1) (fun e => by have h1 := HOB.out; have e1 : ob = g := e; omega)).trans HV.out.2.1
  have o1 := (ff.own HV.out.1.own (fun a ha e => by injection ha with ha; subst ha; exact (HV.out.1.ag _ rfl).1 e)).cutTo (k := n) (by omega) (.inl (by simp))
  rw [(trows_even L).take, show (trows L).take n = trows (L.take n) by simp [trows, List.map_take]] at o1
  obtain ⟨f, m, hm, hmZ, hix⟩ := HV.out.1.map
  have hlen := HV.out.1.len
  have m1 := hm.fr ff HV.out.1.bg
  have hxr := HV.out.1.rng x (List.mem_of_getElem? HD.out.2)
  have H1 := Lib.hid (And.intro b1 (And.intro b2 (And.intro o1 (And.intro m1 (And.intro hmZ (And.intro (hix.pop hlen HD.out.2) (And.intro (ff.mono (Q := fun k => k = g ∨ k = b) (fun _ _ e => .inl e)) hxr)))))))
  clear b1 b2 o1 m1 hm hmZ hix ff c0 c1 fz hlen hxr
  generalize V.setCell ⟨g, 0, none⟩ (.slice (some ⟨T, 0, none⟩) n c) = V1 at *
  have q1 := block_cell (w := V1.drew) (show V1.drew.heap[g]? = _ from H1.out.1) 1
  have q2 := block_cell (w := V1.drew) (show V1.drew.heap[ob]? = _ from H1.out.2.1) 0
  obtain ⟨w2, r2, m2, f2⟩ := MapI.drop (H1.out.2.2.2.1.ext (Ext.refl V1).drew) Tryd.underlying61 Tryd.underlying3 H1.out.2.2.2.2.2.2.2
  have HS1 : V1.drew.cell? ⟨g, 1, none⟩ = some (.map (some b)) ∧ V1.drew.cell? ⟨ob, 0, none⟩ = some (.int .i64 x.id) := ⟨q1, q2⟩
  have H2 := Lib.hid (And.intro m2 f2)
  clear q1 q2 m2 f2 rs
  refine d_region (fun W : World => W.cell? ⟨g, 1, none⟩ = some (.map (some b)) ∧ W.cell? ⟨ob, 0, none⟩ = some (.int .i64 x.id)) [6] (by kernel_rfl) ?_
  refine d_take (i := 0) (v := ?_) [1, 2, 3, 6] (some 27) rfl (by rfl) (by kernel_rfl) (by kernel_rfl) (by kernel_rfl) (by kernel_rfl) (by kernel_rfl) (by kernel_rfl) (fun _ _ _ h => h) (.inl ⟨by rfl, ?_⟩) HS1 ?_
  rotate_left 1
  · (intro W hW; (try dsimp only at hW); go_simp; try with_reducible rfl)
  try simp only [Act.put, List.setIfInBounds_toArray, List.set_cons_zero, List.set_cons_succ]
  refine d_take (i := 1) (v := ?_) [2, 3, 6] (some 28) rfl (by rfl) (by kernel_rfl) (by kernel_rfl) (by kernel_rfl) (by kernel_rfl) (by kernel_rfl) (by kernel_rfl) (fun _ _ _ h => h) (.inl ⟨by rfl, ?_⟩) HS1 ?_
  rotate_left 1
  · (intro W hW; (try dsimp only at hW); go_simp; try with_reducible rfl)
  try simp only [Act.put, List.setIfInBounds_toArray, List.set_cons_zero, List.set_cons_succ]
  refine d_take (i := 2) (v := ?_) [3, 6] (some 29) rfl (by rfl) (by kernel_rfl) (by kernel_rfl) (by kernel_rfl) (by kernel_rfl) (by kernel_rfl) (by kernel_rfl) (fun _ _ _ h => h) (.inl ⟨by rfl, ?_⟩) HS1 ?_
  rotate_left 1
  · (intro W hW; (try dsimp only at hW); go_simp; try with_reducible rfl)
  try simp only [Act.put, List.setIfInBounds_toArray, List.set_cons_zero, List.set_cons_succ]
  refine d_take (i := 3) (v := ?_) [6] (some 30) rfl (by rfl) (by kernel_rfl) (by kernel_rfl) (by kernel_rfl) (by kernel_rfl) (by kernel_rfl) (by kernel_rfl) (fun _ _ _ h => h) (.inl ⟨by rfl, ?_⟩) HS1 ?_
  rotate_left 1
  · (intro W hW; (try dsimp only at hW); go_simp; try with_reducible rfl)
  try simp only [Act.put, List.setIfInBounds_toArray, List.set_cons_zero, List.set_cons_succ]
  refine d_take (i := 4) (v := ?_) [5, 6] (some 31) rfl (by rfl) (by kernel_rfl) (by kernel_rfl) (by kernel_rfl) (by kernel_rfl) (by kernel_rfl) (by kernel_rfl) (fun _ _ _ h => h) (.inl ⟨by rfl, ?_⟩) HS1 ?_
  rotate_left 1
  · (intro W hW; (try dsimp only at hW); go_simp; try with_reducible rfl)
  try simp only [Act.put, List.setIfInBounds_toArray, List.set_cons_zero, List.set_cons_succ]
  refine d_take (i := 5) (v := ?_) [6] (some 32) rfl (by rfl) (by kernel_rfl) (by kernel_rfl) (by kernel_rfl) (by kernel_rfl) (by kernel_rfl) (by kernel_rfl) (fun _ _ _ h => h) (.inl ⟨by rfl, ?_⟩) HS1 ?_
  rotate_left 1
  · (intro W hW; (try dsimp only at hW); go_simp; try with_reducible rfl)
  try simp only [Act.put, List.setIfInBounds_toArray, List.set_cons_zero, List.set_cons_succ]
  refine d_one (i := 6) (by kernel_rfl) rfl rfl (fun K hK => ?_)
  simp only [List.getElem_toArray, List.getElem_cons_succ, List.getElem_cons_zero]
  go_simp
  refine hK.out _ _ (fun h => absurd h (by decide)) ?_
  clear hK K HS1 r2
  try simp only [Act.put, List.setIfInBounds_toArray, List.set_cons_zero, List.set_cons_succ]
  refine d_done (by kernel_rfl) ?_ _
  have XD : Ext V1 V1.drew := (Ext.refl V1).drew
  have hob' : ¬ ob = b := fun e => by have := HOB.out; omega
  have b1 := (H2.out.2.block g (block_lt (w := V1.drew) (show V1.drew.heap[g]? = _ from H1.out.1)) (fun e => HV.out.1.bg e.symm)).trans (show V1.drew.heap[g]? = _ from H1.out.1)
  have b2 := (H2.out.2.block ob (block_lt (w := V1.drew) (show V1.drew.heap[ob]? = _ from H1.out.2.1)) hob').trans (show V1.drew.heap[ob]? = _ from H1.out.2.1)
  have o2 := H2.out.2.own (H1.out.2.2.1.ext XD) (fun a ha => (HV.out.1.ag a ha).2)
  have HE : Hid (TS w2 g b (some ⟨T, 0, none⟩) n c (L.take n) Z ty ∧ Fr w w2 (fun k => k = g ∨ k = b)) := Lib.hid ⟨⟨b1, ⟨_, m, H2.out.1, H1.out.2.2.2.2.1, H1.out.2.2.2.2.2.1⟩, o2, fun y hy => HV.out.1.rng y (List.mem_of_mem_take hy), HV.out.1.bg, HV.out.1.ag⟩,
    ((Fr.of_ext HV.out.2.2 (fun k => k = g ∨ k = b)).trans H1.out.2.2.2.2.2.2.1 (fun _ _ e => e)).trans ((Fr.of_ext XD (fun k => k = g ∨ k = b)).trans H2.out.2 (fun _ _ e => .inr e)) (fun _ _ e => e)⟩
  have y0 := block_cell b2 0
  have y1 := block_cell b2 1
  clear b1 o2 XD hob' H1 H2 HV HD HL wr k0 k1
  go_wp2_with fail
  go_returns
  exact ⟨rfl, HE.out⟩
end
end Go.Proofs.YtocjbllkgbjihaaDoor
