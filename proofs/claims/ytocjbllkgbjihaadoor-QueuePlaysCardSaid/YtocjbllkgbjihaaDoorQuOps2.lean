/-
  Package queue: Turn, Pop, Peek walked.
-/
import Derived.Test.YtocjbllkgbjihaaDoorQuOps
namespace Go.Proofs.YtocjbllkgbjihaaDoor
set_option maxRecDepth 100000
open Go.RowKit Go.Maps
set_option linter.unusedVariables false
theorem set_same {α : Type} {l : List α} {k : Nat} {x : α} (h : l[k]? = some x) : l.set k x = l := by
  apply List.ext_getElem?
  intro i
  by_cases e : k = i
  · subst e; rw [List.getElem?_set_self (List.getElem?_eq_some_iff.1 h).1, h]
  · rw [List.getElem?_set_ne e]
theorem own_turn {w : World} {T n c k k2 : Nat} {L : List Th} {x : Th} (o : Own w 0 34 2 (some ⟨T, 0, none⟩) n c (trows L).flatten) (hk : L[k]? = some x) (h2 : k * 2 = k2) (r : Int) :
    Own (w.setCell ⟨T, k2 + 1, none⟩ (.int .i64 r)) 0 34 2 (some ⟨T, 0, none⟩) n c (trows (L.set k ⟨x.id, r⟩)).flatten := by
  have h := o.stored (k2 + 1) (.int .i64 r)
  have hl := (List.getElem?_eq_some_iff.1 hk).1
  have e1 := flat_set2 (.int .i64 x.id) (.int .i64 r) (trows_even L) (k := k) (by rw [trows_len]; exact hl)
  have e2 := (trows_even L).at_ (trows_at hk) (i := 0) (by omega)
  rw [set_same (x := Value.int .i64 x.id) (by rw [Nat.add_zero] at e2; rw [e2]; rfl), ← (show trows (L.set k ⟨x.id, r⟩) = (trows L).set k [.int .i64 x.id, .int .i64 r] from trows_set L k ⟨x.id, r⟩)] at e1
  rw [← e1, ← h2] at *
  exact h
section
variable {w w' : World} {g Z : Nat} {F : Nat → Prop} {L : List Th}
set_option maxHeartbeats 1600000 in
theorem qturn_ok (h : QP w g F L Z) {y : Th} (hy : y ∈ L) (rank : Int) (hZ : Z < 4611686018427000000) :
    Calls Tryd.prog 12 #[.pointer (some ⟨g, 0, none⟩), .int .i64 y.id, .int .i64 rank] w fun e w' => e = .returned .nilIface ∧ ∃ F' L' R, QN w w' g F F' L' (Z + 20000) ∧ (y :: R).Perm L ∧ L'.Perm (⟨y.id, rank⟩ :: R) := by
  obtain ⟨b, A, n, c, f, h1, h2, h3, h4, h5⟩ := h.look (h.rng y hy)
  obtain ⟨k, hk⟩ := List.getElem?_of_mem hy
  rw [h4.here k y hk] at h5
  obtain ⟨c0, c1⟩ := h1.cells
  have hn := h1.len
  have hkl := (List.getElem?_eq_some_iff.1 hk).1
  obtain ⟨k2, hk2⟩ : ∃ k2, k * 2 = k2 := ⟨_, rfl⟩
  obtain ⟨T, rfl, hTw, hTg, hTb, y0, y1, z0, z1⟩ := h1.at_ hk hk2
  have b0 : (0 : Int) ≤ (k : Int) := by omega
  have b1 : (k : Int) < n := by omega
  have o1 := own_turn h1.own hk hk2 rank
  have f1 := Fr.store w ⟨T, k2 + 1, none⟩ (.int .i64 rank)
  have t1 : TK w (w.setCell ⟨T, k2 + 1, none⟩ (.int .i64 rank)) g b (some ⟨T, 0, none⟩) n c (L.set k ⟨y.id, rank⟩) Z 65 := by
    obtain ⟨f', m, hm, hmZ, hix⟩ := h1.map
    exact ⟨⟨(f1.block g h1.lt.1 (fun e => hTg e.symm)).trans h1.blk, ⟨f', m, hm.fr f1 (fun e => hTb e.symm), hmZ, hix.turn hk rank⟩, o1, fun z hz => by
      rcases List.mem_or_eq_of_mem_set hz with hz | hz
      · exact h1.rng z hz
      · rw [hz]; exact h1.rng y hy, h1.bg, h1.ag⟩, f1.mono (fun q _ e => .inr (by rw [e]; rfl))⟩
  have hfew := h.few
  have hM : (L.set k ⟨y.id, rank⟩).length = L.length := List.length_set
  have sp := fix_spec (M := L.set k ⟨y.id, rank⟩) hkl h.hp hM (fun i hi hne => by
    unfold at_
    rw [List.getD_eq_getElem?_getD, List.getElem?_set_ne (fun e => hne e.symm), ← List.getD_eq_getElem?_getD])
  rw [← fixL_eq (n := n) (by rw [hM, hn]) (by omega)] at sp
  have HH := Lib.hid (And.intro h (And.intro h2 (And.intro h3 (And.intro sp (And.intro hfew (And.intro hn (And.intro hk hkl)))))))
  have C2 := Lib.hid (hfix_any t1.ts (i := k) (by omega) (by omega) (by omega))
  have T1 := Lib.hid t1
  generalize hyd : y.id = id at *
  have HY := Lib.hid hyd
  clear h h1 h2 h3 h4 hn hk hkl sp hfew hy o1 f1 t1 hM hyd
  simp only [Option.getD_some, Option.isSome_some] at h5
  go_enter Tryd.func12, Tryd.ntmps12
  go_wp2_with (go_at_call 28; refine C2.out.mono ?_; rintro e w1 ⟨rfl, t2⟩)
  go_returns
  have hlen : (fixL (L.set k ⟨id, rank⟩) n k).length = L.length := HH.out.2.2.2.1.1
  obtain ⟨F', hq⟩ := qn_of HH.out.1 HH.out.2.1 HH.out.2.2.1 (T1.out.trans t2).tn (by rw [hlen]; exact HH.out.2.2.2.1.2.2) (by rw [hlen]; exact HH.out.2.2.2.2.1)
  refine ⟨rfl, F', _, L.eraseIdx k, hq.mono (by have := HH.out.2.2.2.2; omega), perm_erase HH.out.2.2.2.2.2.2.1, HH.out.2.2.2.1.2.1.trans (perm_set _ HH.out.2.2.2.2.2.2.2).symm⟩
/-- A struct result's cells, written. -/
theorem set2_blk {w : World} {b : Nat} {u0 v0 u v : Value} {t : TypeId} (h : w.heap[b]? = some (.cells #[u0, v0] t (0, 0))) : ((w.setCell ⟨b, 0, none⟩ u).setCell ⟨b, 1, none⟩ v).heap[b]? = some (.cells #[u, v] t (0, 0)) := by
  have h1 := heap_setCell_same w b 0 _ _ u h
  have h2 := heap_setCell_same _ b 1 _ _ v h1
  simpa using h2
set_option maxHeartbeats 1600000 in
theorem qpop_gone (h : QP w g F [] Z) {pg : Addr} (hE : Sen w 0 pg) :
    Calls Tryd.prog 13 #[.pointer (some ⟨g, 0, none⟩)] w fun e w' => e = .returned (.tuple #[.agg #[.int .i64 0, .int .i64 0], .iface 116 (.pointer (some pg))]) ∧ Ext w w' := by
  have X0 := (Ext.refl w).alloc (.cells #[.int .i64 0, .int .i64 0] 34)
  have hb := heap_alloc_new w (.cells #[.int .i64 0, .int .i64 0] 34)
  have C1 := Lib.hid (qlen_any (h.ext X0))
  have HV := Lib.hid (And.intro X0 (And.intro hb (hE.ext X0)))
  have HG0 := Lib.hid hE.1
  clear h X0 hb hE
  go_enter Tryd.func13, Tryd.ntmps13
  go_upto_region 2 with (go_at_call 15; refine C1.out.mono ?_; rintro e w0 ⟨rfl, rfl⟩)
  generalize w.alloc (.cells #[.int .i64 0, .int .i64 0] 34) = V at *
  have hbl := block_lt HV.out.2.1
  have HGN := Lib.hid (And.intro HV.out.2.2.1 HV.out.2.2.2.1)
  have hgb : 0 < w.heap.size := HG0.out
  generalize hb0 : w.heap.size = b0 at *
  have HZ0 := Lib.hid (show w.heap.size ≤ b0 by omega)
  clear hb0
  have HS1 : V.drew.cell? ⟨0, 0, none⟩ = some (.iface 116 (.pointer (some pg))) := HGN.out.2
  refine d_region (fun W : World => W.cell? ⟨0, 0, none⟩ = some (.iface 116 (.pointer (some pg)))) [] (by kernel_rfl) ?_
  refine d_take (i := 0) (v := ?_) [] (some 9) rfl (by rfl) (by kernel_rfl) (by kernel_rfl) (by kernel_rfl) (by kernel_rfl) (by kernel_rfl) (by kernel_rfl) (fun _ _ _ h => h) (.inl ⟨by rfl, ?_⟩) HS1 ?_
  rotate_left 1
  · (intro W hW; (try dsimp only at hW); go_simp; try with_reducible rfl)
  try simp only [Act.put, List.setIfInBounds_toArray, List.set_cons_zero, List.set_cons_succ]
  refine d_take (i := 1) (v := ?_) [] (some 10) rfl (by rfl) (by kernel_rfl) (by kernel_rfl) (by kernel_rfl) (by kernel_rfl) (by kernel_rfl) (by kernel_rfl) (fun _ _ _ h => h) (.inl ⟨by rfl, ?_⟩) HS1 ?_
  rotate_left 1
  · (intro W hW; (try dsimp only at hW); go_simp; try with_reducible rfl)
  try simp only [Act.put, List.setIfInBounds_toArray, List.set_cons_zero, List.set_cons_succ]
  have y0 : V.cell? ⟨b0, 0, none⟩ = some (.int .i64 0) := block_cell HV.out.2.1 0
  have y1 : V.cell? ⟨b0, 1, none⟩ = some (.int .i64 0) := block_cell HV.out.2.1 1
  have z0 := block_fz HV.out.2.1 0
  have z1 := block_fz HV.out.2.1 1
  have b3 := set2_blk (u := .int .i64 0) (v := .int .i64 0) HV.out.2.1
  have f3 := (Fr.store2 V b0 0 1 (.int .i64 0) (.int .i64 0)).trans (Fr.of_ext (Ext.refl _).drew (fun _ => False)) (fun _ _ h => h.elim)
  have HE : Hid (((V.setCell ⟨b0, 0, none⟩ (.int .i64 0)).setCell ⟨b0, 1, none⟩ (.int .i64 0)).drew.heap[b0]? = some (.cells #[.int .i64 0, .int .i64 0] 34 (0, 0)) ∧ Ext w ((V.setCell ⟨b0, 0, none⟩ (.int .i64 0)).setCell ⟨b0, 1, none⟩ (.int .i64 0)).drew) := Lib.hid (And.intro b3 (Fr.ext HV.out.1 f3 (fun i hi => by rw [hi]; exact HZ0.out)))
  have HS2 : ((V.setCell ⟨b0, 0, none⟩ (.int .i64 0)).setCell ⟨b0, 1, none⟩ (.int .i64 0)).drew.cell? ⟨0, 0, none⟩ = some (.iface 116 (.pointer (some pg))) := (World.cell?_of_block (f3.block 0 HGN.out.1 (fun e => by have := hgb; omega))).trans HGN.out.2
  refine d_one (i := 2) (by kernel_rfl) rfl rfl (fun K hK => ?_)
  simp only [List.getElem_toArray, List.getElem_cons_succ, List.getElem_cons_zero]
  go_simp
  refine hK.out _ _ (fun _ => HS2) ?_
  clear hK K y0 y1 z0 z1 b3 f3 HS1
  try simp only [Act.put, List.setIfInBounds_toArray, List.set_cons_zero, List.set_cons_succ]
  generalize ((V.setCell ⟨b0, 0, none⟩ (.int .i64 0)).setCell ⟨b0, 1, none⟩ (.int .i64 0)).drew = V2 at *
  refine d_one (i := 3) (by kernel_rfl) rfl rfl (fun K hK => ?_)
  simp only [List.getElem_toArray, List.getElem_cons_succ, List.getElem_cons_zero]
  go_simp
  refine hK.out _ _ (fun _ => HS2) ?_
  clear hK K 
  try simp only [Act.put, List.setIfInBounds_toArray, List.set_cons_zero, List.set_cons_succ]
  refine d_done (by kernel_rfl) ?_ _
  have y0 : V2.cell? ⟨b0, 0, none⟩ = some (.int .i64 0) := block_cell HE.out.1 0
  have y1 : V2.cell? ⟨b0, 1, none⟩ = some (.int .i64 0) := block_cell HE.out.1 1
  go_wp2_with fail
  refine bodyPost_ret (v := .tuple #[.agg #[.int .i64 0, .int .i64 0], .iface 116 (.pointer (some pg))]) (by simp [results, Tryd.results13, go_sem, y0, y1]) rfl ?_
  exact ⟨rfl, HE.out.2⟩
set_option maxHeartbeats 1600000 in
theorem qpeek_gone (h : QP w g F [] Z) {pg : Addr} (hE : Sen w 0 pg) :
    Calls Tryd.prog 24 #[.pointer (some ⟨g, 0, none⟩)] w fun e w' => e = .returned (.tuple #[.agg #[.int .i64 0, .int .i64 0], .iface 116 (.pointer (some pg))]) ∧ Ext w w' := by
  have X0 := (Ext.refl w).alloc (.cells #[.int .i64 0, .int .i64 0] 34)
  have hb := heap_alloc_new w (.cells #[.int .i64 0, .int .i64 0] 34)
  have C1 := Lib.hid (qlen_any (h.ext X0))
  have HV := Lib.hid (And.intro X0 (And.intro hb (hE.ext X0)))
  have HG0 := Lib.hid hE.1
  clear h X0 hb hE
  go_enter Tryd.func24, Tryd.ntmps24
  go_upto_region 2 with (go_at_call 15; refine C1.out.mono ?_; rintro e w0 ⟨rfl, rfl⟩)
  generalize w.alloc (.cells #[.int .i64 0, .int .i64 0] 34) = V at *
  have hbl := block_lt HV.out.2.1
  have HGN := Lib.hid (And.intro HV.out.2.2.1 HV.out.2.2.2.1)
  have hgb : 0 < w.heap.size := HG0.out
  generalize hb0 : w.heap.size = b0 at *
  have HZ0 := Lib.hid (show w.heap.size ≤ b0 by omega)
  clear hb0
  have HS1 : V.drew.cell? ⟨0, 0, none⟩ = some (.iface 116 (.pointer (some pg))) := HGN.out.2
  refine d_region (fun W : World => W.cell? ⟨0, 0, none⟩ = some (.iface 116 (.pointer (some pg)))) [] (by kernel_rfl) ?_
  refine d_take (i := 0) (v := ?_) [] (some 7) rfl (by rfl) (by kernel_rfl) (by kernel_rfl) (by kernel_rfl) (by kernel_rfl) (by kernel_rfl) (by kernel_rfl) (fun _ _ _ h => h) (.inl ⟨by rfl, ?_⟩) HS1 ?_
  rotate_left 1
  · (intro W hW; (try dsimp only at hW); go_simp; try with_reducible rfl)
  try simp only [Act.put, List.setIfInBounds_toArray, List.set_cons_zero, List.set_cons_succ]
  refine d_take (i := 1) (v := ?_) [] (some 8) rfl (by rfl) (by kernel_rfl) (by kernel_rfl) (by kernel_rfl) (by kernel_rfl) (by kernel_rfl) (by kernel_rfl) (fun _ _ _ h => h) (.inl ⟨by rfl, ?_⟩) HS1 ?_
  rotate_left 1
  · (intro W hW; (try dsimp only at hW); go_simp; try with_reducible rfl)
  try simp only [Act.put, List.setIfInBounds_toArray, List.set_cons_zero, List.set_cons_succ]
  have y0 : V.cell? ⟨b0, 0, none⟩ = some (.int .i64 0) := block_cell HV.out.2.1 0
  have y1 : V.cell? ⟨b0, 1, none⟩ = some (.int .i64 0) := block_cell HV.out.2.1 1
  have z0 := block_fz HV.out.2.1 0
  have z1 := block_fz HV.out.2.1 1
  have b3 := set2_blk (u := .int .i64 0) (v := .int .i64 0) HV.out.2.1
  have f3 := (Fr.store2 V b0 0 1 (.int .i64 0) (.int .i64 0)).trans (Fr.of_ext (Ext.refl _).drew (fun _ => False)) (fun _ _ h => h.elim)
  have HE : Hid (((V.setCell ⟨b0, 0, none⟩ (.int .i64 0)).setCell ⟨b0, 1, none⟩ (.int .i64 0)).drew.heap[b0]? = some (.cells #[.int .i64 0, .int .i64 0] 34 (0, 0)) ∧ Ext w ((V.setCell ⟨b0, 0, none⟩ (.int .i64 0)).setCell ⟨b0, 1, none⟩ (.int .i64 0)).drew) := Lib.hid (And.intro b3 (Fr.ext HV.out.1 f3 (fun i hi => by rw [hi]; exact HZ0.out)))
  have HS2 : ((V.setCell ⟨b0, 0, none⟩ (.int .i64 0)).setCell ⟨b0, 1, none⟩ (.int .i64 0)).drew.cell? ⟨0, 0, none⟩ = some (.iface 116 (.pointer (some pg))) := (World.cell?_of_block (f3.block 0 HGN.out.1 (fun e => by have := hgb; omega))).trans HGN.out.2
  refine d_one (i := 2) (by kernel_rfl) rfl rfl (fun K hK => ?_)
  simp only [List.getElem_toArray, List.getElem_cons_succ, List.getElem_cons_zero]
  go_simp
  refine hK.out _ _ (fun _ => HS2) ?_
  clear hK K y0 y1 z0 z1 b3 f3 HS1
  try simp only [Act.put, List.setIfInBounds_toArray, List.set_cons_zero, List.set_cons_succ]
  generalize ((V.setCell ⟨b0, 0, none⟩ (.int .i64 0)).setCell ⟨b0, 1, none⟩ (.int .i64 0)).drew = V2 at *
  refine d_one (i := 3) (by kernel_rfl) rfl rfl (fun K hK => ?_)
  simp only [List.getElem_toArray, List.getElem_cons_succ, List.getElem_cons_zero]
  go_simp
  refine hK.out _ _ (fun _ => HS2) ?_
  clear hK K 
  try simp only [Act.put, List.setIfInBounds_toArray, List.set_cons_zero, List.set_cons_succ]
  refine d_done (by kernel_rfl) ?_ _
  have y0 : V2.cell? ⟨b0, 0, none⟩ = some (.int .i64 0) := block_cell HE.out.1 0
  have y1 : V2.cell? ⟨b0, 1, none⟩ = some (.int .i64 0) := block_cell HE.out.1 1
  go_wp2_with fail
  refine bodyPost_ret (v := .tuple #[.agg #[.int .i64 0, .int .i64 0], .iface 116 (.pointer (some pg))]) (by simp [results, Tryd.results24, go_sem, y0, y1]) rfl ?_
  exact ⟨rfl, HE.out.2⟩
set_option maxHeartbeats 1600000 in
theorem qpeek_ok (h : QP w g F L Z) {m : Nat} (hm : L.length = m + 1) {x : Th} (hx : Hid (x = at_ L 0)) :
    Calls Tryd.prog 24 #[.pointer (some ⟨g, 0, none⟩)] w fun e w' => e = .returned (.tuple #[.agg #[.int .i64 x.id, .int .i64 x.rank], .nilIface]) ∧ Ext w w' := by
  have X0 := (Ext.refl w).alloc (.cells #[.int .i64 0, .int .i64 0] 34)
  have hb := heap_alloc_new w (.cells #[.int .i64 0, .int .i64 0] 34)
  have C1 := Lib.hid (qlen_any (h.ext X0))
  obtain ⟨b, A, n, c, h1, h2, h3⟩ := (h.ext X0).ex
  have hn := h1.len
  obtain rfl : m + 1 = n := by omega
  obtain ⟨c0, c1⟩ := h1.cells
  obtain ⟨T, rfl, hTw, hTg, hTb, v0, v1, _, _⟩ := h1.at_ (k := 0) (at_some (by omega)) (k2 := 0) rfl
  rw [← hx.out] at v0 v1
  have HV := Lib.hid (And.intro X0 hb)
  have k0 : ((L.length : Int) == 0) = false := by rw [hm]; simp; omega
  have k1 : ¬ (L.length : Int) = 0 := by omega
  have k2 : (0 : Int) < ((m : Nat) : Int) + 1 := by omega
  clear h X0 hb h1 h2 h3 hn hm hx hTw hTg hTb
  go_enter Tryd.func24, Tryd.ntmps24
  go_upto_region 3 with (go_at_call 15; refine C1.out.mono ?_; rintro e w0 ⟨rfl, rfl⟩)
  generalize w.alloc (.cells #[.int .i64 0, .int .i64 0] 34) = V at *
  generalize hb0 : w.heap.size = b0 at *
  have HZ0 := Lib.hid (show w.heap.size ≤ b0 by omega)
  clear hb0
  have y0 : V.cell? ⟨b0, 0, none⟩ = some (.int .i64 0) := block_cell HV.out.2 0
  have y1 : V.cell? ⟨b0, 1, none⟩ = some (.int .i64 0) := block_cell HV.out.2 1
  have z0 := block_fz HV.out.2 0
  have z1 := block_fz HV.out.2 1
  have HE := Lib.hid (And.intro (set2_blk (u := .int .i64 x.id) (v := .int .i64 x.rank) HV.out.2) (Fr.ext HV.out.1 (Fr.store2 V b0 0 1 (.int .i64 x.id) (.int .i64 x.rank)) (fun i hi => by rw [hi]; exact HZ0.out)))
  go_wp2_with fail
  generalize (V.setCell ⟨b0, 0, none⟩ (.int .i64 x.id)).setCell ⟨b0, 1, none⟩ (.int .i64 x.rank) = V2 at *
  have t0 : V2.cell? ⟨b0, 0, none⟩ = some (.int .i64 x.id) := block_cell HE.out.1 0
  have t1 : V2.cell? ⟨b0, 1, none⟩ = some (.int .i64 x.rank) := block_cell HE.out.1 1
  refine bodyPost_ret (v := .tuple #[.agg #[.int .i64 x.id, .int .i64 x.rank], .nilIface]) (by simp [results, Tryd.results24, go_sem, t0, t1]) rfl ?_
  exact ⟨rfl, HE.out.2⟩
set_option maxHeartbeats 1600000 in
theorem qpop_ok (h : QP w g F L Z) {m : Nat} (hm : L.length = m + 1) (hZ : Z < 4611686018427000000) {x : Th} (hx : Hid (x = at_ L 0)) :
    Calls Tryd.prog 13 #[.pointer (some ⟨g, 0, none⟩)] w fun e w' => e = .returned (.tuple #[.agg #[.int .i64 x.id, .int .i64 x.rank], .nilIface]) ∧ ∃ F' L', QN w w' g F F' L' (Z + 20000) ∧ (x :: L').Perm L := by
  have X0 := (Ext.refl w).alloc (.cells #[.int .i64 0, .int .i64 0] 34)
  have hb := heap_alloc_new w (.cells #[.int .i64 0, .int .i64 0] 34)
  have C1 := Lib.hid (qlen_any (h.ext X0))
  obtain ⟨b, A, n, c, h1, h2, h3⟩ := (h.ext X0).ex
  have hn := h1.len
  obtain rfl : m + 1 = n := by omega
  have hfew := h.few
  have C2 := Lib.hid (hpop_any h1 h.hp (by omega) (by omega))
  rw [← hx.out] at C2
  have sp := popL_spec hm h.hp
  rw [← hx.out] at sp
  have HV := Lib.hid (And.intro X0 (And.intro hb (And.intro h (And.intro h2 (And.intro h3 (And.intro sp (And.intro hfew hm)))))))
  have k0 : ((L.length : Int) == 0) = false := by rw [hm]; simp; omega
  have k1 : ¬ (L.length : Int) = 0 := by omega
  have hass := assertR
  have HLT := Lib.hid h.lt
  have hAlt := Lib.hid h1.lt
  have HFB := Lib.hid (And.intro h2 (And.intro h3 h.fg))
  clear h X0 hb h1 h2 h3 hn hfew hm sp hx
  go_enter Tryd.func13, Tryd.ntmps13
  go_wp2_with (go_at_call 15; refine C1.out.mono ?_; rintro e w0 ⟨rfl, rfl⟩)
  refine C2.out.mono ?_
  rintro e w1 ⟨rfl, t1, f1⟩
  have HB1 := Lib.hid (f1.block w.heap.size (block_lt HV.out.2.1) (fun e => by
    rcases e with e | e | e
    · have := HLT.out g HFB.out.2.2; omega
    · have := HLT.out b HFB.out.1; omega
    · obtain ⟨a, ha, hab⟩ := Option.map_eq_some_iff.1 e
      have := HLT.out _ (HFB.out.2.1 a ha)
      omega) |>.trans HV.out.2.1)
  have H1 := Lib.hid (And.intro t1 (And.intro ((Fr.of_ext HV.out.1 (fun k => k = g ∨ k = b ∨ A.map (·.block) = some k)).trans f1 (fun _ _ e => e)) HV.out.1.size))
  clear t1 f1 C1 C2
  generalize hb0 : w.heap.size = b0 at *
  have HZ0 := Lib.hid (show w.heap.size ≤ b0 by omega)
  clear hb0
  have y0 : w1.cell? ⟨b0, 0, none⟩ = some (.int .i64 0) := block_cell HB1.out 0
  have y1 : w1.cell? ⟨b0, 1, none⟩ = some (.int .i64 0) := block_cell HB1.out 1
  have z0 := block_fz HB1.out 0
  have z1 := block_fz HB1.out 1
  go_upto_region 6 with (fail)
  have X2 := (Ext.refl w1).alloc (.cells #[.int .i64 x.id, .int .i64 x.rank] 34)
  have hob := heap_alloc_new w1 (.cells #[.int .i64 x.id, .int .i64 x.rank] 34)
  have hne : b0 ≠ w1.heap.size := fun e => by have := block_lt HB1.out; omega
  have H2 := Lib.hid (And.intro ((X2.block b0 (block_lt HB1.out)).trans HB1.out) (And.intro hob (And.intro (H1.out.1.ex X2) (H1.out.2.1.trans (Fr.of_ext X2 (fun _ => False)) (fun _ _ h => h.elim)))))
  clear X2 hob y0 y1 z0 z1
  generalize w1.alloc (.cells #[.int .i64 x.id, .int .i64 x.rank] 34) = V2 at *
  generalize w1.heap.size = ob at *
  have y0 : V2.cell? ⟨b0, 0, none⟩ = some (.int .i64 0) := block_cell H2.out.1 0
  have y1 : V2.cell? ⟨b0, 1, none⟩ = some (.int .i64 0) := block_cell H2.out.1 1
  have z0 := block_fz H2.out.1 0
  have z1 := block_fz H2.out.1 1
  have v0 : V2.cell? ⟨ob, 0, none⟩ = some (.int .i64 x.id) := block_cell H2.out.2.1 0
  have v1 : V2.cell? ⟨ob, 1, none⟩ = some (.int .i64 x.rank) := block_cell H2.out.2.1 1
  have f3 := Fr.store2 V2 b0 0 1 (.int .i64 x.id) (.int .i64 x.rank)
  have nb : ∀ k, F k → ¬ k = b0 := fun k hk e => by have := HLT.out k hk; omega
  have t3 := H2.out.2.2.1.fr f3 (nb g HFB.out.2.2) (nb b HFB.out.1) (fun a ha => nb _ (HFB.out.2.1 a ha))
  have HE := Lib.hid (And.intro (set2_blk (u := .int .i64 x.id) (v := .int .i64 x.rank) H2.out.1) (And.intro t3 (H2.out.2.2.2.trans f3 (P := fun k => k = g ∨ k = b ∨ A.map (·.block) = some k) (fun q hq e => by
    have e1 : q = b0 := e
    have := HZ0.out
    omega))))
  clear f3 t3 nb
  go_wp2_with fail
  generalize (V2.setCell ⟨b0, 0, none⟩ (.int .i64 x.id)).setCell ⟨b0, 1, none⟩ (.int .i64 x.rank) = V3 at *
  have s0 : V3.cell? ⟨b0, 0, none⟩ = some (.int .i64 x.id) := block_cell HE.out.1 0
  have s1 : V3.cell? ⟨b0, 1, none⟩ = some (.int .i64 x.rank) := block_cell HE.out.1 1
  refine bodyPost_ret (v := .tuple #[.agg #[.int .i64 x.id, .int .i64 x.rank], .nilIface]) (by simp [results, Tryd.results13, go_sem, s0, s1]) rfl ?_
  have sp := HV.out.2.2.2.2.2.1
  obtain ⟨F', hq⟩ := qn_of HV.out.2.2.1 HFB.out.1 HFB.out.2.1 (tn_of HE.out.2.1 HE.out.2.2) (by rw [sp.2.2.2.2]; exact sp.2.2.2.1) (by have := HV.out.2.2.2.2.2.2; omega)
  exact ⟨rfl, F', _, hq.mono (by have := HV.out.2.2.2.2.2.2; omega), sp.2.2.1⟩
end
end Go.Proofs.YtocjbllkgbjihaaDoor
