/-
  Package disk: keep, walked.
-/
import Derived.Test.YtchkeclhnbekkaaDoorDkWrite
namespace Go.Proofs.YtchkeclhnbekkaaDoor
set_option maxRecDepth 100000
open Go.RowKit Go.Maps
set_option linter.unusedVariables false
theorem oper_copy {P : Program} {w w' : World} {K : Act → World → Prop} {Q : Exit → Act → World → Prop} {o : Oper} {a : Act} {t1 t2 : TypeId} (s x : Operand) {u v r : Value} (ho : o.op = .call { callee := .builtin .copy, args := #[s, x], argTypes := #[t1, t2] })
    (hs : a.eval s = u) (hx : a.eval x = v) (hrun : (Builtin.copy_ #[t1, t2] o.type #[u, v]).run P w = .ok r w') (hk : K (a.put o.dst r) w') : Oper.wp P o a w K Q := by
  unfold Oper.wp execOp
  simp only [ho, resolve, invoke, builtin, Sem.run_bind, Sem.run_pure, Result.andThen_ok, List.map_toArray, List.map_cons, List.map_nil, hs, hx, hrun]
  exact hk
/-- The front of a block is written. -/
theorem set_front {w : World} {b : Nat} {t : TypeId} {cs ds : List Value} (h : w.heap[b]? = some (.cells cs.toArray t (0, 0))) (hs : ds.length ≤ cs.length) : (w.setCells b 0 ds).heap[b]? = some (.cells (ds ++ cs.drop ds.length).toArray t (0, 0)) := by
  obtain ⟨cur, h1, h2, h3, h4⟩ := cells_of_stores ds 0 h
  rw [h1]
  congr 2
  have h2' : cur.size = cs.length := by rw [h2]; simp
  apply Array.ext
  · rw [h2']; simp; omega
  · intro i hi hi2
    have key : cur[i]? = (ds ++ cs.drop ds.length)[i]? := by
      rcases Nat.lt_or_ge i ds.length with hl | hl
      · have h5 := h4 i ds[i] (List.getElem?_eq_getElem hl) (by simp; omega)
        rw [Nat.zero_add] at h5
        rw [h5, List.getElem?_append_left hl, List.getElem?_eq_getElem hl]
      · rw [List.getElem?_append_right hl, List.getElem?_drop, show ds.length + (i - ds.length) = i by omega]
        have h6 := cells_behind ds 0 h i (by omega)
        rw [h1] at h6
        simpa using h6
    rw [Array.getElem?_eq_getElem hi] at key
    rw [List.getElem?_eq_getElem (by simpa using hi2)] at key
    have key := Option.some.inj key
    rw [key]
    simp
section
variable {w w' : World} {g b m c Z : Nat} {A : Option Addr} {S wr : Int} {f : Int → List Nat} {l : List WrV} {lost : Bool}
/-- What keep leaves. -/
structure KStep (w w' : World) (g b m c : Nat) (A : Option Addr) (S : Int) (f' : Int → List Nat) (l : List WrV) (wr : Int) (lost : Bool) (Z' : Nat) : Prop where
  ds : DS w' g b A m c S f' l wr lost Z'
  fr : Fr w w' (· = b)
theorem keep_done {V w3 : World} {x : WrV} {n : Nat} {q : List Nat} {h' : Int → Option Value} {k : Nat} (h : DS V g b A m c S f l wr lost Z) (hq : q = x.s.take n ++ (f x.i).drop n) (hx : IsSec x.s) (hn : n ≤ 64) (hX : Ext w V)
    (hm : MapI Tryd.prog 3 w3 b (k + 1) (fun y => if y = x.i then some (secV q) else h' y)) (hk : k ≤ Z) (hh : ∀ y, (h' y).getD (secV z64) = secV (f y)) (hf : Fr V w3 (· = b)) : KStep w w3 g b m c A S (keepW f x n) l wr lost (Z + 1) := by
  have hg : ¬ g = b := fun e => h.bg e.symm
  have hA : ∀ a, A = some a → ¬ a.block = b := fun a ha => (h.ag a ha).2
  refine ⟨⟨(hf.block g h.lt.1 hg).trans h.blk, ⟨_, k + 1, hm, by omega, fun y => ?_⟩, hf.own h.own hA, keepW_sec h.sec hx hn, h.lsec, h.lrng, h.srng, h.bg, h.ag⟩, (Fr.of_ext hX (· = b)).trans hf (fun _ _ h => h)⟩
  by_cases e : y = x.i
  · subst e
    show ((if x.i = x.i then some (secV q) else h' x.i).getD _) = _
    rw [if_pos rfl, keepW_same, ← hq]
    rfl
  · show ((if y = x.i then some (secV q) else h' y).getD _) = _
    rw [if_neg e, keepW_other _ _ _ e]
    exact hh y
set_option maxHeartbeats 3200000 in
theorem keep_64 (h : DS w g b A m c S f l wr lost Z) {x : WrV} (hx : IsSec x.s) (hi : 0 ≤ x.i ∧ x.i < S) (hZ : Z < 4611686018427387904) :
    Calls Tryd.prog 22 #[.pointer (some ⟨g, 0, none⟩), .agg (wrow x).toArray, .int .i64 64] w fun e w' => e = .returned (.tuple #[]) ∧ KStep w w' g b m c A S (keepW f x 64) l wr lost (Z + 1) := by
  have X0 := (Ext.refl w).alloc (.cells (wrow x).toArray 63)
  have hbx := heap_alloc_new w (.cells (wrow x).toArray 63)
  have hsr := h.srng
  have HD := Lib.hid (And.intro (h.ex X0) (And.intro hbx X0))
  have HX := Lib.hid (And.intro hx hi)
  clear h X0 hbx hx
  go_enter Tryd.func22, Tryd.ntmps22
  go_upto_region 1 with (fail)
  generalize w.alloc (.cells (wrow x).toArray 63) = V at *
  generalize w.heap.size = xb at *
  have HS1 : V.drew.cell? ⟨g, 1, none⟩ = some (.map (some b)) ∧ V.drew.cell? ⟨xb, 0, none⟩ = some (.int .i64 x.i) ∧ (Instr.lookup 55 (.map (some b)) (.int .i64 x.i) false).run Tryd.prog V.drew = .ok (.agg (u8s (f x.i)).toArray) V.drew := ⟨(HD.out.1.ex (Ext.refl V).drew).cells.2.1, block_cell (w := V.drew) (show V.drew.heap[xb]? = _ from HD.out.2.1) 0, (HD.out.1.ex (Ext.refl V).drew).look (x := x.i) (by omega)⟩
  refine d_region (fun W : World => W.cell? ⟨g, 1, none⟩ = some (.map (some b)) ∧ W.cell? ⟨xb, 0, none⟩ = some (.int .i64 x.i) ∧ (Instr.lookup 55 (.map (some b)) (.int .i64 x.i) false).run Tryd.prog W = .ok (.agg (u8s (f x.i)).toArray) W) [8] (by kernel_rfl) ?_
  refine d_take (i := 0) (v := ?_) [1, 2, 3, 6, 8] (some 7) rfl (by rfl) (by kernel_rfl) (by kernel_rfl) (by kernel_rfl) (by kernel_rfl) (by kernel_rfl) (by kernel_rfl) (fun _ _ _ h => h) (.inl ⟨by rfl, ?_⟩) HS1 ?_
  rotate_left 1
  · (intro W hW; (try dsimp only at hW); go_simp; try with_reducible rfl)
  try simp only [Act.put, List.setIfInBounds_toArray, List.set_cons_zero, List.set_cons_succ]
  refine d_take (i := 1) (v := ?_) [2, 3, 6, 8] (some 8) rfl (by rfl) (by kernel_rfl) (by kernel_rfl) (by kernel_rfl) (by kernel_rfl) (by kernel_rfl) (by kernel_rfl) (fun _ _ _ h => h) (.inl ⟨by rfl, ?_⟩) HS1 ?_
  rotate_left 1
  · (intro W hW; (try dsimp only at hW); go_simp; try with_reducible rfl)
  try simp only [Act.put, List.setIfInBounds_toArray, List.set_cons_zero, List.set_cons_succ]
  refine d_take (i := 2) (v := ?_) [3, 6, 8] (some 9) rfl (by rfl) (by kernel_rfl) (by kernel_rfl) (by kernel_rfl) (by kernel_rfl) (by kernel_rfl) (by kernel_rfl) (fun _ _ _ h => h) (.inl ⟨by rfl, ?_⟩) HS1 ?_
  rotate_left 1
  · (intro W hW; (try dsimp only at hW); go_simp; try with_reducible rfl)
  try simp only [Act.put, List.setIfInBounds_toArray, List.set_cons_zero, List.set_cons_succ]
  refine d_take (i := 3) (v := ?_) [6, 8] (some 10) rfl (by rfl) (by kernel_rfl) (by kernel_rfl) (by kernel_rfl) (by kernel_rfl) (by kernel_rfl) (by kernel_rfl) (fun _ _ _ h => h) (.inl ⟨by rfl, ?_⟩) HS1 ?_
  rotate_left 1
  · (intro W hW; (try dsimp only at hW); go_simp; try with_reducible rfl)
  try simp only [Act.put, List.setIfInBounds_toArray, List.set_cons_zero, List.set_cons_succ]
  refine d_take (i := 4) (v := ?_) [5, 6, 8] (some 11) rfl (by rfl) (by kernel_rfl) (by kernel_rfl) (by kernel_rfl) (by kernel_rfl) (by kernel_rfl) (by kernel_rfl) (fun _ _ _ h => h) (.inl ⟨by rfl, ?_⟩) HS1 ?_
  rotate_left 1
  · (intro W hW; (try dsimp only at hW); go_simp; try with_reducible rfl)
  try simp only [Act.put, List.setIfInBounds_toArray, List.set_cons_zero, List.set_cons_succ]
  refine d_take (i := 5) (v := ?_) [6, 8] (some 12) rfl (by rfl) (by kernel_rfl) (by kernel_rfl) (by kernel_rfl) (by kernel_rfl) (by kernel_rfl) (by kernel_rfl) (fun _ _ _ h => h) (.inl ⟨by rfl, ?_⟩) HS1 ?_
  rotate_left 1
  · (intro W hW; (try dsimp only at hW); go_simp; try with_reducible rfl)
  try simp only [Act.put, List.setIfInBounds_toArray, List.set_cons_zero, List.set_cons_succ]
  refine d_take (i := 6) (v := ?_) [8] (some 13) rfl (by rfl) (by kernel_rfl) (by kernel_rfl) (by kernel_rfl) (by kernel_rfl) (by kernel_rfl) (by kernel_rfl) (fun _ _ _ h => h) (.inl ⟨by rfl, ?_⟩) HS1 ?_
  rotate_left 1
  · (intro W hW; (try dsimp only at hW); go_simp; try with_reducible rfl)
  try simp only [Act.put, List.setIfInBounds_toArray, List.set_cons_zero, List.set_cons_succ]
  have hzs := zeroSec
  refine d_one (i := 7) (by kernel_rfl) rfl rfl (fun K hK => ?_)
  simp only [List.getElem_toArray, List.getElem_cons_succ, List.getElem_cons_zero]
  go_simp
  clear hzs
  have XA : Ext V (V.alloc (.cells (u8s z64).toArray 61)).drew := ((Ext.refl V).alloc _).drew
  have hsb : (V.alloc (.cells (u8s z64).toArray 61)).drew.heap[V.heap.size]? = some (.cells (u8s z64).toArray 61 (0, 0)) := heap_alloc_new V (.cells (u8s z64).toArray 61)
  have D1 := Lib.hid (HD.out.1.ex XA)
  have bx1 := (XA.block xb (block_lt HD.out.2.1)).trans HD.out.2.1
  have HS2 : (V.alloc (.cells (u8s z64).toArray 61)).drew.cell? ⟨g, 1, none⟩ = some (.map (some b)) ∧ (V.alloc (.cells (u8s z64).toArray 61)).drew.cell? ⟨xb, 0, none⟩ = some (.int .i64 x.i) ∧ (Instr.lookup 55 (.map (some b)) (.int .i64 x.i) false).run Tryd.prog (V.alloc (.cells (u8s z64).toArray 61)).drew = .ok (.agg (u8s (f x.i)).toArray) (V.alloc (.cells (u8s z64).toArray 61)).drew := ⟨D1.out.cells.2.1, block_cell bx1 0, D1.out.look (x := x.i) (by omega)⟩
  have HB1 := Lib.hid (And.intro bx1 (And.intro hsb (HD.out.2.2.trans XA)))
  have hlt := HD.out.1.lt
  have hxl := block_lt HD.out.2.1
  have hwl := HD.out.2.2.size
  have HNB := Lib.hid (And.intro (show g ≠ V.heap.size from by omega) (And.intro (show b ≠ V.heap.size from by omega) (And.intro (show xb ≠ V.heap.size from by omega) (And.intro hwl (fun (a : Addr) (ha : A = some a) => (show a.block ≠ V.heap.size from by have := HD.out.1.own.lt_at ha; omega))))))
  clear hlt hxl hwl
  refine hK.out _ _ (fun _ => HS2) ?_
  clear hK K HS1 HS2 bx1 hsb XA
  generalize (V.alloc (.cells (u8s z64).toArray 61)).drew = V1 at *
  generalize V.heap.size = sb at *
  try simp only [Act.put, List.setIfInBounds_toArray, List.set_cons_zero, List.set_cons_succ]
  have hs64 := sec_size (D1.out.sec x.i)
  have hz64 := sec_size isSec_z64
  have HT := Lib.hid (there_block HB1.out.2.1 (o := 0) (n := (u8s (f x.i)).toArray.size) (by omega))
  have HI := Lib.hid (show (Tryd.prog.info? 61).map (·.size) = some (u8s (f x.i)).toArray.size by rw [hs64]; exact infoSec)
  have HO := Lib.hid (u8s_one' (f x.i))
  have b2 := set_block HB1.out.2.1 (cs := u8s (f x.i)) (by rw [hz64, u8s_len, (D1.out.sec x.i).1])
  have F2 := Fr.setCells (g := sb) (u8s (f x.i)) 0 V1
  have X2 : Ext w (V1.setCells sb 0 (u8s (f x.i))) := Fr.ext HB1.out.2.2 F2 (fun i hi => by rw [hi]; exact HNB.out.2.2.2.1)
  have D2 := Lib.hid (D1.out.fr F2 HNB.out.1 HNB.out.2.1 HNB.out.2.2.2.2)
  have bx2 := (F2.block xb (block_lt HB1.out.1) HNB.out.2.2.1).trans HB1.out.1
  have H2 := Lib.hid (And.intro bx2 (And.intro b2 X2))
  refine d_one (i := 8) (by kernel_rfl) rfl rfl (fun K hK => ?_)
  simp only [List.getElem_toArray, List.getElem_cons_succ, List.getElem_cons_zero]
  refine wp_store_mid 61 _ _ rfl sb 0 (u8s (f x.i)).toArray rfl rfl HT.out HI.out HO.out ?_
  rw [show (u8s (f x.i)).toArray.toList = u8s (f x.i) from rfl]
  refine hK.out _ _ (fun h => absurd h (by decide)) ?_
  clear hK K HT b2 F2 X2 bx2 D1 HI HO
  generalize V1.setCells sb 0 (u8s (f x.i)) = V2 at *
  try simp only [Act.put, List.setIfInBounds_toArray, List.set_cons_zero, List.set_cons_succ]
  refine d_done (by kernel_rfl) ?_ _
  have HS1 : True := trivial
  obtain ⟨q, hq⟩ : ∃ q, q = x.s.take 64 ++ (f x.i).drop 64 := ⟨_, rfl⟩
  have hqs : IsSec q := by have h1 := keepW_sec (n := 64) D2.out.sec HX.out.1 (by omega) x.i; rwa [keepW_same, ← hq] at h1
  have hts : (u8s (x.s.take 64)).length = 64 := by rw [u8s_len, List.length_take, HX.out.1.1]; rfl
  have hfs := (D2.out.sec x.i).1
  have b3 := set_front (w := V2.drew) (show V2.drew.heap[sb]? = _ from H2.out.2.1) (ds := u8s (x.s.take 64)) (by rw [hts, u8s_len, hfs]; omega)
  rw [hts, show u8s (x.s.take 64) ++ (u8s (f x.i)).drop 64 = u8s q by rw [hq, u8s_append, u8s_drop]] at b3
  have F3 : Fr V2 (V2.drew.setCells sb 0 (u8s (x.s.take 64))) (· = sb) := (Fr.of_ext (Ext.refl V2).drew (· = sb)).trans (Fr.setCells (g := sb) (u8s (x.s.take 64)) 0 V2.drew) (fun _ _ h => h)
  have b3' : (V2.drew.setCells sb 0 (u8s (x.s.take 64))).heap[sb]? = some (.cells (u8s q).toArray 61 (0, 0)) := b3
  have RC := Lib.hid (run_copy_cells (P := Tryd.prog) V2.drew 32 32 3 5 sb 0 64 64 ⟨xb, 1, none⟩ 64 64 (u8s (x.s.take 64)) Tryd.underlying32 (by kernel_rfl) (by rw [hts]; rfl)
    (fun j v hv => by
      rw [Addr.add_mid]
      have h1 := range_block H2.out.1 (o := 1) (ds := u8s x.s) (fun j v hv => by rw [Nat.add_comm]; exact hv) j v (by
        rw [u8s_take, List.getElem?_take] at hv
        split at hv
        · exact hv
        · cases hv)
      simpa using h1)
    (fun j hj => by have h1 := (there_block H2.out.2.1 (o := 0) (n := 64) (by rw [hs64]; omega) j (by omega)).1; simpa using h1)
    (fun j hj => by have h1 := (there_block H2.out.2.1 (o := 0) (n := 64) (by rw [hs64]; omega) j (by omega)).2; simpa using h1) (u8s_one _))
  have D3 := Lib.hid (D2.out.fr F3 HNB.out.1 HNB.out.2.1 HNB.out.2.2.2.2)
  have bx3 := (F3.block xb (block_lt H2.out.1) HNB.out.2.2.1).trans H2.out.1
  have H3 := Lib.hid (And.intro bx3 (And.intro b3' (And.intro (Fr.ext H2.out.2.2 F3 (fun i hi => by rw [hi]; exact HNB.out.2.2.2.1)) (And.intro hq hqs))))
  clear b3 b3' F3 bx3 hq hqs hts hfs hs64 hz64
  go_upto_region 2 with (fail)
  refine d_region (fun W : World => True) [5] (by kernel_rfl) ?_
  refine d_take (i := 0) (v := ?_) [1, 5] (some 14) rfl (by rfl) (by kernel_rfl) (by kernel_rfl) (by kernel_rfl) (by kernel_rfl) (by kernel_rfl) (by kernel_rfl) (fun _ _ _ h => h) (.inl ⟨by rfl, ?_⟩) HS1 ?_
  rotate_left 1
  · (intro W hW; (try dsimp only at hW); go_simp; try with_reducible rfl)
  try simp only [Act.put, List.setIfInBounds_toArray, List.set_cons_zero, List.set_cons_succ]
  refine d_take (i := 1) (v := ?_) [5] (some 15) rfl (by rfl) (by kernel_rfl) (by kernel_rfl) (by kernel_rfl) (by kernel_rfl) (by kernel_rfl) (by kernel_rfl) (fun _ _ _ h => h) (.inl ⟨by rfl, ?_⟩) HS1 ?_
  rotate_left 1
  · (intro W hW; (try dsimp only at hW); go_simp; try with_reducible rfl)
  try simp only [Act.put, List.setIfInBounds_toArray, List.set_cons_zero, List.set_cons_succ]
  refine d_take (i := 2) (v := ?_) [4, 5] (some 16) rfl (by rfl) (by kernel_rfl) (by kernel_rfl) (by kernel_rfl) (by kernel_rfl) (by kernel_rfl) (by kernel_rfl) (fun _ _ _ h => h) (.inl ⟨by rfl, ?_⟩) HS1 ?_
  rotate_left 1
  · (intro W hW; (try dsimp only at hW); go_simp; try with_reducible rfl)
  try simp only [Act.put, List.setIfInBounds_toArray, List.set_cons_zero, List.set_cons_succ]
  refine d_take (i := 3) (v := ?_) [4, 5] (some 17) rfl (by rfl) (by kernel_rfl) (by kernel_rfl) (by kernel_rfl) (by kernel_rfl) (by kernel_rfl) (by kernel_rfl) (fun _ _ _ h => h) (.inl ⟨by rfl, ?_⟩) HS1 ?_
  rotate_left 1
  · (intro W hW; (try dsimp only at hW); go_simp; try with_reducible rfl)
  try simp only [Act.put, List.setIfInBounds_toArray, List.set_cons_zero, List.set_cons_succ]
  refine d_take (i := 4) (v := ?_) [5] (some 18) rfl (by rfl) (by kernel_rfl) (by kernel_rfl) (by kernel_rfl) (by kernel_rfl) (by kernel_rfl) (by kernel_rfl) (fun _ _ _ h => h) (.inl ⟨by rfl, ?_⟩) HS1 ?_
  rotate_left 1
  · (intro W hW; (try dsimp only at hW); go_simp; try with_reducible rfl)
  try simp only [Act.put, List.setIfInBounds_toArray, List.set_cons_zero, List.set_cons_succ]
  refine d_one (i := 5) (by kernel_rfl) rfl rfl (fun K hK => ?_)
  simp only [List.getElem_toArray, List.getElem_cons_succ, List.getElem_cons_zero]
  refine oper_copy (.tmp 15) (.tmp 18) rfl rfl rfl RC.out ?_
  refine hK.out _ _ (fun h => absurd h (by decide)) ?_
  clear hK K RC
  generalize V2.drew.setCells sb 0 (u8s (x.s.take 64)) = V3 at *
  try simp only [Act.put, List.setIfInBounds_toArray, List.set_cons_zero, List.set_cons_succ]
  refine d_done (by kernel_rfl) ?_ _
  clear HS1
  obtain ⟨h', k, hm, hk, hh⟩ := (D3.out.ex (Ext.refl V3).drew).map
  obtain ⟨w4, hrun, hm4, f4⟩ := hm.store Tryd.underlying55 Tryd.underlying3 (by omega) (x := x.i) (by omega) (secV q)
  have KD := Lib.hid (keep_done (n := 64) (D3.out.ex (Ext.refl V3).drew) H3.out.2.2.2.1 HX.out.1 (by omega) (H3.out.2.2.1.trans (Ext.refl V3).drew) hm4 hk hh f4)
  unfold secV at hrun
  have HQ := Lib.hid (range_block H3.out.2.1 (o := 0) (ds := u8s q) (fun j v hv => by rw [Nat.zero_add]; exact hv))
  have HS1 : V3.drew.cell? ⟨g, 1, none⟩ = some (.map (some b)) ∧ V3.drew.cell? ⟨xb, 0, none⟩ = some (.int .i64 x.i) ∧ V3.drew.rangeAt sb 0 (u8s q) := ⟨(D3.out.ex (Ext.refl V3).drew).cells.2.1, block_cell (w := V3.drew) (show V3.drew.heap[xb]? = _ from H3.out.1) 0, by simpa using HQ.out⟩
  have HUS := Lib.hid Tryd.underlying61
  have HI1 := Lib.hid (show (Tryd.prog.info? 61).map (·.size) = some (u8s q).length from by rw [u8s_len, H3.out.2.2.2.2.1]; exact infoSec)
  clear hm hk hh hm4 f4
  go_upto_region 3 with (fail)
  refine d_region (fun W : World => W.cell? ⟨g, 1, none⟩ = some (.map (some b)) ∧ W.cell? ⟨xb, 0, none⟩ = some (.int .i64 x.i) ∧ W.rangeAt sb 0 (u8s q)) [7] (by kernel_rfl) ?_
  refine d_take (i := 0) (v := ?_) [1, 2, 3, 7] (some 20) rfl (by rfl) (by kernel_rfl) (by kernel_rfl) (by kernel_rfl) (by kernel_rfl) (by kernel_rfl) (by kernel_rfl) (fun _ _ _ h => h) (.inl ⟨by rfl, ?_⟩) HS1 ?_
  rotate_left 1
  · (intro W hW; (try dsimp only at hW); go_simp; try with_reducible rfl)
  try simp only [Act.put, List.setIfInBounds_toArray, List.set_cons_zero, List.set_cons_succ]
  refine d_take (i := 1) (v := ?_) [2, 3, 7] (some 21) rfl (by rfl) (by kernel_rfl) (by kernel_rfl) (by kernel_rfl) (by kernel_rfl) (by kernel_rfl) (by kernel_rfl) (fun _ _ _ h => h) (.inl ⟨by rfl, ?_⟩) HS1 ?_
  rotate_left 1
  · (intro W hW; (try dsimp only at hW); go_simp; try with_reducible rfl)
  try simp only [Act.put, List.setIfInBounds_toArray, List.set_cons_zero, List.set_cons_succ]
  refine d_take (i := 2) (v := ?_) [3, 7] (some 22) rfl (by rfl) (by kernel_rfl) (by kernel_rfl) (by kernel_rfl) (by kernel_rfl) (by kernel_rfl) (by kernel_rfl) (fun _ _ _ h => h) (.inl ⟨by rfl, ?_⟩) HS1 ?_
  rotate_left 1
  · (intro W hW; (try dsimp only at hW); go_simp; try with_reducible rfl)
  try simp only [Act.put, List.setIfInBounds_toArray, List.set_cons_zero, List.set_cons_succ]
  refine d_take (i := 3) (v := ?_) [7] (some 23) rfl (by rfl) (by kernel_rfl) (by kernel_rfl) (by kernel_rfl) (by kernel_rfl) (by kernel_rfl) (by kernel_rfl) (fun _ _ _ h => h) (.inl ⟨by rfl, ?_⟩) HS1 ?_
  rotate_left 1
  · (intro W hW; (try dsimp only at hW); go_simp; try with_reducible rfl)
  try simp only [Act.put, List.setIfInBounds_toArray, List.set_cons_zero, List.set_cons_succ]
  refine d_take (i := 4) (v := ?_) [5, 7] (some 24) rfl (by rfl) (by kernel_rfl) (by kernel_rfl) (by kernel_rfl) (by kernel_rfl) (by kernel_rfl) (by kernel_rfl) (fun _ _ _ h => h) (.inl ⟨by rfl, ?_⟩) HS1 ?_
  rotate_left 1
  · (intro W hW; (try dsimp only at hW); go_simp; try with_reducible rfl)
  try simp only [Act.put, List.setIfInBounds_toArray, List.set_cons_zero, List.set_cons_succ]
  refine d_take (i := 5) (v := ?_) [7] (some 25) rfl (by rfl) (by kernel_rfl) (by kernel_rfl) (by kernel_rfl) (by kernel_rfl) (by kernel_rfl) (by kernel_rfl) (fun _ _ _ h => h) (.inl ⟨by rfl, ?_⟩) HS1 ?_
  rotate_left 1
  · (intro W hW; (try dsimp only at hW); go_simp; try with_reducible rfl)
  try simp only [Act.put, List.setIfInBounds_toArray, List.set_cons_zero, List.set_cons_succ]
  refine d_take (i := 6) (v := .agg (u8s q).toArray) [7] (some 26) rfl (by rfl) (by kernel_rfl) (by kernel_rfl) (by kernel_rfl) (by kernel_rfl) (by kernel_rfl) (by kernel_rfl) (fun _ _ _ h => h) (yieldsIf_load_mid (by rfl) 61 _ rfl sb 0 rfl (u8s q) _ (fun W h => h.2.2) HUS.out rfl HI1.out) HS1 ?_
  try simp only [Act.put, List.setIfInBounds_toArray, List.set_cons_zero, List.set_cons_succ]
  refine d_one (i := 7) (by kernel_rfl) rfl rfl (fun K hK => ?_)
  simp only [List.getElem_toArray, List.getElem_cons_succ, List.getElem_cons_zero]
  go_simp
  refine hK.out _ _ (fun h => absurd h (by decide)) ?_
  clear hK K hrun
  try simp only [Act.put, List.setIfInBounds_toArray, List.set_cons_zero, List.set_cons_succ]
  refine d_done (by kernel_rfl) ?_ _
  clear HS1
  go_wp2_with fail
  go_returns
  exact ⟨rfl, KD.out⟩
set_option maxHeartbeats 3200000 in
theorem keep_32 (h : DS w g b A m c S f l wr lost Z) {x : WrV} (hx : IsSec x.s) (hi : 0 ≤ x.i ∧ x.i < S) (hZ : Z < 4611686018427387904) :
    Calls Tryd.prog 22 #[.pointer (some ⟨g, 0, none⟩), .agg (wrow x).toArray, .int .i64 32] w fun e w' => e = .returned (.tuple #[]) ∧ KStep w w' g b m c A S (keepW f x 32) l wr lost (Z + 1) := by
  have X0 := (Ext.refl w).alloc (.cells (wrow x).toArray 63)
  have hbx := heap_alloc_new w (.cells (wrow x).toArray 63)
  have hsr := h.srng
  have HD := Lib.hid (And.intro (h.ex X0) (And.intro hbx X0))
  have HX := Lib.hid (And.intro hx hi)
  clear h X0 hbx hx
  go_enter Tryd.func22, Tryd.ntmps22
  go_upto_region 1 with (fail)
  generalize w.alloc (.cells (wrow x).toArray 63) = V at *
  generalize w.heap.size = xb at *
  have HS1 : V.drew.cell? ⟨g, 1, none⟩ = some (.map (some b)) ∧ V.drew.cell? ⟨xb, 0, none⟩ = some (.int .i64 x.i) ∧ (Instr.lookup 55 (.map (some b)) (.int .i64 x.i) false).run Tryd.prog V.drew = .ok (.agg (u8s (f x.i)).toArray) V.drew := ⟨(HD.out.1.ex (Ext.refl V).drew).cells.2.1, block_cell (w := V.drew) (show V.drew.heap[xb]? = _ from HD.out.2.1) 0, (HD.out.1.ex (Ext.refl V).drew).look (x := x.i) (by omega)⟩
  refine d_region (fun W : World => W.cell? ⟨g, 1, none⟩ = some (.map (some b)) ∧ W.cell? ⟨xb, 0, none⟩ = some (.int .i64 x.i) ∧ (Instr.lookup 55 (.map (some b)) (.int .i64 x.i) false).run Tryd.prog W = .ok (.agg (u8s (f x.i)).toArray) W) [8] (by kernel_rfl) ?_
  refine d_take (i := 0) (v := ?_) [1, 2, 3, 6, 8] (some 7) rfl (by rfl) (by kernel_rfl) (by kernel_rfl) (by kernel_rfl) (by kernel_rfl) (by kernel_rfl) (by kernel_rfl) (fun _ _ _ h => h) (.inl ⟨by rfl, ?_⟩) HS1 ?_
  rotate_left 1
  · (intro W hW; (try dsimp only at hW); go_simp; try with_reducible rfl)
  try simp only [Act.put, List.setIfInBounds_toArray, List.set_cons_zero, List.set_cons_succ]
  refine d_take (i := 1) (v := ?_) [2, 3, 6, 8] (some 8) rfl (by rfl) (by kernel_rfl) (by kernel_rfl) (by kernel_rfl) (by kernel_rfl) (by kernel_rfl) (by kernel_rfl) (fun _ _ _ h => h) (.inl ⟨by rfl, ?_⟩) HS1 ?_
  rotate_left 1
  · (intro W hW; (try dsimp only at hW); go_simp; try with_reducible rfl)
  try simp only [Act.put, List.setIfInBounds_toArray, List.set_cons_zero, List.set_cons_succ]
  refine d_take (i := 2) (v := ?_) [3, 6, 8] (some 9) rfl (by rfl) (by kernel_rfl) (by kernel_rfl) (by kernel_rfl) (by kernel_rfl) (by kernel_rfl) (by kernel_rfl) (fun _ _ _ h => h) (.inl ⟨by rfl, ?_⟩) HS1 ?_
  rotate_left 1
  · (intro W hW; (try dsimp only at hW); go_simp; try with_reducible rfl)
  try simp only [Act.put, List.setIfInBounds_toArray, List.set_cons_zero, List.set_cons_succ]
  refine d_take (i := 3) (v := ?_) [6, 8] (some 10) rfl (by rfl) (by kernel_rfl) (by kernel_rfl) (by kernel_rfl) (by kernel_rfl) (by kernel_rfl) (by kernel_rfl) (fun _ _ _ h => h) (.inl ⟨by rfl, ?_⟩) HS1 ?_
  rotate_left 1
  · (intro W hW; (try dsimp only at hW); go_simp; try with_reducible rfl)
  try simp only [Act.put, List.setIfInBounds_toArray, List.set_cons_zero, List.set_cons_succ]
  refine d_take (i := 4) (v := ?_) [5, 6, 8] (some 11) rfl (by rfl) (by kernel_rfl) (by kernel_rfl) (by kernel_rfl) (by kernel_rfl) (by kernel_rfl) (by kernel_rfl) (fun _ _ _ h => h) (.inl ⟨by rfl, ?_⟩) HS1 ?_
  rotate_left 1
  · (intro W hW; (try dsimp only at hW); go_simp; try with_reducible rfl)
  try simp only [Act.put, List.setIfInBounds_toArray, List.set_cons_zero, List.set_cons_succ]
  refine d_take (i := 5) (v := ?_) [6, 8] (some 12) rfl (by rfl) (by kernel_rfl) (by kernel_rfl) (by kernel_rfl) (by kernel_rfl) (by kernel_rfl) (by kernel_rfl) (fun _ _ _ h => h) (.inl ⟨by rfl, ?_⟩) HS1 ?_
  rotate_left 1
  · (intro W hW; (try dsimp only at hW); go_simp; try with_reducible rfl)
  try simp only [Act.put, List.setIfInBounds_toArray, List.set_cons_zero, List.set_cons_succ]
  refine d_take (i := 6) (v := ?_) [8] (some 13) rfl (by rfl) (by kernel_rfl) (by kernel_rfl) (by kernel_rfl) (by kernel_rfl) (by kernel_rfl) (by kernel_rfl) (fun _ _ _ h => h) (.inl ⟨by rfl, ?_⟩) HS1 ?_
  rotate_left 1
  · (intro W hW; (try dsimp only at hW); go_simp; try with_reducible rfl)
  try simp only [Act.put, List.setIfInBounds_toArray, List.set_cons_zero, List.set_cons_succ]
  have hzs := zeroSec
  refine d_one (i := 7) (by kernel_rfl) rfl rfl (fun K hK => ?_)
  simp only [List.getElem_toArray, List.getElem_cons_succ, List.getElem_cons_zero]
  go_simp
  clear hzs
  have XA : Ext V (V.alloc (.cells (u8s z64).toArray 61)).drew := ((Ext.refl V).alloc _).drew
  have hsb : (V.alloc (.cells (u8s z64).toArray 61)).drew.heap[V.heap.size]? = some (.cells (u8s z64).toArray 61 (0, 0)) := heap_alloc_new V (.cells (u8s z64).toArray 61)
  have D1 := Lib.hid (HD.out.1.ex XA)
  have bx1 := (XA.block xb (block_lt HD.out.2.1)).trans HD.out.2.1
  have HS2 : (V.alloc (.cells (u8s z64).toArray 61)).drew.cell? ⟨g, 1, none⟩ = some (.map (some b)) ∧ (V.alloc (.cells (u8s z64).toArray 61)).drew.cell? ⟨xb, 0, none⟩ = some (.int .i64 x.i) ∧ (Instr.lookup 55 (.map (some b)) (.int .i64 x.i) false).run Tryd.prog (V.alloc (.cells (u8s z64).toArray 61)).drew = .ok (.agg (u8s (f x.i)).toArray) (V.alloc (.cells (u8s z64).toArray 61)).drew := ⟨D1.out.cells.2.1, block_cell bx1 0, D1.out.look (x := x.i) (by omega)⟩
  have HB1 := Lib.hid (And.intro bx1 (And.intro hsb (HD.out.2.2.trans XA)))
  have hlt := HD.out.1.lt
  have hxl := block_lt HD.out.2.1
  have hwl := HD.out.2.2.size
  have HNB := Lib.hid (And.intro (show g ≠ V.heap.size from by omega) (And.intro (show b ≠ V.heap.size from by omega) (And.intro (show xb ≠ V.heap.size from by omega) (And.intro hwl (fun (a : Addr) (ha : A = some a) => (show a.block ≠ V.heap.size from by have := HD.out.1.own.lt_at ha; omega))))))
  clear hlt hxl hwl
  refine hK.out _ _ (fun _ => HS2) ?_
  clear hK K HS1 HS2 bx1 hsb XA
  generalize (V.alloc (.cells (u8s z64).toArray 61)).drew = V1 at *
  generalize V.heap.size = sb at *
  try simp only [Act.put, List.setIfInBounds_toArray, List.set_cons_zero, List.set_cons_succ]
  have hs64 := sec_size (D1.out.sec x.i)
  have hz64 := sec_size isSec_z64
  have HT := Lib.hid (there_block HB1.out.2.1 (o := 0) (n := (u8s (f x.i)).toArray.size) (by omega))
  have HI := Lib.hid (show (Tryd.prog.info? 61).map (·.size) = some (u8s (f x.i)).toArray.size by rw [hs64]; exact infoSec)
  have HO := Lib.hid (u8s_one' (f x.i))
  have b2 := set_block HB1.out.2.1 (cs := u8s (f x.i)) (by rw [hz64, u8s_len, (D1.out.sec x.i).1])
  have F2 := Fr.setCells (g := sb) (u8s (f x.i)) 0 V1
  have X2 : Ext w (V1.setCells sb 0 (u8s (f x.i))) := Fr.ext HB1.out.2.2 F2 (fun i hi => by rw [hi]; exact HNB.out.2.2.2.1)
  have D2 := Lib.hid (D1.out.fr F2 HNB.out.1 HNB.out.2.1 HNB.out.2.2.2.2)
  have bx2 := (F2.block xb (block_lt HB1.out.1) HNB.out.2.2.1).trans HB1.out.1
  have H2 := Lib.hid (And.intro bx2 (And.intro b2 X2))
  refine d_one (i := 8) (by kernel_rfl) rfl rfl (fun K hK => ?_)
  simp only [List.getElem_toArray, List.getElem_cons_succ, List.getElem_cons_zero]
  refine wp_store_mid 61 _ _ rfl sb 0 (u8s (f x.i)).toArray rfl rfl HT.out HI.out HO.out ?_
  rw [show (u8s (f x.i)).toArray.toList = u8s (f x.i) from rfl]
  refine hK.out _ _ (fun h => absurd h (by decide)) ?_
  clear hK K HT b2 F2 X2 bx2 D1 HI HO
  generalize V1.setCells sb 0 (u8s (f x.i)) = V2 at *
  try simp only [Act.put, List.setIfInBounds_toArray, List.set_cons_zero, List.set_cons_succ]
  refine d_done (by kernel_rfl) ?_ _
  have HS1 : True := trivial
  obtain ⟨q, hq⟩ : ∃ q, q = x.s.take 32 ++ (f x.i).drop 32 := ⟨_, rfl⟩
  have hqs : IsSec q := by have h1 := keepW_sec (n := 32) D2.out.sec HX.out.1 (by omega) x.i; rwa [keepW_same, ← hq] at h1
  have hts : (u8s (x.s.take 32)).length = 32 := by rw [u8s_len, List.length_take, HX.out.1.1]; rfl
  have hfs := (D2.out.sec x.i).1
  have b3 := set_front (w := V2.drew) (show V2.drew.heap[sb]? = _ from H2.out.2.1) (ds := u8s (x.s.take 32)) (by rw [hts, u8s_len, hfs]; omega)
  rw [hts, show u8s (x.s.take 32) ++ (u8s (f x.i)).drop 32 = u8s q by rw [hq, u8s_append, u8s_drop]] at b3
  have F3 : Fr V2 (V2.drew.setCells sb 0 (u8s (x.s.take 32))) (· = sb) := (Fr.of_ext (Ext.refl V2).drew (· = sb)).trans (Fr.setCells (g := sb) (u8s (x.s.take 32)) 0 V2.drew) (fun _ _ h => h)
  have b3' : (V2.drew.setCells sb 0 (u8s (x.s.take 32))).heap[sb]? = some (.cells (u8s q).toArray 61 (0, 0)) := b3
  have RC := Lib.hid (run_copy_cells (P := Tryd.prog) V2.drew 32 32 3 5 sb 0 32 64 ⟨xb, 1, none⟩ 32 64 (u8s (x.s.take 32)) Tryd.underlying32 (by kernel_rfl) (by rw [hts]; rfl)
    (fun j v hv => by
      rw [Addr.add_mid]
      have h1 := range_block H2.out.1 (o := 1) (ds := u8s x.s) (fun j v hv => by rw [Nat.add_comm]; exact hv) j v (by
        rw [u8s_take, List.getElem?_take] at hv
        split at hv
        · exact hv
        · cases hv)
      simpa using h1)
    (fun j hj => by have h1 := (there_block H2.out.2.1 (o := 0) (n := 64) (by rw [hs64]; omega) j (by omega)).1; simpa using h1)
    (fun j hj => by have h1 := (there_block H2.out.2.1 (o := 0) (n := 64) (by rw [hs64]; omega) j (by omega)).2; simpa using h1) (u8s_one _))
  have D3 := Lib.hid (D2.out.fr F3 HNB.out.1 HNB.out.2.1 HNB.out.2.2.2.2)
  have bx3 := (F3.block xb (block_lt H2.out.1) HNB.out.2.2.1).trans H2.out.1
  have H3 := Lib.hid (And.intro bx3 (And.intro b3' (And.intro (Fr.ext H2.out.2.2 F3 (fun i hi => by rw [hi]; exact HNB.out.2.2.2.1)) (And.intro hq hqs))))
  clear b3 b3' F3 bx3 hq hqs hts hfs hs64 hz64
  go_upto_region 2 with (fail)
  refine d_region (fun W : World => True) [5] (by kernel_rfl) ?_
  refine d_take (i := 0) (v := ?_) [1, 5] (some 14) rfl (by rfl) (by kernel_rfl) (by kernel_rfl) (by kernel_rfl) (by kernel_rfl) (by kernel_rfl) (by kernel_rfl) (fun _ _ _ h => h) (.inl ⟨by rfl, ?_⟩) HS1 ?_
  rotate_left 1
  · (intro W hW; (try dsimp only at hW); go_simp; try with_reducible rfl)
  try simp only [Act.put, List.setIfInBounds_toArray, List.set_cons_zero, List.set_cons_succ]
  refine d_take (i := 1) (v := ?_) [5] (some 15) rfl (by rfl) (by kernel_rfl) (by kernel_rfl) (by kernel_rfl) (by kernel_rfl) (by kernel_rfl) (by kernel_rfl) (fun _ _ _ h => h) (.inl ⟨by rfl, ?_⟩) HS1 ?_
  rotate_left 1
  · (intro W hW; (try dsimp only at hW); go_simp; try with_reducible rfl)
  try simp only [Act.put, List.setIfInBounds_toArray, List.set_cons_zero, List.set_cons_succ]
  refine d_take (i := 2) (v := ?_) [4, 5] (some 16) rfl (by rfl) (by kernel_rfl) (by kernel_rfl) (by kernel_rfl) (by kernel_rfl) (by kernel_rfl) (by kernel_rfl) (fun _ _ _ h => h) (.inl ⟨by rfl, ?_⟩) HS1 ?_
  rotate_left 1
  · (intro W hW; (try dsimp only at hW); go_simp; try with_reducible rfl)
  try simp only [Act.put, List.setIfInBounds_toArray, List.set_cons_zero, List.set_cons_succ]
  refine d_take (i := 3) (v := ?_) [4, 5] (some 17) rfl (by rfl) (by kernel_rfl) (by kernel_rfl) (by kernel_rfl) (by kernel_rfl) (by kernel_rfl) (by kernel_rfl) (fun _ _ _ h => h) (.inl ⟨by rfl, ?_⟩) HS1 ?_
  rotate_left 1
  · (intro W hW; (try dsimp only at hW); go_simp; try with_reducible rfl)
  try simp only [Act.put, List.setIfInBounds_toArray, List.set_cons_zero, List.set_cons_succ]
  refine d_take (i := 4) (v := ?_) [5] (some 18) rfl (by rfl) (by kernel_rfl) (by kernel_rfl) (by kernel_rfl) (by kernel_rfl) (by kernel_rfl) (by kernel_rfl) (fun _ _ _ h => h) (.inl ⟨by rfl, ?_⟩) HS1 ?_
  rotate_left 1
  · (intro W hW; (try dsimp only at hW); go_simp; try with_reducible rfl)
  try simp only [Act.put, List.setIfInBounds_toArray, List.set_cons_zero, List.set_cons_succ]
  refine d_one (i := 5) (by kernel_rfl) rfl rfl (fun K hK => ?_)
  simp only [List.getElem_toArray, List.getElem_cons_succ, List.getElem_cons_zero]
  refine oper_copy (.tmp 15) (.tmp 18) rfl rfl rfl RC.out ?_
  refine hK.out _ _ (fun h => absurd h (by decide)) ?_
  clear hK K RC
  generalize V2.drew.setCells sb 0 (u8s (x.s.take 32)) = V3 at *
  try simp only [Act.put, List.setIfInBounds_toArray, List.set_cons_zero, List.set_cons_succ]
  refine d_done (by kernel_rfl) ?_ _
  clear HS1
  obtain ⟨h', k, hm, hk, hh⟩ := (D3.out.ex (Ext.refl V3).drew).map
  obtain ⟨w4, hrun, hm4, f4⟩ := hm.store Tryd.underlying55 Tryd.underlying3 (by omega) (x := x.i) (by omega) (secV q)
  have KD := Lib.hid (keep_done (n := 32) (D3.out.ex (Ext.refl V3).drew) H3.out.2.2.2.1 HX.out.1 (by omega) (H3.out.2.2.1.trans (Ext.refl V3).drew) hm4 hk hh f4)
  unfold secV at hrun
  have HQ := Lib.hid (range_block H3.out.2.1 (o := 0) (ds := u8s q) (fun j v hv => by rw [Nat.zero_add]; exact hv))
  have HS1 : V3.drew.cell? ⟨g, 1, none⟩ = some (.map (some b)) ∧ V3.drew.cell? ⟨xb, 0, none⟩ = some (.int .i64 x.i) ∧ V3.drew.rangeAt sb 0 (u8s q) := ⟨(D3.out.ex (Ext.refl V3).drew).cells.2.1, block_cell (w := V3.drew) (show V3.drew.heap[xb]? = _ from H3.out.1) 0, by simpa using HQ.out⟩
  have HUS := Lib.hid Tryd.underlying61
  have HI1 := Lib.hid (show (Tryd.prog.info? 61).map (·.size) = some (u8s q).length from by rw [u8s_len, H3.out.2.2.2.2.1]; exact infoSec)
  clear hm hk hh hm4 f4
  go_upto_region 3 with (fail)
  refine d_region (fun W : World => W.cell? ⟨g, 1, none⟩ = some (.map (some b)) ∧ W.cell? ⟨xb, 0, none⟩ = some (.int .i64 x.i) ∧ W.rangeAt sb 0 (u8s q)) [7] (by kernel_rfl) ?_
  refine d_take (i := 0) (v := ?_) [1, 2, 3, 7] (some 20) rfl (by rfl) (by kernel_rfl) (by kernel_rfl) (by kernel_rfl) (by kernel_rfl) (by kernel_rfl) (by kernel_rfl) (fun _ _ _ h => h) (.inl ⟨by rfl, ?_⟩) HS1 ?_
  rotate_left 1
  · (intro W hW; (try dsimp only at hW); go_simp; try with_reducible rfl)
  try simp only [Act.put, List.setIfInBounds_toArray, List.set_cons_zero, List.set_cons_succ]
  refine d_take (i := 1) (v := ?_) [2, 3, 7] (some 21) rfl (by rfl) (by kernel_rfl) (by kernel_rfl) (by kernel_rfl) (by kernel_rfl) (by kernel_rfl) (by kernel_rfl) (fun _ _ _ h => h) (.inl ⟨by rfl, ?_⟩) HS1 ?_
  rotate_left 1
  · (intro W hW; (try dsimp only at hW); go_simp; try with_reducible rfl)
  try simp only [Act.put, List.setIfInBounds_toArray, List.set_cons_zero, List.set_cons_succ]
  refine d_take (i := 2) (v := ?_) [3, 7] (some 22) rfl (by rfl) (by kernel_rfl) (by kernel_rfl) (by kernel_rfl) (by kernel_rfl) (by kernel_rfl) (by kernel_rfl) (fun _ _ _ h => h) (.inl ⟨by rfl, ?_⟩) HS1 ?_
  rotate_left 1
  · (intro W hW; (try dsimp only at hW); go_simp; try with_reducible rfl)
  try simp only [Act.put, List.setIfInBounds_toArray, List.set_cons_zero, List.set_cons_succ]
  refine d_take (i := 3) (v := ?_) [7] (some 23) rfl (by rfl) (by kernel_rfl) (by kernel_rfl) (by kernel_rfl) (by kernel_rfl) (by kernel_rfl) (by kernel_rfl) (fun _ _ _ h => h) (.inl ⟨by rfl, ?_⟩) HS1 ?_
  rotate_left 1
  · (intro W hW; (try dsimp only at hW); go_simp; try with_reducible rfl)
  try simp only [Act.put, List.setIfInBounds_toArray, List.set_cons_zero, List.set_cons_succ]
  refine d_take (i := 4) (v := ?_) [5, 7] (some 24) rfl (by rfl) (by kernel_rfl) (by kernel_rfl) (by kernel_rfl) (by kernel_rfl) (by kernel_rfl) (by kernel_rfl) (fun _ _ _ h => h) (.inl ⟨by rfl, ?_⟩) HS1 ?_
  rotate_left 1
  · (intro W hW; (try dsimp only at hW); go_simp; try with_reducible rfl)
  try simp only [Act.put, List.setIfInBounds_toArray, List.set_cons_zero, List.set_cons_succ]
  refine d_take (i := 5) (v := ?_) [7] (some 25) rfl (by rfl) (by kernel_rfl) (by kernel_rfl) (by kernel_rfl) (by kernel_rfl) (by kernel_rfl) (by kernel_rfl) (fun _ _ _ h => h) (.inl ⟨by rfl, ?_⟩) HS1 ?_
  rotate_left 1
  · (intro W hW; (try dsimp only at hW); go_simp; try with_reducible rfl)
  try simp only [Act.put, List.setIfInBounds_toArray, List.set_cons_zero, List.set_cons_succ]
  refine d_take (i := 6) (v := .agg (u8s q).toArray) [7] (some 26) rfl (by rfl) (by kernel_rfl) (by kernel_rfl) (by kernel_rfl) (by kernel_rfl) (by kernel_rfl) (by kernel_rfl) (fun _ _ _ h => h) (yieldsIf_load_mid (by rfl) 61 _ rfl sb 0 rfl (u8s q) _ (fun W h => h.2.2) HUS.out rfl HI1.out) HS1 ?_
  try simp only [Act.put, List.setIfInBounds_toArray, List.set_cons_zero, List.set_cons_succ]
  refine d_one (i := 7) (by kernel_rfl) rfl rfl (fun K hK => ?_)
  simp only [List.getElem_toArray, List.getElem_cons_succ, List.getElem_cons_zero]
  go_simp
  refine hK.out _ _ (fun h => absurd h (by decide)) ?_
  clear hK K hrun
  try simp only [Act.put, List.setIfInBounds_toArray, List.set_cons_zero, List.set_cons_succ]
  refine d_done (by kernel_rfl) ?_ _
  clear HS1
  go_wp2_with fail
  go_returns
  exact ⟨rfl, KD.out⟩
end
end Go.Proofs.YtchkeclhnbekkaaDoor
