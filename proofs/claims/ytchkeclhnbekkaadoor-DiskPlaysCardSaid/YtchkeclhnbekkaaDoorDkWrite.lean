/-
  Package disk: Write, walked.
-/
import Derived.Test.YtchkeclhnbekkaaDoorDkBuild
import Derived.BigRegion
namespace Go.Proofs.YtchkeclhnbekkaaDoor
set_option maxRecDepth 100000
open Go.RowKit Go.Maps
set_option linter.unusedVariables false
section
variable {w w' : World} {g b m c Z : Nat} {A : Option Addr} {S wr : Int} {f : Int → List Nat} {l : List WrV} {lost : Bool}
set_option maxHeartbeats 1600000 in
theorem write_err (h : DS w g b A m c S f l wr lost Z) (i : Int) (hi : lost = true ∨ i < 0 ∨ S ≤ i) {pn pl : Addr} (hN : Sen w 0 pn) (hL : Sen w 2 pl) (B : Option Addr) (k cap : Nat) :
    Calls Tryd.prog 10 #[.pointer (some ⟨g, 0, none⟩), .int .i64 i, .slice B k cap] w fun e w' => e = .returned (chkV pn pl S i lost) ∧ Ext w w' := by
  have C := Lib.hid (check_any h i hN hL)
  obtain ⟨p, hp⟩ : ∃ p, chkV pn pl S i lost = errV p := by
    unfold chkV
    by_cases e : lost = true
    · rw [if_pos e]; exact ⟨_, rfl⟩
    · rw [if_neg e, if_pos (by rcases hi with h | h; exact absurd h e; exact h)]; exact ⟨_, rfl⟩
  rw [hp] at C ⊢
  clear h hN hL hp hi
  go_enter Tryd.func10, Tryd.ntmps10
  go_wp2_with fail
  refine C.out.mono ?_
  rintro e w1 ⟨rfl, x1⟩
  have X1 := Lib.hid x1
  clear C x1
  go_wp2_with fail
  go_returns
  exact ⟨rfl, X1.out⟩
set_option maxHeartbeats 1600000 in
theorem write_large (h : DS w g b A m c S f l wr false Z) (i : Int) (h0 : 0 ≤ i) (hS : i < S) {pn pl pg : Addr} (hN : Sen w 0 pn) (hL : Sen w 2 pl) (hG : Sen w 1 pg) (B : Option Addr) (k cap : Nat) (hk : k ≠ 64) :
    Calls Tryd.prog 10 #[.pointer (some ⟨g, 0, none⟩), .int .i64 i, .slice B k cap] w fun e w' => e = .returned (errV pg) ∧ Ext w w' := by
  have C := Lib.hid (check_any h i hN hL)
  rw [show chkV pn pl S i false = .nilIface by simp [chkV]; omega] at C
  have hk2 : ((k : Int) == 64) = false := by rw [beq_eq_false_iff_ne]; omega
  have SG := Lib.hid (fun w' (hx : Ext w w') => (hG.ext hx).2.1)
  clear h hN hL hG hk h0 hS
  go_enter Tryd.func10, Tryd.ntmps10
  go_wp2_with fail
  refine C.out.mono ?_
  rintro e w1 ⟨rfl, x1⟩
  have X1 := Lib.hid x1
  have sg := SG.out w1 x1
  clear C x1
  go_wp2_with fail
  go_returns
  exact ⟨rfl, X1.out⟩
/-- What a call leaves. -/
structure DStep (w w' : World) (g b : Nat) (A : Option Addr) (S : Int) (f' : Int → List Nat) (l' : List WrV) (wr' : Int) (lost' : Bool) (Z' : Nat) : Prop where
  ex : ∃ A' m' c', DS w' g b A' m' c' S f' l' wr' lost' Z' ∧ ∀ a, A' = some a → A.map (·.block) = some a.block ∨ w.heap.size ≤ a.block
  fr : Fr w w' (fun q => q = g ∨ q = b ∨ A.map (·.block) = some q)
/-- What Write leaves, in the end. -/
theorem write_done {V w3 : World} {i : Int} {s : List Nat} {A3 : Option Addr} {c3 : Nat} (h : DS V g b A m c S f l wr false Z) (hs : IsSec s) (h0 : 0 ≤ i) (hS : i < S) (o3 : Own w3 0 63 65 A3 (m + 1) c3 ((wrows l).flatten ++ wrow ⟨i, s⟩))
    (f3 : Fr V w3 (fun q => A.map (·.block) = some q)) (hf : Fr w V (fun q => q = g ∨ A.map (·.block) = some q)) (hA3 : A3 = A ∨ A3 = some ⟨V.heap.size, 0, none⟩) :
    DStep w ((w3.setCell ⟨g, 2, none⟩ (.slice A3 (m + 1) c3)).setCell ⟨g, 3, none⟩ (.int .i64 (wr + 1))) g b A S f (l ++ [⟨i, s⟩]) (wr + 1) false Z := by
  have nA : ∀ q, (∀ a, A = some a → a.block ≠ q) → ¬ A.map (·.block) = some q := fun q hq e => by
    obtain ⟨a, ha, hab⟩ := Option.map_eq_some_iff.1 e
    exact hq a ha hab
  have hlt := h.lt
  have hzV := hf.size
  have b3 := (f3.block g hlt.1 (nA g (fun a ha => (h.ag a ha).1))).trans h.blk
  have g1 := Fr.store w3 ⟨g, 2, none⟩ (.slice A3 (m + 1) c3)
  have g2 := Fr.store (w3.setCell ⟨g, 2, none⟩ (.slice A3 (m + 1) c3)) ⟨g, 3, none⟩ (.int .i64 (wr + 1))
  have gg : Fr w3 ((w3.setCell ⟨g, 2, none⟩ (.slice A3 (m + 1) c3)).setCell ⟨g, 3, none⟩ (.int .i64 (wr + 1))) (· = g) := g1.trans g2 (fun _ _ h => h)
  have k1 := heap_setCell_same w3 g 2 _ _ (.slice A3 (m + 1) c3) b3
  have k2 := heap_setCell_same (w3.setCell ⟨g, 2, none⟩ (.slice A3 (m + 1) c3)) g 3 _ _ (.int .i64 (wr + 1)) k1
  have a3 : ∀ a, A3 = some a → (A.map (·.block) = some a.block ∨ V.heap.size ≤ a.block) ∧ a.block ≠ g ∧ a.block ≠ b := fun a ha => by
    rcases hA3 with e | e
    · rw [e] at ha
      exact ⟨.inl (by rw [ha]; rfl), h.ag a ha⟩
    · rw [e] at ha
      injection ha with ha
      subst ha
      exact ⟨.inr (Nat.le_refl _), by show V.heap.size ≠ g; omega, by show V.heap.size ≠ b; omega⟩
  obtain ⟨h1, n, hm, hn, hx⟩ := h.map
  have hcat : (wrows l).flatten ++ wrow ⟨i, s⟩ = (wrows (l ++ [⟨i, s⟩])).flatten := by simp [wrows]
  refine ⟨⟨A3, m + 1, c3, ⟨k2, ⟨h1, n, (hm.fr f3 (nA b (fun a ha => (h.ag a ha).2))).fr gg h.bg, hn, hx⟩, ?_, h.sec, fun z hz => ?_, fun z hz => ?_, h.srng, h.bg, fun a ha => (a3 a ha).2⟩, fun a ha => ?_⟩, ((hf.mono (fun q _ e => e.imp id .inr)).trans f3 (fun _ _ h => .inr (.inr h))).trans gg (fun _ _ h => .inl h)⟩
  · rw [← hcat]
    exact gg.own o3 (fun a ha => (a3 a ha).2.1)
  · rcases List.mem_append.1 hz with hz | hz
    · exact h.lsec z hz
    · simp at hz; subst hz; exact hs
  · rcases List.mem_append.1 hz with hz | hz
    · exact h.lrng z hz
    · simp at hz; subst hz; exact ⟨h0, hS⟩
  · rcases (a3 a ha).1 with e | e
    · exact .inl e
    · right; omega
set_option maxHeartbeats 3200000 in
theorem write_ok (h : DS w g b A m c S f l wr false Z) (i : Int) (h0 : 0 ≤ i) (hS : i < S) {pn pl : Addr} (hN : Sen w 0 pn) (hL : Sen w 2 pl) (bb cap : Nat) {s : List Nat} (hs : IsSec s)
    (hB : Rd w 1 (some ⟨bb, 0, none⟩) 64 (u8s s)) (hbb : bb ≠ g ∧ ∀ a, A = some a → a.block ≠ bb) (hwr : 0 ≤ wr ∧ wr < 4611686018427387904) (hmZ : m ≤ 2600000000000) :
    Calls Tryd.prog 10 #[.pointer (some ⟨g, 0, none⟩), .int .i64 i, .slice (some ⟨bb, 0, none⟩) 64 cap] w fun e w' => e = .returned .nilIface ∧ DStep w w' g b A S f (l ++ [⟨i, s⟩]) (wr + 1) false Z := by
  have C := Lib.hid (check_any h i hN hL)
  rw [show chkV pn pl S i false = .nilIface by simp [chkV]; omega] at C
  have HD := Lib.hid h
  have HB := Lib.hid (And.intro hs (And.intro hB (And.intro hbb (And.intro h0 hS))))
  clear h hN hL hB hs hbb h0 hS
  go_enter Tryd.func10, Tryd.ntmps10
  go_wp2_with fail
  refine C.out.mono ?_
  rintro e w1 ⟨rfl, x1⟩
  have D1 := Lib.hid (HD.out.ex x1)
  have X1 := Lib.hid x1
  have BR := Lib.hid (HB.out.2.1.ext x1)
  clear C x1
  go_upto_region 6 with (fail)
  have hR : w1.rangeAt bb 0 (u8s s) := fun j v hv => by
    obtain ⟨ad, e, _, hc⟩ := BR.out.2 (by omega)
    injection e with e
    subst e
    have h1 := hc j v hv
    rwa [Addr.add_mid] at h1
  have HRW := Lib.hid hR
  have HS1 : w1.drew.cell? ⟨g, 2, none⟩ = some (.slice A m c) ∧ w1.drew.rangeAt bb 0 (u8s s) := ⟨D1.out.cells.2.2.1, by simpa using hR⟩
  have HUS := Lib.hid Tryd.underlying61
  have HI1 := Lib.hid (show (Tryd.prog.info? 61).map (·.size) = some (u8s s).length from by rw [u8s_len, HB.out.1.1]; exact infoSec)
  have RB := run_built i HB.out.1
  have RA := run_arrAt ⟨bb, 0, none⟩ cap
  have RS := run_builtSlice (x := ⟨i, s⟩) HB.out.1
  clear hR
  refine d_region (fun W : World => W.cell? ⟨g, 2, none⟩ = some (.slice A m c) ∧ W.rangeAt bb 0 (u8s s)) [14] (by kernel_rfl) ?_
  refine d_take (i := 0) (v := ?_) [12, 13, 14] (some 18) rfl (by rfl) (by kernel_rfl) (by kernel_rfl) (by kernel_rfl) (by kernel_rfl) (by kernel_rfl) (by kernel_rfl) (fun _ _ _ h => h) (.inl ⟨by rfl, ?_⟩) HS1 ?_
  rotate_left 1
  · (intro W hW; (try dsimp only at hW); go_simp; try with_reducible rfl)
  try simp only [Act.put, List.setIfInBounds_toArray, List.set_cons_zero, List.set_cons_succ]
  refine d_take (i := 1) (v := ?_) [2, 3, 4, 11, 12, 13, 14] (some 19) rfl (by rfl) (by kernel_rfl) (by kernel_rfl) (by kernel_rfl) (by kernel_rfl) (by kernel_rfl) (by kernel_rfl) (fun _ _ _ h => h) (.inl ⟨by rfl, ?_⟩) HS1 ?_
  rotate_left 1
  · (intro W hW; (try dsimp only at hW); go_simp; try with_reducible rfl)
  try simp only [Act.put, List.setIfInBounds_toArray, List.set_cons_zero, List.set_cons_succ]
  refine d_take (i := 2) (v := ?_) [3, 4, 11, 12, 13, 14] (some 20) rfl (by rfl) (by kernel_rfl) (by kernel_rfl) (by kernel_rfl) (by kernel_rfl) (by kernel_rfl) (by kernel_rfl) (fun _ _ _ h => h) (.inl ⟨by rfl, ?_⟩) HS1 ?_
  rotate_left 1
  · (intro W hW; (try dsimp only at hW); go_simp; try with_reducible rfl)
  try simp only [Act.put, List.setIfInBounds_toArray, List.set_cons_zero, List.set_cons_succ]
  refine d_take (i := 3) (v := ?_) [4, 11, 12, 13, 14] (some 21) rfl (by rfl) (by kernel_rfl) (by kernel_rfl) (by kernel_rfl) (by kernel_rfl) (by kernel_rfl) (by kernel_rfl) (fun _ _ _ h => h) (.inl ⟨by rfl, ?_⟩) HS1 ?_
  rotate_left 1
  · (intro W hW; (try dsimp only at hW); go_simp; try with_reducible rfl)
  try simp only [Act.put, List.setIfInBounds_toArray, List.set_cons_zero, List.set_cons_succ]
  refine d_take (i := 4) (v := ?_) [11, 12, 13, 14] (some 22) rfl (by rfl) (by kernel_rfl) (by kernel_rfl) (by kernel_rfl) (by kernel_rfl) (by kernel_rfl) (by kernel_rfl) (fun _ _ _ h => h) (.inl ⟨by rfl, ?_⟩) HS1 ?_
  rotate_left 1
  · (intro W hW; (try dsimp only at hW); go_simp; try with_reducible rfl)
  try simp only [Act.put, List.setIfInBounds_toArray, List.set_cons_zero, List.set_cons_succ]
  refine d_take (i := 5) (v := ?_) [9, 10, 11, 12, 13, 14] (some 23) rfl (by rfl) (by kernel_rfl) (by kernel_rfl) (by kernel_rfl) (by kernel_rfl) (by kernel_rfl) (by kernel_rfl) (fun _ _ _ h => h) (.inl ⟨by rfl, ?_⟩) HS1 ?_
  rotate_left 1
  · (intro W hW; (try dsimp only at hW); go_simp; try with_reducible rfl)
  try simp only [Act.put, List.setIfInBounds_toArray, List.set_cons_zero, List.set_cons_succ]
  refine d_take (i := 6) (v := ?_) [7, 8, 9, 10, 11, 12, 13, 14] (some 24) rfl (by rfl) (by kernel_rfl) (by kernel_rfl) (by kernel_rfl) (by kernel_rfl) (by kernel_rfl) (by kernel_rfl) (fun _ _ _ h => h) (.inl ⟨by rfl, ?_⟩) HS1 ?_
  rotate_left 1
  · (intro W hW; (try dsimp only at hW); go_simp; try with_reducible rfl)
  try simp only [Act.put, List.setIfInBounds_toArray, List.set_cons_zero, List.set_cons_succ]
  refine d_take (i := 7) (v := ?_) [8, 9, 10, 11, 12, 13, 14] (some 25) rfl (by rfl) (by kernel_rfl) (by kernel_rfl) (by kernel_rfl) (by kernel_rfl) (by kernel_rfl) (by kernel_rfl) (fun _ _ _ h => h) (.inl ⟨by rfl, ?_⟩) HS1 ?_
  rotate_left 1
  · (intro W hW; (try dsimp only at hW); go_simp; try with_reducible rfl)
  try simp only [Act.put, List.setIfInBounds_toArray, List.set_cons_zero, List.set_cons_succ]
  refine d_take (i := 8) (v := .agg (u8s s).toArray) [14] (some 26) rfl (by rfl) (by kernel_rfl) (by kernel_rfl) (by kernel_rfl) (by kernel_rfl) (by kernel_rfl) (by kernel_rfl) (fun _ _ _ h => h) (yieldsIf_load_mid (by rfl) 61 _ rfl bb 0 rfl (u8s s) _ (fun W h => h.2) HUS.out rfl HI1.out) HS1 ?_
  try simp only [Act.put, List.setIfInBounds_toArray, List.set_cons_zero, List.set_cons_succ]
  refine d_take (i := 9) (v := .agg (wrow ⟨i, s⟩).toArray) [14] (some 27) rfl (by rfl) (by kernel_rfl) (by kernel_rfl) (by kernel_rfl) (by kernel_rfl) (by kernel_rfl) (by kernel_rfl) (fun _ _ _ h => h) (yields_build (by rfl) 63 _ #[(0, .int .i64 i), (1, .agg (u8s s).toArray)] _ rfl (by first | rfl | go_simp) RB) HS1 ?_
  try simp only [Act.put, List.setIfInBounds_toArray, List.set_cons_zero, List.set_cons_succ]
  clear RB RA
  refine d_one (i := 10) (by kernel_rfl) rfl rfl (fun K hK => ?_)
  simp only [List.getElem_toArray, List.getElem_cons_succ, List.getElem_cons_zero]
  refine oper_buildSlice 56 1 _ #[(0, .agg (wrow ⟨i, s⟩).toArray)] _ rfl (by first | rfl | go_simp) (RS _) ?_
  clear RS
  have XA : Ext w1 (w1.drew.alloc (.cells (wrow ⟨i, s⟩).toArray 63)) := ((Ext.refl w1).drew).alloc _
  have RN : Rd (w1.drew.alloc (.cells (wrow ⟨i, s⟩).toArray 63)) 65 (some ⟨w1.drew.heap.size, 0, none⟩) 1 (wrow ⟨i, s⟩) := ⟨by rw [wrow_len HB.out.1], fun _ => ⟨_, rfl, by rw [World.size_alloc]; exact Nat.lt_succ_self _, World.news_of_block (heap_alloc_new w1.drew _)⟩⟩
  have HS2 : (w1.drew.alloc (.cells (wrow ⟨i, s⟩).toArray 63)).cell? ⟨g, 2, none⟩ = some (.slice A m c) ∧ (w1.drew.alloc (.cells (wrow ⟨i, s⟩).toArray 63)).rangeAt bb 0 (u8s s) := ⟨(D1.out.ex XA).cells.2.2.1, World.rangeAt_alloc (by simpa using HRW.out) _⟩
  have D2 := Lib.hid (D1.out.ex XA)
  have X2 := Lib.hid (X1.out.trans XA)
  clear XA
  refine hK.out _ _ (fun _ => HS2) ?_
  clear hK K
  generalize w1.drew.alloc (.cells (wrow ⟨i, s⟩).toArray 63) = V at *
  generalize w1.drew.heap.size = nb at *
  try simp only [Act.put, List.setIfInBounds_toArray, List.set_cons_zero, List.set_cons_succ]
  refine d_one (i := 11) (by kernel_rfl) rfl rfl (fun K hK => ?_)
  simp only [List.getElem_toArray, List.getElem_cons_succ, List.getElem_cons_zero]
  refine oper_app (w := V) (m := 1) (d := 1) (news := wrow ⟨i, s⟩) eltWr D2.out.own RN (wrow_one _) (by omega) (.inr ⟨by omega, by omega⟩) (Nat.zero_le _) (.tmp 22) (.tmp 28) rfl rfl rfl ?_
  intro A3 c3 w3 o3 g3 hA3 _
  have f3 := Fr.grows g3
  have nAg : ¬ A.map (·.block) = some g := fun e => by
    obtain ⟨a, ha, hab⟩ := Option.map_eq_some_iff.1 e
    exact (D2.out.ag a ha).1 hab
  have nAbb : ¬ A.map (·.block) = some bb := fun e => by
    obtain ⟨a, ha, hab⟩ := Option.map_eq_some_iff.1 e
    exact HB.out.2.2.1.2 a ha hab
  have b3 := (f3.block g (block_lt D2.out.blk) nAg).trans D2.out.blk
  have HS3 : w3.cell? ⟨g, 2, none⟩ = some (.slice A m c) ∧ w3.rangeAt bb 0 (u8s s) := ⟨block_cell b3 2, fun j v hv => by
    have h1 := HS2.2 j v hv
    exact (World.cell?_of_block (f3.block bb (World.block_lt_of_cell? V _ h1) nAbb)).trans h1⟩
  have z3 : w3.frozen? ⟨g, 2, none⟩ = false := block_fz b3 2
  have H3 := Lib.hid (write_done D2.out HB.out.1 HB.out.2.2.2.1 HB.out.2.2.2.2 o3 f3 (Fr.of_ext X2.out (fun q => q = g ∨ A.map (·.block) = some q)) hA3)
  have B3 := Lib.hid b3
  refine hK.out _ _ (fun _ => HS3) ?_
  clear hK K o3 g3 hA3 b3 f3 nAg nAbb
  try simp only [Act.put, List.setIfInBounds_toArray, List.set_cons_zero, List.set_cons_succ]
  refine d_take (i := 12) (v := ?_) [13, 14] (some 30) rfl (by rfl) (by kernel_rfl) (by kernel_rfl) (by kernel_rfl) (by kernel_rfl) (by kernel_rfl) (by kernel_rfl) (fun _ _ _ h => h) (.inl ⟨by rfl, ?_⟩) HS3 ?_
  rotate_left 1
  · (intro W hW; (try dsimp only at hW); go_simp; try with_reducible rfl)
  try simp only [Act.put, List.setIfInBounds_toArray, List.set_cons_zero, List.set_cons_succ]
  refine d_take (i := 13) (v := ?_) [14] (some 31) rfl (by rfl) (by kernel_rfl) (by kernel_rfl) (by kernel_rfl) (by kernel_rfl) (by kernel_rfl) (by kernel_rfl) (fun _ _ _ h => h) (.inl ⟨by rfl, ?_⟩) HS3 ?_
  rotate_left 1
  · (intro W hW; (try dsimp only at hW); go_simp; try with_reducible rfl)
  try simp only [Act.put, List.setIfInBounds_toArray, List.set_cons_zero, List.set_cons_succ]
  refine d_one (i := 14) (by kernel_rfl) rfl rfl (fun K hK => ?_)
  simp only [List.getElem_toArray, List.getElem_cons_succ, List.getElem_cons_zero]
  go_simp
  refine hK.out _ _ (fun h => absurd h (by decide)) ?_
  clear hK K
  try simp only [Act.put, List.setIfInBounds_toArray, List.set_cons_zero, List.set_cons_succ]
  refine d_done (by kernel_rfl) ?_ _
  clear HS1 HS2 HS3 z3
  have B4 := heap_setCell_same w3 g 2 _ _ (.slice A3 (m + 1) c3) B3.out
  generalize w3.setCell ⟨g, 2, none⟩ (.slice A3 (m + 1) c3) = w4 at *
  have q3 : w4.cell? ⟨g, 3, none⟩ = some (.int .i64 wr) := block_cell B4 3
  have z3 := block_fz B4 3
  have wr1 : IntKind.i64.wrap (wr + 1) = wr + 1 := by rw [IntKind.wrap_i64]; omega
  clear B4
  go_wp2_with fail
  go_returns
  exact ⟨rfl, H3.out⟩
end
end Go.Proofs.YtchkeclhnbekkaaDoor
