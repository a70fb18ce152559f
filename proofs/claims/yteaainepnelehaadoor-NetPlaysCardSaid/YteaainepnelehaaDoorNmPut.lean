/-
  The document's net: put, Send, Copy, walked.
-/
import Derived.Test.YteaainepnelehaaDoorNmState
import Derived.Test.YteaainepnelehaaDoorOrd
import Derived.BigRegion
namespace Go.Proofs.YteaainepnelehaaDoor
set_option maxRecDepth 100000
open Go.RowKit
set_option linter.unusedVariables false
/-- What a letter that is put leaves. -/
structure MPut (w w' : World) (B g : Nat) (A : Option Addr) (m : Nat) (ls' : List LetV) (last' : Nat) : Prop where
  ex : ∃ A' c', NMS w' B g A' (m + 1) c' ls' last' ∧ ∀ a, A' = some a → A.map (·.block) = some a.block ∨ w.heap.size ≤ a.block
  fr : Fr w w' (fun b => b = g ∨ A.map (·.block) = some b)
section
variable {w w' : World} {B g m c last : Nat} {A : Option Addr} {ls : List LetV}
/-- The net behind a change of its letters. -/
theorem NMS.turn {A' : Option Addr} {m' c' last' : Nat} {ls' : List LetV} (h : NMS w B g A m c ls last) (blk' : w'.heap[g]? = some (.cells #[.slice A' m' c', .int .i64 (last' : Int)] 30 (0, 0)))
    (own' : Own w' B 38 4 A' m' c' (mrows ls').flatten) (hA : ∀ a, A' = some a → A.map (·.block) = some a.block ∨ w.heap.size ≤ a.block) (hm : m' ≤ 4096) (hl : last' ≤ 4611686018427387904) : NMS w' B g A' m' c' ls' last' :=
  ⟨blk', own', fun a ha e => by
    rcases hA a ha with h1 | h1
    · obtain ⟨b, hb, hab⟩ := Option.map_eq_some_iff.1 h1
      exact h.ag b hb (hab.trans e)
    · have := h.lt; omega, h.bg, hm, hl⟩
set_option maxHeartbeats 1600000 in
theorem mput_full (h : NMS w B g A m c ls last) (hm : m = 4096) (N F T : Int) (s : ByteArray) :
    Calls Tryd.prog 27 #[.pointer (some ⟨g, 0, none⟩), .agg #[.int .i64 N, .int .i64 F, .int .i64 T, .string s]] w fun e w' => e = .returned (.tuple #[.int .i64 0, .int .i64 7]) ∧ Ext w w' := by
  subst hm
  have X0 := (Ext.refl w).alloc (.cells #[.int .i64 N, .int .i64 F, .int .i64 T, .string s] 38)
  have c0 := (h.ex X0).c0
  have HX := Lib.hid X0
  clear h X0
  go_enter Tryd.func27, Tryd.ntmps27
  go_upto_region 1 with (fail)
  generalize w.alloc (.cells #[.int .i64 N, .int .i64 F, .int .i64 T, .string s] 38) = V at *
  go_wp2_with fail
  go_returns
  exact ⟨rfl, HX.out⟩
set_option maxHeartbeats 6400000 in
theorem mput_ok (h : NMS w B g A m c ls last) (hm : m < 4096) (hlast : last < 4611686018427387904) (N F T : Int) (s : ByteArray) {x : LetV} (hN : x.N = last + 1) (hF : x.F = F) (hT : x.T = T) (hs : str x.l = s) {Post : Ending → World → Prop}
    (hPost : Hid (∀ w', MPut w w' B g A m (ls ++ [x]) (last + 1) → Post (.returned (.tuple #[.int .i64 ((last : Int) + 1), .int .i64 0])) w')) :
    Calls Tryd.prog 27 #[.pointer (some ⟨g, 0, none⟩), .agg #[.int .i64 N, .int .i64 F, .int .i64 T, .string s]] w Post := by
  have X0 := (Ext.refl w).alloc (.cells #[.int .i64 N, .int .i64 F, .int .i64 T, .string s] 38)
  have hb0 := heap_alloc_new w (.cells #[.int .i64 N, .int .i64 F, .int .i64 T, .string s] 38)
  obtain ⟨L, hL⟩ : ∃ L, last + 1 = L := ⟨_, rfl⟩
  have hLi : (last : Int) + 1 = (L : Int) := by omega
  rw [hL] at hPost
  rw [hLi] at hPost
  have hXC : x.mcells = [.int .i64 (L : Int), .int .i64 F, .int .i64 T, .string s] := by unfold LetV.mcells; rw [hN, hL, hF, hT, hs]
  have HXC := Lib.hid hXC
  have h0 := h.ex X0
  have hgl := h.lt
  have HW := Lib.hid (And.intro h (And.intro h0 (And.intro X0 hb0)))
  have HL := Lib.hid hL
  clear h h0 X0 hb0 hN hF hT hs hXC hL
  go_enter Tryd.func27, Tryd.ntmps27
  go_upto_region 1 with (fail)
  generalize w.alloc (.cells #[.int .i64 N, .int .i64 F, .int .i64 T, .string s] 38) = V at *
  generalize hob : w.heap.size = ob at *
  have HOB := Lib.hid hob
  clear hob
  have c0 := HW.out.2.1.c0
  have c1 := HW.out.2.1.c1
  have f1 : V.frozen? ⟨g, 1, none⟩ = false := block_fz HW.out.2.1.blk 1
  have hmi : ¬ (4096 : Int) ≤ (m : Int) := by omega
  have hmi2 : ¬ 4096 ≤ m := by omega
  have wr1 : IntKind.i64.wrap ((last : Int) + 1) = (L : Int) := by rw [IntKind.wrap_i64]; omega
  go_upto_region 4 with (fail)
  clear c0 c1 f1 wr1
  have b1 : (V.setCell ⟨g, 1, none⟩ (.int .i64 (L : Int))).heap[g]? = some (.cells #[.slice A m c, .int .i64 (L : Int)] 30 (0, 0)) := heap_setCell_same V g 1 _ _ _ HW.out.2.1.blk
  have F1 : Fr V (V.setCell ⟨g, 1, none⟩ (.int .i64 (L : Int))) (· = g) := Fr.store V ⟨g, 1, none⟩ _
  have O1 := F1.own HW.out.2.1.own (fun a ha e => HW.out.2.1.ag a ha e)
  have hgo : g ≠ ob := by omega
  have bo1 := (F1.block ob (block_lt HW.out.2.2.2) (fun e => hgo e.symm)).trans HW.out.2.2.2
  have H1 := Lib.hid (And.intro b1 (And.intro F1 (And.intro O1 bo1)))
  clear b1 F1 O1 bo1
  generalize V.setCell ⟨g, 1, none⟩ (.int .i64 (L : Int)) = V1 at *
  have c1 : V1.cell? ⟨g, 1, none⟩ = some (.int .i64 (L : Int)) := block_cell H1.out.1 1
  have d0 : V1.cell? ⟨ob, 0, none⟩ = some (.int .i64 N) := block_cell H1.out.2.2.2 0
  have f0 : V1.frozen? ⟨ob, 0, none⟩ = false := block_fz H1.out.2.2.2 0
  go_upto_region 5 with (fail)
  clear c1 d0 f0
  have F2 : Fr V1 (V1.setCell ⟨ob, 0, none⟩ (.int .i64 (L : Int))) (· = ob) := Fr.store V1 ⟨ob, 0, none⟩ _
  have bo2 : (V1.setCell ⟨ob, 0, none⟩ (.int .i64 (L : Int))).heap[ob]? = some (.cells #[.int .i64 (L : Int), .int .i64 F, .int .i64 T, .string s] 38 (0, 0)) := heap_setCell_same V1 ob 0 _ _ _ H1.out.2.2.2
  have bg2 := (F2.block g (block_lt H1.out.1) hgo).trans H1.out.1
  have O2 := F2.own H1.out.2.2.1 (fun a ha e => by
    have h1 := HW.out.1.own.lt_at ha
    rw [HOB.out] at h1
    have e : a.block = ob := e
    omega)
  have H2 := Lib.hid (And.intro bg2 (And.intro bo2 (And.intro F2 O2)))
  clear F2 bo2 bg2 O2
  generalize V1.setCell ⟨ob, 0, none⟩ (.int .i64 (L : Int)) = U at *
  have c0 : U.cell? ⟨g, 0, none⟩ = some (.slice A m c) := block_cell H2.out.1 0
  have e0 : U.cell? ⟨ob, 0, none⟩ = some (.int .i64 (L : Int)) := block_cell H2.out.2.1 0
  have e1 : U.cell? ⟨ob, 1, none⟩ = some (.int .i64 F) := block_cell H2.out.2.1 1
  have e2 : U.cell? ⟨ob, 2, none⟩ = some (.int .i64 T) := block_cell H2.out.2.1 2
  have e3 : U.cell? ⟨ob, 3, none⟩ = some (.string s) := block_cell H2.out.2.1 3
  have XA : Ext U (U.alloc (.cells #[.int .i64 (L : Int), .int .i64 F, .int .i64 T, .string s] 38)) := (Ext.refl U).alloc _
  have RN : Rd (U.alloc (.cells #[.int .i64 (L : Int), .int .i64 F, .int .i64 T, .string s] 38)) 4 (some ⟨U.heap.size, 0, none⟩) 1 x.mcells := by
    rw [HXC.out]
    exact ⟨rfl, fun _ => ⟨_, rfl, by rw [World.size_alloc]; exact Nat.lt_succ_self _, World.news_of_block (heap_alloc_new U _)⟩⟩
  have hnz : ∀ u ∈ x.mcells, u.oneCell' = true := fun u hu => by
    rw [HXC.out] at hu
    simp only [List.mem_cons, List.not_mem_nil, or_false] at hu
    rcases hu with rfl | rfl | rfl | rfl <;> rfl
  have OX := Lib.hid (And.intro (H2.out.2.2.2.ext XA) (And.intro RN hnz))
  have XD := XA.drew
  have bgd := (XD.block g (block_lt H2.out.1)).trans H2.out.1
  have bod := (XD.block ob (block_lt H2.out.2.1)).trans H2.out.2.1
  have hBz : B ≤ (U.alloc (.cells #[.int .i64 (L : Int), .int .i64 F, .int .i64 T, .string s] 38)).drew.heap.size := by
    have h1 := HW.out.1.bg
    have h2 := block_lt bgd
    omega
  have hgz := block_lt bgd
  have hoz := block_lt bod
  have HBU := Lib.hid (And.intro bgd (And.intro bod (And.intro XD (fun (a : Addr) (ha : A = some a) => (show a.block ≠ g ∧ a.block ≠ ob from ⟨HW.out.1.ag a ha, by have h1 := HW.out.1.own.lt_at ha; rw [HOB.out] at h1; omega⟩)))))
  have U1 := Lib.hid (show m + 1 ≤ 9223372036854775807 ∧ ∀ c, (m + 1 ≤ c ∨ (m + 1) * 40 ≤ 225000000000000 ∧ 40 ≤ 100000) from ⟨by omega, fun _ => .inr ⟨by omega, by omega⟩⟩)
  have HS : U.drew.cell? ⟨g, 0, none⟩ = some (.slice A m c) ∧ U.drew.cell? ⟨ob, 0, none⟩ = some (.int .i64 (L : Int)) ∧ U.drew.cell? ⟨ob, 1, none⟩ = some (.int .i64 F) ∧ U.drew.cell? ⟨ob, 2, none⟩ = some (.int .i64 T) ∧ U.drew.cell? ⟨ob, 3, none⟩ = some (.string s) := ⟨c0, e0, e1, e2, e3⟩
  have HS2 : (U.alloc (.cells #[.int .i64 (L : Int), .int .i64 F, .int .i64 T, .string s] 38)).drew.cell? ⟨g, 0, none⟩ = some (.slice A m c) ∧ (U.alloc (.cells #[.int .i64 (L : Int), .int .i64 F, .int .i64 T, .string s] 38)).drew.cell? ⟨ob, 0, none⟩ = some (.int .i64 (L : Int)) ∧ (U.alloc (.cells #[.int .i64 (L : Int), .int .i64 F, .int .i64 T, .string s] 38)).drew.cell? ⟨ob, 1, none⟩ = some (.int .i64 F) ∧ (U.alloc (.cells #[.int .i64 (L : Int), .int .i64 F, .int .i64 T, .string s] 38)).drew.cell? ⟨ob, 2, none⟩ = some (.int .i64 T) ∧ (U.alloc (.cells #[.int .i64 (L : Int), .int .i64 F, .int .i64 T, .string s] 38)).drew.cell? ⟨ob, 3, none⟩ = some (.string s) := ⟨block_cell bgd 0, block_cell bod 0, block_cell bod 1, block_cell bod 2, block_cell bod 3⟩
  clear XA RN hnz XD bgd bod
  refine d_region (fun w' : World => w'.cell? ⟨g, 0, none⟩ = some (.slice A m c) ∧ w'.cell? ⟨ob, 0, none⟩ = some (.int .i64 (L : Int)) ∧ w'.cell? ⟨ob, 1, none⟩ = some (.int .i64 F) ∧ w'.cell? ⟨ob, 2, none⟩ = some (.int .i64 T) ∧ w'.cell? ⟨ob, 3, none⟩ = some (.string s)) [8, 9, 10] (by kernel_rfl) ?_
  refine d_take (i := 0) (v := ?_) [8, 9, 10] (some 24) rfl (by rfl) (by kernel_rfl) (by kernel_rfl) (by kernel_rfl) (by kernel_rfl) (by kernel_rfl) (by kernel_rfl) (fun _ _ _ h => h) (.inl ⟨by rfl, ?_⟩) HS ?_
  rotate_left 1
  · (intro W hW; (try dsimp only at hW); go_simp; try with_reducible rfl)
  try simp only [Act.put, List.setIfInBounds_toArray, List.set_cons_zero, List.set_cons_succ]
  refine d_take (i := 1) (v := ?_) [2, 3, 4, 7, 8, 9, 10] (some 25) rfl (by rfl) (by kernel_rfl) (by kernel_rfl) (by kernel_rfl) (by kernel_rfl) (by kernel_rfl) (by kernel_rfl) (fun _ _ _ h => h) (.inl ⟨by rfl, ?_⟩) HS ?_
  rotate_left 1
  · (intro W hW; (try dsimp only at hW); go_simp; try with_reducible rfl)
  try simp only [Act.put, List.setIfInBounds_toArray, List.set_cons_zero, List.set_cons_succ]
  refine d_take (i := 2) (v := ?_) [3, 4, 7, 8, 9, 10] (some 26) rfl (by rfl) (by kernel_rfl) (by kernel_rfl) (by kernel_rfl) (by kernel_rfl) (by kernel_rfl) (by kernel_rfl) (fun _ _ _ h => h) (.inl ⟨by rfl, ?_⟩) HS ?_
  rotate_left 1
  · (intro W hW; (try dsimp only at hW); go_simp; try with_reducible rfl)
  try simp only [Act.put, List.setIfInBounds_toArray, List.set_cons_zero, List.set_cons_succ]
  refine d_take (i := 3) (v := ?_) [4, 7, 8, 9, 10] (some 27) rfl (by rfl) (by kernel_rfl) (by kernel_rfl) (by kernel_rfl) (by kernel_rfl) (by kernel_rfl) (by kernel_rfl) (fun _ _ _ h => h) (.inl ⟨by rfl, ?_⟩) HS ?_
  rotate_left 1
  · (intro W hW; (try dsimp only at hW); go_simp; try with_reducible rfl)
  try simp only [Act.put, List.setIfInBounds_toArray, List.set_cons_zero, List.set_cons_succ]
  refine d_take (i := 4) (v := ?_) [7, 8, 9, 10] (some 28) rfl (by rfl) (by kernel_rfl) (by kernel_rfl) (by kernel_rfl) (by kernel_rfl) (by kernel_rfl) (by kernel_rfl) (fun _ _ _ h => h) (.inl ⟨by rfl, ?_⟩) HS ?_
  rotate_left 1
  · (intro W hW; (try dsimp only at hW); go_simp; try with_reducible rfl)
  try simp only [Act.put, List.setIfInBounds_toArray, List.set_cons_zero, List.set_cons_succ]
  refine d_take (i := 5) (v := ?_) [6, 7, 8, 9, 10] (some 29) rfl (by rfl) (by kernel_rfl) (by kernel_rfl) (by kernel_rfl) (by kernel_rfl) (by kernel_rfl) (by kernel_rfl) (fun _ _ _ h => h) (.inl ⟨by rfl, ?_⟩) HS ?_
  rotate_left 1
  · (intro W hW; (try dsimp only at hW); go_simp; try with_reducible rfl)
  try simp only [Act.put, List.setIfInBounds_toArray, List.set_cons_zero, List.set_cons_succ]
  refine d_one (i := 6) (by kernel_rfl) rfl rfl (fun K hK => ?_)
  simp only [List.getElem_toArray, List.getElem_cons_succ, List.getElem_cons_zero]
  go_simp
  refine hK.out _ _ (fun _ => HS2) ?_
  clear hK K
  try simp only [Act.put, List.setIfInBounds_toArray, List.set_cons_zero, List.set_cons_succ]
  refine d_one (i := 7) (by kernel_rfl) rfl rfl (fun K hK => ?_)
  simp only [List.getElem_toArray, List.getElem_cons_succ, List.getElem_cons_zero]
  refine oper_app (w := (U.alloc (.cells #[.int .i64 (L : Int), .int .i64 F, .int .i64 T, .string s] 38)).drew) (m := 1) (d := 1) (news := x.mcells) eltMl OX.out.1 OX.out.2.1 OX.out.2.2 U1.out.1 (U1.out.2 _) hBz (.tmp 28) (.tmp 30) rfl rfl rfl ?_
  intro A3 c3 w3 o3 g3 hA3 _
  have bg3 := (g3.block g hgz (fun e => by
    obtain ⟨a, ha, hab⟩ := Option.map_eq_some_iff.1 e.symm
    exact (HBU.out.2.2.2 a ha).1 hab)).trans HBU.out.1
  have bo3 := (g3.block ob hoz (fun e => by
    obtain ⟨a, ha, hab⟩ := Option.map_eq_some_iff.1 e.symm
    exact (HBU.out.2.2.2 a ha).2 hab)).trans HBU.out.2.1
  have s2 := block_fz bg3 0
  have HS3 : w3.cell? ⟨g, 0, none⟩ = some (.slice A m c) ∧ w3.cell? ⟨ob, 0, none⟩ = some (.int .i64 (L : Int)) ∧ w3.cell? ⟨ob, 1, none⟩ = some (.int .i64 F) ∧ w3.cell? ⟨ob, 2, none⟩ = some (.int .i64 T) ∧ w3.cell? ⟨ob, 3, none⟩ = some (.string s) := ⟨block_cell bg3 0, block_cell bo3 0, block_cell bo3 1, block_cell bo3 2, block_cell bo3 3⟩
  refine hK.out _ _ (fun _ => HS3) ?_
  clear hK K
  try simp only [Act.put, List.setIfInBounds_toArray, List.set_cons_zero, List.set_cons_succ]
  refine d_pure (i := 8) (v := ?_) (some 32) rfl (by rfl) (by kernel_rfl) (by kernel_rfl) (by kernel_rfl) (by kernel_rfl) (fun _ _ _ h => h) (.inl ⟨by rfl, ?_⟩) ?_
  rotate_left 1
  · (intro W hW; go_simp; try with_reducible rfl)
  try simp only [Act.put, List.setIfInBounds_toArray, List.set_cons_zero, List.set_cons_succ]
  refine d_pure (i := 9) (v := ?_) (some 33) rfl (by rfl) (by kernel_rfl) (by kernel_rfl) (by kernel_rfl) (by kernel_rfl) (fun _ _ _ h => h) (.inl ⟨by rfl, ?_⟩) ?_
  rotate_left 1
  · (intro W hW; go_simp; try with_reducible rfl)
  try simp only [Act.put, List.setIfInBounds_toArray, List.set_cons_zero, List.set_cons_succ]
  refine d_one (i := 10) (by kernel_rfl) rfl rfl (fun K hK => ?_)
  simp only [List.getElem_toArray, List.getElem_cons_succ, List.getElem_cons_zero]
  go_simp
  refine hK.out _ _ (fun h => absurd h (by decide)) ?_
  clear hK K
  try simp only [Act.put, List.setIfInBounds_toArray, List.set_cons_zero, List.set_cons_succ]
  refine d_done (by kernel_rfl) ?_ _
  have fs := Fr.store w3 ⟨g, 0, none⟩ (.slice A3 (m + 1) c3)
  have bg4 : (w3.setCell ⟨g, 0, none⟩ (.slice A3 (m + 1) c3)).heap[g]? = some (.cells #[.slice A3 (m + 1) c3, .int .i64 (L : Int)] 30 (0, 0)) := heap_setCell_same w3 g 0 _ _ _ bg3
  have FU : Fr U (w3.setCell ⟨g, 0, none⟩ (.slice A3 (m + 1) c3)) (fun b => b = g ∨ A.map (·.block) = some b) := ((Fr.of_ext HBU.out.2.2.1 _).trans ((Fr.grows g3).mono (fun i _ e => .inr e)) (fun i _ e => e)).trans fs (fun i _ e => .inl e)
  have zU := H2.out.2.2.1.size
  have z1 := H1.out.2.1.size
  have zV := HW.out.2.2.1.size
  rw [HOB.out] at zV
  have FW : Fr w (w3.setCell ⟨g, 0, none⟩ (.slice A3 (m + 1) c3)) (fun b => b = g ∨ A.map (·.block) = some b) := ((((Fr.of_ext HW.out.2.2.1 _).trans (H1.out.2.1.mono (fun i _ e => .inl e)) (fun i _ e => e)).trans H2.out.2.2.1 (fun i hi e => by
    rw [HOB.out] at hi
    have e : i = ob := e
    omega)).trans FU (fun i _ e => e))
  have hA3b : ∀ a, A3 = some a → A.map (·.block) = some a.block ∨ w.heap.size ≤ a.block := fun a ha => by
    rcases hA3 with e | e
    · left; rw [← e, ha]; rfl
    · right
      rw [ha] at e
      injection e with e
      rw [e]
      have := HBU.out.2.2.1.size
      show w.heap.size ≤ (U.alloc (.cells #[.int .i64 (L : Int), .int .i64 F, .int .i64 T, .string s] 38)).drew.heap.size
      rw [HOB.out]
      omega
  have o4 : Own w3 B 38 4 A3 (m + 1) c3 (mrows (ls ++ [x])).flatten := by
    have e : (mrows (ls ++ [x])).flatten = (mrows ls).flatten ++ x.mcells := by simp [mrows]
    rw [e]
    exact o3
  have o5 := fs.own o4 (fun a ha e => by
    have e : a.block = g := e
    rcases hA3b a ha with h1 | h1
    · obtain ⟨a0, ha0, hab⟩ := Option.map_eq_some_iff.1 h1
      exact HW.out.1.ag a0 ha0 (hab.trans e)
    · rw [HOB.out] at h1; omega)
  have RES := Lib.hid (show MPut w (w3.setCell ⟨g, 0, none⟩ (.slice A3 (m + 1) c3)) B g A m (ls ++ [x]) (last + 1) from ⟨⟨A3, c3, HW.out.1.turn (by rw [HL.out]; exact bg4) o5 hA3b (by omega) (by have := HW.out.1.low; omega), hA3b⟩, FW⟩)
  have cE : (w3.setCell ⟨g, 0, none⟩ (.slice A3 (m + 1) c3)).cell? ⟨g, 1, none⟩ = some (.int .i64 (L : Int)) := block_cell bg4 1
  rw [HL.out] at RES
  clear fs bg4 FU FW o4 o5 hA3b o3 g3 hA3 bg3 bo3 s2 HS HS2 HS3 c0 e0 e1 e2 e3
  go_wp2_with fail
  exact hPost.out _ RES.out
end
end Go.Proofs.YteaainepnelehaaDoor
