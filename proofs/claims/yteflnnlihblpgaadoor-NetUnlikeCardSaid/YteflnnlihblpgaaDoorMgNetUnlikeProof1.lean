/-
  Package almonerlaw17: NetUnlike, walked.
-/
import Derived.Test.YteflnnlihblpgaaDoorMgNetUnlikeProof0
namespace Go.Proofs.YteflnnlihblpgaaDoor
set_option maxRecDepth 100000
open Go.RowKit
set_option linter.unusedVariables false
theorem raw_byte (m : Ms) (es : List En) : ∀ x ∈ m.raw es, x < 256 := by
  intro x hx
  unfold Ms.raw at hx
  rcases List.mem_append.1 hx with hx | hx
  · exact putN_byte _ x hx
  · rcases List.mem_append.1 hx with hx | hx
    · exact Wr.num_byte _ x hx
    · exact putL_byte _ x hx
theorem mput_len {m : Ms} {es : List En} (h : m.form es = true) : 4 ≤ (m.put es).length ∧ (m.put es).length ≤ 30000 := by
  have h2 := putL_le (form_good h)
  have h3 := putN_le h 8
  have h4 : (Wr.num (putL es).length).length ≤ 9 := numlen9 (by omega)
  have h5 : (m.put es).length = (putN (m.nums.take 8)).length + ((Wr.num (putL es).length).length + (putL es).length) + 4 := by unfold Ms.put; rw [sealed_len]; unfold Ms.raw; rw [List.length_append, List.length_append]; rfl
  omega
/-- Bytes of a message of which one is changed are none's, and their sum is wrong. -/
theorem slip_put {m : Ms} {es : List En} {i y : Nat} (hy : y < 256) (hi : i < (m.put es).length) (hne : (m.put es)[i] ≠ y) : opened ((m.put es).set i y) = ([], 4) := by
  have h1 := sealed_slip (raw_byte m es) hy hi hne
  have hl : (m.raw es).length = ((m.put es).set i y).length - 4 := by
    rw [List.length_set]
    unfold Ms.put
    rw [sealed_len]
    omega
  have h4 : 4 ≤ (m.put es).length := by unfold Ms.put; rw [sealed_len]; omega
  rw [hl] at h1
  have h2 : sealed (((m.put es).set i y).take (((m.put es).set i y).length - 4)) ≠ (m.put es).set i y := h1
  unfold opened
  rw [if_neg (by rw [List.length_set]; omega), if_neg h2]
theorem str_same {l m : List Nat} (hl : ∀ x ∈ l, x < 256) (hm : ∀ x ∈ m, x < 256) {P : Prop} [Decidable P] (h : l = m ↔ P) {b : Bool} (hb : decide P = b) : ((str l).toList == (str m).toList) = b := by
  subst hb
  by_cases hp : P
  · rw [h.2 hp, decide_eq_true hp]
    simp
  · rw [decide_eq_false hp, beq_eq_false_iff_ne]
    rw [ByteArray.toList_eq, ByteArray.toList_eq]
    exact fun h2 => hp (h.1 (str_inj hl hm (Go.WideShapes.bytes_inj h2)))
set_option maxHeartbeats 12800000 in
theorem netunlike_any (m e : Ms) (A : Option Addr) (n c : Nat) (ss : List EnS) (B : Option Addr) (r d : Nat) (tt : List EnS) (at_ to_ : Int) (w : World) (hs : Led w A n ss) (ht : Led w B r tt) (hn : n ≤ 1470000000000 ∧ r ≤ 1470000000000) (hat : -9223372036854775808 ≤ at_ ∧ at_ ≤ 9223372036854775807) (hto : 0 ≤ to_ ∧ to_ < 256) {pb ps pu : Addr} (hB : Sen w 2 pb) (hS : Sen w 1 ps) (hU : Sen w 3 pu) : Calls Tryd.prog 11 #[.agg #[.int .i64 m.kd, .int .i64 m.fr, .int .i64 m.tw, .int .i64 m.jb, .int .i64 m.br, .int .i64 m.bn, .int .i64 m.ar, .int .i64 m.an, .slice A n c, .int .i64 e.kd, .int .i64 e.fr, .int .i64 e.tw, .int .i64 e.jb, .int .i64 e.br, .int .i64 e.bn, .int .i64 e.ar, .int .i64 e.an, .slice B r d, .int .i64 at_, .int .u8 to_]] w fun x w' => x = .returned (.bool true) ∧ Ext w w' := by
  have HS := Lib.hid (fun W (hx : Ext w W) => And.intro (hs.ext hx) (And.intro (ht.ext hx) (And.intro (hB.ext hx) (And.intro (hS.ext hx) (hU.ext hx)))))
  have XB := (Ext.refl w).alloc (.cells #[.int .i64 m.kd, .int .i64 m.fr, .int .i64 m.tw, .int .i64 m.jb, .int .i64 m.br, .int .i64 m.bn, .int .i64 m.ar, .int .i64 m.an, .slice A n c, .int .i64 e.kd, .int .i64 e.fr, .int .i64 e.tw, .int .i64 e.jb, .int .i64 e.br, .int .i64 e.bn, .int .i64 e.ar, .int .i64 e.an, .slice B r d, .int .i64 at_, .int .u8 to_] 87)
  have HV := Lib.hid (And.intro (heap_alloc_new w (.cells #[.int .i64 m.kd, .int .i64 m.fr, .int .i64 m.tw, .int .i64 m.jb, .int .i64 m.br, .int .i64 m.bn, .int .i64 m.ar, .int .i64 m.an, .slice A n c, .int .i64 e.kd, .int .i64 e.fr, .int .i64 e.tw, .int .i64 e.jb, .int .i64 e.br, .int .i64 e.bn, .int .i64 e.ar, .int .i64 e.an, .slice B r d, .int .i64 at_, .int .u8 to_] 87)) XB)
  obtain ⟨y, hy⟩ : ∃ y : Nat, to_ = (y : Int) := ⟨to_.toNat, by omega⟩
  subst hy
  have HTO := Lib.hid hto
  clear XB hs ht hB hS hU hto
  obtain ⟨fa, hfa⟩ : ∃ b, m.form (ents ss) = b := ⟨_, rfl⟩
  obtain ⟨fb, hfb⟩ : ∃ b, e.form (ents tt) = b := ⟨_, rfl⟩
  have HFA := Lib.hid hfa
  have HFB := Lib.hid hfb
  clear hfa hfb
  go_enter Tryd.func11, Tryd.ntmps11
  go_upto_region 1 with (fail)
  generalize w.alloc (.cells #[.int .i64 m.kd, .int .i64 m.fr, .int .i64 m.tw, .int .i64 m.jb, .int .i64 m.br, .int .i64 m.bn, .int .i64 m.ar, .int .i64 m.an, .slice A n c, .int .i64 e.kd, .int .i64 e.fr, .int .i64 e.tw, .int .i64 e.jb, .int .i64 e.br, .int .i64 e.bn, .int .i64 e.ar, .int .i64 e.an, .slice B r d, .int .i64 at_, .int .u8 (y : Int)] 87) = V at *
  generalize w.heap.size = ob at *
  have c0 : ∀ W, Ext V W → W.cell? ⟨ob, 0, none⟩ = some (.int .i64 m.kd) := fun W hx => block_cell ((hx.block _ (block_lt (HV.out.1))).trans (HV.out.1)) 0
  have c1 : ∀ W, Ext V W → W.cell? ⟨ob, 1, none⟩ = some (.int .i64 m.fr) := fun W hx => block_cell ((hx.block _ (block_lt (HV.out.1))).trans (HV.out.1)) 1
  have c2 : ∀ W, Ext V W → W.cell? ⟨ob, 2, none⟩ = some (.int .i64 m.tw) := fun W hx => block_cell ((hx.block _ (block_lt (HV.out.1))).trans (HV.out.1)) 2
  have c3 : ∀ W, Ext V W → W.cell? ⟨ob, 3, none⟩ = some (.int .i64 m.jb) := fun W hx => block_cell ((hx.block _ (block_lt (HV.out.1))).trans (HV.out.1)) 3
  have c4 : ∀ W, Ext V W → W.cell? ⟨ob, 4, none⟩ = some (.int .i64 m.br) := fun W hx => block_cell ((hx.block _ (block_lt (HV.out.1))).trans (HV.out.1)) 4
  have c5 : ∀ W, Ext V W → W.cell? ⟨ob, 5, none⟩ = some (.int .i64 m.bn) := fun W hx => block_cell ((hx.block _ (block_lt (HV.out.1))).trans (HV.out.1)) 5
  have c6 : ∀ W, Ext V W → W.cell? ⟨ob, 6, none⟩ = some (.int .i64 m.ar) := fun W hx => block_cell ((hx.block _ (block_lt (HV.out.1))).trans (HV.out.1)) 6
  have c7 : ∀ W, Ext V W → W.cell? ⟨ob, 7, none⟩ = some (.int .i64 m.an) := fun W hx => block_cell ((hx.block _ (block_lt (HV.out.1))).trans (HV.out.1)) 7
  have c8 : ∀ W, Ext V W → W.cell? ⟨ob, 8, none⟩ = some (.slice A n c) := fun W hx => block_cell ((hx.block _ (block_lt (HV.out.1))).trans (HV.out.1)) 8
  have c9 : ∀ W, Ext V W → W.cell? ⟨ob, 9, none⟩ = some (.int .i64 e.kd) := fun W hx => block_cell ((hx.block _ (block_lt (HV.out.1))).trans (HV.out.1)) 9
  have c10 : ∀ W, Ext V W → W.cell? ⟨ob, 10, none⟩ = some (.int .i64 e.fr) := fun W hx => block_cell ((hx.block _ (block_lt (HV.out.1))).trans (HV.out.1)) 10
  have c11 : ∀ W, Ext V W → W.cell? ⟨ob, 11, none⟩ = some (.int .i64 e.tw) := fun W hx => block_cell ((hx.block _ (block_lt (HV.out.1))).trans (HV.out.1)) 11
  have c12 : ∀ W, Ext V W → W.cell? ⟨ob, 12, none⟩ = some (.int .i64 e.jb) := fun W hx => block_cell ((hx.block _ (block_lt (HV.out.1))).trans (HV.out.1)) 12
  have c13 : ∀ W, Ext V W → W.cell? ⟨ob, 13, none⟩ = some (.int .i64 e.br) := fun W hx => block_cell ((hx.block _ (block_lt (HV.out.1))).trans (HV.out.1)) 13
  have c14 : ∀ W, Ext V W → W.cell? ⟨ob, 14, none⟩ = some (.int .i64 e.bn) := fun W hx => block_cell ((hx.block _ (block_lt (HV.out.1))).trans (HV.out.1)) 14
  have c15 : ∀ W, Ext V W → W.cell? ⟨ob, 15, none⟩ = some (.int .i64 e.ar) := fun W hx => block_cell ((hx.block _ (block_lt (HV.out.1))).trans (HV.out.1)) 15
  have c16 : ∀ W, Ext V W → W.cell? ⟨ob, 16, none⟩ = some (.int .i64 e.an) := fun W hx => block_cell ((hx.block _ (block_lt (HV.out.1))).trans (HV.out.1)) 16
  have c17 : ∀ W, Ext V W → W.cell? ⟨ob, 17, none⟩ = some (.slice B r d) := fun W hx => block_cell ((hx.block _ (block_lt (HV.out.1))).trans (HV.out.1)) 17
  have c18 : ∀ W, Ext V W → W.cell? ⟨ob, 18, none⟩ = some (.int .i64 at_) := fun W hx => block_cell ((hx.block _ (block_lt (HV.out.1))).trans (HV.out.1)) 18
  have c19 : ∀ W, Ext V W → W.cell? ⟨ob, 19, none⟩ = some (.int .u8 (y : Int)) := fun W hx => block_cell ((hx.block _ (block_lt (HV.out.1))).trans (HV.out.1)) 19
  have HY : Ext V V.drew := (Ext.refl V).drew
  refine d_region (fun W => Ext V W) [] (by kernel_rfl) ?_
  refine d_take (i := 0) (v := ?_) [] (some 13) rfl (by rfl) (by kernel_rfl) (by kernel_rfl) (by kernel_rfl) (by kernel_rfl) (by kernel_rfl) (by kernel_rfl) (fun _ _ _ h => h) (.inl ⟨by rfl, ?_⟩) HY ?_
  rotate_left 1
  · (intro W hW; (try dsimp only at hW); go_simp; try with_reducible rfl)
  try simp only [Act.put, List.setIfInBounds_toArray, List.set_cons_zero, List.set_cons_succ]
  refine d_take (i := 1) (v := ?_) [] (some 14) rfl (by rfl) (by kernel_rfl) (by kernel_rfl) (by kernel_rfl) (by kernel_rfl) (by kernel_rfl) (by kernel_rfl) (fun _ _ _ h => h) (.inl ⟨by rfl, ?_⟩) HY ?_
  rotate_left 1
  · (intro W hW; (try dsimp only at hW); go_simp; try with_reducible rfl)
  try simp only [Act.put, List.setIfInBounds_toArray, List.set_cons_zero, List.set_cons_succ]
  refine d_take (i := 2) (v := ?_) [] (some 15) rfl (by rfl) (by kernel_rfl) (by kernel_rfl) (by kernel_rfl) (by kernel_rfl) (by kernel_rfl) (by kernel_rfl) (fun _ _ _ h => h) (.inl ⟨by rfl, ?_⟩) HY ?_
  rotate_left 1
  · (intro W hW; (try dsimp only at hW); go_simp; try with_reducible rfl)
  try simp only [Act.put, List.setIfInBounds_toArray, List.set_cons_zero, List.set_cons_succ]
  refine d_take (i := 3) (v := ?_) [] (some 16) rfl (by rfl) (by kernel_rfl) (by kernel_rfl) (by kernel_rfl) (by kernel_rfl) (by kernel_rfl) (by kernel_rfl) (fun _ _ _ h => h) (.inl ⟨by rfl, ?_⟩) HY ?_
  rotate_left 1
  · (intro W hW; (try dsimp only at hW); go_simp; try with_reducible rfl)
  try simp only [Act.put, List.setIfInBounds_toArray, List.set_cons_zero, List.set_cons_succ]
  refine d_take (i := 4) (v := ?_) [] (some 17) rfl (by rfl) (by kernel_rfl) (by kernel_rfl) (by kernel_rfl) (by kernel_rfl) (by kernel_rfl) (by kernel_rfl) (fun _ _ _ h => h) (.inl ⟨by rfl, ?_⟩) HY ?_
  rotate_left 1
  · (intro W hW; (try dsimp only at hW); go_simp; try with_reducible rfl)
  try simp only [Act.put, List.setIfInBounds_toArray, List.set_cons_zero, List.set_cons_succ]
  refine d_take (i := 5) (v := ?_) [] (some 18) rfl (by rfl) (by kernel_rfl) (by kernel_rfl) (by kernel_rfl) (by kernel_rfl) (by kernel_rfl) (by kernel_rfl) (fun _ _ _ h => h) (.inl ⟨by rfl, ?_⟩) HY ?_
  rotate_left 1
  · (intro W hW; (try dsimp only at hW); go_simp; try with_reducible rfl)
  try simp only [Act.put, List.setIfInBounds_toArray, List.set_cons_zero, List.set_cons_succ]
  refine d_take (i := 6) (v := ?_) [] (some 19) rfl (by rfl) (by kernel_rfl) (by kernel_rfl) (by kernel_rfl) (by kernel_rfl) (by kernel_rfl) (by kernel_rfl) (fun _ _ _ h => h) (.inl ⟨by rfl, ?_⟩) HY ?_
  rotate_left 1
  · (intro W hW; (try dsimp only at hW); go_simp; try with_reducible rfl)
  try simp only [Act.put, List.setIfInBounds_toArray, List.set_cons_zero, List.set_cons_succ]
  refine d_take (i := 7) (v := ?_) [] (some 20) rfl (by rfl) (by kernel_rfl) (by kernel_rfl) (by kernel_rfl) (by kernel_rfl) (by kernel_rfl) (by kernel_rfl) (fun _ _ _ h => h) (.inl ⟨by rfl, ?_⟩) HY ?_
  rotate_left 1
  · (intro W hW; (try dsimp only at hW); go_simp; try with_reducible rfl)
  try simp only [Act.put, List.setIfInBounds_toArray, List.set_cons_zero, List.set_cons_succ]
  clear c0 c1 c2 c3 c4 c5 c6 c7 c8 c9 c10 c11 c12 c13 c14 c15 c16 c17 c18 c19
  refine d_two (i := 8) (j := 9) (by kernel_rfl) rfl rfl rfl rfl (fun K hK => ?_) (fun K hK => ?_)
  · simp only [List.getElem_toArray, List.getElem_cons_succ, List.getElem_cons_zero]
    go_simp
    refine hK.out _ _ (fun _ => ((Ext.refl V).alloc _).drew) ?_
    clear hK K 
    try simp only [Act.put, List.setIfInBounds_toArray, List.set_cons_zero, List.set_cons_succ]
    refine d_one (i := 9) (by kernel_rfl) rfl rfl (fun K hK => ?_)
    simp only [List.getElem_toArray, List.getElem_cons_succ, List.getElem_cons_zero]
    go_simp
    refine hK.out _ _ (fun _ => (((Ext.refl V).alloc _).alloc _).drew) ?_
    clear hK K 
    try simp only [Act.put, List.setIfInBounds_toArray, List.set_cons_zero, List.set_cons_succ]
    have hX2 : Ext V ((V.alloc (.cells #[.int .i64 0, .int .i64 0, .int .i64 0, .int .i64 0, .int .i64 0, .int .i64 0, .int .i64 0, .int .i64 0, .slice none 0 0] 76)).alloc (.cells #[.int .i64 0, .int .i64 0, .int .i64 0, .int .i64 0, .int .i64 0, .int .i64 0, .int .i64 0, .int .i64 0, .slice none 0 0] 76)).drew := (((Ext.refl V).alloc _).alloc _).drew
    have hb1 : ((V.alloc (.cells #[.int .i64 0, .int .i64 0, .int .i64 0, .int .i64 0, .int .i64 0, .int .i64 0, .int .i64 0, .int .i64 0, .slice none 0 0] 76)).alloc (.cells #[.int .i64 0, .int .i64 0, .int .i64 0, .int .i64 0, .int .i64 0, .int .i64 0, .int .i64 0, .int .i64 0, .slice none 0 0] 76)).drew.heap[V.heap.size]? = some (.cells #[.int .i64 0, .int .i64 0, .int .i64 0, .int .i64 0, .int .i64 0, .int .i64 0, .int .i64 0, .int .i64 0, .slice none 0 0] 76) := heap_drew ((((Ext.refl (V.alloc (.cells #[.int .i64 0, .int .i64 0, .int .i64 0, .int .i64 0, .int .i64 0, .int .i64 0, .int .i64 0, .int .i64 0, .slice none 0 0] 76))).alloc (.cells #[.int .i64 0, .int .i64 0, .int .i64 0, .int .i64 0, .int .i64 0, .int .i64 0, .int .i64 0, .int .i64 0, .slice none 0 0] 76)).block _ (block_lt (heap_alloc_new V _))).trans (heap_alloc_new V _))
    have hb2 : ((V.alloc (.cells #[.int .i64 0, .int .i64 0, .int .i64 0, .int .i64 0, .int .i64 0, .int .i64 0, .int .i64 0, .int .i64 0, .slice none 0 0] 76)).alloc (.cells #[.int .i64 0, .int .i64 0, .int .i64 0, .int .i64 0, .int .i64 0, .int .i64 0, .int .i64 0, .int .i64 0, .slice none 0 0] 76)).drew.heap[V.heap.size + 1]? = some (.cells #[.int .i64 0, .int .i64 0, .int .i64 0, .int .i64 0, .int .i64 0, .int .i64 0, .int .i64 0, .int .i64 0, .slice none 0 0] 76) := by have h := heap_alloc_new (V.alloc (.cells #[.int .i64 0, .int .i64 0, .int .i64 0, .int .i64 0, .int .i64 0, .int .i64 0, .int .i64 0, .int .i64 0, .slice none 0 0] 76)) (.cells #[.int .i64 0, .int .i64 0, .int .i64 0, .int .i64 0, .int .i64 0, .int .i64 0, .int .i64 0, .int .i64 0, .slice none 0 0] 76); rw [World.size_alloc] at h; exact heap_drew h
    have HB2 := Lib.hid (And.intro hX2 (And.intro hb1 (And.intro hb2 (Nat.le_refl V.heap.size))))
    clear hX2 hb1 hb2 HY
    generalize ((V.alloc (.cells #[.int .i64 0, .int .i64 0, .int .i64 0, .int .i64 0, .int .i64 0, .int .i64 0, .int .i64 0, .int .i64 0, .slice none 0 0] 76)).alloc (.cells #[.int .i64 0, .int .i64 0, .int .i64 0, .int .i64 0, .int .i64 0, .int .i64 0, .int .i64 0, .int .i64 0, .slice none 0 0] 76)).drew = w2 at *
    obtain ⟨sb_, hsb⟩ : ∃ s, V.heap.size = s := ⟨_, rfl⟩
    rw [hsb] at HB2
    simp only [hsb]
    have HSB := Lib.hid hsb
    clear hsb
    have hz := st9 (W := w2) (HB2.out.2.1) (.int .i64 m.kd) (.int .i64 m.fr) (.int .i64 m.tw) (.int .i64 m.jb) (.int .i64 m.br) (.int .i64 m.bn) (.int .i64 m.ar) (.int .i64 m.an) (.slice A n c)
    have H3 := Lib.hid (And.intro hz (Fr.ext HB2.out.1 hz.2 (fun i (h : i = sb_) => by have := HSB.out; omega)))
    clear hz
    have r0 : w2.cell? ⟨sb_, 0, none⟩ = some (.int .i64 0) := block_cell (HB2.out.2.1) 0
    have r1 : w2.cell? ⟨sb_, 1, none⟩ = some (.int .i64 0) := block_cell (HB2.out.2.1) 1
    have r2 : w2.cell? ⟨sb_, 2, none⟩ = some (.int .i64 0) := block_cell (HB2.out.2.1) 2
    have r3 : w2.cell? ⟨sb_, 3, none⟩ = some (.int .i64 0) := block_cell (HB2.out.2.1) 3
    have r4 : w2.cell? ⟨sb_, 4, none⟩ = some (.int .i64 0) := block_cell (HB2.out.2.1) 4
    have r5 : w2.cell? ⟨sb_, 5, none⟩ = some (.int .i64 0) := block_cell (HB2.out.2.1) 5
    have r6 : w2.cell? ⟨sb_, 6, none⟩ = some (.int .i64 0) := block_cell (HB2.out.2.1) 6
    have r7 : w2.cell? ⟨sb_, 7, none⟩ = some (.int .i64 0) := block_cell (HB2.out.2.1) 7
    have r8 : w2.cell? ⟨sb_, 8, none⟩ = some (.slice none 0 0) := block_cell (HB2.out.2.1) 8
    have q0 : w2.frozen? ⟨sb_, 0, none⟩ = false := block_fz (HB2.out.2.1) 0
    have q1 : w2.frozen? ⟨sb_, 1, none⟩ = false := block_fz (HB2.out.2.1) 1
    have q2 : w2.frozen? ⟨sb_, 2, none⟩ = false := block_fz (HB2.out.2.1) 2
    have q3 : w2.frozen? ⟨sb_, 3, none⟩ = false := block_fz (HB2.out.2.1) 3
    have q4 : w2.frozen? ⟨sb_, 4, none⟩ = false := block_fz (HB2.out.2.1) 4
    have q5 : w2.frozen? ⟨sb_, 5, none⟩ = false := block_fz (HB2.out.2.1) 5
    have q6 : w2.frozen? ⟨sb_, 6, none⟩ = false := block_fz (HB2.out.2.1) 6
    have q7 : w2.frozen? ⟨sb_, 7, none⟩ = false := block_fz (HB2.out.2.1) 7
    have q8 : w2.frozen? ⟨sb_, 8, none⟩ = false := block_fz (HB2.out.2.1) 8
    refine d_one (i := 10) (by kernel_rfl) rfl rfl (fun K hK => ?_)
    simp only [List.getElem_toArray, List.getElem_cons_succ, List.getElem_cons_zero]
    go_simp
    refine hK.out _ _ (fun _ => H3.out.2) ?_
    clear hK K 
    try simp only [Act.put, List.setIfInBounds_toArray, List.set_cons_zero, List.set_cons_succ]
    generalize (((((((((w2.setCell ⟨sb_, 0, none⟩ (.int .i64 m.kd)).setCell ⟨sb_, 1, none⟩ (.int .i64 m.fr)).setCell ⟨sb_, 2, none⟩ (.int .i64 m.tw)).setCell ⟨sb_, 3, none⟩ (.int .i64 m.jb)).setCell ⟨sb_, 4, none⟩ (.int .i64 m.br)).setCell ⟨sb_, 5, none⟩ (.int .i64 m.bn)).setCell ⟨sb_, 6, none⟩ (.int .i64 m.ar)).setCell ⟨sb_, 7, none⟩ (.int .i64 m.an)).setCell ⟨sb_, 8, none⟩ (.slice A n c)) = w3 at *
    clear r0 q0 r1 q1 r2 q2 r3 q3 r4 q4 r5 q5 r6 q6 r7 q7 r8 q8
    have H3b := Lib.hid ((H3.out.1.2.block (sb_ + 1) (block_lt (HB2.out.2.2.1)) (fun (h : (sb_ + 1) = sb_) => by omega)).trans (HB2.out.2.2.1))
    have hw := st9 (W := w3) H3b.out (.int .i64 e.kd) (.int .i64 e.fr) (.int .i64 e.tw) (.int .i64 e.jb) (.int .i64 e.br) (.int .i64 e.bn) (.int .i64 e.ar) (.int .i64 e.an) (.slice B r d)
    have H4 := Lib.hid (And.intro ((hw.2.block sb_ (block_lt H3.out.1.1) (fun (h : sb_ = (sb_ + 1)) => by omega)).trans H3.out.1.1) (And.intro hw.1 (Fr.ext H3.out.2 hw.2 (fun i (h : i = (sb_ + 1)) => by have := HSB.out; omega))))
    clear hw
    have r0 : w3.cell? ⟨(sb_ + 1), 0, none⟩ = some (.int .i64 0) := block_cell (H3b.out) 0
    have r1 : w3.cell? ⟨(sb_ + 1), 1, none⟩ = some (.int .i64 0) := block_cell (H3b.out) 1
    have r2 : w3.cell? ⟨(sb_ + 1), 2, none⟩ = some (.int .i64 0) := block_cell (H3b.out) 2
    have r3 : w3.cell? ⟨(sb_ + 1), 3, none⟩ = some (.int .i64 0) := block_cell (H3b.out) 3
    have r4 : w3.cell? ⟨(sb_ + 1), 4, none⟩ = some (.int .i64 0) := block_cell (H3b.out) 4
    have r5 : w3.cell? ⟨(sb_ + 1), 5, none⟩ = some (.int .i64 0) := block_cell (H3b.out) 5
    have r6 : w3.cell? ⟨(sb_ + 1), 6, none⟩ = some (.int .i64 0) := block_cell (H3b.out) 6
    have r7 : w3.cell? ⟨(sb_ + 1), 7, none⟩ = some (.int .i64 0) := block_cell (H3b.out) 7
    have r8 : w3.cell? ⟨(sb_ + 1), 8, none⟩ = some (.slice none 0 0) := block_cell (H3b.out) 8
    have q0 : w3.frozen? ⟨(sb_ + 1), 0, none⟩ = false := block_fz (H3b.out) 0
    have q1 : w3.frozen? ⟨(sb_ + 1), 1, none⟩ = false := block_fz (H3b.out) 1
    have q2 : w3.frozen? ⟨(sb_ + 1), 2, none⟩ = false := block_fz (H3b.out) 2
    have q3 : w3.frozen? ⟨(sb_ + 1), 3, none⟩ = false := block_fz (H3b.out) 3
    have q4 : w3.frozen? ⟨(sb_ + 1), 4, none⟩ = false := block_fz (H3b.out) 4
    have q5 : w3.frozen? ⟨(sb_ + 1), 5, none⟩ = false := block_fz (H3b.out) 5
    have q6 : w3.frozen? ⟨(sb_ + 1), 6, none⟩ = false := block_fz (H3b.out) 6
    have q7 : w3.frozen? ⟨(sb_ + 1), 7, none⟩ = false := block_fz (H3b.out) 7
    have q8 : w3.frozen? ⟨(sb_ + 1), 8, none⟩ = false := block_fz (H3b.out) 8
    refine d_one (i := 11) (by kernel_rfl) rfl rfl (fun K hK => ?_)
    simp only [List.getElem_toArray, List.getElem_cons_succ, List.getElem_cons_zero]
    go_simp
    refine hK.out _ _ (fun _ => H4.out.2.2) ?_
    clear hK K 
    try simp only [Act.put, List.setIfInBounds_toArray, List.set_cons_zero, List.set_cons_succ]
    clear r0 q0 r1 q1 r2 q2 r3 q3 r4 q4 r5 q5 r6 q6 r7 q7 r8 q8
    refine d_one (i := 12) (by kernel_rfl) rfl rfl (fun K hK => ?_)
    simp only [List.getElem_toArray, List.getElem_cons_succ, List.getElem_cons_zero]
    go_simp
    refine hK.out _ _ (fun _ => H4.out.2.2) ?_
    clear hK K 
    try simp only [Act.put, List.setIfInBounds_toArray, List.set_cons_zero, List.set_cons_succ]
    refine d_one (i := 13) (by kernel_rfl) rfl rfl (fun K hK => ?_)
    simp only [List.getElem_toArray, List.getElem_cons_succ, List.getElem_cons_zero]
    go_simp
    refine hK.out _ _ (fun _ => H4.out.2.2) ?_
    clear hK K 
    try simp only [Act.put, List.setIfInBounds_toArray, List.set_cons_zero, List.set_cons_succ]
    refine d_done (by kernel_rfl) ?_ _
    have HP := Lib.hid (And.intro H4.out.1 (And.intro H4.out.2.1 (HV.out.2.trans H4.out.2.2)))
    clear H4 H3 H3b HB2 HV
    generalize (((((((((w3.setCell ⟨(sb_ + 1), 0, none⟩ (.int .i64 e.kd)).setCell ⟨(sb_ + 1), 1, none⟩ (.int .i64 e.fr)).setCell ⟨(sb_ + 1), 2, none⟩ (.int .i64 e.tw)).setCell ⟨(sb_ + 1), 3, none⟩ (.int .i64 e.jb)).setCell ⟨(sb_ + 1), 4, none⟩ (.int .i64 e.br)).setCell ⟨(sb_ + 1), 5, none⟩ (.int .i64 e.bn)).setCell ⟨(sb_ + 1), 6, none⟩ (.int .i64 e.ar)).setCell ⟨(sb_ + 1), 7, none⟩ (.int .i64 e.an)).setCell ⟨(sb_ + 1), 8, none⟩ (.slice B r d)) = V4 at *
    as_aux_lemma =>
    have a0 : ∀ W, Ext V4 W → W.cell? ⟨sb_, 0, none⟩ = some (.int .i64 m.kd) := fun W hx => block_cell ((hx.block _ (block_lt (HP.out.1))).trans (HP.out.1)) 0
    have a1 : ∀ W, Ext V4 W → W.cell? ⟨sb_, 1, none⟩ = some (.int .i64 m.fr) := fun W hx => block_cell ((hx.block _ (block_lt (HP.out.1))).trans (HP.out.1)) 1
    have a2 : ∀ W, Ext V4 W → W.cell? ⟨sb_, 2, none⟩ = some (.int .i64 m.tw) := fun W hx => block_cell ((hx.block _ (block_lt (HP.out.1))).trans (HP.out.1)) 2
    have a3 : ∀ W, Ext V4 W → W.cell? ⟨sb_, 3, none⟩ = some (.int .i64 m.jb) := fun W hx => block_cell ((hx.block _ (block_lt (HP.out.1))).trans (HP.out.1)) 3
    have a4 : ∀ W, Ext V4 W → W.cell? ⟨sb_, 4, none⟩ = some (.int .i64 m.br) := fun W hx => block_cell ((hx.block _ (block_lt (HP.out.1))).trans (HP.out.1)) 4
    have a5 : ∀ W, Ext V4 W → W.cell? ⟨sb_, 5, none⟩ = some (.int .i64 m.bn) := fun W hx => block_cell ((hx.block _ (block_lt (HP.out.1))).trans (HP.out.1)) 5
    have a6 : ∀ W, Ext V4 W → W.cell? ⟨sb_, 6, none⟩ = some (.int .i64 m.ar) := fun W hx => block_cell ((hx.block _ (block_lt (HP.out.1))).trans (HP.out.1)) 6
    have a7 : ∀ W, Ext V4 W → W.cell? ⟨sb_, 7, none⟩ = some (.int .i64 m.an) := fun W hx => block_cell ((hx.block _ (block_lt (HP.out.1))).trans (HP.out.1)) 7
    have a8 : ∀ W, Ext V4 W → W.cell? ⟨sb_, 8, none⟩ = some (.slice A n c) := fun W hx => block_cell ((hx.block _ (block_lt (HP.out.1))).trans (HP.out.1)) 8
    have b0 : ∀ W, Ext V4 W → W.cell? ⟨(sb_ + 1), 0, none⟩ = some (.int .i64 e.kd) := fun W hx => block_cell ((hx.block _ (block_lt (HP.out.2.1))).trans (HP.out.2.1)) 0
    have b1 : ∀ W, Ext V4 W → W.cell? ⟨(sb_ + 1), 1, none⟩ = some (.int .i64 e.fr) := fun W hx => block_cell ((hx.block _ (block_lt (HP.out.2.1))).trans (HP.out.2.1)) 1
    have b2 : ∀ W, Ext V4 W → W.cell? ⟨(sb_ + 1), 2, none⟩ = some (.int .i64 e.tw) := fun W hx => block_cell ((hx.block _ (block_lt (HP.out.2.1))).trans (HP.out.2.1)) 2
    have b3 : ∀ W, Ext V4 W → W.cell? ⟨(sb_ + 1), 3, none⟩ = some (.int .i64 e.jb) := fun W hx => block_cell ((hx.block _ (block_lt (HP.out.2.1))).trans (HP.out.2.1)) 3
    have b4 : ∀ W, Ext V4 W → W.cell? ⟨(sb_ + 1), 4, none⟩ = some (.int .i64 e.br) := fun W hx => block_cell ((hx.block _ (block_lt (HP.out.2.1))).trans (HP.out.2.1)) 4
    have b5 : ∀ W, Ext V4 W → W.cell? ⟨(sb_ + 1), 5, none⟩ = some (.int .i64 e.bn) := fun W hx => block_cell ((hx.block _ (block_lt (HP.out.2.1))).trans (HP.out.2.1)) 5
    have b6 : ∀ W, Ext V4 W → W.cell? ⟨(sb_ + 1), 6, none⟩ = some (.int .i64 e.ar) := fun W hx => block_cell ((hx.block _ (block_lt (HP.out.2.1))).trans (HP.out.2.1)) 6
    have b7 : ∀ W, Ext V4 W → W.cell? ⟨(sb_ + 1), 7, none⟩ = some (.int .i64 e.an) := fun W hx => block_cell ((hx.block _ (block_lt (HP.out.2.1))).trans (HP.out.2.1)) 7
    have b8 : ∀ W, Ext V4 W → W.cell? ⟨(sb_ + 1), 8, none⟩ = some (.slice B r d) := fun W hx => block_cell ((hx.block _ (block_lt (HP.out.2.1))).trans (HP.out.2.1)) 8
    have XV := Ext.refl V4
    have HW := Lib.hid (fun W (hx : Ext V4 W) => HS.out W (HP.out.2.2.trans hx))
    have CA := Lib.hid ((speaks_any V4 (HW.out V4 XV).2.2.2.1).mono fun x w' (h : _ ∧ _) => And.intro h.1 (XV.trans h.2))
    go_upto_region 4 with (go_at_call 37; refine CA.out.mono ?_; rintro _ w1 ⟨rfl, x1⟩)
    clear CA
    have ES := err_same
    cases fa
    · have CPm := Lib.hid (fun W (hx : Ext V4 W) => (mput_no (m := m) (c := c) (HW.out W hx).1 (by omega) HFA.out (HW.out W hx).2.2.2.1).mono fun x w' (h : _ ∧ _) => And.intro h.1 (hx.trans h.2))
      have CFm := Lib.hid (fun W (hx : Ext V4 W) => (rmform_any m A n c ss W (HW.out W hx).1 (by omega) false HFA).mono fun x w' (h : _ ∧ _) => And.intro h.1 (hx.trans h.2))
      cases fb
      · have CPe := Lib.hid (fun W (hx : Ext V4 W) => (mput_no (m := e) (c := d) (HW.out W hx).2.1 (by omega) HFB.out (HW.out W hx).2.2.2.1).mono fun x w' (h : _ ∧ _) => And.intro h.1 (hx.trans h.2))
        have CFe := Lib.hid (fun W (hx : Ext V4 W) => (rmform_any e B r d tt W (HW.out W hx).2.1 (by omega) false HFB).mono fun x w' (h : _ ∧ _) => And.intro h.1 (hx.trans h.2))
        go_upto_region 5 with (go_at_call 39; with_reducible refine (CPm.out _ (by assumption)).mono ?_; rintro _ wn ⟨rfl, xn⟩; clear CPm)
        go_upto_region 6 with (go_at_call 39; with_reducible refine (CPe.out _ (by assumption)).mono ?_; rintro _ wn ⟨rfl, xn⟩; clear CPe)
        go_wp2_with (go_at_call 41; first | (with_reducible refine (CFm.out _ (by assumption)).mono ?_; rintro _ wn ⟨rfl, xn⟩) | (with_reducible refine (CFe.out _ (by assumption)).mono ?_; rintro _ wn ⟨rfl, xn⟩))
        go_returns
        exact ⟨rfl, HP.out.2.2.trans (by assumption)⟩
      · have CPe := Lib.hid (fun W (hx : Ext V4 W) => mput_ok (m := e) (c := d) (HW.out W hx).2.1 (by omega) HFB.out (HW.out W hx).2.2.2.1)
        have CFe := Lib.hid (fun W (hx : Ext V4 W) => (rmform_any e B r d tt W (HW.out W hx).2.1 (by omega) true HFB).mono fun x w' (h : _ ∧ _) => And.intro h.1 (hx.trans h.2))
        go_upto_region 5 with (go_at_call 39; with_reducible refine (CPm.out _ (by assumption)).mono ?_; rintro _ wn ⟨rfl, xn⟩; clear CPm)
        go_upto_region 6 with (go_at_call 39; with_reducible refine (CPe.out _ (by assumption)).mono ?_; rintro _ w5 ⟨X5, k5, d5, rfl, o5, x5⟩; have xx5 : Ext V4 w5 := Ext.trans (by assumption : Ext V4 _) x5; clear CPe)
        go_wp2_with (go_at_call 41; first | (with_reducible refine (CFm.out _ (by assumption)).mono ?_; rintro _ wn ⟨rfl, xn⟩) | (with_reducible refine (CFe.out _ (by assumption)).mono ?_; rintro _ wn ⟨rfl, xn⟩))
        go_returns
        exact ⟨rfl, HP.out.2.2.trans (by assumption)⟩
    · have CPm := Lib.hid (fun W (hx : Ext V4 W) => mput_ok (m := m) (c := c) (HW.out W hx).1 (by omega) HFA.out (HW.out W hx).2.2.2.1)
      have CFm := Lib.hid (fun W (hx : Ext V4 W) => (rmform_any m A n c ss W (HW.out W hx).1 (by omega) true HFA).mono fun x w' (h : _ ∧ _) => And.intro h.1 (hx.trans h.2))
      cases fb
      · have CPe := Lib.hid (fun W (hx : Ext V4 W) => (mput_no (m := e) (c := d) (HW.out W hx).2.1 (by omega) HFB.out (HW.out W hx).2.2.2.1).mono fun x w' (h : _ ∧ _) => And.intro h.1 (hx.trans h.2))
        have CFe := Lib.hid (fun W (hx : Ext V4 W) => (rmform_any e B r d tt W (HW.out W hx).2.1 (by omega) false HFB).mono fun x w' (h : _ ∧ _) => And.intro h.1 (hx.trans h.2))
        go_upto_region 5 with (go_at_call 39; with_reducible refine (CPm.out _ (by assumption)).mono ?_; rintro _ w4 ⟨X4, k4, d4, rfl, o4, x4⟩; have xx4 : Ext V4 w4 := Ext.trans (by assumption : Ext V4 _) x4; clear CPm)
        go_upto_region 6 with (go_at_call 39; with_reducible refine (CPe.out _ (by assumption)).mono ?_; rintro _ wn ⟨rfl, xn⟩; clear CPe)
        go_wp2_with (go_at_call 41; first | (with_reducible refine (CFm.out _ (by assumption)).mono ?_; rintro _ wn ⟨rfl, xn⟩) | (with_reducible refine (CFe.out _ (by assumption)).mono ?_; rintro _ wn ⟨rfl, xn⟩))
        go_returns
        exact ⟨rfl, HP.out.2.2.trans (by assumption)⟩
      · have CPe := Lib.hid (fun W (hx : Ext V4 W) => mput_ok (m := e) (c := d) (HW.out W hx).2.1 (by omega) HFB.out (HW.out W hx).2.2.2.1)
        clear CFm
        go_upto_region 5 with (go_at_call 39; with_reducible refine (CPm.out _ (by assumption)).mono ?_; rintro _ w4 ⟨X4, k4, d4, rfl, o4, x4⟩; have xx4 : Ext V4 w4 := Ext.trans (by assumption : Ext V4 _) x4; clear CPm)
        go_upto_region 6 with (go_at_call 39; with_reducible refine (CPe.out _ (by assumption)).mono ?_; rintro _ w5 ⟨X5, k5, d5, rfl, o5, x5⟩; have xx5 : Ext V4 w5 := Ext.trans (by assumption : Ext V4 _) x5; clear CPe)
        obtain ⟨g, rfl⟩ := o4.head (by have h := o4.len; have h2 := mput_len HFA.out; rw [u8s_len] at h; omega)
        have H5 := Lib.hid (And.intro (o4.ext x5) (And.intro o5 (And.intro xx5 xx4)))
        have hl4 := mput_len HFA.out
        have hk4 : (m.put (ents ss)).length = k4 := by have h := o4.len; rw [u8s_len] at h; omega
        have hk4b : 4 ≤ k4 ∧ k4 ≤ 30000 := by omega
        have HK4 := Lib.hid hk4
        obtain ⟨bs, hbs⟩ : ∃ b, decide (m = e ∧ ents ss = ents tt) = b := ⟨_, rfl⟩
        have HBS := Lib.hid hbs
        have hstr := str_same (sealed_byte (raw_byte m (ents ss))) (sealed_byte (raw_byte e (ents tt))) (P := m = e ∧ ents ss = ents tt) ⟨fun h => mput_inj HFA.out HFB.out h, fun h => by rw [h.1, h.2]⟩ hbs
        clear hl4 hk4 hbs o4 o5 x4 x5 xx4
        go_upto_region 8 with (fail)
        obtain ⟨sa, hsa⟩ : ∃ s, str (m.put (ents ss)) = s := ⟨_, rfl⟩
        obtain ⟨sb, hsb⟩ : ∃ s, str (e.put (ents tt)) = s := ⟨_, rfl⟩
        have hstr2 : (sa.toList == sb.toList) = bs := by rw [← hsa, ← hsb]; exact hstr
        have rs4 : ∀ W, Ext w5 W → (convert 54 9 (.slice (some ⟨g, 0, none⟩) k4 d4)).run Tryd.prog W = .ok (.string sa) W := fun W hx => by rw [← hsa]; exact run_str Tryd.underlying54 Tryd.underlying5 Tryd.underlying9 d4 (H5.out.1.ext hx).rd
        have rs5 : ∀ W, Ext w5 W → (convert 54 9 (.slice X5 k5 d5)).run Tryd.prog W = .ok (.string sb) W := fun W hx => by rw [← hsb]; exact run_str Tryd.underlying54 Tryd.underlying5 Tryd.underlying9 d5 (H5.out.2.1.ext hx).rd
        have q1 : ∀ W, (binOp .neq 4 (.bool bs) (.bool bs)).run Tryd.prog W = .ok (.bool false) W := fun W => by cases bs <;> kernel_rfl
        have CS := Lib.hid (fun W (hx : Ext w5 W) => rsamem_any m e A n c ss B r d tt W (HW.out W (xx5.trans hx)).1 (HW.out W (xx5.trans hx)).2.1 (by omega) bs HBS)
        have hk0 : ¬ (k4 : Int) = 0 := by omega
        have hk0N : ¬ k4 = 0 := by omega
        clear hstr hsa hsb
        clear a0 b0 a1 b1 a2 b2 a3 b3 a4 b4 a5 b5 a6 b6 a7 b7 a8 b8
        have a0 : ∀ W, Ext w5 W → W.cell? ⟨sb_, 0, none⟩ = some (.int .i64 m.kd) := fun W hx => block_cell ((hx.block _ (block_lt (((H5.out.2.2.1.block _ (block_lt HP.out.1)).trans HP.out.1)))).trans (((H5.out.2.2.1.block _ (block_lt HP.out.1)).trans HP.out.1))) 0
        have a1 : ∀ W, Ext w5 W → W.cell? ⟨sb_, 1, none⟩ = some (.int .i64 m.fr) := fun W hx => block_cell ((hx.block _ (block_lt (((H5.out.2.2.1.block _ (block_lt HP.out.1)).trans HP.out.1)))).trans (((H5.out.2.2.1.block _ (block_lt HP.out.1)).trans HP.out.1))) 1
        have a2 : ∀ W, Ext w5 W → W.cell? ⟨sb_, 2, none⟩ = some (.int .i64 m.tw) := fun W hx => block_cell ((hx.block _ (block_lt (((H5.out.2.2.1.block _ (block_lt HP.out.1)).trans HP.out.1)))).trans (((H5.out.2.2.1.block _ (block_lt HP.out.1)).trans HP.out.1))) 2
        have a3 : ∀ W, Ext w5 W → W.cell? ⟨sb_, 3, none⟩ = some (.int .i64 m.jb) := fun W hx => block_cell ((hx.block _ (block_lt (((H5.out.2.2.1.block _ (block_lt HP.out.1)).trans HP.out.1)))).trans (((H5.out.2.2.1.block _ (block_lt HP.out.1)).trans HP.out.1))) 3
        have a4 : ∀ W, Ext w5 W → W.cell? ⟨sb_, 4, none⟩ = some (.int .i64 m.br) := fun W hx => block_cell ((hx.block _ (block_lt (((H5.out.2.2.1.block _ (block_lt HP.out.1)).trans HP.out.1)))).trans (((H5.out.2.2.1.block _ (block_lt HP.out.1)).trans HP.out.1))) 4
        have a5 : ∀ W, Ext w5 W → W.cell? ⟨sb_, 5, none⟩ = some (.int .i64 m.bn) := fun W hx => block_cell ((hx.block _ (block_lt (((H5.out.2.2.1.block _ (block_lt HP.out.1)).trans HP.out.1)))).trans (((H5.out.2.2.1.block _ (block_lt HP.out.1)).trans HP.out.1))) 5
        have a6 : ∀ W, Ext w5 W → W.cell? ⟨sb_, 6, none⟩ = some (.int .i64 m.ar) := fun W hx => block_cell ((hx.block _ (block_lt (((H5.out.2.2.1.block _ (block_lt HP.out.1)).trans HP.out.1)))).trans (((H5.out.2.2.1.block _ (block_lt HP.out.1)).trans HP.out.1))) 6
        have a7 : ∀ W, Ext w5 W → W.cell? ⟨sb_, 7, none⟩ = some (.int .i64 m.an) := fun W hx => block_cell ((hx.block _ (block_lt (((H5.out.2.2.1.block _ (block_lt HP.out.1)).trans HP.out.1)))).trans (((H5.out.2.2.1.block _ (block_lt HP.out.1)).trans HP.out.1))) 7
        have a8 : ∀ W, Ext w5 W → W.cell? ⟨sb_, 8, none⟩ = some (.slice A n c) := fun W hx => block_cell ((hx.block _ (block_lt (((H5.out.2.2.1.block _ (block_lt HP.out.1)).trans HP.out.1)))).trans (((H5.out.2.2.1.block _ (block_lt HP.out.1)).trans HP.out.1))) 8
        have b0 : ∀ W, Ext w5 W → W.cell? ⟨(sb_ + 1), 0, none⟩ = some (.int .i64 e.kd) := fun W hx => block_cell ((hx.block _ (block_lt (((H5.out.2.2.1.block _ (block_lt HP.out.2.1)).trans HP.out.2.1)))).trans (((H5.out.2.2.1.block _ (block_lt HP.out.2.1)).trans HP.out.2.1))) 0
        have b1 : ∀ W, Ext w5 W → W.cell? ⟨(sb_ + 1), 1, none⟩ = some (.int .i64 e.fr) := fun W hx => block_cell ((hx.block _ (block_lt (((H5.out.2.2.1.block _ (block_lt HP.out.2.1)).trans HP.out.2.1)))).trans (((H5.out.2.2.1.block _ (block_lt HP.out.2.1)).trans HP.out.2.1))) 1
        have b2 : ∀ W, Ext w5 W → W.cell? ⟨(sb_ + 1), 2, none⟩ = some (.int .i64 e.tw) := fun W hx => block_cell ((hx.block _ (block_lt (((H5.out.2.2.1.block _ (block_lt HP.out.2.1)).trans HP.out.2.1)))).trans (((H5.out.2.2.1.block _ (block_lt HP.out.2.1)).trans HP.out.2.1))) 2
        have b3 : ∀ W, Ext w5 W → W.cell? ⟨(sb_ + 1), 3, none⟩ = some (.int .i64 e.jb) := fun W hx => block_cell ((hx.block _ (block_lt (((H5.out.2.2.1.block _ (block_lt HP.out.2.1)).trans HP.out.2.1)))).trans (((H5.out.2.2.1.block _ (block_lt HP.out.2.1)).trans HP.out.2.1))) 3
        have b4 : ∀ W, Ext w5 W → W.cell? ⟨(sb_ + 1), 4, none⟩ = some (.int .i64 e.br) := fun W hx => block_cell ((hx.block _ (block_lt (((H5.out.2.2.1.block _ (block_lt HP.out.2.1)).trans HP.out.2.1)))).trans (((H5.out.2.2.1.block _ (block_lt HP.out.2.1)).trans HP.out.2.1))) 4
        have b5 : ∀ W, Ext w5 W → W.cell? ⟨(sb_ + 1), 5, none⟩ = some (.int .i64 e.bn) := fun W hx => block_cell ((hx.block _ (block_lt (((H5.out.2.2.1.block _ (block_lt HP.out.2.1)).trans HP.out.2.1)))).trans (((H5.out.2.2.1.block _ (block_lt HP.out.2.1)).trans HP.out.2.1))) 5
        have b6 : ∀ W, Ext w5 W → W.cell? ⟨(sb_ + 1), 6, none⟩ = some (.int .i64 e.ar) := fun W hx => block_cell ((hx.block _ (block_lt (((H5.out.2.2.1.block _ (block_lt HP.out.2.1)).trans HP.out.2.1)))).trans (((H5.out.2.2.1.block _ (block_lt HP.out.2.1)).trans HP.out.2.1))) 6
        have b7 : ∀ W, Ext w5 W → W.cell? ⟨(sb_ + 1), 7, none⟩ = some (.int .i64 e.an) := fun W hx => block_cell ((hx.block _ (block_lt (((H5.out.2.2.1.block _ (block_lt HP.out.2.1)).trans HP.out.2.1)))).trans (((H5.out.2.2.1.block _ (block_lt HP.out.2.1)).trans HP.out.2.1))) 7
        have b8 : ∀ W, Ext w5 W → W.cell? ⟨(sb_ + 1), 8, none⟩ = some (.slice B r d) := fun W hx => block_cell ((hx.block _ (block_lt (((H5.out.2.2.1.block _ (block_lt HP.out.2.1)).trans HP.out.2.1)))).trans (((H5.out.2.2.1.block _ (block_lt HP.out.2.1)).trans HP.out.2.1))) 8
        refine w_region (fun w1 => Ext w5 w1) [] (by kernel_rfl) ((Ext.refl w5).drew) ?_
        refine w_take (i := 0) (v := ?_) [] (some 47) rfl (by rfl) (by kernel_rfl) (by kernel_rfl) (by kernel_rfl) (by kernel_rfl) (by kernel_rfl) (by kernel_rfl) (fun _ _ _ h => h) (YieldsIf.yieldsW (.inl ⟨by rfl, ?_⟩)) ?_
        rotate_left 1
        · (intro W hW; (try dsimp only at hW); go_simp; try with_reducible rfl)
        try simp only [Act.put, List.setIfInBounds_toArray, List.set_cons_zero, List.set_cons_succ]
        refine w_take (i := 1) (v := .string sa) [] (some 48) rfl (by rfl) (by kernel_rfl) (by kernel_rfl) (by kernel_rfl) (by kernel_rfl) (by kernel_rfl) (by kernel_rfl) (fun _ _ _ h => h) (YieldsIf.yieldsW (.inl ⟨by rfl, ?_⟩)) ?_
        · (intro W hW; (try dsimp only at hW); go_simp; try with_reducible rfl)
        try simp only [Act.put, List.setIfInBounds_toArray, List.set_cons_zero, List.set_cons_succ]
        refine w_take (i := 2) (v := ?_) [] (some 49) rfl (by rfl) (by kernel_rfl) (by kernel_rfl) (by kernel_rfl) (by kernel_rfl) (by kernel_rfl) (by kernel_rfl) (fun _ _ _ h => h) (YieldsIf.yieldsW (.inl ⟨by rfl, ?_⟩)) ?_
        rotate_left 1
        · (intro W hW; (try dsimp only at hW); go_simp; try with_reducible rfl)
        try simp only [Act.put, List.setIfInBounds_toArray, List.set_cons_zero, List.set_cons_succ]
        refine w_take (i := 3) (v := .string sb) [] (some 50) rfl (by rfl) (by kernel_rfl) (by kernel_rfl) (by kernel_rfl) (by kernel_rfl) (by kernel_rfl) (by kernel_rfl) (fun _ _ _ h => h) (YieldsIf.yieldsW (.inl ⟨by rfl, ?_⟩)) ?_
        · (intro W hW; (try dsimp only at hW); go_simp; try with_reducible rfl)
        try simp only [Act.put, List.setIfInBounds_toArray, List.set_cons_zero, List.set_cons_succ]
        refine w_take (i := 4) (v := .bool bs) [] (some 51) rfl (by rfl) (by kernel_rfl) (by kernel_rfl) (by kernel_rfl) (by kernel_rfl) (by kernel_rfl) (by kernel_rfl) (fun _ _ _ h => h) (YieldsIf.yieldsW (.inl ⟨by rfl, ?_⟩)) ?_
        · (intro W hW; (try dsimp only at hW); go_simp; try with_reducible rfl)
        try simp only [Act.put, List.setIfInBounds_toArray, List.set_cons_zero, List.set_cons_succ]
        refine w_take (i := 5) (v := ?_) [] (some 52) rfl (by rfl) (by kernel_rfl) (by kernel_rfl) (by kernel_rfl) (by kernel_rfl) (by kernel_rfl) (by kernel_rfl) (fun _ _ _ h => h) (YieldsIf.yieldsW (.inl ⟨by rfl, ?_⟩)) ?_
        rotate_left 1
        · (intro W hW; (try dsimp only at hW); go_simp; try with_reducible rfl)
        try simp only [Act.put, List.setIfInBounds_toArray, List.set_cons_zero, List.set_cons_succ]
        refine w_take (i := 6) (v := ?_) [] (some 53) rfl (by rfl) (by kernel_rfl) (by kernel_rfl) (by kernel_rfl) (by kernel_rfl) (by kernel_rfl) (by kernel_rfl) (fun _ _ _ h => h) (YieldsIf.yieldsW (.inl ⟨by rfl, ?_⟩)) ?_
        rotate_left 1
        · (intro W hW; (try dsimp only at hW); go_simp; try with_reducible rfl)
        try simp only [Act.put, List.setIfInBounds_toArray, List.set_cons_zero, List.set_cons_succ]
        refine w_take (i := 7) (v := .bool bs) [] (some 54) rfl (by rfl) (by kernel_rfl) (by kernel_rfl) (by kernel_rfl) (by kernel_rfl) (by kernel_rfl) (by kernel_rfl) (fun _ _ _ h => h) (.inl ⟨by rfl, ?_⟩) ?_
        · (intro W hW; refine .inr ⟨_, _, _, ?_, ((CS.out W hW).mono fun _ _ ⟨h1, h2⟩ => ⟨h1, hW.trans h2⟩)⟩; go_simp; try with_reducible rfl)
        try simp only [Act.put, List.setIfInBounds_toArray, List.set_cons_zero, List.set_cons_succ]
        refine w_take (i := 8) (v := .bool false) [] (some 55) rfl (by rfl) (by kernel_rfl) (by kernel_rfl) (by kernel_rfl) (by kernel_rfl) (by kernel_rfl) (by kernel_rfl) (fun _ _ _ h => h) (YieldsIf.yieldsW (.inl ⟨by rfl, ?_⟩)) ?_
        · (intro W hW; (try dsimp only at hW); go_simp; try with_reducible rfl)
        try simp only [Act.put, List.setIfInBounds_toArray, List.set_cons_zero, List.set_cons_succ]
        refine w_take (i := 9) (v := .bool false) [] (some 56) rfl (by rfl) (by kernel_rfl) (by kernel_rfl) (by kernel_rfl) (by kernel_rfl) (by kernel_rfl) (by kernel_rfl) (fun _ _ _ h => h) (YieldsIf.yieldsW (.inl ⟨by rfl, ?_⟩)) ?_
        · (intro W hW; (try dsimp only at hW); go_simp; try with_reducible rfl)
        try simp only [Act.put, List.setIfInBounds_toArray, List.set_cons_zero, List.set_cons_succ]
        refine w_take (i := 10) (v := ?_) [] (some 57) rfl (by rfl) (by kernel_rfl) (by kernel_rfl) (by kernel_rfl) (by kernel_rfl) (by kernel_rfl) (by kernel_rfl) (fun _ _ _ h => h) (YieldsIf.yieldsW (.inl ⟨by rfl, ?_⟩)) ?_
        rotate_left 1
        · (intro W hW; (try dsimp only at hW); go_simp; try with_reducible rfl)
        try simp only [Act.put, List.setIfInBounds_toArray, List.set_cons_zero, List.set_cons_succ]
        refine w_take (i := 11) (v := ?_) [] (some 58) rfl (by rfl) (by kernel_rfl) (by kernel_rfl) (by kernel_rfl) (by kernel_rfl) (by kernel_rfl) (by kernel_rfl) (fun _ _ _ h => h) (YieldsIf.yieldsW (.inl ⟨by rfl, ?_⟩)) ?_
        rotate_left 1
        · (intro W hW; (try dsimp only at hW); go_simp; try with_reducible rfl)
        try simp only [Act.put, List.setIfInBounds_toArray, List.set_cons_zero, List.set_cons_succ]
        refine w_take (i := 12) (v := .bool false) [] (some 59) rfl (by rfl) (by kernel_rfl) (by kernel_rfl) (by kernel_rfl) (by kernel_rfl) (by kernel_rfl) (by kernel_rfl) (fun _ _ _ h => h) (YieldsIf.yieldsW (.inl ⟨by rfl, ?_⟩)) ?_
        · (intro W hW; (try dsimp only at hW); go_simp; try with_reducible rfl)
        try simp only [Act.put, List.setIfInBounds_toArray, List.set_cons_zero, List.set_cons_succ]
        refine w_take (i := 13) (v := .bool false) [] (some 60) rfl (by rfl) (by kernel_rfl) (by kernel_rfl) (by kernel_rfl) (by kernel_rfl) (by kernel_rfl) (by kernel_rfl) (fun _ _ _ h => h) (YieldsIf.yieldsW (.inl ⟨by rfl, ?_⟩)) ?_
        · (intro W hW; (try dsimp only at hW); go_simp; try with_reducible rfl)
        try simp only [Act.put, List.setIfInBounds_toArray, List.set_cons_zero, List.set_cons_succ]
        refine w_done (by kernel_rfl) (by rfl) (fun V8 hV8 => ?_) _
        clear a0 b0 a1 b1 a2 b2 a3 b3 a4 b4 a5 b5 a6 b6 a7 b7 a8 b8
        clear rs4 rs5 q1 CS hstr2 hk0 hk0N
        obtain ⟨qq, hqq⟩ : ∃ q, at_.tmod (k4 : Int) = q := ⟨_, rfl⟩
        have hq0 : -(k4 : Int) < qq := by rw [← hqq]; have := Int.lt_tmod_of_pos at_ (b := (k4 : Int)) (by omega); omega
        have hq1 : qq < (k4 : Int) := by rw [← hqq]; exact Int.tmod_lt_of_pos at_ (b := (k4 : Int)) (by omega)
        obtain ⟨p, hp⟩ : ∃ p : Nat, (qq + (k4 : Int)) % (k4 : Int) = p := Int.eq_ofNat_of_zero_le (Int.emod_nonneg _ (by omega))
        have hpk : p < k4 := by have := Int.emod_lt_of_pos (qq + (k4 : Int)) (b := (k4 : Int)) (by omega); omega
        have hkz : ¬ (k4 : Int) = 0 := by omega
        go_upto_region 11 with (fail)
        rw [hp]
        clear hp hq0 hq1 hqq hkz
        have hpl : p < (m.put (ents ss)).length := by have := HK4.out; omega
        obtain ⟨x, hx⟩ : ∃ x, (m.put (ents ss))[p] = x := ⟨_, rfl⟩
        have hxb : x < 256 := sealed_byte (raw_byte m (ents ss)) x (by rw [← hx]; exact List.getElem_mem _)
        have HO8 := Lib.hid (H5.out.1.ext hV8)
        have hat : (u8s (m.put (ents ss)))[p]? = some (.int .u8 (x : Int)) := by rw [u8s_at _ _ hpl, hx]
        have cc := HO8.out.cellAt hpk hat
        have ff := HO8.out.frozenAt p
        have p0 : (0 : Int) ≤ p := by omega
        have p1 : (p : Int) < k4 := by omega
        have HX8 := Lib.hid ((HP.out.2.2.trans H5.out.2.2.1).trans hV8)
        have hgb : w.heap.size ≤ g := by have h1 := H5.out.1.base_le g rfl; have h2 := (HP.out.2.2.trans x1).size; omega
        have HGB := Lib.hid hgb
        have hyb := HTO.out.2
        clear hat hgb
        by_cases hxy : x = y
        · subst hxy
          clear hx
          go_wp2_with fail
          go_returns
          exact ⟨rfl, HX8.out⟩
        · have hne : ((x : Int) == (y : Int)) = false := by simp; omega
          have hop := slip_put (m := m) (es := ents ss) (show y < 256 by omega) hpl (by rw [hx]; exact hxy)
          have hge : getErr ((m.put (ents ss)).set p y) = 4 := by unfold getErr; rw [hop]; rfl
          have ho2 := HO8.out.stored p (.int .u8 (y : Int))
          have hset : (u8s (m.put (ents ss))).set p (.int .u8 (y : Int)) = u8s ((m.put (ents ss)).set p y) := by simp [u8s, List.map_set]
          rw [hset] at ho2
          have sb2 : ∀ z ∈ (m.put (ents ss)).set p y, z < 256 := fun z hz => by
            rcases List.mem_or_eq_of_mem_set hz with h | rfl
            · exact sealed_byte (raw_byte m (ents ss)) z h
            · omega
          have e2 : Ext w (V8.setCell ⟨g, p, none⟩ (.int .u8 (y : Int))) := HX8.out.setCell HGB.out _
          have CG := Lib.hid (mget_any (some ⟨g, 0, none⟩) k4 d4 ((m.put (ents ss)).set p y) _ ho2.rd sb2 (by omega) ho2.cap_le (HS.out _ e2).2.2.1 (HS.out _ e2).2.2.2.1 (HS.out _ e2).2.2.2.2)
          rw [hge, show errM pb pu 4 = .iface 149 (.pointer (some pu)) from rfl] at CG
          have HE2 := Lib.hid e2
          have HOP := Lib.hid hop
          clear hop hge ho2 hset sb2 e2 hx hxy
          go_upto_region 14 with (fail)
          generalize V8.setCell ⟨g, p, none⟩ (.int .u8 (y : Int)) = V9 at *
          clear cc ff hne
          go_upto_region 15 with (go_at_call 42; refine CG.out.mono ?_; rintro _ w9 ⟨hg, x9⟩; rcases hg with ⟨m9, s9, B9, n9, d9, hn9, hf9, he9, rfl, ol9⟩ | ⟨hno9, rfl⟩)
          · have h := (opened_put he9).1; rw [HOP.out] at h; cases h
          have X9 := (HE2.out.trans x9).alloc (.cells #[.int .i64 0, .int .i64 0, .int .i64 0, .int .i64 0, .int .i64 0, .int .i64 0, .int .i64 0, .int .i64 0, .slice none 0 0] 76)
          have s9 := (HS.out _ X9).2.2.2.2.2.1
          have HX9 := Lib.hid X9
          clear X9 x9 hno9 CG
          generalize w9.alloc (.cells #[.int .i64 0, .int .i64 0, .int .i64 0, .int .i64 0, .int .i64 0, .int .i64 0, .int .i64 0, .int .i64 0, .slice none 0 0] 76) = V10 at *
          go_wp2_with fail
          go_returns
          exact ⟨rfl, HX9.out⟩
  · simp only [List.getElem_toArray, List.getElem_cons_succ, List.getElem_cons_zero]
    go_simp
    refine hK.out _ _ (fun _ => ((Ext.refl V).alloc _).drew) ?_
    clear hK K 
    try simp only [Act.put, List.setIfInBounds_toArray, List.set_cons_zero, List.set_cons_succ]
    refine d_one (i := 8) (by kernel_rfl) rfl rfl (fun K hK => ?_)
    simp only [List.getElem_toArray, List.getElem_cons_succ, List.getElem_cons_zero]
    go_simp
    refine hK.out _ _ (fun _ => (((Ext.refl V).alloc _).alloc _).drew) ?_
    clear hK K 
    try simp only [Act.put, List.setIfInBounds_toArray, List.set_cons_zero, List.set_cons_succ]
    have hX2 : Ext V ((V.alloc (.cells #[.int .i64 0, .int .i64 0, .int .i64 0, .int .i64 0, .int .i64 0, .int .i64 0, .int .i64 0, .int .i64 0, .slice none 0 0] 76)).alloc (.cells #[.int .i64 0, .int .i64 0, .int .i64 0, .int .i64 0, .int .i64 0, .int .i64 0, .int .i64 0, .int .i64 0, .slice none 0 0] 76)).drew := (((Ext.refl V).alloc _).alloc _).drew
    have hb1 : ((V.alloc (.cells #[.int .i64 0, .int .i64 0, .int .i64 0, .int .i64 0, .int .i64 0, .int .i64 0, .int .i64 0, .int .i64 0, .slice none 0 0] 76)).alloc (.cells #[.int .i64 0, .int .i64 0, .int .i64 0, .int .i64 0, .int .i64 0, .int .i64 0, .int .i64 0, .int .i64 0, .slice none 0 0] 76)).drew.heap[V.heap.size]? = some (.cells #[.int .i64 0, .int .i64 0, .int .i64 0, .int .i64 0, .int .i64 0, .int .i64 0, .int .i64 0, .int .i64 0, .slice none 0 0] 76) := heap_drew ((((Ext.refl (V.alloc (.cells #[.int .i64 0, .int .i64 0, .int .i64 0, .int .i64 0, .int .i64 0, .int .i64 0, .int .i64 0, .int .i64 0, .slice none 0 0] 76))).alloc (.cells #[.int .i64 0, .int .i64 0, .int .i64 0, .int .i64 0, .int .i64 0, .int .i64 0, .int .i64 0, .int .i64 0, .slice none 0 0] 76)).block _ (block_lt (heap_alloc_new V _))).trans (heap_alloc_new V _))
    have hb2 : ((V.alloc (.cells #[.int .i64 0, .int .i64 0, .int .i64 0, .int .i64 0, .int .i64 0, .int .i64 0, .int .i64 0, .int .i64 0, .slice none 0 0] 76)).alloc (.cells #[.int .i64 0, .int .i64 0, .int .i64 0, .int .i64 0, .int .i64 0, .int .i64 0, .int .i64 0, .int .i64 0, .slice none 0 0] 76)).drew.heap[V.heap.size + 1]? = some (.cells #[.int .i64 0, .int .i64 0, .int .i64 0, .int .i64 0, .int .i64 0, .int .i64 0, .int .i64 0, .int .i64 0, .slice none 0 0] 76) := by have h := heap_alloc_new (V.alloc (.cells #[.int .i64 0, .int .i64 0, .int .i64 0, .int .i64 0, .int .i64 0, .int .i64 0, .int .i64 0, .int .i64 0, .slice none 0 0] 76)) (.cells #[.int .i64 0, .int .i64 0, .int .i64 0, .int .i64 0, .int .i64 0, .int .i64 0, .int .i64 0, .int .i64 0, .slice none 0 0] 76); rw [World.size_alloc] at h; exact heap_drew h
    have HB2 := Lib.hid (And.intro hX2 (And.intro hb1 (And.intro hb2 (Nat.le_refl V.heap.size))))
    clear hX2 hb1 hb2 HY
    generalize ((V.alloc (.cells #[.int .i64 0, .int .i64 0, .int .i64 0, .int .i64 0, .int .i64 0, .int .i64 0, .int .i64 0, .int .i64 0, .slice none 0 0] 76)).alloc (.cells #[.int .i64 0, .int .i64 0, .int .i64 0, .int .i64 0, .int .i64 0, .int .i64 0, .int .i64 0, .int .i64 0, .slice none 0 0] 76)).drew = w2 at *
    obtain ⟨sb_, hsb⟩ : ∃ s, V.heap.size = s := ⟨_, rfl⟩
    rw [hsb] at HB2
    simp only [hsb]
    have HSB := Lib.hid hsb
    clear hsb
    have hz := st9 (W := w2) (HB2.out.2.2.1) (.int .i64 m.kd) (.int .i64 m.fr) (.int .i64 m.tw) (.int .i64 m.jb) (.int .i64 m.br) (.int .i64 m.bn) (.int .i64 m.ar) (.int .i64 m.an) (.slice A n c)
    have H3 := Lib.hid (And.intro hz (Fr.ext HB2.out.1 hz.2 (fun i (h : i = (sb_ + 1)) => by have := HSB.out; omega)))
    clear hz
    have r0 : w2.cell? ⟨(sb_ + 1), 0, none⟩ = some (.int .i64 0) := block_cell (HB2.out.2.2.1) 0
    have r1 : w2.cell? ⟨(sb_ + 1), 1, none⟩ = some (.int .i64 0) := block_cell (HB2.out.2.2.1) 1
    have r2 : w2.cell? ⟨(sb_ + 1), 2, none⟩ = some (.int .i64 0) := block_cell (HB2.out.2.2.1) 2
    have r3 : w2.cell? ⟨(sb_ + 1), 3, none⟩ = some (.int .i64 0) := block_cell (HB2.out.2.2.1) 3
    have r4 : w2.cell? ⟨(sb_ + 1), 4, none⟩ = some (.int .i64 0) := block_cell (HB2.out.2.2.1) 4
    have r5 : w2.cell? ⟨(sb_ + 1), 5, none⟩ = some (.int .i64 0) := block_cell (HB2.out.2.2.1) 5
    have r6 : w2.cell? ⟨(sb_ + 1), 6, none⟩ = some (.int .i64 0) := block_cell (HB2.out.2.2.1) 6
    have r7 : w2.cell? ⟨(sb_ + 1), 7, none⟩ = some (.int .i64 0) := block_cell (HB2.out.2.2.1) 7
    have r8 : w2.cell? ⟨(sb_ + 1), 8, none⟩ = some (.slice none 0 0) := block_cell (HB2.out.2.2.1) 8
    have q0 : w2.frozen? ⟨(sb_ + 1), 0, none⟩ = false := block_fz (HB2.out.2.2.1) 0
    have q1 : w2.frozen? ⟨(sb_ + 1), 1, none⟩ = false := block_fz (HB2.out.2.2.1) 1
    have q2 : w2.frozen? ⟨(sb_ + 1), 2, none⟩ = false := block_fz (HB2.out.2.2.1) 2
    have q3 : w2.frozen? ⟨(sb_ + 1), 3, none⟩ = false := block_fz (HB2.out.2.2.1) 3
    have q4 : w2.frozen? ⟨(sb_ + 1), 4, none⟩ = false := block_fz (HB2.out.2.2.1) 4
    have q5 : w2.frozen? ⟨(sb_ + 1), 5, none⟩ = false := block_fz (HB2.out.2.2.1) 5
    have q6 : w2.frozen? ⟨(sb_ + 1), 6, none⟩ = false := block_fz (HB2.out.2.2.1) 6
    have q7 : w2.frozen? ⟨(sb_ + 1), 7, none⟩ = false := block_fz (HB2.out.2.2.1) 7
    have q8 : w2.frozen? ⟨(sb_ + 1), 8, none⟩ = false := block_fz (HB2.out.2.2.1) 8
    refine d_one (i := 10) (by kernel_rfl) rfl rfl (fun K hK => ?_)
    simp only [List.getElem_toArray, List.getElem_cons_succ, List.getElem_cons_zero]
    go_simp
    refine hK.out _ _ (fun _ => H3.out.2) ?_
    clear hK K 
    try simp only [Act.put, List.setIfInBounds_toArray, List.set_cons_zero, List.set_cons_succ]
    generalize (((((((((w2.setCell ⟨(sb_ + 1), 0, none⟩ (.int .i64 m.kd)).setCell ⟨(sb_ + 1), 1, none⟩ (.int .i64 m.fr)).setCell ⟨(sb_ + 1), 2, none⟩ (.int .i64 m.tw)).setCell ⟨(sb_ + 1), 3, none⟩ (.int .i64 m.jb)).setCell ⟨(sb_ + 1), 4, none⟩ (.int .i64 m.br)).setCell ⟨(sb_ + 1), 5, none⟩ (.int .i64 m.bn)).setCell ⟨(sb_ + 1), 6, none⟩ (.int .i64 m.ar)).setCell ⟨(sb_ + 1), 7, none⟩ (.int .i64 m.an)).setCell ⟨(sb_ + 1), 8, none⟩ (.slice A n c)) = w3 at *
    clear r0 q0 r1 q1 r2 q2 r3 q3 r4 q4 r5 q5 r6 q6 r7 q7 r8 q8
    have H3b := Lib.hid ((H3.out.1.2.block sb_ (block_lt (HB2.out.2.1)) (fun (h : sb_ = (sb_ + 1)) => by omega)).trans (HB2.out.2.1))
    have hw := st9 (W := w3) H3b.out (.int .i64 e.kd) (.int .i64 e.fr) (.int .i64 e.tw) (.int .i64 e.jb) (.int .i64 e.br) (.int .i64 e.bn) (.int .i64 e.ar) (.int .i64 e.an) (.slice B r d)
    have H4 := Lib.hid (And.intro ((hw.2.block (sb_ + 1) (block_lt H3.out.1.1) (fun (h : (sb_ + 1) = sb_) => by omega)).trans H3.out.1.1) (And.intro hw.1 (Fr.ext H3.out.2 hw.2 (fun i (h : i = sb_) => by have := HSB.out; omega))))
    clear hw
    have r0 : w3.cell? ⟨sb_, 0, none⟩ = some (.int .i64 0) := block_cell (H3b.out) 0
    have r1 : w3.cell? ⟨sb_, 1, none⟩ = some (.int .i64 0) := block_cell (H3b.out) 1
    have r2 : w3.cell? ⟨sb_, 2, none⟩ = some (.int .i64 0) := block_cell (H3b.out) 2
    have r3 : w3.cell? ⟨sb_, 3, none⟩ = some (.int .i64 0) := block_cell (H3b.out) 3
    have r4 : w3.cell? ⟨sb_, 4, none⟩ = some (.int .i64 0) := block_cell (H3b.out) 4
    have r5 : w3.cell? ⟨sb_, 5, none⟩ = some (.int .i64 0) := block_cell (H3b.out) 5
    have r6 : w3.cell? ⟨sb_, 6, none⟩ = some (.int .i64 0) := block_cell (H3b.out) 6
    have r7 : w3.cell? ⟨sb_, 7, none⟩ = some (.int .i64 0) := block_cell (H3b.out) 7
    have r8 : w3.cell? ⟨sb_, 8, none⟩ = some (.slice none 0 0) := block_cell (H3b.out) 8
    have q0 : w3.frozen? ⟨sb_, 0, none⟩ = false := block_fz (H3b.out) 0
    have q1 : w3.frozen? ⟨sb_, 1, none⟩ = false := block_fz (H3b.out) 1
    have q2 : w3.frozen? ⟨sb_, 2, none⟩ = false := block_fz (H3b.out) 2
    have q3 : w3.frozen? ⟨sb_, 3, none⟩ = false := block_fz (H3b.out) 3
    have q4 : w3.frozen? ⟨sb_, 4, none⟩ = false := block_fz (H3b.out) 4
    have q5 : w3.frozen? ⟨sb_, 5, none⟩ = false := block_fz (H3b.out) 5
    have q6 : w3.frozen? ⟨sb_, 6, none⟩ = false := block_fz (H3b.out) 6
    have q7 : w3.frozen? ⟨sb_, 7, none⟩ = false := block_fz (H3b.out) 7
    have q8 : w3.frozen? ⟨sb_, 8, none⟩ = false := block_fz (H3b.out) 8
    refine d_one (i := 11) (by kernel_rfl) rfl rfl (fun K hK => ?_)
    simp only [List.getElem_toArray, List.getElem_cons_succ, List.getElem_cons_zero]
    go_simp
    refine hK.out _ _ (fun _ => H4.out.2.2) ?_
    clear hK K 
    try simp only [Act.put, List.setIfInBounds_toArray, List.set_cons_zero, List.set_cons_succ]
    clear r0 q0 r1 q1 r2 q2 r3 q3 r4 q4 r5 q5 r6 q6 r7 q7 r8 q8
    refine d_one (i := 12) (by kernel_rfl) rfl rfl (fun K hK => ?_)
    simp only [List.getElem_toArray, List.getElem_cons_succ, List.getElem_cons_zero]
    go_simp
    refine hK.out _ _ (fun _ => H4.out.2.2) ?_
    clear hK K 
    try simp only [Act.put, List.setIfInBounds_toArray, List.set_cons_zero, List.set_cons_succ]
    refine d_one (i := 13) (by kernel_rfl) rfl rfl (fun K hK => ?_)
    simp only [List.getElem_toArray, List.getElem_cons_succ, List.getElem_cons_zero]
    go_simp
    refine hK.out _ _ (fun _ => H4.out.2.2) ?_
    clear hK K 
    try simp only [Act.put, List.setIfInBounds_toArray, List.set_cons_zero, List.set_cons_succ]
    refine d_done (by kernel_rfl) ?_ _
    have HP := Lib.hid (And.intro H4.out.1 (And.intro H4.out.2.1 (HV.out.2.trans H4.out.2.2)))
    clear H4 H3 H3b HB2 HV
    generalize (((((((((w3.setCell ⟨sb_, 0, none⟩ (.int .i64 e.kd)).setCell ⟨sb_, 1, none⟩ (.int .i64 e.fr)).setCell ⟨sb_, 2, none⟩ (.int .i64 e.tw)).setCell ⟨sb_, 3, none⟩ (.int .i64 e.jb)).setCell ⟨sb_, 4, none⟩ (.int .i64 e.br)).setCell ⟨sb_, 5, none⟩ (.int .i64 e.bn)).setCell ⟨sb_, 6, none⟩ (.int .i64 e.ar)).setCell ⟨sb_, 7, none⟩ (.int .i64 e.an)).setCell ⟨sb_, 8, none⟩ (.slice B r d)) = V4 at *
    as_aux_lemma =>
    have a0 : ∀ W, Ext V4 W → W.cell? ⟨(sb_ + 1), 0, none⟩ = some (.int .i64 m.kd) := fun W hx => block_cell ((hx.block _ (block_lt (HP.out.1))).trans (HP.out.1)) 0
    have a1 : ∀ W, Ext V4 W → W.cell? ⟨(sb_ + 1), 1, none⟩ = some (.int .i64 m.fr) := fun W hx => block_cell ((hx.block _ (block_lt (HP.out.1))).trans (HP.out.1)) 1
    have a2 : ∀ W, Ext V4 W → W.cell? ⟨(sb_ + 1), 2, none⟩ = some (.int .i64 m.tw) := fun W hx => block_cell ((hx.block _ (block_lt (HP.out.1))).trans (HP.out.1)) 2
    have a3 : ∀ W, Ext V4 W → W.cell? ⟨(sb_ + 1), 3, none⟩ = some (.int .i64 m.jb) := fun W hx => block_cell ((hx.block _ (block_lt (HP.out.1))).trans (HP.out.1)) 3
    have a4 : ∀ W, Ext V4 W → W.cell? ⟨(sb_ + 1), 4, none⟩ = some (.int .i64 m.br) := fun W hx => block_cell ((hx.block _ (block_lt (HP.out.1))).trans (HP.out.1)) 4
    have a5 : ∀ W, Ext V4 W → W.cell? ⟨(sb_ + 1), 5, none⟩ = some (.int .i64 m.bn) := fun W hx => block_cell ((hx.block _ (block_lt (HP.out.1))).trans (HP.out.1)) 5
    have a6 : ∀ W, Ext V4 W → W.cell? ⟨(sb_ + 1), 6, none⟩ = some (.int .i64 m.ar) := fun W hx => block_cell ((hx.block _ (block_lt (HP.out.1))).trans (HP.out.1)) 6
    have a7 : ∀ W, Ext V4 W → W.cell? ⟨(sb_ + 1), 7, none⟩ = some (.int .i64 m.an) := fun W hx => block_cell ((hx.block _ (block_lt (HP.out.1))).trans (HP.out.1)) 7
    have a8 : ∀ W, Ext V4 W → W.cell? ⟨(sb_ + 1), 8, none⟩ = some (.slice A n c) := fun W hx => block_cell ((hx.block _ (block_lt (HP.out.1))).trans (HP.out.1)) 8
    have b0 : ∀ W, Ext V4 W → W.cell? ⟨sb_, 0, none⟩ = some (.int .i64 e.kd) := fun W hx => block_cell ((hx.block _ (block_lt (HP.out.2.1))).trans (HP.out.2.1)) 0
    have b1 : ∀ W, Ext V4 W → W.cell? ⟨sb_, 1, none⟩ = some (.int .i64 e.fr) := fun W hx => block_cell ((hx.block _ (block_lt (HP.out.2.1))).trans (HP.out.2.1)) 1
    have b2 : ∀ W, Ext V4 W → W.cell? ⟨sb_, 2, none⟩ = some (.int .i64 e.tw) := fun W hx => block_cell ((hx.block _ (block_lt (HP.out.2.1))).trans (HP.out.2.1)) 2
    have b3 : ∀ W, Ext V4 W → W.cell? ⟨sb_, 3, none⟩ = some (.int .i64 e.jb) := fun W hx => block_cell ((hx.block _ (block_lt (HP.out.2.1))).trans (HP.out.2.1)) 3
    have b4 : ∀ W, Ext V4 W → W.cell? ⟨sb_, 4, none⟩ = some (.int .i64 e.br) := fun W hx => block_cell ((hx.block _ (block_lt (HP.out.2.1))).trans (HP.out.2.1)) 4
    have b5 : ∀ W, Ext V4 W → W.cell? ⟨sb_, 5, none⟩ = some (.int .i64 e.bn) := fun W hx => block_cell ((hx.block _ (block_lt (HP.out.2.1))).trans (HP.out.2.1)) 5
    have b6 : ∀ W, Ext V4 W → W.cell? ⟨sb_, 6, none⟩ = some (.int .i64 e.ar) := fun W hx => block_cell ((hx.block _ (block_lt (HP.out.2.1))).trans (HP.out.2.1)) 6
    have b7 : ∀ W, Ext V4 W → W.cell? ⟨sb_, 7, none⟩ = some (.int .i64 e.an) := fun W hx => block_cell ((hx.block _ (block_lt (HP.out.2.1))).trans (HP.out.2.1)) 7
    have b8 : ∀ W, Ext V4 W → W.cell? ⟨sb_, 8, none⟩ = some (.slice B r d) := fun W hx => block_cell ((hx.block _ (block_lt (HP.out.2.1))).trans (HP.out.2.1)) 8
    have XV := Ext.refl V4
    have HW := Lib.hid (fun W (hx : Ext V4 W) => HS.out W (HP.out.2.2.trans hx))
    have CA := Lib.hid ((speaks_any V4 (HW.out V4 XV).2.2.2.1).mono fun x w' (h : _ ∧ _) => And.intro h.1 (XV.trans h.2))
    go_upto_region 4 with (go_at_call 37; refine CA.out.mono ?_; rintro _ w1 ⟨rfl, x1⟩)
    clear CA
    have ES := err_same
    cases fa
    · have CPm := Lib.hid (fun W (hx : Ext V4 W) => (mput_no (m := m) (c := c) (HW.out W hx).1 (by omega) HFA.out (HW.out W hx).2.2.2.1).mono fun x w' (h : _ ∧ _) => And.intro h.1 (hx.trans h.2))
      have CFm := Lib.hid (fun W (hx : Ext V4 W) => (rmform_any m A n c ss W (HW.out W hx).1 (by omega) false HFA).mono fun x w' (h : _ ∧ _) => And.intro h.1 (hx.trans h.2))
      cases fb
      · have CPe := Lib.hid (fun W (hx : Ext V4 W) => (mput_no (m := e) (c := d) (HW.out W hx).2.1 (by omega) HFB.out (HW.out W hx).2.2.2.1).mono fun x w' (h : _ ∧ _) => And.intro h.1 (hx.trans h.2))
        have CFe := Lib.hid (fun W (hx : Ext V4 W) => (rmform_any e B r d tt W (HW.out W hx).2.1 (by omega) false HFB).mono fun x w' (h : _ ∧ _) => And.intro h.1 (hx.trans h.2))
        go_upto_region 5 with (go_at_call 39; with_reducible refine (CPm.out _ (by assumption)).mono ?_; rintro _ wn ⟨rfl, xn⟩; clear CPm)
        go_upto_region 6 with (go_at_call 39; with_reducible refine (CPe.out _ (by assumption)).mono ?_; rintro _ wn ⟨rfl, xn⟩; clear CPe)
        go_wp2_with (go_at_call 41; first | (with_reducible refine (CFm.out _ (by assumption)).mono ?_; rintro _ wn ⟨rfl, xn⟩) | (with_reducible refine (CFe.out _ (by assumption)).mono ?_; rintro _ wn ⟨rfl, xn⟩))
        go_returns
        exact ⟨rfl, HP.out.2.2.trans (by assumption)⟩
      · have CPe := Lib.hid (fun W (hx : Ext V4 W) => mput_ok (m := e) (c := d) (HW.out W hx).2.1 (by omega) HFB.out (HW.out W hx).2.2.2.1)
        have CFe := Lib.hid (fun W (hx : Ext V4 W) => (rmform_any e B r d tt W (HW.out W hx).2.1 (by omega) true HFB).mono fun x w' (h : _ ∧ _) => And.intro h.1 (hx.trans h.2))
        go_upto_region 5 with (go_at_call 39; with_reducible refine (CPm.out _ (by assumption)).mono ?_; rintro _ wn ⟨rfl, xn⟩; clear CPm)
        go_upto_region 6 with (go_at_call 39; with_reducible refine (CPe.out _ (by assumption)).mono ?_; rintro _ w5 ⟨X5, k5, d5, rfl, o5, x5⟩; have xx5 : Ext V4 w5 := Ext.trans (by assumption : Ext V4 _) x5; clear CPe)
        go_wp2_with (go_at_call 41; first | (with_reducible refine (CFm.out _ (by assumption)).mono ?_; rintro _ wn ⟨rfl, xn⟩) | (with_reducible refine (CFe.out _ (by assumption)).mono ?_; rintro _ wn ⟨rfl, xn⟩))
        go_returns
        exact ⟨rfl, HP.out.2.2.trans (by assumption)⟩
    · have CPm := Lib.hid (fun W (hx : Ext V4 W) => mput_ok (m := m) (c := c) (HW.out W hx).1 (by omega) HFA.out (HW.out W hx).2.2.2.1)
      have CFm := Lib.hid (fun W (hx : Ext V4 W) => (rmform_any m A n c ss W (HW.out W hx).1 (by omega) true HFA).mono fun x w' (h : _ ∧ _) => And.intro h.1 (hx.trans h.2))
      cases fb
      · have CPe := Lib.hid (fun W (hx : Ext V4 W) => (mput_no (m := e) (c := d) (HW.out W hx).2.1 (by omega) HFB.out (HW.out W hx).2.2.2.1).mono fun x w' (h : _ ∧ _) => And.intro h.1 (hx.trans h.2))
        have CFe := Lib.hid (fun W (hx : Ext V4 W) => (rmform_any e B r d tt W (HW.out W hx).2.1 (by omega) false HFB).mono fun x w' (h : _ ∧ _) => And.intro h.1 (hx.trans h.2))
        go_upto_region 5 with (go_at_call 39; with_reducible refine (CPm.out _ (by assumption)).mono ?_; rintro _ w4 ⟨X4, k4, d4, rfl, o4, x4⟩; have xx4 : Ext V4 w4 := Ext.trans (by assumption : Ext V4 _) x4; clear CPm)
        go_upto_region 6 with (go_at_call 39; with_reducible refine (CPe.out _ (by assumption)).mono ?_; rintro _ wn ⟨rfl, xn⟩; clear CPe)
        go_wp2_with (go_at_call 41; first | (with_reducible refine (CFm.out _ (by assumption)).mono ?_; rintro _ wn ⟨rfl, xn⟩) | (with_reducible refine (CFe.out _ (by assumption)).mono ?_; rintro _ wn ⟨rfl, xn⟩))
        go_returns
        exact ⟨rfl, HP.out.2.2.trans (by assumption)⟩
      · have CPe := Lib.hid (fun W (hx : Ext V4 W) => mput_ok (m := e) (c := d) (HW.out W hx).2.1 (by omega) HFB.out (HW.out W hx).2.2.2.1)
        clear CFm
        go_upto_region 5 with (go_at_call 39; with_reducible refine (CPm.out _ (by assumption)).mono ?_; rintro _ w4 ⟨X4, k4, d4, rfl, o4, x4⟩; have xx4 : Ext V4 w4 := Ext.trans (by assumption : Ext V4 _) x4; clear CPm)
        go_upto_region 6 with (go_at_call 39; with_reducible refine (CPe.out _ (by assumption)).mono ?_; rintro _ w5 ⟨X5, k5, d5, rfl, o5, x5⟩; have xx5 : Ext V4 w5 := Ext.trans (by assumption : Ext V4 _) x5; clear CPe)
        obtain ⟨g, rfl⟩ := o4.head (by have h := o4.len; have h2 := mput_len HFA.out; rw [u8s_len] at h; omega)
        have H5 := Lib.hid (And.intro (o4.ext x5) (And.intro o5 (And.intro xx5 xx4)))
        have hl4 := mput_len HFA.out
        have hk4 : (m.put (ents ss)).length = k4 := by have h := o4.len; rw [u8s_len] at h; omega
        have hk4b : 4 ≤ k4 ∧ k4 ≤ 30000 := by omega
        have HK4 := Lib.hid hk4
        obtain ⟨bs, hbs⟩ : ∃ b, decide (m = e ∧ ents ss = ents tt) = b := ⟨_, rfl⟩
        have HBS := Lib.hid hbs
        have hstr := str_same (sealed_byte (raw_byte m (ents ss))) (sealed_byte (raw_byte e (ents tt))) (P := m = e ∧ ents ss = ents tt) ⟨fun h => mput_inj HFA.out HFB.out h, fun h => by rw [h.1, h.2]⟩ hbs
        clear hl4 hk4 hbs o4 o5 x4 x5 xx4
        go_upto_region 8 with (fail)
        obtain ⟨sa, hsa⟩ : ∃ s, str (m.put (ents ss)) = s := ⟨_, rfl⟩
        obtain ⟨sb, hsb⟩ : ∃ s, str (e.put (ents tt)) = s := ⟨_, rfl⟩
        have hstr2 : (sa.toList == sb.toList) = bs := by rw [← hsa, ← hsb]; exact hstr
        have rs4 : ∀ W, Ext w5 W → (convert 54 9 (.slice (some ⟨g, 0, none⟩) k4 d4)).run Tryd.prog W = .ok (.string sa) W := fun W hx => by rw [← hsa]; exact run_str Tryd.underlying54 Tryd.underlying5 Tryd.underlying9 d4 (H5.out.1.ext hx).rd
        have rs5 : ∀ W, Ext w5 W → (convert 54 9 (.slice X5 k5 d5)).run Tryd.prog W = .ok (.string sb) W := fun W hx => by rw [← hsb]; exact run_str Tryd.underlying54 Tryd.underlying5 Tryd.underlying9 d5 (H5.out.2.1.ext hx).rd
        have q1 : ∀ W, (binOp .neq 4 (.bool bs) (.bool bs)).run Tryd.prog W = .ok (.bool false) W := fun W => by cases bs <;> kernel_rfl
        have CS := Lib.hid (fun W (hx : Ext w5 W) => rsamem_any m e A n c ss B r d tt W (HW.out W (xx5.trans hx)).1 (HW.out W (xx5.trans hx)).2.1 (by omega) bs HBS)
        have hk0 : ¬ (k4 : Int) = 0 := by omega
        have hk0N : ¬ k4 = 0 := by omega
        clear hstr hsa hsb
        clear a0 b0 a1 b1 a2 b2 a3 b3 a4 b4 a5 b5 a6 b6 a7 b7 a8 b8
        have a0 : ∀ W, Ext w5 W → W.cell? ⟨(sb_ + 1), 0, none⟩ = some (.int .i64 m.kd) := fun W hx => block_cell ((hx.block _ (block_lt (((H5.out.2.2.1.block _ (block_lt HP.out.1)).trans HP.out.1)))).trans (((H5.out.2.2.1.block _ (block_lt HP.out.1)).trans HP.out.1))) 0
        have a1 : ∀ W, Ext w5 W → W.cell? ⟨(sb_ + 1), 1, none⟩ = some (.int .i64 m.fr) := fun W hx => block_cell ((hx.block _ (block_lt (((H5.out.2.2.1.block _ (block_lt HP.out.1)).trans HP.out.1)))).trans (((H5.out.2.2.1.block _ (block_lt HP.out.1)).trans HP.out.1))) 1
        have a2 : ∀ W, Ext w5 W → W.cell? ⟨(sb_ + 1), 2, none⟩ = some (.int .i64 m.tw) := fun W hx => block_cell ((hx.block _ (block_lt (((H5.out.2.2.1.block _ (block_lt HP.out.1)).trans HP.out.1)))).trans (((H5.out.2.2.1.block _ (block_lt HP.out.1)).trans HP.out.1))) 2
        have a3 : ∀ W, Ext w5 W → W.cell? ⟨(sb_ + 1), 3, none⟩ = some (.int .i64 m.jb) := fun W hx => block_cell ((hx.block _ (block_lt (((H5.out.2.2.1.block _ (block_lt HP.out.1)).trans HP.out.1)))).trans (((H5.out.2.2.1.block _ (block_lt HP.out.1)).trans HP.out.1))) 3
        have a4 : ∀ W, Ext w5 W → W.cell? ⟨(sb_ + 1), 4, none⟩ = some (.int .i64 m.br) := fun W hx => block_cell ((hx.block _ (block_lt (((H5.out.2.2.1.block _ (block_lt HP.out.1)).trans HP.out.1)))).trans (((H5.out.2.2.1.block _ (block_lt HP.out.1)).trans HP.out.1))) 4
        have a5 : ∀ W, Ext w5 W → W.cell? ⟨(sb_ + 1), 5, none⟩ = some (.int .i64 m.bn) := fun W hx => block_cell ((hx.block _ (block_lt (((H5.out.2.2.1.block _ (block_lt HP.out.1)).trans HP.out.1)))).trans (((H5.out.2.2.1.block _ (block_lt HP.out.1)).trans HP.out.1))) 5
        have a6 : ∀ W, Ext w5 W → W.cell? ⟨(sb_ + 1), 6, none⟩ = some (.int .i64 m.ar) := fun W hx => block_cell ((hx.block _ (block_lt (((H5.out.2.2.1.block _ (block_lt HP.out.1)).trans HP.out.1)))).trans (((H5.out.2.2.1.block _ (block_lt HP.out.1)).trans HP.out.1))) 6
        have a7 : ∀ W, Ext w5 W → W.cell? ⟨(sb_ + 1), 7, none⟩ = some (.int .i64 m.an) := fun W hx => block_cell ((hx.block _ (block_lt (((H5.out.2.2.1.block _ (block_lt HP.out.1)).trans HP.out.1)))).trans (((H5.out.2.2.1.block _ (block_lt HP.out.1)).trans HP.out.1))) 7
        have a8 : ∀ W, Ext w5 W → W.cell? ⟨(sb_ + 1), 8, none⟩ = some (.slice A n c) := fun W hx => block_cell ((hx.block _ (block_lt (((H5.out.2.2.1.block _ (block_lt HP.out.1)).trans HP.out.1)))).trans (((H5.out.2.2.1.block _ (block_lt HP.out.1)).trans HP.out.1))) 8
        have b0 : ∀ W, Ext w5 W → W.cell? ⟨sb_, 0, none⟩ = some (.int .i64 e.kd) := fun W hx => block_cell ((hx.block _ (block_lt (((H5.out.2.2.1.block _ (block_lt HP.out.2.1)).trans HP.out.2.1)))).trans (((H5.out.2.2.1.block _ (block_lt HP.out.2.1)).trans HP.out.2.1))) 0
        have b1 : ∀ W, Ext w5 W → W.cell? ⟨sb_, 1, none⟩ = some (.int .i64 e.fr) := fun W hx => block_cell ((hx.block _ (block_lt (((H5.out.2.2.1.block _ (block_lt HP.out.2.1)).trans HP.out.2.1)))).trans (((H5.out.2.2.1.block _ (block_lt HP.out.2.1)).trans HP.out.2.1))) 1
        have b2 : ∀ W, Ext w5 W → W.cell? ⟨sb_, 2, none⟩ = some (.int .i64 e.tw) := fun W hx => block_cell ((hx.block _ (block_lt (((H5.out.2.2.1.block _ (block_lt HP.out.2.1)).trans HP.out.2.1)))).trans (((H5.out.2.2.1.block _ (block_lt HP.out.2.1)).trans HP.out.2.1))) 2
        have b3 : ∀ W, Ext w5 W → W.cell? ⟨sb_, 3, none⟩ = some (.int .i64 e.jb) := fun W hx => block_cell ((hx.block _ (block_lt (((H5.out.2.2.1.block _ (block_lt HP.out.2.1)).trans HP.out.2.1)))).trans (((H5.out.2.2.1.block _ (block_lt HP.out.2.1)).trans HP.out.2.1))) 3
        have b4 : ∀ W, Ext w5 W → W.cell? ⟨sb_, 4, none⟩ = some (.int .i64 e.br) := fun W hx => block_cell ((hx.block _ (block_lt (((H5.out.2.2.1.block _ (block_lt HP.out.2.1)).trans HP.out.2.1)))).trans (((H5.out.2.2.1.block _ (block_lt HP.out.2.1)).trans HP.out.2.1))) 4
        have b5 : ∀ W, Ext w5 W → W.cell? ⟨sb_, 5, none⟩ = some (.int .i64 e.bn) := fun W hx => block_cell ((hx.block _ (block_lt (((H5.out.2.2.1.block _ (block_lt HP.out.2.1)).trans HP.out.2.1)))).trans (((H5.out.2.2.1.block _ (block_lt HP.out.2.1)).trans HP.out.2.1))) 5
        have b6 : ∀ W, Ext w5 W → W.cell? ⟨sb_, 6, none⟩ = some (.int .i64 e.ar) := fun W hx => block_cell ((hx.block _ (block_lt (((H5.out.2.2.1.block _ (block_lt HP.out.2.1)).trans HP.out.2.1)))).trans (((H5.out.2.2.1.block _ (block_lt HP.out.2.1)).trans HP.out.2.1))) 6
        have b7 : ∀ W, Ext w5 W → W.cell? ⟨sb_, 7, none⟩ = some (.int .i64 e.an) := fun W hx => block_cell ((hx.block _ (block_lt (((H5.out.2.2.1.block _ (block_lt HP.out.2.1)).trans HP.out.2.1)))).trans (((H5.out.2.2.1.block _ (block_lt HP.out.2.1)).trans HP.out.2.1))) 7
        have b8 : ∀ W, Ext w5 W → W.cell? ⟨sb_, 8, none⟩ = some (.slice B r d) := fun W hx => block_cell ((hx.block _ (block_lt (((H5.out.2.2.1.block _ (block_lt HP.out.2.1)).trans HP.out.2.1)))).trans (((H5.out.2.2.1.block _ (block_lt HP.out.2.1)).trans HP.out.2.1))) 8
        refine w_region (fun w1 => Ext w5 w1) [] (by kernel_rfl) ((Ext.refl w5).drew) ?_
        refine w_take (i := 0) (v := ?_) [] (some 47) rfl (by rfl) (by kernel_rfl) (by kernel_rfl) (by kernel_rfl) (by kernel_rfl) (by kernel_rfl) (by kernel_rfl) (fun _ _ _ h => h) (YieldsIf.yieldsW (.inl ⟨by rfl, ?_⟩)) ?_
        rotate_left 1
        · (intro W hW; (try dsimp only at hW); go_simp; try with_reducible rfl)
        try simp only [Act.put, List.setIfInBounds_toArray, List.set_cons_zero, List.set_cons_succ]
        refine w_take (i := 1) (v := .string sa) [] (some 48) rfl (by rfl) (by kernel_rfl) (by kernel_rfl) (by kernel_rfl) (by kernel_rfl) (by kernel_rfl) (by kernel_rfl) (fun _ _ _ h => h) (YieldsIf.yieldsW (.inl ⟨by rfl, ?_⟩)) ?_
        · (intro W hW; (try dsimp only at hW); go_simp; try with_reducible rfl)
        try simp only [Act.put, List.setIfInBounds_toArray, List.set_cons_zero, List.set_cons_succ]
        refine w_take (i := 2) (v := ?_) [] (some 49) rfl (by rfl) (by kernel_rfl) (by kernel_rfl) (by kernel_rfl) (by kernel_rfl) (by kernel_rfl) (by kernel_rfl) (fun _ _ _ h => h) (YieldsIf.yieldsW (.inl ⟨by rfl, ?_⟩)) ?_
        rotate_left 1
        · (intro W hW; (try dsimp only at hW); go_simp; try with_reducible rfl)
        try simp only [Act.put, List.setIfInBounds_toArray, List.set_cons_zero, List.set_cons_succ]
        refine w_take (i := 3) (v := .string sb) [] (some 50) rfl (by rfl) (by kernel_rfl) (by kernel_rfl) (by kernel_rfl) (by kernel_rfl) (by kernel_rfl) (by kernel_rfl) (fun _ _ _ h => h) (YieldsIf.yieldsW (.inl ⟨by rfl, ?_⟩)) ?_
        · (intro W hW; (try dsimp only at hW); go_simp; try with_reducible rfl)
        try simp only [Act.put, List.setIfInBounds_toArray, List.set_cons_zero, List.set_cons_succ]
        refine w_take (i := 4) (v := .bool bs) [] (some 51) rfl (by rfl) (by kernel_rfl) (by kernel_rfl) (by kernel_rfl) (by kernel_rfl) (by kernel_rfl) (by kernel_rfl) (fun _ _ _ h => h) (YieldsIf.yieldsW (.inl ⟨by rfl, ?_⟩)) ?_
        · (intro W hW; (try dsimp only at hW); go_simp; try with_reducible rfl)
        try simp only [Act.put, List.setIfInBounds_toArray, List.set_cons_zero, List.set_cons_succ]
        refine w_take (i := 5) (v := ?_) [] (some 52) rfl (by rfl) (by kernel_rfl) (by kernel_rfl) (by kernel_rfl) (by kernel_rfl) (by kernel_rfl) (by kernel_rfl) (fun _ _ _ h => h) (YieldsIf.yieldsW (.inl ⟨by rfl, ?_⟩)) ?_
        rotate_left 1
        · (intro W hW; (try dsimp only at hW); go_simp; try with_reducible rfl)
        try simp only [Act.put, List.setIfInBounds_toArray, List.set_cons_zero, List.set_cons_succ]
        refine w_take (i := 6) (v := ?_) [] (some 53) rfl (by rfl) (by kernel_rfl) (by kernel_rfl) (by kernel_rfl) (by kernel_rfl) (by kernel_rfl) (by kernel_rfl) (fun _ _ _ h => h) (YieldsIf.yieldsW (.inl ⟨by rfl, ?_⟩)) ?_
        rotate_left 1
        · (intro W hW; (try dsimp only at hW); go_simp; try with_reducible rfl)
        try simp only [Act.put, List.setIfInBounds_toArray, List.set_cons_zero, List.set_cons_succ]
        refine w_take (i := 7) (v := .bool bs) [] (some 54) rfl (by rfl) (by kernel_rfl) (by kernel_rfl) (by kernel_rfl) (by kernel_rfl) (by kernel_rfl) (by kernel_rfl) (fun _ _ _ h => h) (.inl ⟨by rfl, ?_⟩) ?_
        · (intro W hW; refine .inr ⟨_, _, _, ?_, ((CS.out W hW).mono fun _ _ ⟨h1, h2⟩ => ⟨h1, hW.trans h2⟩)⟩; go_simp; try with_reducible rfl)
        try simp only [Act.put, List.setIfInBounds_toArray, List.set_cons_zero, List.set_cons_succ]
        refine w_take (i := 8) (v := .bool false) [] (some 55) rfl (by rfl) (by kernel_rfl) (by kernel_rfl) (by kernel_rfl) (by kernel_rfl) (by kernel_rfl) (by kernel_rfl) (fun _ _ _ h => h) (YieldsIf.yieldsW (.inl ⟨by rfl, ?_⟩)) ?_
        · (intro W hW; (try dsimp only at hW); go_simp; try with_reducible rfl)
        try simp only [Act.put, List.setIfInBounds_toArray, List.set_cons_zero, List.set_cons_succ]
        refine w_take (i := 9) (v := .bool false) [] (some 56) rfl (by rfl) (by kernel_rfl) (by kernel_rfl) (by kernel_rfl) (by kernel_rfl) (by kernel_rfl) (by kernel_rfl) (fun _ _ _ h => h) (YieldsIf.yieldsW (.inl ⟨by rfl, ?_⟩)) ?_
        · (intro W hW; (try dsimp only at hW); go_simp; try with_reducible rfl)
        try simp only [Act.put, List.setIfInBounds_toArray, List.set_cons_zero, List.set_cons_succ]
        refine w_take (i := 10) (v := ?_) [] (some 57) rfl (by rfl) (by kernel_rfl) (by kernel_rfl) (by kernel_rfl) (by kernel_rfl) (by kernel_rfl) (by kernel_rfl) (fun _ _ _ h => h) (YieldsIf.yieldsW (.inl ⟨by rfl, ?_⟩)) ?_
        rotate_left 1
        · (intro W hW; (try dsimp only at hW); go_simp; try with_reducible rfl)
        try simp only [Act.put, List.setIfInBounds_toArray, List.set_cons_zero, List.set_cons_succ]
        refine w_take (i := 11) (v := ?_) [] (some 58) rfl (by rfl) (by kernel_rfl) (by kernel_rfl) (by kernel_rfl) (by kernel_rfl) (by kernel_rfl) (by kernel_rfl) (fun _ _ _ h => h) (YieldsIf.yieldsW (.inl ⟨by rfl, ?_⟩)) ?_
        rotate_left 1
        · (intro W hW; (try dsimp only at hW); go_simp; try with_reducible rfl)
        try simp only [Act.put, List.setIfInBounds_toArray, List.set_cons_zero, List.set_cons_succ]
        refine w_take (i := 12) (v := .bool false) [] (some 59) rfl (by rfl) (by kernel_rfl) (by kernel_rfl) (by kernel_rfl) (by kernel_rfl) (by kernel_rfl) (by kernel_rfl) (fun _ _ _ h => h) (YieldsIf.yieldsW (.inl ⟨by rfl, ?_⟩)) ?_
        · (intro W hW; (try dsimp only at hW); go_simp; try with_reducible rfl)
        try simp only [Act.put, List.setIfInBounds_toArray, List.set_cons_zero, List.set_cons_succ]
        refine w_take (i := 13) (v := .bool false) [] (some 60) rfl (by rfl) (by kernel_rfl) (by kernel_rfl) (by kernel_rfl) (by kernel_rfl) (by kernel_rfl) (by kernel_rfl) (fun _ _ _ h => h) (YieldsIf.yieldsW (.inl ⟨by rfl, ?_⟩)) ?_
        · (intro W hW; (try dsimp only at hW); go_simp; try with_reducible rfl)
        try simp only [Act.put, List.setIfInBounds_toArray, List.set_cons_zero, List.set_cons_succ]
        refine w_done (by kernel_rfl) (by rfl) (fun V8 hV8 => ?_) _
        clear a0 b0 a1 b1 a2 b2 a3 b3 a4 b4 a5 b5 a6 b6 a7 b7 a8 b8
        clear rs4 rs5 q1 CS hstr2 hk0 hk0N
        obtain ⟨qq, hqq⟩ : ∃ q, at_.tmod (k4 : Int) = q := ⟨_, rfl⟩
        have hq0 : -(k4 : Int) < qq := by rw [← hqq]; have := Int.lt_tmod_of_pos at_ (b := (k4 : Int)) (by omega); omega
        have hq1 : qq < (k4 : Int) := by rw [← hqq]; exact Int.tmod_lt_of_pos at_ (b := (k4 : Int)) (by omega)
        obtain ⟨p, hp⟩ : ∃ p : Nat, (qq + (k4 : Int)) % (k4 : Int) = p := Int.eq_ofNat_of_zero_le (Int.emod_nonneg _ (by omega))
        have hpk : p < k4 := by have := Int.emod_lt_of_pos (qq + (k4 : Int)) (b := (k4 : Int)) (by omega); omega
        have hkz : ¬ (k4 : Int) = 0 := by omega
        go_upto_region 11 with (fail)
        rw [hp]
        clear hp hq0 hq1 hqq hkz
        have hpl : p < (m.put (ents ss)).length := by have := HK4.out; omega
        obtain ⟨x, hx⟩ : ∃ x, (m.put (ents ss))[p] = x := ⟨_, rfl⟩
        have hxb : x < 256 := sealed_byte (raw_byte m (ents ss)) x (by rw [← hx]; exact List.getElem_mem _)
        have HO8 := Lib.hid (H5.out.1.ext hV8)
        have hat : (u8s (m.put (ents ss)))[p]? = some (.int .u8 (x : Int)) := by rw [u8s_at _ _ hpl, hx]
        have cc := HO8.out.cellAt hpk hat
        have ff := HO8.out.frozenAt p
        have p0 : (0 : Int) ≤ p := by omega
        have p1 : (p : Int) < k4 := by omega
        have HX8 := Lib.hid ((HP.out.2.2.trans H5.out.2.2.1).trans hV8)
        have hgb : w.heap.size ≤ g := by have h1 := H5.out.1.base_le g rfl; have h2 := (HP.out.2.2.trans x1).size; omega
        have HGB := Lib.hid hgb
        have hyb := HTO.out.2
        clear hat hgb
        by_cases hxy : x = y
        · subst hxy
          clear hx
          go_wp2_with fail
          go_returns
          exact ⟨rfl, HX8.out⟩
        · have hne : ((x : Int) == (y : Int)) = false := by simp; omega
          have hop := slip_put (m := m) (es := ents ss) (show y < 256 by omega) hpl (by rw [hx]; exact hxy)
          have hge : getErr ((m.put (ents ss)).set p y) = 4 := by unfold getErr; rw [hop]; rfl
          have ho2 := HO8.out.stored p (.int .u8 (y : Int))
          have hset : (u8s (m.put (ents ss))).set p (.int .u8 (y : Int)) = u8s ((m.put (ents ss)).set p y) := by simp [u8s, List.map_set]
          rw [hset] at ho2
          have sb2 : ∀ z ∈ (m.put (ents ss)).set p y, z < 256 := fun z hz => by
            rcases List.mem_or_eq_of_mem_set hz with h | rfl
            · exact sealed_byte (raw_byte m (ents ss)) z h
            · omega
          have e2 : Ext w (V8.setCell ⟨g, p, none⟩ (.int .u8 (y : Int))) := HX8.out.setCell HGB.out _
          have CG := Lib.hid (mget_any (some ⟨g, 0, none⟩) k4 d4 ((m.put (ents ss)).set p y) _ ho2.rd sb2 (by omega) ho2.cap_le (HS.out _ e2).2.2.1 (HS.out _ e2).2.2.2.1 (HS.out _ e2).2.2.2.2)
          rw [hge, show errM pb pu 4 = .iface 149 (.pointer (some pu)) from rfl] at CG
          have HE2 := Lib.hid e2
          have HOP := Lib.hid hop
          clear hop hge ho2 hset sb2 e2 hx hxy
          go_upto_region 14 with (fail)
          generalize V8.setCell ⟨g, p, none⟩ (.int .u8 (y : Int)) = V9 at *
          clear cc ff hne
          go_upto_region 15 with (go_at_call 42; refine CG.out.mono ?_; rintro _ w9 ⟨hg, x9⟩; rcases hg with ⟨m9, s9, B9, n9, d9, hn9, hf9, he9, rfl, ol9⟩ | ⟨hno9, rfl⟩)
          · have h := (opened_put he9).1; rw [HOP.out] at h; cases h
          have X9 := (HE2.out.trans x9).alloc (.cells #[.int .i64 0, .int .i64 0, .int .i64 0, .int .i64 0, .int .i64 0, .int .i64 0, .int .i64 0, .int .i64 0, .slice none 0 0] 76)
          have s9 := (HS.out _ X9).2.2.2.2.2.1
          have HX9 := Lib.hid X9
          clear X9 x9 hno9 CG
          generalize w9.alloc (.cells #[.int .i64 0, .int .i64 0, .int .i64 0, .int .i64 0, .int .i64 0, .int .i64 0, .int .i64 0, .int .i64 0, .slice none 0 0] 76) = V10 at *
          go_wp2_with fail
          go_returns
          exact ⟨rfl, HX9.out⟩
end Go.Proofs.YteflnnlihblpgaaDoor
