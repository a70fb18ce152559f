/-
  The document's queue: Sorted, walked; two lists of things are the same.
-/
import Derived.Test.YtocjbllkgbjihaaDoorQuRefF
namespace Go.Proofs.YtocjbllkgbjihaaDoor
set_option maxRecDepth 100000
open Go.RowKit Go.Maps
set_option linter.unusedVariables false
section
variable {w w' : World} {q : Nat} {F : Nat → Prop} {L : List Th}
set_option maxHeartbeats 6400000 in
theorem rsorted_any (h : RQ w q F L) {n : Nat} (hn : L.length = n) (hfew : n ≤ 1000000) : Calls Tryd.prog 45 #[.pointer (some ⟨q, 0, none⟩)] w fun e w' => ∃ B d, e = .returned (.slice B n d) ∧ Own w' w.heap.size 34 2 B n d (trows (sortT L)).flatten ∧ Ext w w' := by
  obtain ⟨⟨A, n1, c, h1, h2, h3⟩, h4, h5⟩ := h
  have hlen := rlen_eq h2
  obtain rfl : n = n1 := by omega
  have HA := Lib.hid (And.intro h1 (And.intro h2 hlen))
  have y0 : w.cell? ⟨q, 0, none⟩ = some (.slice A n c) := block_cell h1 0
  have y1 : (w.alloc (.cells #[] 34)).cell? ⟨q, 0, none⟩ = some (.slice A n c) := block_cell ((((Ext.refl w).alloc (.cells #[] 34)).block q (block_lt h1)).trans h1) 0
  have ho : Own (w.alloc (.cells #[] 34)) w.heap.size 34 2 (some ⟨w.heap.size, 0, none⟩) 0 0 [] := World.ownsRow_lit (size := 2) w #[] 0 (Nat.le_refl _) (by simp [maxLen]) rfl
  have X1 := (Ext.refl w).alloc (.cells #[] 34)
  clear h1 h2 h3 h4 h5
  go_enter Tryd.func45, Tryd.ntmps45
  go_wp2_with (at_builtin; refine held ?_)
  refine Held.go (wp_app (m := n) (news := (trows L).flatten) eltR ho (HA.out.2.1.rd.ext X1) (trows_one L) (by omega) (.inr ⟨by omega, by omega⟩) X1.size _ _ rfl rfl rfl rfl ?_)
  intro A3 c3 w3 o3 g3 hA3 _
  rw [Nat.zero_add, List.nil_append] at o3
  rw [Nat.zero_add]
  have x3 : Ext w w3 := g3.ext X1 (fun b hb => by injection hb with hb; rw [← hb]; exact Nat.le_refl _)
  obtain ⟨qb, hqb⟩ : ∃ qb, qb = w3.heap.size := ⟨_, rfl⟩
  have X4 := (Ext.refl w3).alloc (.cells #[.slice A3 n c3] 55)
  have b4 := heap_alloc_new w3 (.cells #[.slice A3 n c3] 55)
  have X5 := X4.alloc (.cells #[] 34)
  have hz4 : (w3.alloc (.cells #[.slice A3 n c3] 55)).heap.size = w3.heap.size + 1 := World.size_alloc _ _
  have o5 : Own ((w3.alloc (.cells #[.slice A3 n c3] 55)).alloc (.cells #[] 34)) w.heap.size 34 2 (some ⟨(w3.alloc (.cells #[.slice A3 n c3] 55)).heap.size, 0, none⟩) 0 0 [] := World.ownsRow_lit (size := 2) _ #[] 0 (Nat.le_trans x3.size X4.size) (by simp [maxLen]) rfl
  have HQ : Hid (∃ F, RQ ((w3.alloc (.cells #[.slice A3 n c3] 55)).alloc (.cells #[] 34)) w3.heap.size F L ∧ (¬ F (w3.alloc (.cells #[.slice A3 n c3] 55)).heap.size) ∧ (∀ b, F b → w.heap.size ≤ b)) := Lib.hid (by
    refine ⟨fun b => b = w3.heap.size ∨ A3.map (·.block) = some b, ⟨⟨A3, n, c3, ?_, ?_, fun a ha => ⟨.inr (by rw [ha]; rfl), ?_⟩⟩, .inl rfl, fun b hb => ?_⟩, fun hb => ?_, fun b hb => ?_⟩
    · exact (((Ext.refl (w3.alloc (.cells #[.slice A3 n c3] 55))).alloc (.cells #[] 34)).block _ (block_lt b4)).trans b4
    · exact (o3.ext X5).base_mono (Nat.zero_le _)
    · have := o3.lt_at ha; omega
    · rcases hb with hb | hb
      · have := X5.size; rw [World.size_alloc, hz4]; omega
      · obtain ⟨a, ha, rfl⟩ := Option.map_eq_some_iff.1 hb
        have := o3.lt_at ha
        exact Nat.lt_of_lt_of_le this X5.size
    · rcases hb with hb | hb
      · omega
      · obtain ⟨a, ha, hab⟩ := Option.map_eq_some_iff.1 hb
        have := o3.lt_at ha
        omega
    · rcases hb with hb | hb
      · rw [hb]; exact x3.size
      · exact o3.base_le b hb)
  have H5 := Lib.hid (And.intro o5 (x3.trans X5))
  clear y0 y1 ho X1 o3 g3 hA3 x3 X4 b4 X5 hz4 o5 hqb qb
  go_wp2_with fail
  obtain ⟨F0, HQ⟩ : ∃ F0, Hid (RQ ((w3.alloc (.cells #[.slice A3 n c3] 55)).alloc (.cells #[] 34)) w3.heap.size F0 L ∧ (¬ F0 (w3.alloc (.cells #[.slice A3 n c3] 55)).heap.size) ∧ (∀ b, F0 b → w.heap.size ≤ b)) := by
    obtain ⟨F0, h⟩ := HQ.out
    exact ⟨F0, Lib.hid h⟩
  simp only [World.size_alloc] at HQ H5
  generalize (w3.alloc (.cells #[.slice A3 n c3] 55)).alloc (.cells #[] 34) = V at *
  obtain ⟨ob, hob⟩ : ∃ ob, ob = w3.heap.size + 1 := ⟨_, rfl⟩
  try rw [← hob] at HQ H5
  try rw [← hob]
  clear hob
  generalize w3.heap.size = qb at *
  go_loopw [4] (fun v4 wr => ∃ (t d : Nat) (B : Option Addr), v4 = .slice B t d ∧ t ≤ n ∧ Hid (∃ F L' S, RQ wr qb F L' ∧ sortT L = S ++ sortT L' ∧ S.length = t ∧ L'.length + t = n ∧ Own wr w.heap.size 34 2 B t d (trows S).flatten ∧ (∀ a, B = some a → ¬ F a.block) ∧ Ext w wr ∧ ∀ b, F b → w.heap.size ≤ b)) (fun v4 _ => n - slenV v4)
  case atStart => exact ⟨0, 0, _, rfl, by omega, F0, L, [], HQ.out.1, rfl, rfl, by omega, H5.out.1, (fun a ha => by injection ha with ha; rw [← ha]; exact HQ.out.2.1), H5.out.2, HQ.out.2.2⟩
  case round =>
    obtain ⟨t, d, B, rfl, ht, HI⟩ := hrel
    obtain ⟨F2, L', S, h1, h2, h3, h4, h5, h6, h7, h8⟩ := HI.out
    obtain ⟨A1, n1, c1, b1, o1, f1⟩ := h1.ex
    have hl1 := rlen_eq o1
    have y0 : wr.cell? ⟨qb, 0, none⟩ = some (.slice A1 n1 c1) := block_cell b1 0
    by_cases htK : t < n
    · have hne : L' ≠ [] := fun e => by rw [e] at h4; simp at h4; omega
      obtain ⟨x, hxm, hxl⟩ := exists_least hne
      have C3 := Lib.hid (rpop_ok h1 (by omega) hxm hxl)
      have H3 := Lib.hid (And.intro h1 (And.intro h2 (And.intro h3 (And.intro h4 (And.intro h5 (And.intro h6 (And.intro h7 (And.intro h8 hxl))))))))
      have l2 : (0 : Int) < n1 := by have := List.length_pos_iff.2 hne; omega
      clear h1 h2 h3 h4 h5 h6 h7 h8 b1 o1 f1 hl1 hne hxm hxl HI
      go_wp2_with (first | (go_at_call 33; refine C3.out.mono ?_; rintro e w7 ⟨rfl, F7, L7, n7, p7⟩) | (at_builtin; refine held ?_))
      have X8 := ((Ext.refl w7).alloc (.cells #[.int .i64 x.id, .int .i64 x.rank] 34)).alloc (.cells #[.int .i64 x.id, .int .i64 x.rank] 34)
      have RN8 : Rd ((w7.alloc (.cells #[.int .i64 x.id, .int .i64 x.rank] 34)).alloc (.cells #[.int .i64 x.id, .int .i64 x.rank] 34)) 2 (some ⟨w7.heap.size + 1, 0, none⟩) 1 (trow x) := by
        have h : Rd ((w7.alloc (.cells #[.int .i64 x.id, .int .i64 x.rank] 34)).alloc (.cells #[.int .i64 x.id, .int .i64 x.rank] 34)) 2 (some ⟨(w7.alloc (.cells #[.int .i64 x.id, .int .i64 x.rank] 34)).heap.size, 0, none⟩) 1 (trow x) := ⟨rfl, fun _ => ⟨_, rfl, by simp, World.news_of_block (heap_alloc_new (w7.alloc (.cells #[.int .i64 x.id, .int .i64 x.rank] 34)) _)⟩⟩
        rw [World.size_alloc] at h
        exact h
      have o7 := (n7.fr.own H3.out.2.2.2.2.1 H3.out.2.2.2.2.2.1).ext X8
      have e7 := n7.from_ H3.out.2.2.2.2.2.2.1 H3.out.2.2.2.2.2.2.2.1
      refine Held.go (wp_app (m := 1) (news := trow x) eltR o7 RN8 (trow_one _) (by omega) (.inr ⟨by omega, by omega⟩) (Nat.le_trans e7.1.size X8.size) _ _ rfl rfl rfl rfl ?_)
      intro B2 d2 w9 o9 g9 hB2 _
      have hs7 := n7.rq.lt
      have hz8 : ((w7.alloc (.cells #[.int .i64 x.id, .int .i64 x.rank] 34)).alloc (.cells #[.int .i64 x.id, .int .i64 x.rank] 34)).heap.size = w7.heap.size + 1 + 1 := by simp
      have hF7B : ∀ a, B = some a → ¬ F7 a.block := fun a ha => n7.out (H3.out.2.2.2.2.1.lt_at ha) (H3.out.2.2.2.2.2.1 a ha)
      have F9 : ∀ a, B2 = some a → ¬ F7 a.block := fun a ha => by
        rcases hB2 with e | e
        · exact hF7B a (e ▸ ha)
        · rw [e, hz8] at ha
          injection ha with ha
          rw [← ha]
          intro e2
          have e3 : F7 (w7.heap.size + 1 + 1) := e2
          have := hs7 _ e3
          omega
      have RQ9 : RQ w9 qb F7 L7 := (n7.rq.ext X8).fr (Fr.grows g9) (fun b hb e => by
        obtain ⟨a, ha, hab⟩ := Option.map_eq_some_iff.1 e
        exact hF7B a ha (by rw [hab]; exact hb))
      have X9 : Ext w w9 := g9.ext (e7.1.trans X8) (fun q hq => by
        obtain ⟨a, ha, hab⟩ := Option.map_eq_some_iff.1 hq
        rw [← hab]
        exact H3.out.2.2.2.2.1.base_le _ (by rw [ha]; rfl))
      have hSo : sortT L' = x :: sortT L7 := sortT_cons p7 (fun y hy => H3.out.2.2.2.2.2.2.2.2 y (p7.mem_iff.1 (List.mem_cons_of_mem _ hy)))
      have HE : Hid (∃ F L' S, RQ w9 qb F L' ∧ sortT L = S ++ sortT L' ∧ S.length = t + 1 ∧ L'.length + (t + 1) = n ∧ Own w9 w.heap.size 34 2 B2 (t + 1) d2 (trows S).flatten ∧ (∀ a, B2 = some a → ¬ F a.block) ∧ Ext w w9 ∧ ∀ b, F b → w.heap.size ≤ b) := Lib.hid
        ⟨F7, L7, S ++ [x], RQ9, by rw [H3.out.2.1, hSo, List.append_assoc]; rfl, by rw [List.length_append, H3.out.2.2.1]; rfl, by have h1 := p7.length_eq; rw [List.length_cons] at h1; have h2 := H3.out.2.2.2.1; omega, by rw [show (trows (S ++ [x])).flatten = (trows S).flatten ++ trow x by simp [trows]]; exact o9, F9, X9, e7.2⟩
      clear C3 n7 p7 X8 RN8 o7 e7 o9 g9 hB2 hs7 hz8 hF7B F9 RQ9 X9 hSo y0
      go_wp2_with fail
      go_roundw
      case rel => exact ⟨t + 1, d2, B2, rfl, by omega, HE.out⟩
      case measure => simp [slenV]; omega
    · obtain rfl : n = t := by omega
      have l2 : ¬ (0 : Int) < n1 := by omega
      have hL : L' = [] := List.eq_nil_of_length_eq_zero (by omega)
      have hS : sortT L = S := by rw [h2, hL]; unfold sortT; simp
      have HE := Lib.hid (show Own wr w.heap.size 34 2 B n d (trows (sortT L)).flatten ∧ Ext w wr from ⟨by rw [hS]; exact h5, h7⟩)
      clear h1 h2 h3 h4 h5 h6 h7 h8 b1 o1 f1 hS HI
      go_wp2_with fail
      go_returns
      exact ⟨B, d, rfl, HE.out.1, HE.out.2⟩
set_option maxHeartbeats 1600000 in
theorem same_things (A B : Option Addr) (n c d : Nat) (S : List Th) (w : World) (b1 b2 : Nat) (ha : Own w b1 34 2 A n c (trows S).flatten) (hb : Own w b2 34 2 B n d (trows S).flatten) (hn : S.length = n) (hfew : n ≤ 1000000) :
    Calls Tryd.prog 44 #[.slice A n c, .slice B n d] w fun e w' => e = .returned (.bool true) ∧ Ext w w' := by
  have HA := Lib.hid (And.intro ha (And.intro hb hn))
  clear ha hb
  go_enter Tryd.func44, Tryd.ntmps44
  go_wp2_with fail
  go_loopw [13] (fun v13 wr => ∃ k : Nat, v13 = .int .i64 (k : Int) ∧ k ≤ n ∧ Hid (Ext w wr)) (fun v13 _ => n - (intOf v13).toNat)
  case atStart => exact ⟨0, rfl, by omega, Ext.refl w⟩
  case round =>
    obtain ⟨k, rfl, hk, HI⟩ := hrel
    by_cases hlt : k < n
    · have o1 := (HA.out.1.ext HI.out).base_mono (Nat.zero_le _)
      have o2 := (HA.out.2.1.ext HI.out).base_mono (Nat.zero_le _)
      obtain ⟨T, rfl⟩ := o1.head (by omega)
      obtain ⟨T2, rfl⟩ := o2.head (by omega)
      obtain ⟨k2, hk2⟩ : ∃ k2, k * 2 = k2 := ⟨_, rfl⟩
      have hx := at_some (L := S) (k := k) (by omega)
      generalize at_ S k = x at *
      obtain ⟨xi, xr⟩ := x
      obtain ⟨y1, y2, _, _⟩ := own_at o1 hx hk2
      obtain ⟨y3, y4, _, _⟩ := own_at o2 hx hk2
      have k0 : (0 : Int) ≤ k := by omega
      have k1 : (k : Int) < n := by omega
      clear o1 o2 hx
      go_wp2_with fail
      go_quiet (fail)
      go_wp2_with fail
      go_roundw
      case rel => exact ⟨k + 1, by go_num, by omega, HI.out.drewN _⟩
      case measure => simp [intOf]; omega
    · obtain rfl : n = k := by omega
      go_wp2_with fail
      go_returns
      exact ⟨rfl, HI.out⟩
end
end Go.Proofs.YtocjbllkgbjihaaDoor
