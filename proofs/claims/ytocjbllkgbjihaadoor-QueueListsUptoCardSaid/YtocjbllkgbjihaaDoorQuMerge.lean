/-
  queue.Merge, walked.
-/
import Derived.Test.YtocjbllkgbjihaaDoorQuMergeS
namespace Go.Proofs.YtocjbllkgbjihaaDoor
set_option maxRecDepth 100000
open Go.RowKit Go.Maps
set_option linter.unusedVariables false
section
variable {w w' : World}
/-- The length of a slice. -/
def slen : Value → Nat
  | .slice _ n _ => n
  | _ => 0
theorem LP.llen {w : World} {g Z : Nat} {F : Nat → Prop} {L : List Th} (h : LP w g F L Z) : Calls Tryd.prog 30 #[.pointer (some ⟨g, 0, none⟩)] w fun e w' => e = .returned (.int .i64 (L.length : Int)) ∧ w = w' := by
  obtain ⟨⟨b, A, n, c, h1, _⟩, _⟩ := h
  rw [h1.len]
  exact tlen_any h1
theorem MS.fr {W0 w w' : World} {g Z NB nb lb tb N C M : Nat} {F : Nat → Prop} {A : Option Addr} {ss : List SlI} {cs nx : List Nat} {L : List Th} {q : Nat → Bool} (h : MS W0 w g F Z NB nb lb tb N C M A ss cs nx L q) {P : Nat → Prop} (hf : Fr w w' P) (h0 : ∀ k, P k → W0.heap.size ≤ k) (h1 : ∀ k, F k → ¬ P k) (h2 : ¬ P NB ∧ ¬ P nb ∧ ¬ P lb ∧ ¬ P tb) : MS W0 w' g F Z NB nb lb tb N C M A ss cs nx L q :=
  ⟨h.lp.fr hf h1, hf.own h.no (fun a ha e => by injection ha with ha; subst ha; exact h2.1 e), (hf.block _ (block_lt h.b1) h2.2.1).trans h.b1, (hf.block _ (block_lt h.b2) h2.2.2.1).trans h.b2, (hf.block _ (block_lt h.b3) h2.2.2.2).trans h.b3, h.nF, h.ne, h.bF, Fr.ext h.x hf h0, h.hp, h.mh, h.few, h.ids⟩
set_option maxHeartbeats 3200000 in
theorem merge_any (A : Option Addr) (N C : Nat) (ss : List SlI) (w : World) (hls : LS w A N ss) (hN : N ≤ 2000000) (hT : ((lists ss).map List.length).sum ≤ 2000000) (hbig : ∀ s ∈ ss, s.n ≤ 100000000000000) :
    Calls Tryd.prog 21 #[.slice A N C] w fun e w' => ∃ B t d out cs, e = .returned (.slice B t d) ∧ Own w' w.heap.size 3 1 B t d (ints out) ∧ MRun (lists ss) cs out ∧ (∀ i, hd (lists ss) cs i = none) ∧ Ext w w' := by
  have hlen := hls.len
  obtain ⟨w1, hw1⟩ : ∃ w1, w1 = w.alloc (.cells #[.slice A N C] 40) := ⟨_, rfl⟩
  have rm : (Instr.makeMap 61 none).run Tryd.prog w1 = .ok (.map (some w1.heap.size)) (w1.alloc (.map #[] 0)) := by kernel_rfl
  go_enter Tryd.func21, Tryd.ntmps21
  go_upto_region 1 with (fail)
  rw [← hw1]
  have hb1 : w1.heap[w.heap.size]? = some (.cells #[.slice A N C] 40 (0, 0)) := by rw [hw1]; exact heap_alloc_new w _
  have x1 : Ext w w1 := by rw [hw1]; exact (Ext.refl w).alloc _
  have hz1 : w1.heap.size = w.heap.size + 1 := by rw [hw1]; exact World.size_alloc _ _
  have H1 := Lib.hid (And.intro hb1 (And.intro x1 (And.intro hz1 (lnew w1))))
  clear hw1 hb1 x1 hz1
  go_upto_region 2 with (fail)
  obtain ⟨V0, hV0⟩ : ∃ V0, V0 = (w1.alloc (.map #[] 0)).alloc (.cells #[.slice none 0 0, .map (some w1.heap.size)] 63) := ⟨_, rfl⟩
  have hx0 : Ext w1 V0 := by rw [hV0]; exact ((Ext.refl w1).alloc _).alloc _
  have hz0 : V0.heap.size = w1.heap.size + 1 + 1 := by rw [hV0]; simp
  rw [← hV0] at H1 ⊢
  rw [← hz0]
  have hb3 := heap_alloc_new V0 (.cells #[.pointer (some ⟨w1.heap.size + 1, 0, none⟩)] 68)
  have X3 := (Ext.refl V0).alloc (.cells #[.pointer (some ⟨w1.heap.size + 1, 0, none⟩)] 68)
  have hz3 : (V0.alloc (.cells #[.pointer (some ⟨w1.heap.size + 1, 0, none⟩)] 68)).heap.size = V0.heap.size + 1 := World.size_alloc _ _
  have H2 := Lib.hid (And.intro ((hx0.trans X3).block _ (block_lt H1.out.1) |>.trans H1.out.1) (And.intro hb3 (And.intro (H1.out.2.2.2.ext X3) (And.intro (H1.out.2.1.trans (hx0.trans X3)) (And.intro hz3 (And.intro hz0 H1.out.2.2.1))))))
  clear hV0 hx0 hz0 hb3 X3 hz3 H1 rm
  generalize V0.alloc (.cells #[.pointer (some ⟨w1.heap.size + 1, 0, none⟩)] 68) = V at *
  obtain ⟨g, hg⟩ : ∃ g, g = w1.heap.size + 1 := ⟨_, rfl⟩
  rw [← hg] at H2 ⊢
  have HG := Lib.hid hg
  clear hg
  generalize hlb : w.heap.size = lb at *
  have HLB := Lib.hid hlb
  clear hlb
  generalize htb : V0.heap.size = tb at *
  clear htb
  have y0 : V.cell? ⟨lb, 0, none⟩ = some (.slice A N C) := block_cell H2.out.1 0
  obtain ⟨w4, r4, o4, x4, hs4⟩ := run_mkn (w := V) eltI rfl lb .i64 .i64 (N : Int) (by omega) (by omega) (by omega) (by have := H2.out.2.2.2.2; have := HG.out; omega)
  rw [Int.toNat_natCast] at r4 o4
  have hb5 := heap_alloc_new w4 (.cells #[.slice (some ⟨V.heap.size, 0, none⟩) N N] 22)
  have X5 := (Ext.refl w4).alloc (.cells #[.slice (some ⟨V.heap.size, 0, none⟩) N N] 22)
  have hz : (List.replicate N (.int .i64 0) : List Value) = ns .i64 (List.replicate (lists ss).length 0) := by simp [ns, hlen]
  rw [hz, ← HLB.out] at o4
  have HM : Hid (MS w (w4.alloc (.cells #[.slice (some ⟨V.heap.size, 0, none⟩) N N] 22)) g (fun k => k = w1.heap.size ∨ k = g) 0 V.heap.size w4.heap.size lb tb N C 0 A ss (List.replicate (lists ss).length 0) (List.replicate (lists ss).length 0) [] (fun _ => false)) := Lib.hid (by
    have h2 := H2.out
    have hgg := HG.out
    have hl := HLB.out
    have hvl := block_lt h2.2.1
    exact ⟨(h2.2.2.1.ext (x4.trans X5)), o4.ext X5, hb5, ((x4.trans X5).block _ (block_lt h2.1)).trans h2.1, ((x4.trans X5).block _ (block_lt h2.2.1)).trans h2.2.1, ⟨by omega, by omega, by omega, by omega⟩, ⟨by omega, by omega, by omega⟩, fun k hk => by omega, h2.2.2.2.1.trans (x4.trans X5), fun k h0 hk => by simp at hk, MH.start _, by simp, by simp [Ids]⟩)
  clear o4 x4 hb5 X5 hz
  go_upto_region 4 with (fail)
  rw [hs4] at HM
  clear r4 hs4
  generalize w4.alloc (.cells #[.slice (some ⟨V.heap.size, 0, none⟩) N N] 22) = V5 at *
  have hlb0 : lb < V5.heap.size := block_lt HM.out.b2
  clear y0
  generalize V.heap.size = NB at *
  obtain ⟨nb, hnb⟩ : ∃ nb, nb = NB + 1 := ⟨_, rfl⟩
  rw [← hnb] at HM ⊢
  clear hnb
  have y0 : V5.cell? ⟨lb, 0, none⟩ = some (.slice A N C) := block_cell HM.out.b2 0
  clear H2 HG
  have HL := Lib.hid (And.intro hls (And.intro hT hbig))
  clear hls hbig hlb0
  obtain ⟨X, hX⟩ : ∃ X, 1 + 2 * N = X := ⟨_, rfl⟩
  obtain ⟨Y, hY⟩ : ∃ Y, 8 + 4 * N = Y := ⟨_, rfl⟩
  have HX := Lib.hid (And.intro hX hY)
  clear hX hY
  go_wp2_with fail
  clear y0
  go_loopw [19] (fun v19 wr => ∃ k : Nat, v19 = .int .i64 (k : Int) ∧ k ≤ N ∧ Hid (∃ F nx L Z', MS w wr g F Z' NB nb lb tb N C k A ss (List.replicate (lists ss).length 0) nx L (fun j => decide (j < k)) ∧ Z' ≤ k * X)) (fun v19 _ => N - (intOf v19).toNat)
  case atStart => exact ⟨0, rfl, by omega, _, _, _, _, HM.out.ext (Ext.refl _) |> fun h => ⟨h.lp, h.no, h.b1, h.b2, h.b3, h.nF, h.ne, h.bF, h.x, h.hp, h.mh.congr (fun i _ => by simp), h.few, h.ids⟩, by omega⟩
  case round =>
    obtain ⟨k, rfl, hk, HI⟩ := hrel
    by_cases hlt : k < N
    · obtain ⟨F, nx, L, Z', h1, h2⟩ := HI.out
      have hb2 : k * X ≤ 2000000 * 4000001 := Nat.mul_le_mul (by omega) (by have := HX.out; omega)
      have C1 := Lib.hid (put_any HL.out.1 h1 hlt (by simp) (fun j l hl => by
        have := (List.getElem?_eq_some_iff.1 hl).1
        simp only [List.length_map] at this
        simp [List.getD_eq_getElem?_getD, this]) (by omega) (by omega) HL.out.2.2 (by omega))
      have H1 := Lib.hid (And.intro h2 (show (k + 1) * X = k * X + X from Nat.succ_mul _ _))
      have k1 : (k : Int) < N := by omega
      clear h1 h2 hb2 HI
      go_wp2_with (refine C1.out.mono ?_; rintro e w5 ⟨rfl, F5, nx5, L5, m5, f5, _⟩)
      go_roundw
      case rel =>
        exact ⟨k + 1, by go_num, by omega, F5, nx5, L5, _, ⟨m5.lp, m5.no, m5.b1, m5.b2, m5.b3, m5.nF, m5.ne, m5.bF, m5.x, m5.hp, m5.mh.congr (fun i _ => by by_cases e1 : i < k + 1 <;> by_cases e2 : i < k <;> by_cases e3 : i = k <;> simp [e1, e2, e3] <;> omega), m5.few, m5.ids⟩, by have := H1.out; have := HX.out; omega⟩
      case measure => simp [intOf]; omega
    · obtain rfl : N = k := by omega
      obtain ⟨F, nx, L, Z', h1, h2⟩ := HI.out
      have h3 : MH (lists ss) (List.replicate (lists ss).length 0) nx L (fun _ => true) := h1.mh.congr (fun i hi => by simp at hi; simp; omega)
      have H3 : Hid (MS w wr g F Z' NB nb lb tb N C N A ss (List.replicate (lists ss).length 0) nx L (fun _ => true) ∧ Z' ≤ N * X) := Lib.hid ⟨⟨h1.lp, h1.no, h1.b1, h1.b2, h1.b3, h1.nF, h1.ne, h1.bF, h1.x, h1.hp, h3, h1.few, h1.ids⟩, h2⟩
      clear h1 h2 h3 HI HM
      go_wp2_with fail
      go_loopw [7] (fun v7 wr => ∃ (t d : Nat) (B : Option Addr), v7 = .slice B t d ∧ t ≤ 2000000 ∧ Hid (∃ F cs nx L Z' out, MS w wr g F Z' NB nb lb tb N C N A ss cs nx L (fun _ => true) ∧ MRun (lists ss) cs out ∧ out.length = t ∧ Own wr w.heap.size 3 1 B t d (ints out) ∧ (∀ a, B = some a → ¬ F a.block ∧ a.block ≠ NB ∧ a.block ≠ nb ∧ a.block ≠ lb ∧ a.block ≠ tb) ∧ Z' ≤ (N + t) * Y)) (fun v7 _ => 2000000 - slen v7)
      case atStart => exact ⟨0, 0, none, rfl, by omega, F, _, nx, L, Z', [], H3.out.1, MRun.nil, rfl, Own.nil_, (fun a ha => by cases ha), by have := H3.out.2; have := Nat.mul_le_mul_left N (show X ≤ Y from by have := HX.out; omega); rw [Nat.add_zero]; omega⟩
      case round =>
        obtain ⟨t, d, B, rfl, ht, HI⟩ := hrel
        obtain ⟨F2, cs, nx2, L2, Z2, out, h1, h2, h3, h4, h5, h6⟩ := HI.out
        have y0 : wr.cell? ⟨tb, 0, none⟩ = some (.pointer (some ⟨g, 0, none⟩)) := block_cell h1.b3 0
        have CL := Lib.hid h1.lp.llen
        by_cases hL0 : L2.length = 0
        · rw [hL0] at CL
          obtain rfl : L2 = [] := List.eq_nil_of_length_eq_zero hL0
          have HE := Lib.hid (And.intro h4 (And.intro h2 (And.intro (h1.mh.empty (fun _ => rfl)) h1.x)))
          clear h1 h2 h3 h4 h5 h6 hL0 HI
          go_wp2_with (refine CL.out.mono ?_; rintro e w7 ⟨rfl, rfl⟩)
          go_returns
          exact ⟨B, t, d, out, cs, rfl, HE.out.1, HE.out.2.1, HE.out.2.2.1, HE.out.2.2.2⟩
        · obtain ⟨i, hid, hf⟩ := h1.mh.fst (fun _ => rfl) h1.hp (by omega)
          obtain ⟨v, hv⟩ : ∃ v, (at_ L2 0).rank = v := ⟨_, rfl⟩
          rw [hv] at hf
          have hx : (⟨(i : Int), v⟩ : Th) = at_ L2 0 := th_eq ⟨hid.symm, hv.symm⟩
          obtain ⟨l, hl, hlv⟩ := hd_some hf.1
          have hiN : i < N := by have := (List.getElem?_eq_some_iff.1 hl).1; simp at this; omega
          have hbY : (N + t) * Y ≤ 4000000 * 8000008 := Nat.mul_le_mul (by omega) (by have := HX.out; omega)
          have hfew := h1.few
          obtain ⟨m, hm⟩ : ∃ m, L2.length = m + 1 := ⟨L2.length - 1, by omega⟩
          have C3 := Lib.hid (lhpop h1.lp hm h1.hp (by omega) (by omega) (Lib.hid hx))
          have hxm : (⟨(i : Int), v⟩ : Th) ∈ L2 := by rw [hx]; exact at_mem (by omega)
          have hrun := MRun.step h2 hf
          have HCL := Lib.hid (show i < cs.length from by rw [h2.len]; exact (List.getElem?_eq_some_iff.1 hl).1)
          have hsum := hrun.sum_le
          have H4 := Lib.hid (And.intro h1 (And.intro hrun (And.intro h3 (And.intro h4 (And.intro h5 (And.intro h6 (And.intro hm (And.intro hx (And.intro hf (And.intro hl (And.intro hfew (And.intro hbY hsum))))))))))))
          have k1 : (0 : Int) < L2.length := by omega
          have hass := assertR
          clear h1 h2 h3 h4 h5 h6 hid hf hv hx hl hlv hbY hfew hm hxm hrun hsum HI hL0
          go_wp2_with (first | (go_at_call 30; refine CL.out.mono ?_; rintro e w6 ⟨rfl, rfl⟩) | (go_at_call 29; refine C3.out.mono ?_; rintro e w7 ⟨rfl, L7, n7, p7, hh7⟩) | (at_builtin; refine held ?_))
          have X8 := ((Ext.refl w7).alloc (.cells #[.int .i64 (i : Int), .int .i64 v] 34)).alloc (.cells #[.int .i64 v] 3)
          have RN : Rd ((w7.alloc (.cells #[.int .i64 (i : Int), .int .i64 v] 34)).alloc (.cells #[.int .i64 v] 3)) 1 (some ⟨w7.heap.size + 1, 0, none⟩) 1 (ints [v]) := by
            have h := Rd.new (w7.alloc (.cells #[.int .i64 (i : Int), .int .i64 v] 34)) #[.int .i64 v] 3 (0, 0)
            rw [World.size_alloc] at h
            exact h
          have hbx := ((Ext.refl (w7.alloc (.cells #[.int .i64 (i : Int), .int .i64 v] 34))).alloc (.cells #[.int .i64 v] 3)).block w7.heap.size (by simp) |>.trans (heap_alloc_new w7 (.cells #[.int .i64 (i : Int), .int .i64 v] 34))
          have hm1 := H4.out.1
          have o7 := (n7.fr.own H4.out.2.2.2.1 (fun a ha => (H4.out.2.2.2.2.1 a ha).1)).ext X8
          have hl7 := p7.length_eq
          have m7 := (hm1.l n7 hh7 (hm1.mh.pop hm1.ids rfl H4.out.2.2.2.2.2.2.2.2.1.1 rfl H4.out.2.2.2.2.2.2.2.2.2.1 HCL.out p7) (M' := N - 1) (by rw [List.length_cons] at hl7; have := H4.out.2.2.2.2.2.2; omega) (hm1.ids.perm p7.symm).tail).ext X8
          have hbB : ∀ a, B = some a → a.block < w7.heap.size := fun a ha => (n7.fr.own H4.out.2.2.2.1 (fun a ha => (H4.out.2.2.2.2.1 a ha).1)).lt_at ha
          refine Held.go (wp_app (m := 1) (news := ints [v]) eltI o7 RN (ints_one _) (by have h1 := H4.out.2.2.2.1.max; have h2 := H4.out.2.2.2.1.cap_le; omega) (.inr ⟨by omega, by omega⟩) m7.x.size _ _ rfl rfl rfl rfl ?_)
          intro B2 d2 w9 o9 g9 hB2 _
          have hP : ∀ k, B.map (·.block) = some k → w.heap.size ≤ k := fun k hk => by
            obtain ⟨a, ha, hab⟩ := Option.map_eq_some_iff.1 hk
            rw [← hab]
            exact o7.base_le _ (by rw [ha]; rfl)
          have hne : ∀ k, (F2 k ∨ k = NB ∨ k = nb ∨ k = lb ∨ k = tb) → ¬ B.map (·.block) = some k := fun k hk e => by
            obtain ⟨a, ha, hab⟩ := Option.map_eq_some_iff.1 e
            have h := H4.out.2.2.2.2.1 a ha
            rw [hab] at h
            rcases hk with hk | hk | hk | hk | hk
            · exact h.1 hk
            · exact h.2.1 hk
            · exact h.2.2.1 hk
            · exact h.2.2.2.1 hk
            · exact h.2.2.2.2 hk
          have m9 := m7.fr (Fr.grows g9) hP (fun k hk => hne k (.inl hk)) ⟨hne _ (.inr (.inl rfl)), hne _ (.inr (.inr (.inl rfl))), hne _ (.inr (.inr (.inr (.inl rfl)))), hne _ (.inr (.inr (.inr (.inr rfl))))⟩
          have bx9 := (g9.block w7.heap.size (block_lt hbx) (fun e => by
            obtain ⟨a, ha, hab⟩ := Option.map_eq_some_iff.1 e.symm
            have := hbB a ha
            omega)).trans hbx
          have HB2 : Hid (∀ a, B2 = some a → ¬ F2 a.block ∧ a.block ≠ NB ∧ a.block ≠ nb ∧ a.block ≠ lb ∧ a.block ≠ tb) := Lib.hid (fun a ha => by
            rcases hB2 with e | e
            · exact H4.out.2.2.2.2.1 a (e ▸ ha)
            · rw [e] at ha
              injection ha with ha
              subst ha
              have u1 := m7.no.lt
              have u2 := block_lt m7.b1
              have u3 := block_lt m7.b2
              have u4 := block_lt m7.b3
              exact ⟨fun e2 => Nat.lt_irrefl _ (m7.lp.lt _ e2), (Nat.ne_of_lt u1).symm, (Nat.ne_of_lt u2).symm, (Nat.ne_of_lt u3).symm, (Nat.ne_of_lt u4).symm⟩)
          have C5 := Lib.hid (put_any HL.out.1 m9 hiN (by simp) (fun j l hl => H4.out.2.1.le j l hl) (by omega) (by omega) HL.out.2.2 (by have h1 := H4.out.2.2.2.2.2; have := HX.out; omega))
          have y1 : w9.cell? ⟨w7.heap.size, 0, none⟩ = some (.int .i64 (i : Int)) := block_cell bx9 0
          have H9 := Lib.hid (And.intro o9 (And.intro m9 (And.intro (show (N + (t + 1)) * Y = (N + t) * Y + Y from by rw [← Nat.add_assoc, Nat.succ_mul]) (show t + 1 ≤ 2000000 from by have h1 := H4.out.2.2.2.2.2.2.2.2.2.2.2.2; rw [List.length_append, H4.out.2.2.1] at h1; have h2 : [v].length = 1 := rfl; omega))))
          clear C3 CL n7 p7 hh7 X8 RN hbx hm1 o7 hl7 m7 hbB o9 g9 hB2 hP hne m9 bx9 y0
          go_wp2_with (refine C5.out.mono ?_; rintro e w10 ⟨rfl, F10, nx10, L10, m10, f10, fo10⟩)
          go_roundw
          case rel =>
            refine ⟨t + 1, d2, B2, rfl, H9.out.2.2.2, F10, _, nx10, L10, _, out ++ [v], ⟨m10.lp, m10.no, m10.b1, m10.b2, m10.b3, m10.nF, m10.ne, m10.bF, m10.x, m10.hp, m10.mh.congr (fun j _ => by by_cases e : j = i <;> simp [e]), by have := m10.few; omega, m10.ids⟩, H4.out.2.1, by rw [List.length_append, H4.out.2.2.1]; rfl, ?_, fun a ha => ?_, ?_⟩
            · have h1 := f10.own H9.out.1 (fun a ha e => by
                have h := HB2.out a ha
                rcases e with e | e
                · exact h.1 e
                · exact h.2.1 e)
              simpa [ints] using h1
            · have h := HB2.out a ha
              refine ⟨fun e => ?_, h.2⟩
              rcases fo10 _ e with e | e
              · exact h.1 e
              · have := H9.out.1.lt_at ha; omega
            · have h1 := H4.out.2.2.2.2.2; have h2 := HX.out; have h3 := H9.out.2.2.1; omega
          case measure => have := H9.out.2.2.2; simp [slen]; omega
end
end Go.Proofs.YtocjbllkgbjihaaDoor
