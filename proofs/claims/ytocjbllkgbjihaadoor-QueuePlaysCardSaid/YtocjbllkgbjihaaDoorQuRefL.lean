/-
  The document's Least, walked.
-/
import Derived.Test.YtocjbllkgbjihaaDoorQuRefP
import Derived.Test.YtocjbllkgbjihaaDoorQuLeastP
import Derived.Test.YtocjbllkgbjihaaDoorQuSortS
namespace Go.Proofs.YtocjbllkgbjihaaDoor
set_option maxRecDepth 100000
open Go.RowKit Go.Maps
set_option linter.unusedVariables false
theorem exists_least {L : List Th} (h : L ≠ []) : ∃ x ∈ L, ∀ z ∈ L, ah z x = false := by
  have hp := sortT_perm L
  have hs := sortT_sorted L
  cases e : sortT L with
  | nil => rw [e] at hp; exact absurd hp.symm.eq_nil h
  | cons x S =>
    rw [e] at hp hs
    refine ⟨x, hp.mem_iff.1 (by simp), fun z hz => ?_⟩
    rcases List.mem_cons.1 (hp.mem_iff.2 hz) with rfl | hz2
    · exact ah_self _
    · exact le_iff.1 ((List.pairwise_cons.1 hs).1 z hz2)
/-- The length of a slice. -/
def slenV : Value → Nat
  | .slice _ n _ => n
  | _ => 0
section
variable {w w' : World}
/-- One more thing in the document's list. -/
theorem rq_snoc {w0 V w3 : World} {q n c c3 : Nat} {F : Nat → Prop} {A A3 : Option Addr} {L : List Th} {x : Th} (hlt : ∀ b, F b → b < w0.heap.size) (hq : F q) (hA : ∀ a, A = some a → F a.block ∧ a.block ≠ q) (hx : Ext w0 V) (hb : V.heap[q]? = some (.cells #[.slice A n c] 55 (0, 0)))
    (o3 : Own w3 0 34 2 A3 (n + 1) c3 ((trows L).flatten ++ trow x)) (g3 : Grows V w3 A) (hA3 : A3 = A ∨ A3 = some ⟨V.heap.size, 0, none⟩) : ∃ F', RN w0 (w3.setCell ⟨q, 0, none⟩ (.slice A3 (n + 1) c3)) q F F' (L ++ [x]) := by
  have hzx := hx.size
  have hqb := hlt q hq
  have hqA : ¬ A.map (·.block) = some q := fun e => by
    obtain ⟨a, ha, hab⟩ := Option.map_eq_some_iff.1 e
    exact (hA a ha).2 hab
  have bq := (g3.block q (block_lt hb) (fun e => hqA e.symm)).trans hb
  have ff := Fr.store w3 ⟨q, 0, none⟩ (.slice A3 (n + 1) c3)
  have hA3q : ∀ a, A3 = some a → a.block ≠ q := fun a ha => by
    rcases hA3 with e | e
    · exact (hA a (e ▸ ha)).2
    · rw [e] at ha; injection ha with ha; rw [← ha]; show V.heap.size ≠ q; omega
  refine ⟨fun k => F k ∨ A3.map (·.block) = some k, ⟨⟨A3, n + 1, c3, heap_setCell_same w3 q 0 _ _ _ bq, ?_, fun a ha => ⟨.inr (by rw [ha]; rfl), hA3q a ha⟩⟩, .inl hq, fun k hk => ?_⟩, ((Fr.of_ext hx F).trans (Fr.grows g3) (fun k _ e => ?_)).trans ff (fun k _ e => by have e2 : k = q := e; rw [e2]; exact hq), fun k hk => ?_⟩
  · rw [show (trows (L ++ [x])).flatten = (trows L).flatten ++ trow x by simp [trows]]
    exact ff.own o3 hA3q
  · rcases hk with hk | hk
    · exact Nat.lt_of_lt_of_le (hlt k hk) (Nat.le_trans hzx (Nat.le_trans g3.size ff.size))
    · obtain ⟨a, ha, rfl⟩ := Option.map_eq_some_iff.1 hk
      exact Nat.lt_of_lt_of_le (o3.lt_at ha) ff.size
  · obtain ⟨a, ha, rfl⟩ := Option.map_eq_some_iff.1 e
    exact (hA a ha).1
  · rcases hk with hk | hk
    · exact .inl hk
    · obtain ⟨a, ha, rfl⟩ := Option.map_eq_some_iff.1 hk
      rcases hA3 with e | e
      · exact .inl (hA a (e ▸ ha)).1
      · rw [e] at ha; injection ha with ha; rw [← ha]; exact .inr hzx
set_option maxHeartbeats 3200000 in
theorem rleast_any (A : Option Addr) (n c : Nat) (ranks : List Int) (N : Int) (K : Nat) (w : World) (hr : Rd w 1 A n (ints ranks)) (hrl : ranks.length = n) (hn : n ≤ 10000000) (hK : Hid ((K : Int) = max 0 (min N n))) :
    Calls Tryd.prog 19 #[.slice A n c, .int .i64 N] w fun e w' => ∃ B d, e = .returned (.slice B K d) ∧ Own w' w.heap.size 3 1 B K d (ints (leastL ranks K)) ∧ Ext w w' := by
  have X0 := (Ext.refl w).alloc (.cells #[.slice none 0 0] 55)
  have hb0 := heap_alloc_new w (.cells #[.slice none 0 0] 55)
  have HA := Lib.hid (And.intro hr (And.intro hrl hn))
  have HW : Hid (RQ (w.alloc (.cells #[.slice none 0 0] 55)) w.heap.size (fun k => k = w.heap.size) [] ∧ Ext w (w.alloc (.cells #[.slice none 0 0] 55))) := Lib.hid ⟨⟨⟨none, 0, 0, hb0, Own.nil_, fun a ha => (by cases ha)⟩, rfl, fun b hb => by rw [hb]; simp⟩, X0⟩
  clear X0 hb0 hr
  go_enter Tryd.func19, Tryd.ntmps19
  go_wp2_with fail
  generalize w.alloc (.cells #[.slice none 0 0] 55) = V at *
  obtain ⟨q, hq⟩ : ∃ q, q = w.heap.size := ⟨_, rfl⟩
  rw [← hq] at HW ⊢
  have HQ := Lib.hid hq
  clear hq
  go_loopw [15] (fun v15 wr => ∃ k : Nat, v15 = .int .i64 (k : Int) ∧ k ≤ n ∧ Hid (∃ F, RQ wr q F ((thingsOf ranks).take k) ∧ Ext w wr ∧ ∀ b, F b → w.heap.size ≤ b)) (fun v15 _ => n - (intOf v15).toNat)
  case atStart => exact ⟨0, rfl, by omega, _, HW.out.1, HW.out.2, fun b hb => by have := HQ.out; have e : b = q := hb; omega⟩
  case round =>
    obtain ⟨k, rfl, hk, HI⟩ := hrel
    by_cases hlt : k < n
    · obtain ⟨F, ⟨⟨A1, n1, c1, b1, o1, f1⟩, fq, flt⟩, h2, h3⟩ := HI.out
      obtain ⟨r, hrk⟩ : ∃ r, ranks[k]? = some r := ⟨ranks[k]'(by omega), List.getElem?_eq_getElem _⟩
      obtain ⟨ad, rfl, _, z1⟩ := (HA.out.1.ext h2).at_ hlt
      have y1 := z1 k _ (ints_at' hrk)
      have hl1 := rlen_eq o1
      have htl : ((thingsOf ranks).take k).length = k := by rw [List.length_take, thingsOf_len]; omega
      obtain rfl : k = n1 := by omega
      have y0 : wr.cell? ⟨q, 0, none⟩ = some (.slice A1 k c1) := block_cell b1 0
      have X1 := (Ext.refl wr).alloc (.cells #[.int .i64 (k : Int), .int .i64 r] 34)
      have RN : Rd (wr.alloc (.cells #[.int .i64 (k : Int), .int .i64 r] 34)) 2 (some ⟨wr.heap.size, 0, none⟩) 1 (trow ⟨(k : Int), r⟩) := ⟨rfl, fun _ => ⟨_, rfl, by simp, World.news_of_block (heap_alloc_new wr _)⟩⟩
      have k1 : (k : Int) < n := by omega
      have k2 : (0 : Int) ≤ k := by omega
      clear z1
      go_wp2_with (at_builtin; refine held ?_)
      refine Held.go (wp_app (m := 1) (news := trow ⟨(k : Int), r⟩) eltR (o1.ext X1) RN (trow_one _) (by have := HA.out; omega) (.inr ⟨by have := HA.out; omega, by omega⟩) (Nat.zero_le _) _ _ rfl rfl rfl rfl ?_)
      intro A3 c3 w3 o3 g3 hA3 _
      have hqA : ¬ A1.map (·.block) = some q := fun e => by
        obtain ⟨a, ha, hab⟩ := Option.map_eq_some_iff.1 e
        exact (f1 a ha).2 hab
      have bq3 := (g3.block q (Nat.lt_of_lt_of_le (block_lt b1) X1.size) (fun e => hqA e.symm)).trans ((X1.block q (block_lt b1)).trans b1)
      have y3 : w3.cell? ⟨q, 0, none⟩ = some (.slice A1 k c1) := block_cell bq3 0
      have z3 := block_fz bq3 0
      obtain ⟨F', hF'⟩ := rq_snoc flt fq f1 X1 ((X1.block q (block_lt b1)).trans b1) o3 g3 hA3
      have hfr := hF'.from_ h2 h3
      rw [← take_succ' (thingsOf_at hrk)] at hF'
      have HE := Lib.hid (And.intro hF'.rq (And.intro hfr.1 hfr.2))
      clear RN X1 o3 g3 hA3 hqA bq3 hF' hfr y0 y1 b1 o1 f1 fq flt h2 h3 hl1 htl
      go_wp2_with fail
      go_roundw
      case rel => exact ⟨k + 1, by go_num, by omega, F', HE.out.1, HE.out.2.1, HE.out.2.2⟩
      case measure => simp [intOf]; omega
    · obtain rfl : n = k := by omega
      obtain ⟨F, h1, h2, h3⟩ := HI.out
      rw [List.take_of_length_le (by rw [thingsOf_len]; omega)] at h1
      have hle : (thingsOf ranks).length = n := by rw [thingsOf_len]; omega
      have hKn : K ≤ n := by have := hK.out; omega
      have ho : Own (wr.alloc (.cells #[] 3)) w.heap.size 3 1 (some ⟨wr.heap.size, 0, none⟩) 0 0 [] := World.ownsRow_lit (size := 1) wr #[] 0 h2.size (by simp [maxLen]) rfl
      have X2 := (Ext.refl wr).alloc (.cells #[] 3)
      have H2 : Hid (RQ (wr.alloc (.cells #[] 3)) q F (thingsOf ranks) ∧ Own (wr.alloc (.cells #[] 3)) w.heap.size 3 1 (some ⟨wr.heap.size, 0, none⟩) 0 0 [] ∧ Ext w (wr.alloc (.cells #[] 3)) ∧ (∀ b, F b → w.heap.size ≤ b) ∧ ¬ F wr.heap.size) := Lib.hid ⟨h1.ext X2, ho, h2.trans X2, h3, fun e => Nat.lt_irrefl _ (h1.lt _ e)⟩
      clear h1 h2 h3 ho X2 HI HW
      go_wp2_with fail
      generalize wr.alloc (.cells #[] 3) = V2 at *
      generalize wr.heap.size = ob at *
      go_loopw [8] (fun v8 wr => ∃ (t d : Nat) (B : Option Addr), v8 = .slice B t d ∧ t ≤ K ∧ Hid (∃ F L' S, RQ wr q F L' ∧ sortT (thingsOf ranks) = S ++ sortT L' ∧ S.length = t ∧ L'.length + t = n ∧ Own wr w.heap.size 3 1 B t d (ints (S.map Th.id)) ∧ (∀ a, B = some a → ¬ F a.block) ∧ Ext w wr ∧ ∀ b, F b → w.heap.size ≤ b)) (fun v8 _ => K - slenV v8)
      case atStart => exact ⟨0, 0, _, rfl, by omega, F, _, [], H2.out.1, rfl, rfl, by omega, H2.out.2.1, (fun a ha => by injection ha with ha; rw [← ha]; exact H2.out.2.2.2.2), H2.out.2.2.1, H2.out.2.2.2.1⟩
      case round =>
        obtain ⟨t, d, B, rfl, ht, HI⟩ := hrel
        obtain ⟨F2, L', S, h1, h2, h3, h4, h5, h6, h7, h8⟩ := HI.out
        obtain ⟨A1, n1, c1, b1, o1, f1⟩ := h1.ex
        have hl1 := rlen_eq o1
        have y0 : wr.cell? ⟨q, 0, none⟩ = some (.slice A1 n1 c1) := block_cell b1 0
        by_cases htK : t < K
        · have hne : L' ≠ [] := fun e => by rw [e] at h4; simp at h4; omega
          obtain ⟨x, hxm, hxl⟩ := exists_least hne
          have C3 := Lib.hid (rpop_ok h1 (by have := HA.out; omega) hxm hxl)
          have H3 := Lib.hid (And.intro h1 (And.intro h2 (And.intro h3 (And.intro h4 (And.intro h5 (And.intro h6 (And.intro h7 (And.intro h8 hxl))))))))
          have l1 : (t : Int) < N := by have := hK.out; omega
          have l2 : (0 : Int) < n1 := by have := List.length_pos_iff.2 hne; omega
          clear h1 h2 h3 h4 h5 h6 h7 h8 b1 o1 f1 hl1 hne hxm hxl HI
          go_wp2_with (first | (go_at_call 33; refine C3.out.mono ?_; rintro e w7 ⟨rfl, F7, L7, n7, p7⟩) | (at_builtin; refine held ?_))
          have X8 := ((Ext.refl w7).alloc (.cells #[.int .i64 x.id, .int .i64 x.rank] 34)).alloc (.cells #[.int .i64 x.id] 3)
          have RN : Rd ((w7.alloc (.cells #[.int .i64 x.id, .int .i64 x.rank] 34)).alloc (.cells #[.int .i64 x.id] 3)) 1 (some ⟨w7.heap.size + 1, 0, none⟩) 1 (ints [x.id]) := by
            have h := Rd.new (w7.alloc (.cells #[.int .i64 x.id, .int .i64 x.rank] 34)) #[.int .i64 x.id] 3 (0, 0)
            rw [World.size_alloc] at h
            exact h
          have o7' := n7.fr.own H3.out.2.2.2.2.1 H3.out.2.2.2.2.2.1
          have o7 := o7'.ext X8
          have e7 := n7.from_ H3.out.2.2.2.2.2.2.1 H3.out.2.2.2.2.2.2.2.1
          refine Held.go (wp_app (m := 1) (news := ints [x.id]) eltI o7 RN (ints_one _) (by have := HA.out; omega) (.inr ⟨by have := HA.out; omega, by omega⟩) (Nat.le_trans e7.1.size X8.size) _ _ rfl rfl rfl rfl ?_)
          intro B2 d2 w9 o9 g9 hB2 _
          have hs7 := n7.rq.lt
          have hz8 : ((w7.alloc (.cells #[.int .i64 x.id, .int .i64 x.rank] 34)).alloc (.cells #[.int .i64 x.id] 3)).heap.size = w7.heap.size + 1 + 1 := by simp
          have hF7B : ∀ a, B = some a → ¬ F7 a.block := fun a ha => n7.out (H3.out.2.2.2.2.1.lt_at ha) (H3.out.2.2.2.2.2.1 a ha)
          have F9 : ∀ a, B2 = some a → ¬ F7 a.block := fun a ha => by
            rcases hB2 with e | e
            · exact hF7B a (e ▸ ha)
            · rw [e, hz8] at ha
              injection ha with ha
              rw [← ha]
              intro e2
              have e3 : F7 (w7.heap.size + 1 + 1) := e2
              have := hs7 _ e3
              omega
          have RQ9 : RQ w9 q F7 L7 := (n7.rq.ext X8).fr (Fr.grows g9) (fun b hb e => by
            obtain ⟨a, ha, hab⟩ := Option.map_eq_some_iff.1 e
            exact hF7B a ha (by rw [hab]; exact hb))
          have X9 : Ext w w9 := g9.ext (e7.1.trans X8) (fun q hq => by
            obtain ⟨a, ha, hab⟩ := Option.map_eq_some_iff.1 hq
            rw [← hab]
            exact H3.out.2.2.2.2.1.base_le _ (by rw [ha]; rfl))
          have hSo : sortT L' = x :: sortT L7 := sortT_cons p7 (fun y hy => H3.out.2.2.2.2.2.2.2.2 y (p7.mem_iff.1 (List.mem_cons_of_mem _ hy)))
          have HE : Hid (∃ F L' S, RQ w9 q F L' ∧ sortT (thingsOf ranks) = S ++ sortT L' ∧ S.length = t + 1 ∧ L'.length + (t + 1) = n ∧ Own w9 w.heap.size 3 1 B2 (t + 1) d2 (ints (S.map Th.id)) ∧ (∀ a, B2 = some a → ¬ F a.block) ∧ Ext w w9 ∧ ∀ b, F b → w.heap.size ≤ b) := Lib.hid
            ⟨F7, L7, S ++ [x], RQ9, by rw [H3.out.2.1, hSo, List.append_assoc]; rfl, by rw [List.length_append, H3.out.2.2.1]; rfl, by have h1 := p7.length_eq; rw [List.length_cons] at h1; have h2 := H3.out.2.2.2.1; omega, by rw [List.map_append]; simpa [ints] using o9, F9, X9, e7.2⟩
          clear C3 n7 p7 X8 RN o7' o7 e7 o9 g9 hB2 hs7 hz8 hF7B F9 RQ9 X9 hSo y0
          go_wp2_with fail
          go_roundw
          case rel => exact ⟨t + 1, d2, B2, rfl, by omega, HE.out⟩
          case measure => simp [slenV]; omega
        · obtain rfl : K = t := by omega
          have hS : S = (sortT (thingsOf ranks)).take K := by rw [h2, ← h3, List.take_left]
          have HE := Lib.hid (show Own wr w.heap.size 3 1 B K d (ints (leastL ranks K)) ∧ Ext w wr from ⟨by unfold leastL; rw [← hS]; exact h5, h7⟩)
          by_cases hKN : (K : Int) < N
          · have l2 : ¬ (0 : Int) < n1 := by have := hK.out; omega
            clear h1 h2 h3 h4 h5 h6 h7 h8 b1 o1 f1 hl1 hS HI
            go_wp2_with fail
            go_returns
            exact ⟨B, d, rfl, HE.out.1, HE.out.2⟩
          · clear h1 h2 h3 h4 h5 h6 h7 h8 b1 o1 f1 hl1 hS HI
            go_wp2_with fail
            go_returns
            exact ⟨B, d, rfl, HE.out.1, HE.out.2⟩
end
end Go.Proofs.YtocjbllkgbjihaaDoor
