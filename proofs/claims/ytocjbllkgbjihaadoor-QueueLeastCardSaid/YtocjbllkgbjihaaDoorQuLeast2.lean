/-
  queue.Least, walked.
-/
import Derived.Test.YtocjbllkgbjihaaDoorQuLeast
import Derived.Test.YtocjbllkgbjihaaDoorQuSortS
namespace Go.Proofs.YtocjbllkgbjihaaDoor
set_option maxRecDepth 100000
open Go.RowKit Go.Maps
set_option linter.unusedVariables false
section
variable {w w' : World}
set_option maxHeartbeats 3200000 in
theorem least_any (A : Option Addr) (n c : Nat) (ranks : List Int) (N : Int) (K : Nat) (w : World) (hr : Rd w 1 A n (ints ranks)) (hrl : ranks.length = n) (hn : n ≤ 10000000) (hK : Hid ((K : Int) = max 0 (min N n))) :
    Calls Tryd.prog 17 #[.slice A n c, .int .i64 N] w fun e w' => ∃ B d, e = .returned (.slice B K d) ∧ Own w' w.heap.size 3 1 B K d (ints (leastL ranks K)) ∧ Ext w w' := by
  have rm : (Instr.makeMap 61 none).run Tryd.prog w = .ok (.map (some w.heap.size)) (w.alloc (.map #[] 0)) := by kernel_rfl
  have X0 := ((Ext.refl w).alloc (.map #[] 0)).alloc (.cells #[.slice none 0 0, .map (some w.heap.size)] 63)
  have HW := Lib.hid (And.intro (lnew w) X0)
  have HA := Lib.hid (And.intro hr (And.intro hrl hn))
  clear X0 hr
  go_enter Tryd.func17, Tryd.ntmps17
  go_wp2_with fail
  obtain ⟨V, hV⟩ : ∃ V, V = (w.alloc (.map #[] 0)).alloc (.cells #[.slice none 0 0, .map (some w.heap.size)] 63) := ⟨_, rfl⟩
  rw [← hV] at HW ⊢
  clear hV rm
  obtain ⟨g, hg⟩ : ∃ g, g = w.heap.size + 1 := ⟨_, rfl⟩
  rw [← hg] at HW ⊢
  have HG := Lib.hid hg
  clear hg
  go_loopw [16] (fun v16 wr => ∃ k : Nat, v16 = .int .i64 (k : Int) ∧ k ≤ n ∧ Hid (∃ F, LP wr g F ((thingsOf ranks).take k) k ∧ Ext w wr ∧ ∀ b, F b → w.heap.size ≤ b)) (fun v16 _ => n - (intOf v16).toNat)
  case atStart => exact ⟨0, rfl, by omega, _, HW.out.1, HW.out.2, fun b hb => by have := HG.out; rcases hb with e | e <;> omega⟩
  case round =>
    obtain ⟨k, rfl, hk, HI⟩ := hrel
    by_cases hlt : k < n
    · obtain ⟨F, h1, h2, h3⟩ := HI.out
      obtain ⟨r, hrk⟩ : ∃ r, ranks[k]? = some r := ⟨ranks[k]'(by omega), List.getElem?_eq_getElem _⟩
      obtain ⟨ad, rfl, _, z1⟩ := (HA.out.1.ext h2).at_ hlt
      have y1 := z1 k _ (ints_at' hrk)
      have C1 := Lib.hid (lpush h1 ⟨(k : Int), r⟩ ⟨by show (_ : Int) ≤ (k : Int); omega, by show (k : Int) ≤ _; omega⟩ (fun y hy => thingsOf_new y hy) (by have := List.length_take_le k (thingsOf ranks); omega) (by omega))
      have H1 := Lib.hid (And.intro h1 (And.intro h2 (And.intro h3 hrk)))
      have k1 : (0 : Int) ≤ k := by omega
      have k2 : (k : Int) < n := by omega
      clear h1 h2 h3 z1 hrk HI
      go_wp2_with (refine C1.out.mono ?_; rintro e w5 ⟨rfl, F5, n5⟩)
      go_roundw
      case rel =>
        have e := n5.from_ H1.out.2.1 H1.out.2.2.1
        refine ⟨k + 1, by go_num, by omega, F5, ?_, e.1, e.2⟩
        rw [take_succ' (thingsOf_at H1.out.2.2.2)]
        exact n5.lp
      case measure => simp [intOf]; omega
    · obtain rfl : n = k := by omega
      obtain ⟨F, h1, h2, h3⟩ := HI.out
      rw [List.take_of_length_le (by rw [thingsOf_len]; omega)] at h1
      have hle : (thingsOf ranks).length = n := by rw [thingsOf_len]; omega
      have hb : n * (2 * n) ≤ 10000000 * (2 * 10000000) := Nat.mul_le_mul HA.out.2.2 (by have := HA.out.2.2; omega)
      have C2 := Lib.hid (linit h1 (by omega) (by rw [hle]; omega))
      rw [hle] at C2
      have H2 := Lib.hid (And.intro h2 (And.intro h3 (And.intro hle hb)))
      clear h1 h2 h3 hle hb HI HW
      by_cases hN : N ≤ (n : Int)
      · go_wp2_with (go_at_call 32; refine C2.out.mono ?_; rintro e w6 ⟨rfl, L6, n6, p6, hh6⟩)
        have e6 := n6.from_ H2.out.1 H2.out.2.1
        have H6 : Hid (LP w6 g F L6 (n + n * (2 * n)) ∧ HeapN L6 L6.length ∧ sortT (thingsOf ranks) = sortT L6 ∧ L6.length = n ∧ Ext w w6 ∧ ∀ b, F b → w.heap.size ≤ b) := Lib.hid ⟨n6.lp, hh6, sortT_congr p6.symm, by rw [p6.length_eq]; exact H2.out.2.2.1, e6.1, H2.out.2.1⟩
        have hKn : K ≤ n := by have := hK.out; omega
        clear C2 n6 p6 hh6 e6
        go_loopw [8, 35] (fun v8 v35 wr => ∃ (t d : Nat) (B : Option Addr), v35 = .int .i64 (t : Int) ∧ v8 = .slice B t d ∧ t ≤ K ∧ Hid (∃ L' S Z', LP wr g F L' Z' ∧ Z' + (K - t) * (4 + 2 * n) ≤ n + n * (2 * n) + K * (4 + 2 * n) ∧ HeapN L' L'.length ∧ sortT (thingsOf ranks) = S ++ sortT L' ∧ S.length = t ∧ L'.length + t = n ∧ Own wr w.heap.size 3 1 B t d (ints (S.map Th.id)) ∧ (∀ a, B = some a → ¬ F a.block) ∧ Ext w wr)) (fun _ v35 _ => K - (intOf v35).toNat)
        case atStart => exact ⟨0, 0, none, rfl, rfl, by omega, L6, [], _, H6.out.1, by simp, H6.out.2.1, by rw [List.nil_append]; exact H6.out.2.2.1, rfl, by have := H6.out.2.2.2.1; omega, Own.nil_, (fun a ha => by cases ha), H6.out.2.2.2.2.1⟩
        case round =>
          obtain ⟨t, d, B, rfl, rfl, ht, HI⟩ := hrel
          by_cases htK : t < K
          · obtain ⟨L', S, Z', h1, h2, h3, h4, h5, h6, h7, h8, h9⟩ := HI.out
            obtain ⟨x, hx⟩ : ∃ x, x = at_ L' 0 := ⟨_, rfl⟩
            have hb2 : K * (4 + 2 * n) ≤ 10000000 * 20000004 := Nat.mul_le_mul (by have := HA.out; omega) (by have := HA.out; omega)
            have hb3 := H2.out.2.2.2
            have hq1 : (K - t) * (4 + 2 * n) = (K - (t + 1)) * (4 + 2 * n) + (4 + 2 * n) := by rw [show K - t = (K - (t + 1)) + 1 by omega, Nat.succ_mul]
            have C3 := Lib.hid (lhpop h1 (m := n - t - 1) (by omega) h3 (by have := HA.out; omega) (by have := HA.out; omega) (Lib.hid hx))
            have hxm : x ∈ L' := by rw [hx]; exact at_mem (by omega)
            have H3 := Lib.hid (And.intro h1 (And.intro h2 (And.intro h3 (And.intro h4 (And.intro h5 (And.intro h6 (And.intro h7 (And.intro h8 (And.intro h9 (And.intro hx hq1))))))))))
            have l1 : (t : Int) < N := by have := hK.out; omega
            have hass := assertR
            clear h1 h2 h3 h4 h5 h6 h7 h8 h9 hx hb2 hb3 hq1 hxm HI
            go_wp2_with (first | (go_at_call 29; refine C3.out.mono ?_; rintro e w7 ⟨rfl, L7, n7, p7, hh7⟩) | (at_builtin; refine held ?_))
            have X8 := ((Ext.refl w7).alloc (.cells #[.int .i64 x.id, .int .i64 x.rank] 34)).alloc (.cells #[.int .i64 x.id] 3)
            have RN : Rd ((w7.alloc (.cells #[.int .i64 x.id, .int .i64 x.rank] 34)).alloc (.cells #[.int .i64 x.id] 3)) 1 (some ⟨w7.heap.size + 1, 0, none⟩) 1 (ints [x.id]) := by
              have h := Rd.new (w7.alloc (.cells #[.int .i64 x.id, .int .i64 x.rank] 34)) #[.int .i64 x.id] 3 (0, 0)
              rw [World.size_alloc] at h
              exact h
            have o7 := (n7.fr.own H3.out.2.2.2.2.2.2.1 H3.out.2.2.2.2.2.2.2.1).ext X8
            have hd7 := o7.cap_le
            have e7 := n7.from_ H3.out.2.2.2.2.2.2.2.2.1 H2.out.2.1
            refine Held.go (wp_app (m := 1) (news := ints [x.id]) eltI o7 RN (ints_one _) (by have := HA.out; omega) (.inr ⟨by have := HA.out; omega, by omega⟩) (Nat.le_trans e7.1.size X8.size) _ _ rfl rfl rfl rfl ?_)
            intro B2 d2 w9 o9 g9 hB2 _
            have hs7 := n7.lp.lt
            have F9 : ∀ a, B2 = some a → ¬ F a.block := fun a ha => by
              rcases hB2 with e | e
              · exact H3.out.2.2.2.2.2.2.2.1 a (e ▸ ha)
              · rw [e] at ha
                injection ha with ha
                subst ha
                intro e2
                have := hs7 _ e2
                simp at this
                omega
            have LP9 : LP w9 g F L7 (Z' + 4 + 2 * (n - t - 1)) := (n7.lp.ext X8).fr (Fr.grows g9) (fun b hb e => by
              obtain ⟨a, ha, hab⟩ := Option.map_eq_some_iff.1 e
              exact H3.out.2.2.2.2.2.2.2.1 a ha (by rw [hab]; exact hb))
            have X9 : Ext w w9 := g9.ext (e7.1.trans X8) (fun q hq => by
              obtain ⟨a, ha, hab⟩ := Option.map_eq_some_iff.1 hq
              rw [← hab]
              exact H3.out.2.2.2.2.2.2.1.base_le _ (by rw [ha]; rfl))
            have hSo : sortT L' = x :: sortT L7 := sortT_cons p7 (fun y hy => by rw [H3.out.2.2.2.2.2.2.2.2.2.1]; exact heap_least H3.out.2.2.1 y (p7.mem_iff.1 (List.mem_cons_of_mem _ hy)))
            have HE : Hid (∃ L' S Z', LP w9 g F L' Z' ∧ Z' + (K - (t + 1)) * (4 + 2 * n) ≤ n + n * (2 * n) + K * (4 + 2 * n) ∧ HeapN L' L'.length ∧ sortT (thingsOf ranks) = S ++ sortT L' ∧ S.length = t + 1 ∧ L'.length + (t + 1) = n ∧ Own w9 w.heap.size 3 1 B2 (t + 1) d2 (ints (S.map Th.id)) ∧ (∀ a, B2 = some a → ¬ F a.block) ∧ Ext w w9) := Lib.hid
              ⟨L7, S ++ [x], _, LP9, by have h1 := H3.out.2.1; have h2 := H3.out.2.2.2.2.2.2.2.2.2.2; omega, hh7, by rw [H3.out.2.2.2.1, hSo, List.append_assoc]; rfl, by rw [List.length_append, H3.out.2.2.2.2.1]; rfl, by have h1 := p7.length_eq; rw [List.length_cons] at h1; have h2 := H3.out.2.2.2.2.2.1; omega, by rw [List.map_append]; simpa [ints] using o9, F9, X9⟩
            clear C3 n7 p7 hh7 X8 RN o7 hd7 e7 o9 g9 hB2 hs7 F9 LP9 X9 hSo
            go_wp2_with fail
            go_roundw
            case rel => exact ⟨t + 1, d2, B2, by go_num, rfl, by omega, HE.out⟩
            case measure => simp [intOf]; omega
          · obtain rfl : K = t := by omega
            obtain ⟨L', S, Z', h1, h2, h3, h4, h5, h6, h7, h8, h9⟩ := HI.out
            have hS : S = (sortT (thingsOf ranks)).take K := by rw [h4, ← h5, List.take_left]
            have HE := Lib.hid (show Own wr w.heap.size 3 1 B K d (ints (leastL ranks K)) ∧ Ext w wr from ⟨by unfold leastL; rw [← hS]; exact h7, h9⟩)
            have l1 : ¬ (K : Int) < N := by have := hK.out; omega
            clear h1 h2 h3 h4 h5 h6 h7 h8 h9 hS HI
            go_wp2_with fail
            go_returns
            exact ⟨B, d, rfl, HE.out.1, HE.out.2⟩
      · go_wp2_with (go_at_call 32; refine C2.out.mono ?_; rintro e w6 ⟨rfl, L6, n6, p6, hh6⟩)
        have e6 := n6.from_ H2.out.1 H2.out.2.1
        have H6 : Hid (LP w6 g F L6 (n + n * (2 * n)) ∧ HeapN L6 L6.length ∧ sortT (thingsOf ranks) = sortT L6 ∧ L6.length = n ∧ Ext w w6 ∧ ∀ b, F b → w.heap.size ≤ b) := Lib.hid ⟨n6.lp, hh6, sortT_congr p6.symm, by rw [p6.length_eq]; exact H2.out.2.2.1, e6.1, H2.out.2.1⟩
        have hKn : K ≤ n := by have := hK.out; omega
        clear C2 n6 p6 hh6 e6
        go_loopw [8, 35] (fun v8 v35 wr => ∃ (t d : Nat) (B : Option Addr), v35 = .int .i64 (t : Int) ∧ v8 = .slice B t d ∧ t ≤ K ∧ Hid (∃ L' S Z', LP wr g F L' Z' ∧ Z' + (K - t) * (4 + 2 * n) ≤ n + n * (2 * n) + K * (4 + 2 * n) ∧ HeapN L' L'.length ∧ sortT (thingsOf ranks) = S ++ sortT L' ∧ S.length = t ∧ L'.length + t = n ∧ Own wr w.heap.size 3 1 B t d (ints (S.map Th.id)) ∧ (∀ a, B = some a → ¬ F a.block) ∧ Ext w wr)) (fun _ v35 _ => K - (intOf v35).toNat)
        case atStart => exact ⟨0, 0, none, rfl, rfl, by omega, L6, [], _, H6.out.1, by simp, H6.out.2.1, by rw [List.nil_append]; exact H6.out.2.2.1, rfl, by have := H6.out.2.2.2.1; omega, Own.nil_, (fun a ha => by cases ha), H6.out.2.2.2.2.1⟩
        case round =>
          obtain ⟨t, d, B, rfl, rfl, ht, HI⟩ := hrel
          by_cases htK : t < K
          · obtain ⟨L', S, Z', h1, h2, h3, h4, h5, h6, h7, h8, h9⟩ := HI.out
            obtain ⟨x, hx⟩ : ∃ x, x = at_ L' 0 := ⟨_, rfl⟩
            have hb2 : K * (4 + 2 * n) ≤ 10000000 * 20000004 := Nat.mul_le_mul (by have := HA.out; omega) (by have := HA.out; omega)
            have hb3 := H2.out.2.2.2
            have hq1 : (K - t) * (4 + 2 * n) = (K - (t + 1)) * (4 + 2 * n) + (4 + 2 * n) := by rw [show K - t = (K - (t + 1)) + 1 by omega, Nat.succ_mul]
            have C3 := Lib.hid (lhpop h1 (m := n - t - 1) (by omega) h3 (by have := HA.out; omega) (by have := HA.out; omega) (Lib.hid hx))
            have hxm : x ∈ L' := by rw [hx]; exact at_mem (by omega)
            have H3 := Lib.hid (And.intro h1 (And.intro h2 (And.intro h3 (And.intro h4 (And.intro h5 (And.intro h6 (And.intro h7 (And.intro h8 (And.intro h9 (And.intro hx hq1))))))))))
            have l1 : (t : Int) < (n : Int) := by have := hK.out; omega
            have hass := assertR
            clear h1 h2 h3 h4 h5 h6 h7 h8 h9 hx hb2 hb3 hq1 hxm HI
            go_wp2_with (first | (go_at_call 29; refine C3.out.mono ?_; rintro e w7 ⟨rfl, L7, n7, p7, hh7⟩) | (at_builtin; refine held ?_))
            have X8 := ((Ext.refl w7).alloc (.cells #[.int .i64 x.id, .int .i64 x.rank] 34)).alloc (.cells #[.int .i64 x.id] 3)
            have RN : Rd ((w7.alloc (.cells #[.int .i64 x.id, .int .i64 x.rank] 34)).alloc (.cells #[.int .i64 x.id] 3)) 1 (some ⟨w7.heap.size + 1, 0, none⟩) 1 (ints [x.id]) := by
              have h := Rd.new (w7.alloc (.cells #[.int .i64 x.id, .int .i64 x.rank] 34)) #[.int .i64 x.id] 3 (0, 0)
              rw [World.size_alloc] at h
              exact h
            have o7 := (n7.fr.own H3.out.2.2.2.2.2.2.1 H3.out.2.2.2.2.2.2.2.1).ext X8
            have hd7 := o7.cap_le
            have e7 := n7.from_ H3.out.2.2.2.2.2.2.2.2.1 H2.out.2.1
            refine Held.go (wp_app (m := 1) (news := ints [x.id]) eltI o7 RN (ints_one _) (by have := HA.out; omega) (.inr ⟨by have := HA.out; omega, by omega⟩) (Nat.le_trans e7.1.size X8.size) _ _ rfl rfl rfl rfl ?_)
            intro B2 d2 w9 o9 g9 hB2 _
            have hs7 := n7.lp.lt
            have F9 : ∀ a, B2 = some a → ¬ F a.block := fun a ha => by
              rcases hB2 with e | e
              · exact H3.out.2.2.2.2.2.2.2.1 a (e ▸ ha)
              · rw [e] at ha
                injection ha with ha
                subst ha
                intro e2
                have := hs7 _ e2
                simp at this
                omega
            have LP9 : LP w9 g F L7 (Z' + 4 + 2 * (n - t - 1)) := (n7.lp.ext X8).fr (Fr.grows g9) (fun b hb e => by
              obtain ⟨a, ha, hab⟩ := Option.map_eq_some_iff.1 e
              exact H3.out.2.2.2.2.2.2.2.1 a ha (by rw [hab]; exact hb))
            have X9 : Ext w w9 := g9.ext (e7.1.trans X8) (fun q hq => by
              obtain ⟨a, ha, hab⟩ := Option.map_eq_some_iff.1 hq
              rw [← hab]
              exact H3.out.2.2.2.2.2.2.1.base_le _ (by rw [ha]; rfl))
            have hSo : sortT L' = x :: sortT L7 := sortT_cons p7 (fun y hy => by rw [H3.out.2.2.2.2.2.2.2.2.2.1]; exact heap_least H3.out.2.2.1 y (p7.mem_iff.1 (List.mem_cons_of_mem _ hy)))
            have HE : Hid (∃ L' S Z', LP w9 g F L' Z' ∧ Z' + (K - (t + 1)) * (4 + 2 * n) ≤ n + n * (2 * n) + K * (4 + 2 * n) ∧ HeapN L' L'.length ∧ sortT (thingsOf ranks) = S ++ sortT L' ∧ S.length = t + 1 ∧ L'.length + (t + 1) = n ∧ Own w9 w.heap.size 3 1 B2 (t + 1) d2 (ints (S.map Th.id)) ∧ (∀ a, B2 = some a → ¬ F a.block) ∧ Ext w w9) := Lib.hid
              ⟨L7, S ++ [x], _, LP9, by have h1 := H3.out.2.1; have h2 := H3.out.2.2.2.2.2.2.2.2.2.2; omega, hh7, by rw [H3.out.2.2.2.1, hSo, List.append_assoc]; rfl, by rw [List.length_append, H3.out.2.2.2.2.1]; rfl, by have h1 := p7.length_eq; rw [List.length_cons] at h1; have h2 := H3.out.2.2.2.2.2.1; omega, by rw [List.map_append]; simpa [ints] using o9, F9, X9⟩
            clear C3 n7 p7 hh7 X8 RN o7 hd7 e7 o9 g9 hB2 hs7 F9 LP9 X9 hSo
            go_wp2_with fail
            go_roundw
            case rel => exact ⟨t + 1, d2, B2, by go_num, rfl, by omega, HE.out⟩
            case measure => simp [intOf]; omega
          · obtain rfl : K = t := by omega
            obtain ⟨L', S, Z', h1, h2, h3, h4, h5, h6, h7, h8, h9⟩ := HI.out
            have hS : S = (sortT (thingsOf ranks)).take K := by rw [h4, ← h5, List.take_left]
            have HE := Lib.hid (show Own wr w.heap.size 3 1 B K d (ints (leastL ranks K)) ∧ Ext w wr from ⟨by unfold leastL; rw [← hS]; exact h7, h9⟩)
            have l1 : ¬ (K : Int) < (n : Int) := by have := hK.out; omega
            clear h1 h2 h3 h4 h5 h6 h7 h8 h9 hS HI
            go_wp2_with fail
            go_returns
            exact ⟨B, d, rfl, HE.out.1, HE.out.2⟩
end
end Go.Proofs.YtocjbllkgbjihaaDoor
