/-
  QueueLists, walked.
-/
import Derived.Test.YtocjbllkgbjihaaDoorQuRefM
import Derived.Test.YtocjbllkgbjihaaDoorQuRefL
namespace Go.Proofs.YtocjbllkgbjihaaDoor
set_option maxRecDepth 100000
open Go.RowKit Go.Maps
set_option linter.unusedVariables false
/-- A slice with its marked room behind. -/
def Mk (w : World) (t : SlI) : Prop := ∃ b, t.A = some ⟨b, 0, none⟩ ∧ t.c = t.n + 4 ∧ b < w.heap.size ∧ Rd w 1 (some ⟨b, 0, none⟩) (t.n + 4) (ints (t.l ++ marks4))
theorem Mk.rd {w : World} {t : SlI} (h : Mk w t) : Rd w 1 t.A t.n (ints t.l) := by
  obtain ⟨b, h1, _, _, h2⟩ := h
  rw [h1]
  exact h2.unmark4
theorem Mk.ext {w w' : World} {t : SlI} (h : Mk w t) (hx : Ext w w') : Mk w' t := by
  obtain ⟨b, h1, h2, h3, h4⟩ := h
  exact ⟨b, h1, h2, Nat.lt_of_lt_of_le h3 hx.size, h4.ext hx⟩
theorem Mk.grows {w w' : World} {t : SlI} {A : Option Addr} (h : Mk w t) (hg : Grows w w' A) (hne : ∀ a, t.A = some a → A.map (·.block) ≠ some a.block) : Mk w' t := by
  obtain ⟨b, h1, h2, h3, h4⟩ := h
  exact ⟨b, h1, h2, Nat.lt_of_lt_of_le h3 hg.size, hg.rd h4 (fun a ha => hne a (h1.trans ha))⟩
set_option maxHeartbeats 6400000 in
theorem lists_any (A : Option Addr) (n c : Nat) (l : List Int) (K : Int) (B : Option Addr) (N C : Nat) (ss : List SlI) (w : World) (hr : Rd w 1 A n (ints l)) (hls : LS w B N ss) (hT : ((lists ss).map List.length).sum ≤ 1048576) :
    Calls Tryd.prog 4 #[.slice A n c, .int .i64 K, .slice B N C] w fun e w' => e = .returned (.bool true) ∧ Ext w w' := by
  have CA := Lib.hid (alive_any w)
  have HA := Lib.hid (And.intro hr (And.intro hls hT))
  have hll : l.length = n := by have := hr.len; rwa [ints_len] at this
  have hlen := hls.len
  clear hr hls hT
  go_enter Tryd.func4, Tryd.ntmps4
  go_upto_region 3 with (go_at_call 8; refine CA.out.mono ?_; rintro e w1 ⟨rfl, x1⟩)
  have HX1 := Lib.hid x1
  clear CA x1
  by_cases hn : 2000 < n
  · have n1 : decide ((2000 : Int) < n) = true := decide_eq_true (by omega)
    go_wp2_with fail
    go_returns
    exact ⟨rfl, HX1.out⟩
  have n1 : decide ((2000 : Int) < n) = false := decide_eq_false (by omega)
  by_cases hN : 2000 < N
  · have n2 : decide ((2000 : Int) < N) = true := decide_eq_true (by omega)
    go_wp2_with fail
    go_returns
    exact ⟨rfl, HX1.out⟩
  have n2 : decide ((2000 : Int) < N) = false := decide_eq_false (by omega)
  have CI := Lib.hid (ints_any A n c l w1 (by omega) (HA.out.1.ext HX1.out))
  go_upto_region 6 with (go_at_call 16; refine CI.out.mono ?_; rintro e w2 ⟨rfl, r2, x2⟩)
  generalize w1.heap.size = ib at *
  obtain ⟨k, hk⟩ : ∃ k : Nat, (k : Int) = max 0 (min K n) := ⟨(max 0 (min K n)).toNat, by omega⟩
  have hkn : k ≤ n := by omega
  have CL := Lib.hid (least_any (some ⟨ib, 0, none⟩) n (n + 4) l K k w2 r2.unmark4 hll (by omega) (Lib.hid hk))
  have H2 := Lib.hid (And.intro r2 (HX1.out.trans x2))
  clear CI r2 x2 HX1
  go_upto_region 7 with (go_at_call 17; refine CL.out.mono ?_; rintro e w3 ⟨B3, d3, rfl, o3, x3⟩)
  have CR := Lib.hid (rleast_any A n c l K k w3 (HA.out.1.ext (H2.out.2.trans x3)) hll (by omega) (Lib.hid hk))
  have H3 := Lib.hid (And.intro (H2.out.1.ext x3) (And.intro (H2.out.2.trans x3) o3))
  clear CL o3 x3 H2 hk
  go_upto_region 8 with (first | (go_at_call 19; refine CR.out.mono ?_; rintro e w4 ⟨B4, d4, rfl, o4, x4⟩) | (go_at_call 18; refine (same_ints B3 B4 k d3 d4 (leastL l k) w4 (H3.out.2.2.rd.ext x4) o4.rd (by omega)).mono ?_; rintro e w5 ⟨rfl, x5⟩) | (go_at_call 20; refine (keptInts_any ib n c A l w5 (by omega) (H3.out.1.ext (x4.trans x5)) (HA.out.1.ext (H3.out.2.1.trans (x4.trans x5)))).mono ?_; rintro e w6 ⟨rfl, x6⟩))
  have o6 : Own (w6.alloc (.cells #[] 22)) w6.heap.size 22 1 (some ⟨w6.heap.size, 0, none⟩) 0 0 [] := World.ownsRow_lit (size := 1) w6 #[] 0 (Nat.le_refl _) (by simp [maxLen]) rfl
  have X6 := H3.out.2.1.trans (x4.trans (x5.trans (x6.alloc (.cells #[] 22))))
  have H6 : Hid (SO (w6.alloc (.cells #[] 22)) w.heap.size w6.heap.size 0 0 [] ∧ Ext w (w6.alloc (.cells #[] 22))) := Lib.hid ⟨⟨o6.base_mono (by have := H3.out.2.1.size; have := x4.size; have := x5.size; have := x6.size; omega), fun s hs => (by cases hs)⟩, X6⟩
  clear CR H3 o4 x4 x5 x6 o6 X6
  generalize w6.alloc (.cells #[] 22) = V1 at *
  generalize w6.heap.size = ob1 at *
  go_loopw [9, 45] (fun v9 v45 wr => ∃ (i ob d : Nat), v45 = .int .i64 (i : Int) ∧ v9 = .slice (some ⟨ob, 0, none⟩) i d ∧ i ≤ N ∧ Hid (∃ ts, SO wr w.heap.size ob i d ts ∧ Ext w wr ∧ lists ts = (lists ss).take i ∧ ∀ t ∈ ts, Mk wr t)) (fun _ v45 _ => N - (intOf v45).toNat)
  case atStart => exact ⟨0, ob1, 0, rfl, rfl, by omega, [], H6.out.1, H6.out.2, by simp, fun t ht => by cases ht⟩
  case round =>
    obtain ⟨i, ob, d, rfl, rfl, hi, HI⟩ := hrel
    by_cases hlt : i < N
    · obtain ⟨ts, h1, h2, h3, h4⟩ := HI.out
      obtain ⟨s, hs⟩ : ∃ s, ss[i]? = some s := ⟨ss[i]'(by omega), List.getElem?_eq_getElem _⟩
      obtain ⟨ad, rfl, _, z1⟩ := (HA.out.2.1.rd.ext h2).at_ hlt
      have y1 := z1 i _ (slcells_at hs)
      unfold SlI.v at y1
      have hsm := List.mem_of_getElem? hs
      have hsn := HA.out.2.1.nlen s hsm
      have hsr := (HA.out.2.1.each s hsm).ext h2
      have hsb : s.n ≤ 1048576 := by
        have h5 := HA.out.2.2
        have h6 : s.l.length ≤ ((lists ss).map List.length).sum := by
          have : s.l.length ∈ (lists ss).map List.length := List.mem_map_of_mem (List.mem_map_of_mem hsm)
          exact le_sum_mem this
        omega
      have hls := lists_at hs
      have k1 : (i : Int) < N := by omega
      obtain ⟨sA, sn, sc, sl⟩ := s
      dsimp only at *
      have CI := Lib.hid (ints_any sA sn sc sl wr (by omega) hsr)
      have HS := Lib.hid (And.intro h1 (And.intro h2 (And.intro h3 (And.intro h4 hls))))
      clear hs hsm hsn hsr z1 h1 h2 h3 h4 hls HI
      go_wp2_with (first | (refine CI.out.mono ?_; rintro e w7 ⟨rfl, r7, x7⟩) | (at_builtin; refine held ?_))
      have X8 := x7.alloc (.cells #[.slice (some ⟨wr.heap.size, 0, none⟩) sn (sn + 4)] 22)
      have RN : Rd (w7.alloc (.cells #[.slice (some ⟨wr.heap.size, 0, none⟩) sn (sn + 4)] 22)) 1 (some ⟨w7.heap.size, 0, none⟩) 1 (slcells [⟨some ⟨wr.heap.size, 0, none⟩, sn, sn + 4, sl⟩]) := Rd.new w7 #[.slice (some ⟨wr.heap.size, 0, none⟩) sn (sn + 4)] 22 (0, 0)
      have r8 := r7.ext ((Ext.refl w7).alloc (.cells #[.slice (some ⟨wr.heap.size, 0, none⟩) sn (sn + 4)] 22))
      have so8 := HS.out.1.ext X8
      refine Held.go (wp_app (m := 1) (news := slcells [⟨some ⟨wr.heap.size, 0, none⟩, sn, sn + 4, sl⟩]) eltSl so8.own RN (slcells_one _) (by omega) (.inr ⟨by omega, by omega⟩) (HS.out.2.1.trans X8).size _ _ rfl rfl rfl rfl ?_)
      intro B2 d2 w9 o9 g9 hB2 _
      have hob := HS.out.1.own.lt
      have hblk : wr.heap.size < w7.heap.size := by
        obtain ⟨_, e1, e2, _⟩ := r7.2 (show 0 < sn + 4 by omega)
        injection e1 with e1
        rw [← e1] at e2
        exact e2
      have hz8 : (w7.alloc (.cells #[.slice (some ⟨wr.heap.size, 0, none⟩) sn (sn + 4)] 22)).heap.size = w7.heap.size + 1 := World.size_alloc _ _
      obtain ⟨ob', hob', so9⟩ := so8.snoc (t := ⟨some ⟨wr.heap.size, 0, none⟩, sn, sn + 4, sl⟩) g9 o9 hB2 r8.unmark4 (fun a ha => by injection ha with ha; rw [← ha]; exact ⟨by show wr.heap.size < _; omega, by show wr.heap.size ≠ ob; omega⟩)
      have mk8 : Mk (w7.alloc (.cells #[.slice (some ⟨wr.heap.size, 0, none⟩) sn (sn + 4)] 22)) ⟨some ⟨wr.heap.size, 0, none⟩, sn, sn + 4, sl⟩ := ⟨_, rfl, rfl, by omega, r8⟩
      have x9 : Ext w w9 := g9.ext (HS.out.2.1.trans X8) (fun q hq => by injection hq with hq; rw [← hq]; exact HS.out.1.own.base_le ob rfl)
      have HE : Hid (∃ ts, SO w9 w.heap.size ob' (i + 1) d2 ts ∧ Ext w w9 ∧ lists ts = (lists ss).take (i + 1) ∧ ∀ t ∈ ts, Mk w9 t) := Lib.hid ⟨_, so9, x9, by
        rw [take_succ' HS.out.2.2.2.2, ← HS.out.2.2.1]
        simp [lists], fun t ht => by
        rcases List.mem_append.1 ht with ht | ht
        · exact ((HS.out.2.2.2.1 t ht).ext X8).grows g9 (fun a ha e => by
            injection e with e
            exact ((HS.out.1.each t ht).2 a ha).2 e.symm)
        · obtain rfl := List.mem_singleton.1 ht
          exact mk8.grows g9 (fun a ha e => by
            injection ha with ha
            rw [← ha] at e
            injection e with e
            have e2 : ob = wr.heap.size := e
            omega)⟩
      clear X8 RN r8 so8 o9 g9 hB2 hob hblk hz8 so9 mk8 x9 r7 x7 y1 CI
      subst hob'
      go_wp2_with fail
      go_roundw
      case rel => exact ⟨i + 1, ob', d2, by go_num, rfl, by omega, HE.out⟩
      case measure => simp [intOf]; omega
    · obtain rfl : N = i := by omega
      obtain ⟨ts, h1, h2, h3, h4⟩ := HI.out
      rw [List.take_of_length_le (by simp only [List.length_map]; omega)] at h3
      have htsn : ∀ s ∈ ts, s.n ≤ 100000000000000 := fun s hs => by
        have h5 := HA.out.2.2
        have h6 : s.l.length ≤ ((lists ts).map List.length).sum := by
          have : s.l.length ∈ (lists ts).map List.length := List.mem_map_of_mem (List.mem_map_of_mem hs)
          exact le_sum_mem this
        have h7 := (h4 s hs).rd.len
        rw [ints_len] at h7
        rw [h3] at h6
        omega
      have hssn : ∀ s ∈ ss, s.n ≤ 100000000000000 := fun s hs => by
        have h5 := HA.out.2.2
        have h6 : s.l.length ≤ ((lists ss).map List.length).sum := by
          have : s.l.length ∈ (lists ss).map List.length := List.mem_map_of_mem (List.mem_map_of_mem hs)
          exact le_sum_mem this
        have h7 := HA.out.2.1.nlen s hs
        omega
      have C1 := Lib.hid (merge_any (some ⟨ob, 0, none⟩) N d ts wr h1.ls (by omega) (by rw [h3]; have := HA.out.2.2; omega) htsn)
      have C2 := Lib.hid (fun (W : World) (hx : Ext wr W) => rmerge_any B N C ss W (HA.out.2.1.ext (h2.trans hx)) (by omega) (by have := HA.out.2.2; omega) hssn)
      have HT := Lib.hid (And.intro h1 (And.intro h2 (And.intro h3 h4)))
      generalize wr = W5 at *
      clear h1 h2 h3 h4 htsn hssn HI
      go_upto_region 16 with (go_at_call 21; refine C1.out.mono ?_; rintro e w6 ⟨B6, t, d6, out, cs, rfl, o6, m6, f6, x6⟩)
      have C3 := Lib.hid (C2.out w6 x6)
      have hol : out.length = t := by have := o6.len; rw [ints_len] at this; omega
      have htT : t ≤ 2000000 := by
        have := m6.sum_le
        rw [HT.out.2.2.1] at this
        have := HA.out.2.2
        omega
      have H6 := Lib.hid (And.intro o6 (And.intro m6 (And.intro f6 x6)))
      clear C1 C2 o6 m6 f6 x6
      go_upto_region 18 with (first | (go_at_call 22; refine C3.out.mono ?_; rintro e w7 ⟨B7, t7, d7, out7, cs7, rfl, o7, m7, f7, x7⟩; obtain rfl : out = out7 := full_det (by rw [← HT.out.2.2.1]; exact H6.out.2.1) (by rw [← HT.out.2.2.1]; exact H6.out.2.2.1) m7 f7; obtain rfl : t = t7 := by (have h := o7.len; rw [ints_len] at h; omega)) | (go_at_call 18; refine (same_ints B6 B7 t d6 d7 out w7 (H6.out.1.rd.ext x7) o7.rd (by omega)).mono ?_; rintro e w8 ⟨rfl, x8⟩))
      have H8 : Hid (Own w8 W5.heap.size 3 1 B6 t d6 (ints out) ∧ Ext W5 w8) := Lib.hid ⟨H6.out.1.ext (x7.trans x8), H6.out.2.2.2.trans (x7.trans x8)⟩
      clear C3 H6 o7 m7 f7 x7 x8
      go_wp2_with fail
      go_loopw [64] (fun v64 wr => ∃ (j : Nat), v64 = .int .i64 (j : Int) ∧ j ≤ t ∧ Hid (∃ xs, xs.length = t ∧ Own wr W5.heap.size 3 1 B6 t d6 (ints xs) ∧ Ext W5 wr)) (fun v64 _ => t - (intOf v64).toNat)
      case atStart => exact ⟨0, rfl, by omega, out, hol, H8.out.1, H8.out.2⟩
      case round =>
        obtain ⟨j, rfl, hj, HJ⟩ := hrel
        by_cases hlt2 : j < t
        · obtain ⟨xs, g1, g2, g3⟩ := HJ.out
          obtain ⟨g, rfl⟩ := g2.head (by omega)
          obtain ⟨x, hx⟩ : ∃ x, xs[j]? = some x := ⟨xs[j]'(by omega), List.getElem?_eq_getElem _⟩
          have y1 := g2.cellAt hlt2 (ints_at hx)
          have z1 := g2.frozenAt j
          have j1 : (j : Int) < t := by omega
          have j2 : (0 : Int) ≤ j := by omega
          have HE : Hid (∀ u : Int, ∃ xs, xs.length = t ∧ Own (wr.setCell ⟨g, j, none⟩ (.int .i64 u)) W5.heap.size 3 1 (some ⟨g, 0, none⟩) t d6 (ints xs) ∧ Ext W5 (wr.setCell ⟨g, j, none⟩ (.int .i64 u))) := Lib.hid (fun u => ⟨xs.set j u, by rw [List.length_set]; exact g1, by
            rw [ints_set]
            exact g2.stored j _, g3.setCell (g2.base_le g rfl) _⟩)
          clear g1 g2 g3 hx HJ
          go_wp2_with fail
          go_roundw
          case rel => exact ⟨j + 1, by go_num, by omega, HE.out _⟩
          case measure => simp [intOf]; omega
        · obtain rfl : t = j := by omega
          obtain ⟨xs, g1, g2, g3⟩ := HJ.out
          have HX := Lib.hid g3
          clear g1 g2 g3 HJ
          go_wp2_with fail
          go_loopw [76] (fun v76 wr => ∃ (j : Nat), v76 = .int .i64 (j : Int) ∧ j ≤ N ∧ Hid (Ext W5 wr)) (fun v76 _ => N - (intOf v76).toNat)
          case atStart => exact ⟨0, rfl, by omega, HX.out⟩
          case round =>
            obtain ⟨j, rfl, hj, HJ⟩ := hrel
            by_cases hlt3 : j < N
            · obtain ⟨s, hs⟩ : ∃ s, ss[j]? = some s := ⟨ss[j]'(by omega), List.getElem?_eq_getElem _⟩
              have xw := HT.out.2.1.trans HJ.out
              obtain ⟨ad, rfl, _, z1⟩ := (HA.out.2.1.rd.ext xw).at_ hlt3
              have y1 := z1 j _ (slcells_at hs)
              unfold SlI.v at y1
              have htl := HT.out.1.ls.len
              obtain ⟨u, hu⟩ : ∃ u, ts[j]? = some u := ⟨ts[j]'(by omega), List.getElem?_eq_getElem _⟩
              have y2 := (HT.out.1.own.ext HJ.out).cellAt hlt3 (slcells_at hu)
              unfold SlI.v at y2
              have hsm := List.mem_of_getElem? hs
              have hsr := (HA.out.2.1.each s hsm).ext xw
              have hmk := (HT.out.2.2.2 u (List.mem_of_getElem? hu)).ext HJ.out
              have hlu := lists_at hu
              rw [HT.out.2.2.1, lists_at hs] at hlu
              injection hlu with hlu
              have hsb : s.n ≤ 1048576 := by
                have h5 := HA.out.2.2
                have h6 : s.l.length ≤ ((lists ss).map List.length).sum := by
                  have : s.l.length ∈ (lists ss).map List.length := List.mem_map_of_mem (List.mem_map_of_mem hsm)
                  exact le_sum_mem this
                have := HA.out.2.1.nlen s hsm
                omega
              have hsn := HA.out.2.1.nlen s hsm
              have hun := hmk.rd.len
              rw [ints_len] at hun
              obtain ⟨b, e1, e2, _, e3⟩ := hmk
              obtain ⟨sA, sn, sc, sl⟩ := s
              obtain ⟨uA, un, uc, ul⟩ := u
              dsimp only at *
              subst hlu e1 e2
              obtain rfl : sn = un := by omega
              have CK := Lib.hid (fun (W : World) (hx : Ext wr W) => keptInts_any b sn sc sA sl W (by omega) (e3.ext hx) (hsr.ext hx))
              have k1 : (j : Int) < N := by omega
              have k2 : (0 : Int) ≤ j := by omega
              clear hs xw z1 hu hsm hsr e3 hsb hsn hun htl
              go_upto_region 26 with (fail)
              have HS1 : wr.drew.cell? ⟨ob, j, none⟩ = some (.slice (some ⟨b, 0, none⟩) sn (sn + 4)) ∧ wr.drew.cell? (ad.add j) = some (.slice sA sn sc) := ⟨y2, y1⟩
              clear y1 y2
              refine d_region (fun W : World => W.cell? ⟨ob, j, none⟩ = some (.slice (some ⟨b, 0, none⟩) sn (sn + 4)) ∧ W.cell? (ad.add j) = some (.slice sA sn sc)) [8, 9] (by kernel_rfl) ?_
              refine d_take (i := 0) (v := ?_) [2, 3, 8, 9] (some 79) rfl (by rfl) (by kernel_rfl) (by kernel_rfl) (by kernel_rfl) (by kernel_rfl) (by kernel_rfl) (by kernel_rfl) (fun _ _ _ h => h) (.inl ⟨by rfl, ?_⟩) HS1 ?_
              rotate_left 1
              · (intro W hW; (try dsimp only at hW); go_simp; try with_reducible rfl)
              try simp only [Act.put, List.setIfInBounds_toArray, List.set_cons_zero, List.set_cons_succ]
              refine d_take (i := 1) (v := ?_) [2, 3, 8, 9] (some 80) rfl (by rfl) (by kernel_rfl) (by kernel_rfl) (by kernel_rfl) (by kernel_rfl) (by kernel_rfl) (by kernel_rfl) (fun _ _ _ h => h) (.inl ⟨by rfl, ?_⟩) HS1 ?_
              rotate_left 1
              · (intro W hW; (try dsimp only at hW); go_simp; try with_reducible rfl)
              try simp only [Act.put, List.setIfInBounds_toArray, List.set_cons_zero, List.set_cons_succ]
              refine d_take (i := 2) (v := ?_) [3, 8, 9] (some 81) rfl (by rfl) (by kernel_rfl) (by kernel_rfl) (by kernel_rfl) (by kernel_rfl) (by kernel_rfl) (by kernel_rfl) (fun _ _ _ h => h) (.inl ⟨by rfl, ?_⟩) HS1 ?_
              rotate_left 1
              · (intro W hW; (try dsimp only at hW); go_simp; try with_reducible rfl)
              try simp only [Act.put, List.setIfInBounds_toArray, List.set_cons_zero, List.set_cons_succ]
              refine d_take (i := 3) (v := ?_) [8, 9] (some 82) rfl (by rfl) (by kernel_rfl) (by kernel_rfl) (by kernel_rfl) (by kernel_rfl) (by kernel_rfl) (by kernel_rfl) (fun _ _ _ h => h) (.inl ⟨by rfl, ?_⟩) HS1 ?_
              rotate_left 1
              · (intro W hW; (try dsimp only at hW); go_simp; try with_reducible rfl)
              try simp only [Act.put, List.setIfInBounds_toArray, List.set_cons_zero, List.set_cons_succ]
              refine d_take (i := 4) (v := ?_) [6, 7, 8, 9] (some 83) rfl (by rfl) (by kernel_rfl) (by kernel_rfl) (by kernel_rfl) (by kernel_rfl) (by kernel_rfl) (by kernel_rfl) (fun _ _ _ h => h) (.inl ⟨by rfl, ?_⟩) HS1 ?_
              rotate_left 1
              · (intro W hW; (try dsimp only at hW); go_simp; try with_reducible rfl)
              try simp only [Act.put, List.setIfInBounds_toArray, List.set_cons_zero, List.set_cons_succ]
              refine d_take (i := 5) (v := ?_) [6, 7, 8, 9] (some 84) rfl (by rfl) (by kernel_rfl) (by kernel_rfl) (by kernel_rfl) (by kernel_rfl) (by kernel_rfl) (by kernel_rfl) (fun _ _ _ h => h) (.inl ⟨by rfl, ?_⟩) HS1 ?_
              rotate_left 1
              · (intro W hW; (try dsimp only at hW); go_simp; try with_reducible rfl)
              try simp only [Act.put, List.setIfInBounds_toArray, List.set_cons_zero, List.set_cons_succ]
              refine d_take (i := 6) (v := ?_) [7, 8, 9] (some 85) rfl (by rfl) (by kernel_rfl) (by kernel_rfl) (by kernel_rfl) (by kernel_rfl) (by kernel_rfl) (by kernel_rfl) (fun _ _ _ h => h) (.inl ⟨by rfl, ?_⟩) HS1 ?_
              rotate_left 1
              · (intro W hW; (try dsimp only at hW); go_simp; try with_reducible rfl)
              try simp only [Act.put, List.setIfInBounds_toArray, List.set_cons_zero, List.set_cons_succ]
              refine d_take (i := 7) (v := ?_) [8, 9] (some 86) rfl (by rfl) (by kernel_rfl) (by kernel_rfl) (by kernel_rfl) (by kernel_rfl) (by kernel_rfl) (by kernel_rfl) (fun _ _ _ h => h) (.inl ⟨by rfl, ?_⟩) HS1 ?_
              rotate_left 1
              · (intro W hW; (try dsimp only at hW); go_simp; try with_reducible rfl)
              try simp only [Act.put, List.setIfInBounds_toArray, List.set_cons_zero, List.set_cons_succ]
              refine d_call (i := 8) (by kernel_rfl) rfl (by rfl) (fun K hK => ?_)
              simp only [List.getElem_toArray, List.getElem_cons_succ, List.getElem_cons_zero]
              go_simp
              refine (CK.out _ (Ext.refl _).drew).mono ?_
              rintro e w9 ⟨rfl, x9⟩
              go_simp
              have X9 := Lib.hid (HJ.out.trans ((Ext.refl wr).drew.trans x9))
              refine hK.out _ _ (fun h => absurd h (by decide)) ?_
              clear hK K CK x9 HS1
              try simp only [Act.put, List.setIfInBounds_toArray, List.set_cons_zero, List.set_cons_succ]
              refine d_one (i := 9) (by kernel_rfl) rfl rfl (fun K hK => ?_)
              simp only [List.getElem_toArray, List.getElem_cons_succ, List.getElem_cons_zero]
              go_simp
              refine hK.out _ _ (fun h => absurd h (by decide)) ?_
              clear hK K 
              try simp only [Act.put, List.setIfInBounds_toArray, List.set_cons_zero, List.set_cons_succ]
              refine d_done (by kernel_rfl) ?_ _
              go_wp2_with fail
              go_roundw
              case rel => exact ⟨j + 1, by go_num, by omega, X9.out⟩
              case measure => simp [intOf]; omega
            · obtain rfl : N = j := by omega
              have HE := Lib.hid (HT.out.2.1.trans HJ.out)
              go_wp2_with fail
              go_returns
              exact ⟨rfl, HE.out⟩
end Go.Proofs.YtocjbllkgbjihaaDoor
