/-
  The document's Merge, walked.
-/
import Derived.Test.YtocjbllkgbjihaaDoorQuInts
import Derived.Test.YtocjbllkgbjihaaDoorOrd
import Derived.Test.YtocjbllkgbjihaaDoorOpenS
namespace Go.Proofs.YtocjbllkgbjihaaDoor
set_option maxRecDepth 100000
open Go.RowKit Go.Maps
set_option linter.unusedVariables false
/-- The best of the first k lists; -1: none offers. -/
def Bst (ls : List (List Int)) (cs : List Nat) (k : Nat) (b : Int) : Prop :=
  (b = -1 ∧ ∀ j, j < k → hd ls cs j = none) ∨ ∃ (i : Nat) (v : Int), b = (i : Int) ∧ i < k ∧ hd ls cs i = some v ∧ ∀ j u, j < k → hd ls cs j = some u → v < u ∨ (v = u ∧ i ≤ j)
section
variable {ls : List (List Int)} {cs : List Nat} {k i : Nat} {b x v : Int}
theorem Bst.skip (h : Bst ls cs k b) (hn : hd ls cs k = none) : Bst ls cs (k + 1) b := by
  rcases h with ⟨h1, h2⟩ | ⟨i, v, h1, h2, h3, h4⟩
  · refine .inl ⟨h1, fun j hj => ?_⟩
    by_cases e : j = k
    · rw [e]; exact hn
    · exact h2 j (by omega)
  · refine .inr ⟨i, v, h1, by omega, h3, fun j u hj hu => ?_⟩
    by_cases e : j = k
    · rw [e, hn] at hu; cases hu
    · exact h4 j u (by omega) hu
theorem Bst.first (h : ∀ j, j < k → hd ls cs j = none) (hx : hd ls cs k = some x) : Bst ls cs (k + 1) (k : Int) := by
  refine .inr ⟨k, x, rfl, by omega, hx, fun j u hj hu => ?_⟩
  by_cases e : j = k
  · rw [e, hx] at hu; injection hu with hu; omega
  · rw [h j (by omega)] at hu; cases hu
theorem Bst.less (h : ∀ j u, j < k → hd ls cs j = some u → v < u ∨ (v = u ∧ i ≤ j)) (hx : hd ls cs k = some x) (hlt : x < v) : Bst ls cs (k + 1) (k : Int) := by
  refine .inr ⟨k, x, rfl, by omega, hx, fun j u hj hu => ?_⟩
  by_cases e : j = k
  · rw [e, hx] at hu; injection hu with hu; omega
  · have := h j u (by omega) hu; omega
theorem Bst.stay (hi : i < k) (hv : hd ls cs i = some v) (h : ∀ j u, j < k → hd ls cs j = some u → v < u ∨ (v = u ∧ i ≤ j)) (hx : hd ls cs k = some x) (hlt : ¬ x < v) : Bst ls cs (k + 1) (i : Int) := by
  refine .inr ⟨i, v, rfl, by omega, hv, fun j u hj hu => ?_⟩
  by_cases e : j = k
  · rw [e, hx] at hu; injection hu with hu; omega
  · exact h j u (by omega) hu
end
theorem ext_cell {w w' : World} (h : Ext w w') {p : Addr} {u : Value} (hc : w.cell? p = some u) : w'.cell? p = some u := (Below.cell h (block_of_cell (a := p) (k := 0) hc)).trans hc
theorem hd_past {ls : List (List Int)} {cs : List Nat} {j : Nat} {u : Int} (h : hd ls cs j = some u) : j < ls.length := by
  obtain ⟨l, hl, _⟩ := hd_some h
  exact (List.getElem?_eq_some_iff.1 hl).1
set_option maxHeartbeats 6400000 in
theorem rmerge_any (A : Option Addr) (N C : Nat) (ss : List SlI) (w : World) (hls : LS w A N ss) (hN : N ≤ 2000000) (hT : ((lists ss).map List.length).sum ≤ 2000000) (hbig : ∀ s ∈ ss, s.n ≤ 100000000000000) :
    Calls Tryd.prog 22 #[.slice A N C] w fun e w' => ∃ B t d out cs, e = .returned (.slice B t d) ∧ Own w' w.heap.size 3 1 B t d (ints out) ∧ MRun (lists ss) cs out ∧ (∀ i, hd (lists ss) cs i = none) ∧ Ext w w' := by
  have hlen := hls.len
  have HA := Lib.hid (And.intro hls (And.intro hT hbig))
  clear hls hT hbig
  go_enter Tryd.func22, Tryd.ntmps22
  go_upto_region 1 with (fail)
  obtain ⟨w1, r1, o1, x1, hs1⟩ := run_mkn (w := w) eltI rfl w.heap.size .i64 .i64 (N : Int) (by omega) (by omega) (by omega) (Nat.le_refl _)
  rw [Int.toNat_natCast] at r1 o1
  have hz : (List.replicate N (.int .i64 0) : List Value) = ns .i64 (List.replicate (lists ss).length 0) := by simp [ns, hlen]
  rw [hz] at o1
  go_upto_region 2 with (fail)
  have o2 : Own (w1.alloc (.cells #[] 3)) w.heap.size 3 1 (some ⟨w1.heap.size, 0, none⟩) 0 0 [] := World.ownsRow_lit (size := 1) w1 #[] 0 x1.size (by simp [maxLen]) rfl
  have X2 := (Ext.refl w1).alloc (.cells #[] 3)
  have H2 : Hid (Own (w1.alloc (.cells #[] 3)) w.heap.size 3 1 (some ⟨w1.heap.size, 0, none⟩) 0 0 [] ∧ Own (w1.alloc (.cells #[] 3)) w.heap.size 3 1 (some ⟨w.heap.size, 0, none⟩) N N (ns .i64 (List.replicate (lists ss).length 0)) ∧ w1.heap.size ≠ w.heap.size ∧ Ext w (w1.alloc (.cells #[] 3))) := Lib.hid ⟨o2, o1.ext X2, by omega, x1.trans X2⟩
  clear o1 o2 X2 hz x1 hs1 r1
  go_upto_region 3 with (fail)
  generalize w1.alloc (.cells #[] 3) = V1 at *
  generalize w1.heap.size = ob1 at *
  obtain ⟨NB, hNB⟩ : ∃ NB, NB = w.heap.size := ⟨_, rfl⟩
  rw [← hNB] at H2 ⊢
  have HNB := Lib.hid hNB
  clear hNB
  go_loopw [4] (fun v4 wr => ∃ (t d : Nat) (B : Option Addr), v4 = .slice B t d ∧ t ≤ 2000000 ∧ Hid (∃ cs out, MRun (lists ss) cs out ∧ out.length = t ∧ Own wr NB 3 1 B t d (ints out) ∧ Own wr NB 3 1 (some ⟨NB, 0, none⟩) N N (ns .i64 cs) ∧ (∀ a, B = some a → a.block ≠ NB) ∧ Ext w wr)) (fun v4 _ => 2000000 - slen v4)
  case atStart => exact ⟨0, 0, _, rfl, by omega, _, [], MRun.nil, rfl, H2.out.1, H2.out.2.1, (fun a ha => by injection ha with ha; rw [← ha]; exact H2.out.2.2.1), H2.out.2.2.2⟩
  case round =>
    obtain ⟨t, d, B, rfl, ht, HI⟩ := hrel
    obtain ⟨cs, out, HI⟩ : ∃ cs out, Hid (MRun (lists ss) cs out ∧ out.length = t ∧ Own wr NB 3 1 B t d (ints out) ∧ Own wr NB 3 1 (some ⟨NB, 0, none⟩) N N (ns .i64 cs) ∧ (∀ a, B = some a → a.block ≠ NB) ∧ Ext w wr) := by
      obtain ⟨cs, out, h⟩ := HI.out
      exact ⟨cs, out, Lib.hid h⟩
    generalize wr = W at *
    have hcsl : cs.length = N := by have := HI.out.1.len; simp only [List.length_map] at this; omega
    go_upto_region 5 with (fail)
    go_loopw [5, 14] (fun v5 v14 wr => ∃ (k : Nat) (b : Int), v14 = .int .i64 (k : Int) ∧ v5 = .int .i64 b ∧ k ≤ N ∧ Hid (Ext W wr ∧ Bst (lists ss) cs k b)) (fun _ v14 _ => N - (intOf v14).toNat)
    case atStart => exact ⟨0, -1, rfl, rfl, by omega, Ext.refl _, .inl ⟨rfl, fun j hj => by omega⟩⟩
    case round =>
      obtain ⟨k, b, rfl, rfl, hk, HJ⟩ := hrel
      by_cases hlt : k < N
      · obtain ⟨s, hs⟩ : ∃ s, ss[k]? = some s := ⟨ss[k]'(by omega), List.getElem?_eq_getElem _⟩
        have xw := HI.out.2.2.2.2.2.trans HJ.out.1
        obtain ⟨ad, rfl, _, z1⟩ := (HA.out.1.rd.ext xw).at_ hlt
        have y1 := z1 k _ (slcells_at hs)
        unfold SlI.v at y1
        have hsm := List.mem_of_getElem? hs
        have hsn := HA.out.1.nlen s hsm
        have hsr := (HA.out.1.each s hsm).ext xw
        have hsb := HA.out.2.2 s hsm
        obtain ⟨c, hc⟩ : ∃ c, cs[k]? = some c := ⟨cs[k]'(by omega), List.getElem?_eq_getElem _⟩
        have hcD : cs.getD k 0 = c := getD_at hc
        have hcle := HI.out.1.le k s.l (lists_at hs)
        rw [hcD] at hcle
        have oN := HI.out.2.2.2.1.ext HJ.out.1
        have y2 := oN.cellAt hlt (ns_at (k := .i64) hc)
        have hhd : hd (lists ss) cs k = s.l[c]? := by rw [hd_of (lists_at hs), hcD]
        have k1 : (k : Int) < N := by omega
        have k2 : (0 : Int) ≤ k := by omega
        have c2 : (0 : Int) ≤ c := by omega
        obtain ⟨sA, sn, sc, sl⟩ := s
        dsimp only at *
        by_cases hcs : c < sn
        · obtain ⟨x, hx⟩ : ∃ x, sl[c]? = some x := ⟨sl[c]'(by omega), List.getElem?_eq_getElem _⟩
          rw [hx] at hhd
          obtain ⟨sd, rfl, _, z2⟩ := hsr.at_ hcs
          have y3 := z2 c _ (ints_at hx)
          have c1 : (c : Int) < sn := by omega
          rcases HJ.out.2 with ⟨rfl, hB⟩ | ⟨i, v, rfl, hi, hv, hB⟩
          · have HE : Hid (Bst (lists ss) cs (k + 1) (k : Int)) := Lib.hid (Bst.first hB hhd)
            have HX := Lib.hid HJ.out.1
            clear hs hsm hsn hsr hcD hcle hhd z1 z2 hx xw oN hB HJ
            go_upto_region 7 with (fail)
            go_quiet (fail)
            go_wp2_with fail
            go_roundw
            case rel => exact ⟨k + 1, k, by go_num, rfl, by omega, by first | exact HX.out.drewN _ | exact HX.out.drew | exact HX.out, HE.out⟩
            case measure => simp [intOf]; omega
          · obtain ⟨l, hl, hlv⟩ := hd_some hv
            obtain ⟨u, hu⟩ : ∃ u, ss[i]? = some u := ⟨ss[i]'(by omega), List.getElem?_eq_getElem _⟩
            have hul := lists_at hu
            rw [hl] at hul
            injection hul with hul
            have y4 := z1 i _ (slcells_at hu)
            unfold SlI.v at y4
            have hum := List.mem_of_getElem? hu
            have hun := HA.out.1.nlen u hum
            have hur := (HA.out.1.each u hum).ext xw
            obtain ⟨e, he⟩ : ∃ e, cs[i]? = some e := ⟨cs[i]'(by omega), List.getElem?_eq_getElem _⟩
            rw [getD_at he] at hlv
            have y5 := oN.cellAt (show i < N by omega) (ns_at (k := .i64) he)
            obtain ⟨uA, un, uc, ul⟩ := u
            dsimp only at *
            subst hul
            have heu : e < un := by have := (List.getElem?_eq_some_iff.1 hlv).1; omega
            obtain ⟨ud, rfl, _, z3⟩ := hur.at_ heu
            have y6 := z3 e _ (ints_at hlv)
            have i1 : (i : Int) < N := by omega
            have i2 : (0 : Int) ≤ i := by omega
            have i3 : ¬ (i : Int) < 0 := by omega
            have e1 : (e : Int) < un := by omega
            have e2 : (0 : Int) ≤ e := by omega
            by_cases hxv : x < v
            · have HE : Hid (Bst (lists ss) cs (k + 1) (k : Int)) := Lib.hid (Bst.less hB hhd hxv)
              have HX := Lib.hid HJ.out.1
              clear hs hsm hsn hsr hcD hcle hhd z1 z2 hx xw oN hB HJ hl hlv hu hum hun hur he z3 hv
              go_upto_region 7 with (fail)
              go_quiet (fail)
              go_wp2_with fail
              go_roundw
              case rel => exact ⟨k + 1, k, by go_num, rfl, by omega, by first | exact HX.out.drewN _ | exact HX.out.drew | exact HX.out, HE.out⟩
              case measure => simp [intOf]; omega
            · have HE : Hid (Bst (lists ss) cs (k + 1) (i : Int)) := Lib.hid (Bst.stay hi hv hB hhd hxv)
              have HX := Lib.hid HJ.out.1
              clear hs hsm hsn hsr hcD hcle hhd z1 z2 hx xw oN hB HJ hl hlv hu hum hun hur he z3 hv
              go_upto_region 7 with (fail)
              go_quiet (fail)
              go_wp2_with fail
              go_roundw
              case rel => exact ⟨k + 1, i, by go_num, rfl, by omega, by first | exact HX.out.drewN _ | exact HX.out.drew | exact HX.out, HE.out⟩
              case measure => simp [intOf]; omega
        · have hx : sl[c]? = none := List.getElem?_eq_none (by omega)
          rw [hx] at hhd
          have c1 : ¬ (c : Int) < sn := by omega
          have HE : Hid (Bst (lists ss) cs (k + 1) b) := Lib.hid (Bst.skip HJ.out.2 hhd)
          have HX := Lib.hid HJ.out.1
          clear hs hsm hsn hsr hcD hcle hhd z1 hx xw oN HJ
          go_upto_region 7 with (fail)
          go_quiet (fail)
          go_wp2_with fail
          go_roundw
          case rel => exact ⟨k + 1, b, by go_num, rfl, by omega, by first | exact HX.out.drewN _ | exact HX.out.drew | exact HX.out, HE.out⟩
          case measure => simp [intOf]; omega
      · obtain rfl : N = k := by omega
        have hNl : (lists ss).length = N := by simp [hlen]
        rcases HJ.out.2 with ⟨rfl, hB⟩ | ⟨i, v, rfl, hi, hv, hB⟩
        · have HE : Hid (Own wr w.heap.size 3 1 B t d (ints out) ∧ MRun (lists ss) cs out ∧ (∀ i, hd (lists ss) cs i = none) ∧ Ext w wr) := Lib.hid ⟨by rw [← HNB.out]; exact HI.out.2.2.1.ext HJ.out.1, HI.out.1, fun j => by
            by_cases hj : j < N
            · exact hB j hj
            · exact hd_none (by omega), HI.out.2.2.2.2.2.trans HJ.out.1⟩
          clear hB HJ
          go_wp2_with fail
          go_returns
          exact ⟨B, t, d, out, cs, rfl, HE.out⟩
        · have HF : Hid (Fst (lists ss) cs i v) := Lib.hid ⟨hv, fun j u hu => hB j u (by have := hd_past hu; omega) hu⟩
          obtain ⟨l, hl, hlv⟩ := hd_some hv
          obtain ⟨s, hs⟩ : ∃ s, ss[i]? = some s := ⟨ss[i]'(by omega), List.getElem?_eq_getElem _⟩
          have hsl := lists_at hs
          rw [hl] at hsl
          injection hsl with hsl
          have xw := HI.out.2.2.2.2.2.trans HJ.out.1
          obtain ⟨ad, rfl, _, z1⟩ := HA.out.1.rd.at_ hi
          have y1' := z1 i _ (slcells_at hs)
          unfold SlI.v at y1'
          have y1 := ext_cell xw y1'
          have hsm := List.mem_of_getElem? hs
          have hsn := HA.out.1.nlen s hsm
          have hsr := HA.out.1.each s hsm
          have hsb := HA.out.2.2 s hsm
          obtain ⟨c, hc⟩ : ∃ c, cs[i]? = some c := ⟨cs[i]'(by omega), List.getElem?_eq_getElem _⟩
          have hcD : cs.getD i 0 = c := getD_at hc
          rw [hcD] at hlv
          have oN := HI.out.2.2.2.1.ext HJ.out.1
          have oB := HI.out.2.2.1.ext HJ.out.1
          have y2 := oN.cellAt hi (ns_at (k := .i64) hc)
          have k1 : (i : Int) < N := by omega
          have k2 : (0 : Int) ≤ i := by omega
          have i3 : ¬ (i : Int) < 0 := by omega
          have c2 : (0 : Int) ≤ c := by omega
          obtain ⟨sA, sn, sc, sl⟩ := s
          dsimp only at *
          subst hsl
          have hcs : c < sn := by have := (List.getElem?_eq_some_iff.1 hlv).1; omega
          obtain ⟨sd, rfl, _, z2⟩ := hsr.at_ hcs
          have y3' := z2 c _ (ints_at hlv)
          have y3 := ext_cell xw y3'
          have c1 : (c : Int) < sn := by omega
          have hrun := MRun.step HI.out.1 HF.out
          have hle := hrun.sum_le
          have htl := HI.out.2.1
          have hT := HA.out.2.1
          have ht2 : t + 1 ≤ 2000000 := by rw [List.length_append, htl] at hle; simp only [List.length_singleton] at hle; omega
          rw [hcD] at hrun
          have HR := Lib.hid (And.intro hrun (And.intro xw (And.intro oN (And.intro oB (And.intro hl (And.intro htl (And.intro y1' y3')))))))
          clear hs hsm hsn hsr hcD z1 z2 hlv hv hB HJ hrun hle htl hT hl y1' y3'
          go_upto_region 12 with (fail)
          have HS1 : wr.drew.cell? (ad.add i) = some (.slice (some sd) sn sc) ∧ wr.drew.cell? ⟨NB, i, none⟩ = some (.int .i64 (c : Int)) ∧ wr.drew.cell? (sd.add c) = some (.int .i64 v) := ⟨y1, y2, y3⟩
          have HZ := Lib.hid (And.intro y1 (And.intro y2 y3))
          clear y1 y2 y3
          refine d_region (fun W : World => W.cell? (ad.add i) = some (.slice (some sd) sn sc) ∧ W.cell? ⟨NB, i, none⟩ = some (.int .i64 (c : Int)) ∧ W.cell? (sd.add c) = some (.int .i64 v)) [13] (by kernel_rfl) ?_
          refine d_take (i := 0) (v := ?_) [12, 13] (some 55) rfl (by rfl) (by kernel_rfl) (by kernel_rfl) (by kernel_rfl) (by kernel_rfl) (by kernel_rfl) (by kernel_rfl) (fun _ _ _ h => h) (.inl ⟨by rfl, ?_⟩) HS1 ?_
          rotate_left 1
          · (intro W hW; (try dsimp only at hW); go_simp; try with_reducible rfl)
          try simp only [Act.put, List.setIfInBounds_toArray, List.set_cons_zero, List.set_cons_succ]
          refine d_take (i := 1) (v := ?_) [3, 4, 9, 10, 11, 12, 13] (some 56) rfl (by rfl) (by kernel_rfl) (by kernel_rfl) (by kernel_rfl) (by kernel_rfl) (by kernel_rfl) (by kernel_rfl) (fun _ _ _ h => h) (.inl ⟨by rfl, ?_⟩) HS1 ?_
          rotate_left 1
          · (intro W hW; (try dsimp only at hW); go_simp; try with_reducible rfl)
          try simp only [Act.put, List.setIfInBounds_toArray, List.set_cons_zero, List.set_cons_succ]
          refine d_take (i := 2) (v := ?_) [3, 4, 9, 10, 11, 12, 13] (some 57) rfl (by rfl) (by kernel_rfl) (by kernel_rfl) (by kernel_rfl) (by kernel_rfl) (by kernel_rfl) (by kernel_rfl) (fun _ _ _ h => h) (.inl ⟨by rfl, ?_⟩) HS1 ?_
          rotate_left 1
          · (intro W hW; (try dsimp only at hW); go_simp; try with_reducible rfl)
          try simp only [Act.put, List.setIfInBounds_toArray, List.set_cons_zero, List.set_cons_succ]
          refine d_take (i := 3) (v := ?_) [4, 9, 10, 11, 12, 13] (some 58) rfl (by rfl) (by kernel_rfl) (by kernel_rfl) (by kernel_rfl) (by kernel_rfl) (by kernel_rfl) (by kernel_rfl) (fun _ _ _ h => h) (.inl ⟨by rfl, ?_⟩) HS1 ?_
          rotate_left 1
          · (intro W hW; (try dsimp only at hW); go_simp; try with_reducible rfl)
          try simp only [Act.put, List.setIfInBounds_toArray, List.set_cons_zero, List.set_cons_succ]
          refine d_take (i := 4) (v := ?_) [9, 10, 11, 12, 13] (some 59) rfl (by rfl) (by kernel_rfl) (by kernel_rfl) (by kernel_rfl) (by kernel_rfl) (by kernel_rfl) (by kernel_rfl) (fun _ _ _ h => h) (.inl ⟨by rfl, ?_⟩) HS1 ?_
          rotate_left 1
          · (intro W hW; (try dsimp only at hW); go_simp; try with_reducible rfl)
          try simp only [Act.put, List.setIfInBounds_toArray, List.set_cons_zero, List.set_cons_succ]
          refine d_take (i := 5) (v := ?_) [7, 8, 9, 10, 11, 12, 13] (some 60) rfl (by rfl) (by kernel_rfl) (by kernel_rfl) (by kernel_rfl) (by kernel_rfl) (by kernel_rfl) (by kernel_rfl) (fun _ _ _ h => h) (.inl ⟨by rfl, ?_⟩) HS1 ?_
          rotate_left 1
          · (intro W hW; (try dsimp only at hW); go_simp; try with_reducible rfl)
          try simp only [Act.put, List.setIfInBounds_toArray, List.set_cons_zero, List.set_cons_succ]
          refine d_take (i := 6) (v := ?_) [7, 8, 9, 10, 11, 12, 13] (some 61) rfl (by rfl) (by kernel_rfl) (by kernel_rfl) (by kernel_rfl) (by kernel_rfl) (by kernel_rfl) (by kernel_rfl) (fun _ _ _ h => h) (.inl ⟨by rfl, ?_⟩) HS1 ?_
          rotate_left 1
          · (intro W hW; (try dsimp only at hW); go_simp; try with_reducible rfl)
          try simp only [Act.put, List.setIfInBounds_toArray, List.set_cons_zero, List.set_cons_succ]
          refine d_take (i := 7) (v := ?_) [8, 9, 10, 11, 12, 13] (some 62) rfl (by rfl) (by kernel_rfl) (by kernel_rfl) (by kernel_rfl) (by kernel_rfl) (by kernel_rfl) (by kernel_rfl) (fun _ _ _ h => h) (.inl ⟨by rfl, ?_⟩) HS1 ?_
          rotate_left 1
          · (intro W hW; (try dsimp only at hW); go_simp; try with_reducible rfl)
          try simp only [Act.put, List.setIfInBounds_toArray, List.set_cons_zero, List.set_cons_succ]
          refine d_take (i := 8) (v := ?_) [9, 10, 11, 12, 13] (some 63) rfl (by rfl) (by kernel_rfl) (by kernel_rfl) (by kernel_rfl) (by kernel_rfl) (by kernel_rfl) (by kernel_rfl) (fun _ _ _ h => h) (.inl ⟨by rfl, ?_⟩) HS1 ?_
          rotate_left 1
          · (intro W hW; (try dsimp only at hW); go_simp; try with_reducible rfl)
          try simp only [Act.put, List.setIfInBounds_toArray, List.set_cons_zero, List.set_cons_succ]
          refine d_take (i := 9) (v := ?_) [10, 11, 12, 13] (some 64) rfl (by rfl) (by kernel_rfl) (by kernel_rfl) (by kernel_rfl) (by kernel_rfl) (by kernel_rfl) (by kernel_rfl) (fun _ _ _ h => h) (.inl ⟨by rfl, ?_⟩) HS1 ?_
          rotate_left 1
          · (intro W hW; (try dsimp only at hW); go_simp; try with_reducible rfl)
          try simp only [Act.put, List.setIfInBounds_toArray, List.set_cons_zero, List.set_cons_succ]
          refine d_take (i := 10) (v := ?_) [11, 12, 13] (some 65) rfl (by rfl) (by kernel_rfl) (by kernel_rfl) (by kernel_rfl) (by kernel_rfl) (by kernel_rfl) (by kernel_rfl) (fun _ _ _ h => h) (.inl ⟨by rfl, ?_⟩) HS1 ?_
          rotate_left 1
          · (intro W hW; (try dsimp only at hW); go_simp; try with_reducible rfl)
          try simp only [Act.put, List.setIfInBounds_toArray, List.set_cons_zero, List.set_cons_succ]
          refine d_one (i := 11) (by kernel_rfl) rfl rfl (fun K hK => ?_)
          simp only [List.getElem_toArray, List.getElem_cons_succ, List.getElem_cons_zero]
          go_simp
          have XA := (Ext.refl wr).alloc (.cells #[.int .i64 v] 3)
          have XD := XA.drew
          have RN : Rd (wr.alloc (.cells #[.int .i64 v] 3)).drew 1 (some ⟨wr.heap.size, 0, none⟩) 1 (ints [v]) := Rd.new wr #[.int .i64 v] 3 (0, 0)
          have HS2 : (wr.alloc (.cells #[.int .i64 v] 3)).drew.cell? (ad.add i) = some (.slice (some sd) sn sc) ∧ (wr.alloc (.cells #[.int .i64 v] 3)).drew.cell? ⟨NB, i, none⟩ = some (.int .i64 (c : Int)) ∧ (wr.alloc (.cells #[.int .i64 v] 3)).drew.cell? (sd.add c) = some (.int .i64 v) := ⟨ext_cell XD HZ.out.1, ext_cell XD HZ.out.2.1, ext_cell XD HZ.out.2.2⟩
          have HD := Lib.hid (And.intro XD (And.intro RN (show (wr.alloc (.cells #[.int .i64 v] 3)).drew.heap.size = wr.heap.size + 1 from by simp)))
          refine hK.out _ _ (fun _ => HS2) ?_
          clear hK K HS1 HS2 XA XD RN
          try simp only [Act.put, List.setIfInBounds_toArray, List.set_cons_zero, List.set_cons_succ]
          generalize hW : (wr.alloc (.cells #[.int .i64 v] 3)).drew = W2 at *
          refine d_one (i := 12) (by kernel_rfl) rfl rfl (fun K hK => ?_)
          simp only [List.getElem_toArray, List.getElem_cons_succ, List.getElem_cons_zero]
          refine oper_app (w := W2) (m := 1) (d := 1) (news := ints [v]) eltI (HR.out.2.2.2.1.ext HD.out.1) HD.out.2.1 (ints_one _) (by omega) (.inr ⟨by omega, by omega⟩) (by rw [HNB.out]; exact (HR.out.2.1.trans HD.out.1).size) (.tmp 55) (.tmp 66) rfl rfl rfl ?_
          intro B2 d2 w9 o9 g9 hB2 _
          have hBN := HI.out.2.2.2.2.1
          have oN9 : Own w9 NB 3 1 (some ⟨NB, 0, none⟩) N N (ns .i64 cs) := (Fr.grows g9).own (HR.out.2.2.1.ext HD.out.1) (fun a ha e => by
            injection ha with ha
            rw [← ha] at e
            obtain ⟨b, hb, hbb⟩ := Option.map_eq_some_iff.1 e
            exact hBN b hb hbb)
          have x9 : Ext w w9 := g9.ext (HR.out.2.1.trans HD.out.1) (fun q hq => by
            obtain ⟨b, hb, hbb⟩ := Option.map_eq_some_iff.1 hq
            rw [← hbb, ← HNB.out]
            exact HR.out.2.2.2.1.base_le _ (by rw [hb]; rfl))
          have hNBlt := HR.out.2.2.1.lt
          have hB29 : ∀ a, B2 = some a → a.block ≠ NB := fun a ha => by
            rcases hB2 with e | e
            · exact hBN a (e ▸ ha)
            · rw [e] at ha
              injection ha with ha
              rw [← ha]
              have h1 := HD.out.2.2
              show W2.heap.size ≠ NB
              omega
          have y9 := oN9.cellAt hi (ns_at (k := .i64) hc)
          have z9 := oN9.frozenAt i
          have HS9 : w9.cell? (ad.add i) = some (.slice (some sd) sn sc) ∧ w9.cell? ⟨NB, i, none⟩ = some (.int .i64 (c : Int)) ∧ w9.cell? (sd.add c) = some (.int .i64 v) := ⟨ext_cell x9 HR.out.2.2.2.2.2.2.1, y9, ext_cell x9 HR.out.2.2.2.2.2.2.2⟩
          have HE : Hid (MRun (lists ss) (cs.set i (c + 1)) (out ++ [v]) ∧ (out ++ [v]).length = t + 1 ∧ Own (w9.setCell ⟨NB, i, none⟩ (.int .i64 ((c : Int) + 1))) NB 3 1 B2 (t + 1) d2 (ints (out ++ [v])) ∧ Own (w9.setCell ⟨NB, i, none⟩ (.int .i64 ((c : Int) + 1))) NB 3 1 (some ⟨NB, 0, none⟩) N N (ns .i64 (cs.set i (c + 1))) ∧ (∀ a, B2 = some a → a.block ≠ NB) ∧ Ext w (w9.setCell ⟨NB, i, none⟩ (.int .i64 ((c : Int) + 1)))) := Lib.hid ⟨HR.out.1, by rw [List.length_append, HR.out.2.2.2.2.2.1]; rfl, by
            rw [ints_app]
            exact (Fr.store w9 ⟨NB, i, none⟩ (.int .i64 ((c : Int) + 1))).own o9 (fun a ha e => hB29 a ha e), by
            rw [ns_set]
            exact oN9.stored i _, hB29, x9.setCell (by rw [← HNB.out]; exact Nat.le_refl _) _⟩
          clear o9 g9 hB2 oN9 x9 hNBlt hB29 xw oN oB hW
          refine hK.out _ _ (fun _ => HS9) ?_
          clear hK K 
          try simp only [Act.put, List.setIfInBounds_toArray, List.set_cons_zero, List.set_cons_succ]
          refine d_one (i := 13) (by kernel_rfl) rfl rfl (fun K hK => ?_)
          simp only [List.getElem_toArray, List.getElem_cons_succ, List.getElem_cons_zero]
          go_simp
          refine hK.out _ _ (fun h => absurd h (by decide)) ?_
          clear hK K HS9
          try simp only [Act.put, List.setIfInBounds_toArray, List.set_cons_zero, List.set_cons_succ]
          refine d_done (by kernel_rfl) ?_ _
          go_wp2_with fail
          go_roundw
          case rel => exact ⟨t + 1, d2, B2, rfl, ht2, _, _, HE.out⟩
          case measure => simp [slen]; omega
end Go.Proofs.YtocjbllkgbjihaaDoor
