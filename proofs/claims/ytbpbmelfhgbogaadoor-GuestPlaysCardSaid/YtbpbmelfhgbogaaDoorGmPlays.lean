/-
  The statement GuestPlays, walked.
-/
import Derived.Test.YtbpbmelfhgbogaaDoorGmTwo
import Derived.Test.YtbpbmelfhgbogaaDoorMask
import Derived.BigRegion
namespace Go.Proofs.YtbpbmelfhgbogaaDoor
set_option maxRecDepth 100000
open Go.RowKit
set_option linter.unusedVariables false
theorem two_cell {w : World} {b k : Nat} {u v : Value} {t : TypeId} (h : w.heap[b]? = some (.cells #[u, v] t (0, 0))) (hk : k < 2) : ∃ x, w.cell? ⟨b, k, none⟩ = some x := by
  obtain rfl | rfl : k = 0 ∨ k = 1 := by omega
  · exact ⟨u, block_cell h 0⟩
  · exact ⟨v, block_cell h 1⟩
set_option maxHeartbeats 24000000 in
theorem gplays_any (p : Int) (A B : Option Addr) (n c m e : Nat) (ts : List TaskV) (os : List O5) (w : World) (hn : n * 32 ≤ 140737488351232) (hr : Rd w 4 A n (trows ts).flatten) (hm : m * 40 ≤ 140737488351232) (hol : os.length = m) (hro : Rd w 5 B m (o5rows os).flatten)
    {E : Nat → Addr} (hE : Errs w E) :
    Calls Tryd.prog 7 #[.agg #[.int .i64 p, .slice A n c, .slice B m e]] w fun e w' => e = .returned (.bool true) ∧ Ext w w' := by
  have X0 := (Ext.refl w).alloc (.cells #[.int .i64 p, .slice A n c, .slice B m e] 25)
  have hb0 := heap_alloc_new w (.cells #[.int .i64 p, .slice A n c, .slice B m e] 25)
  have AL := Lib.hid (galive_any _ (GErr.ext ⟨⟨hE.sen _ (by decide), hE.sen _ (by decide), hE.sen _ (by decide)⟩, hE.sen _ (by decide)⟩ X0))
  have HW := Lib.hid (And.intro X0 (And.intro hb0 hE))
  have HR := Lib.hid (And.intro hr (And.intro hro (And.intro hol hr.len_t)))
  clear X0 hb0 hE hr hro hol
  go_enter Tryd.func7, Tryd.ntmps7
  go_wp2_with fail
  refine AL.out.mono ?_
  rintro e0 w1 ⟨rfl, x1⟩
  have X1 := HW.out.1.trans x1
  have b1 := (x1.block _ (block_lt HW.out.2.1)).trans HW.out.2.1
  have Xg := (Ext.refl w1).alloc (.cells #[.pointer none, .pointer none] 51)
  have hg1 := heap_alloc_new w1 (.cells #[.pointer none, .pointer none] 51)
  have Xm := (Ext.refl (w1.alloc (.cells #[.pointer none, .pointer none] 51))).alloc (.cells #[.pointer none, .pointer none] 53)
  have hm1 := heap_alloc_new (w1.alloc (.cells #[.pointer none, .pointer none] 51)) (.cells #[.pointer none, .pointer none] 53)
  have hs1 : (w1.alloc (.cells #[.pointer none, .pointer none] 51)).heap.size = w1.heap.size + 1 := World.size_alloc _ _
  rw [hs1] at hm1
  have hg2 := (Xm.block _ (block_lt hg1)).trans hg1
  have hx2 := (Xm.block _ (Nat.lt_of_lt_of_le (block_lt b1) Xg.size)).trans ((Xg.block _ (block_lt b1)).trans b1)
  have hxl := block_lt b1
  have hwl := X1.size
  have H1 := Lib.hid (And.intro (X1.trans (Xg.trans Xm)) (And.intro hg2 (And.intro hm1 hx2)))
  have HGB := Lib.hid (show w1.heap.size ≠ w1.heap.size + 1 ∧ w.heap.size ≤ w1.heap.size ∧ w.heap.size ≤ w1.heap.size + 1 ∧ w1.heap.size ≠ w.heap.size ∧ w1.heap.size + 1 ≠ w.heap.size from ⟨by omega, by omega, by omega, by omega, by omega⟩)
  clear AL x1 X1 b1 Xg hg1 Xm hm1 hs1 hg2 hx2 hxl hwl
  go_upto_region 5 with (fail)
  generalize (w1.alloc (.cells #[.pointer none, .pointer none] 51)).alloc (.cells #[.pointer none, .pointer none] 53) = V0 at *
  generalize w1.heap.size + 1 = mb at *
  generalize w1.heap.size = gb at *
  generalize hxb : w.heap.size = xb at *
  have HXB := Lib.hid hxb
  clear hxb
  by_cases hL : LG p ts
  · have HLG := Lib.hid hL
    have hn1 : 1 ≤ n ∧ n ≤ 8 := by have h1 := HR.out.2.2.2; have h2 := hL.2.1; have h3 := hL.2.2.1; omega
    obtain ⟨hn1, hn8⟩ := hn1
    clear hL
    go_wp2_with fail
    go_loopw [21] (fun v21 wr => ∃ (k : Nat) (gg mm : Nat → Nat) (F M : Nat → Nat → Prop), v21 = .int .i64 (k : Int) ∧ k ≤ 2 ∧ Hid (PS w wr k gb mb xb gg mm F M p (fun _ => fresh ts) (fun _ => []) (fun _ => fresh ts) (fun _ => []) A B n c m e)) (fun v21 _ => 2 - (intOf v21).toNat)
    case atStart => exact ⟨0, _, _, _, _, rfl, by omega, PS.zero H1.out.2.1 H1.out.2.2.1 H1.out.2.2.2 H1.out.1⟩
    case round =>
      obtain ⟨k, gg, mm, F, M, rfl, hk, HI⟩ := hrel
      obtain ⟨U0, hUe⟩ : ∃ V : World, V = wr := ⟨_, rfl⟩
      subst hUe
      by_cases hK2 : k < 2
      · obtain ⟨ta, rfl, _, _⟩ := HR.out.1.2 (show 0 < n by omega)
        have c1 : U0.cell? ⟨xb, 1, none⟩ = some (.slice (some ta) n c) := block_cell HI.out.xbx 1
        have HRD := Lib.hid (HR.out.1.ext HI.out.ext)
        have X0' := Lib.hid ((Ext.refl U0).alloc (.cells #[] 41))
        have cA : (U0.alloc (.cells #[] 41)).cell? ⟨xb, 1, none⟩ = some (.slice (some ta) n c) := block_cell ((X0'.out.block _ (block_lt HI.out.xbx)).trans HI.out.xbx) 1
        have z0 : (0 : Int) ≤ k := by omega
        have z1 : (k : Int) < 2 := by omega
        go_upto_region 8 with (fail)
        go_wp2_with (at_builtin; refine held ?_)
        refine Held.go (wp_app (m := n) (news := (trows ts).flatten) eltT4 (base := U0.heap.size) (n := 0) (c := 0) (xs := []) (World.ownsRow_lit (size := 4) _ #[] 0 (Nat.le_refl _) (by simp [maxLen]) rfl) (HRD.out.ext X0'.out) (trows_one _) (by omega) (.inr ⟨by omega, by omega⟩) (by simp) _ _ rfl rfl rfl rfl ?_)
        intro A5 c5 w5 o5 g5 hA5 _
        rw [List.nil_append, Nat.zero_add] at o5
        rw [Nat.zero_add]
        have x5 : Ext U0 w5 := g5.ext ((Ext.refl U0).alloc _) (fun g hg => by injection hg with hg; rw [← hg]; exact Nat.le_refl _)
        obtain ⟨S, rfl⟩ := o5.head (by omega)
        have hS0 : U0.heap.size ≤ S := o5.base_le S rfl
        have J5 := HI.out.ex x5
        have p0 : w5.cell? ⟨xb, 0, none⟩ = some (.int .i64 p) := block_cell J5.xbx 0
        have NW := Lib.hid (news_ok p (some ⟨S, 0, none⟩) n c5 ts w5 o5.rd ((HW.out.2.2.sen _ (by decide)).ext J5.ext) HLG.out)
        have H5 := Lib.hid (And.intro J5 (And.intro o5 x5))
        clear c1 cA x5 o5 g5 hA5 J5
        go_wp2_with fail
        refine NW.out.mono ?_
        rintro e0 w6 ⟨g, G, rfl, hg, fG, x6⟩
        have J6 := H5.out.1.ex x6
        have p1 : w6.cell? ⟨xb, 1, none⟩ = some (.slice (some ta) n c) := block_cell J6.xbx 1
        have p0' : w6.cell? ⟨xb, 0, none⟩ = some (.int .i64 p) := block_cell J6.xbx 0
        have LGR := Lib.hid (rguest_loop (some ta) n c p ts w6 (HR.out.1.ext J6.ext) (by omega) true (Lib.hid ⟨fun _ => HLG.out, fun _ => rfl⟩))
        have H6 := Lib.hid (And.intro hg (And.intro fG (H5.out.2.2.trans x6)))
        have O6 := Lib.hid (H5.out.2.1.ext x6)
        clear NW hg fG x6 J6 p0
        go_wp2_with fail
        refine LGR.out.mono ?_
        rintro e0 w7 ⟨rfl, x7⟩
        have H7 := Lib.hid (And.intro (H6.out.1.ext x7) (And.intro (fun b (hb : G b) => (show S < b from by have h1 := H6.out.2.1 b hb; have h2 := H5.out.2.1.lt; omega)) (And.intro (O6.out.ext x7) (H6.out.2.2.trans x7))))
        have HS5 := Lib.hid hS0
        clear x7 LGR O6 p0' p1 hS0
        go_wp2_with fail
        go_loopw [56] (fun v56 W => ∃ (q : Nat) (xs : List Value), v56 = .int .i64 (q : Int) ∧ q ≤ n ∧ Hid (Own W U0.heap.size 41 4 (some ⟨S, 0, none⟩) n c5 xs ∧ Fr w7 W (· = S))) (fun v56 _ => n - (intOf v56).toNat)
        case atStart => exact ⟨0, _, rfl, by omega, H7.out.2.2.1, Fr.refl _ _⟩
        case round =>
          obtain ⟨q, xs, rfl, hq, HX⟩ := hrel
          obtain ⟨W, hWe⟩ : ∃ V : World, V = wr := ⟨_, rfl⟩
          subst hWe
          by_cases hqn : q < n
          · obtain ⟨q4, hq4⟩ : ∃ q4, q * 4 = q4 := ⟨_, rfl⟩
            obtain ⟨u, hu⟩ : ∃ u, xs[q4]? = some u := ⟨xs[q4]'(by rw [HX.out.1.len]; omega), List.getElem?_eq_getElem _⟩
            have cu : W.cell? ⟨S, q4, none⟩ = some u := HX.out.1.celln hu
            have fu : W.frozen? ⟨S, q4, none⟩ = false := HX.out.1.frozenAt _
            have O9 := Lib.hid (And.intro (HX.out.1.stored q4 (.int .i64 (-1))) (HX.out.2.trans (Fr.store W ⟨S, q4, none⟩ (.int .i64 (-1))) (fun i _ e => e)))
            have zz0 : (0 : Int) ≤ q := by omega
            have zz1 : (q : Int) < n := by omega
            clear hu
            go_wp2_with fail
            go_roundw
            case rel => exact ⟨q + 1, _, by go_num, by omega, O9.out.1, O9.out.2⟩
            case measure => simp [intOf]; omega
          · obtain rfl : n = q := by omega
            have X09 := Lib.hid (Fr.ext H7.out.2.2.2 HX.out.2 (fun b hb => by have h1 := HS5.out; omega))
            have G9 := Lib.hid (H7.out.1.fr HX.out.2 (fun b hb e => by have h1 := H7.out.2.1 b hb; omega))
            have HFS := Lib.hid (fun W' (hx : Ext U0 W') => (show W'.cell? ⟨xb, 0, none⟩ = some (.int .i64 p) ∧ W'.cell? ⟨xb, 1, none⟩ = some (.slice (some ta) n c) from by
              have h1 := (hx.block xb (block_lt HI.out.xbx)).trans HI.out.xbx
              exact ⟨block_cell h1 0, block_cell h1 1⟩))
            have HS1 := HFS.out _ X09.out.drew
            have MN := Lib.hid (mnew_any p (some ta) n c ts W.drew (HR.out.1.ext (HI.out.ext.trans X09.out.drew)) HLG.out)
            have hGl := Lib.hid G9.out.lt
            go_upto_region 19 with (fail)
            refine d_region (fun W' : World => W'.cell? ⟨xb, 0, none⟩ = some (.int .i64 p) ∧ W'.cell? ⟨xb, 1, none⟩ = some (.slice (some ta) n c)) [] (by kernel_rfl) ?_
            refine d_take (i := 0) (v := ?_) [] (some 64) rfl (by rfl) (by kernel_rfl) (by kernel_rfl) (by kernel_rfl) (by kernel_rfl) (by kernel_rfl) (by kernel_rfl) (fun _ _ _ h => h) (.inl ⟨by rfl, ?_⟩) HS1 ?_
            rotate_left 1
            · (intro W hW; (try dsimp only at hW); go_simp; try with_reducible rfl)
            try simp only [Act.put, List.setIfInBounds_toArray, List.set_cons_zero, List.set_cons_succ]
            refine d_take (i := 1) (v := ?_) [] (some 65) rfl (by rfl) (by kernel_rfl) (by kernel_rfl) (by kernel_rfl) (by kernel_rfl) (by kernel_rfl) (by kernel_rfl) (fun _ _ _ h => h) (.inl ⟨by rfl, ?_⟩) HS1 ?_
            rotate_left 1
            · (intro W hW; (try dsimp only at hW); go_simp; try with_reducible rfl)
            try simp only [Act.put, List.setIfInBounds_toArray, List.set_cons_zero, List.set_cons_succ]
            refine d_take (i := 2) (v := ?_) [] (some 66) rfl (by rfl) (by kernel_rfl) (by kernel_rfl) (by kernel_rfl) (by kernel_rfl) (by kernel_rfl) (by kernel_rfl) (fun _ _ _ h => h) (.inl ⟨by rfl, ?_⟩) HS1 ?_
            rotate_left 1
            · (intro W hW; (try dsimp only at hW); go_simp; try with_reducible rfl)
            try simp only [Act.put, List.setIfInBounds_toArray, List.set_cons_zero, List.set_cons_succ]
            refine d_take (i := 3) (v := ?_) [] (some 67) rfl (by rfl) (by kernel_rfl) (by kernel_rfl) (by kernel_rfl) (by kernel_rfl) (by kernel_rfl) (by kernel_rfl) (fun _ _ _ h => h) (.inl ⟨by rfl, ?_⟩) HS1 ?_
            rotate_left 1
            · (intro W hW; (try dsimp only at hW); go_simp; try with_reducible rfl)
            try simp only [Act.put, List.setIfInBounds_toArray, List.set_cons_zero, List.set_cons_succ]
            refine d_take (i := 4) (v := ?_) [] (some 68) rfl (by rfl) (by kernel_rfl) (by kernel_rfl) (by kernel_rfl) (by kernel_rfl) (by kernel_rfl) (by kernel_rfl) (fun _ _ _ h => h) (.inl ⟨by rfl, ?_⟩) HS1 ?_
            rotate_left 1
            · (intro W hW; (try dsimp only at hW); go_simp; try with_reducible rfl)
            try simp only [Act.put, List.setIfInBounds_toArray, List.set_cons_zero, List.set_cons_succ]
            refine d_take (i := 5) (v := ?_) [] (some 69) rfl (by rfl) (by kernel_rfl) (by kernel_rfl) (by kernel_rfl) (by kernel_rfl) (by kernel_rfl) (by kernel_rfl) (fun _ _ _ h => h) (.inl ⟨by rfl, ?_⟩) HS1 ?_
            rotate_left 1
            · (intro W hW; (try dsimp only at hW); go_simp; try with_reducible rfl)
            try simp only [Act.put, List.setIfInBounds_toArray, List.set_cons_zero, List.set_cons_succ]
            refine d_take (i := 6) (v := ?_) [] (some 70) rfl (by rfl) (by kernel_rfl) (by kernel_rfl) (by kernel_rfl) (by kernel_rfl) (by kernel_rfl) (by kernel_rfl) (fun _ _ _ h => h) (.inl ⟨by rfl, ?_⟩) HS1 ?_
            rotate_left 1
            · (intro W hW; (try dsimp only at hW); go_simp; try with_reducible rfl)
            try simp only [Act.put, List.setIfInBounds_toArray, List.set_cons_zero, List.set_cons_succ]
            refine d_take (i := 8) (v := ?_) [] (some 72) rfl (by rfl) (by kernel_rfl) (by kernel_rfl) (by kernel_rfl) (by kernel_rfl) (by kernel_rfl) (by kernel_rfl) (fun _ _ _ h => h) (.inl ⟨by rfl, ?_⟩) HS1 ?_
            rotate_left 1
            · (intro W hW; (try dsimp only at hW); go_simp; try with_reducible rfl)
            try simp only [Act.put, List.setIfInBounds_toArray, List.set_cons_zero, List.set_cons_succ]
            refine d_call (i := 7) (by kernel_rfl) rfl (by rfl) (fun K hK => ?_)
            simp only [List.getElem_toArray, List.getElem_cons_succ, List.getElem_cons_zero]
            go_simp
            refine MN.out.mono ?_
            rintro e0 w9 ⟨qq, N, rfl, hN, fN, x9⟩
            have X9 := Lib.hid (X09.out.drew.trans x9)
            have HS2 := HFS.out _ X9.out
            have PM := Lib.hid (HI.out.more hK2 HGB.out.1 (by rw [HXB.out]; exact HGB.out.2.1) (by rw [HXB.out]; exact HGB.out.2.2.1) HGB.out.2.2.2.1 HGB.out.2.2.2.2 X9.out (G9.out.ext ((Ext.refl W).drew.trans x9)) (fun b hb => by have h1 := H6.out.2.1 b hb; have h2 := H5.out.2.2.size; omega) hN (fun b hb => by have h1 := fN b hb; have h2 := X09.out.size; exact Nat.le_trans h2 h1) (fun b hb hn => by have h1 := hGl.out b hb; have h2 : W.heap.size ≤ b := fN b hn; omega))
            have bg9 := (X9.out.block gb (block_lt HI.out.gbx)).trans HI.out.gbx
            have bm9 := (X9.out.block mb (block_lt HI.out.mbx)).trans HI.out.mbx
            obtain ⟨ug, cg⟩ := two_cell bg9 hK2
            obtain ⟨um, cm0⟩ := two_cell bm9 hK2
            have fg := block_fz bg9 k
            have Fg := Fr.store w9 ⟨gb, k, none⟩ (.pointer (some ⟨g, 0, none⟩))
            have bm10 := (Fg.block mb (block_lt bm9) (fun e => HGB.out.1 e.symm)).trans bm9
            have bx10 := (Fg.block xb (Nat.lt_of_lt_of_le (block_lt HI.out.xbx) X9.out.size) (fun e => HGB.out.2.2.2.1 e.symm)).trans ((X9.out.block xb (block_lt HI.out.xbx)).trans HI.out.xbx)
            obtain ⟨um1, cm⟩ := two_cell bm10 hK2
            have fm := block_fz bm10 k
            have Fm := Fr.store (w9.setCell ⟨gb, k, none⟩ (.pointer (some ⟨g, 0, none⟩))) ⟨mb, k, none⟩ (.pointer (some ⟨qq, 0, none⟩))
            have bx11 := (Fm.block xb (block_lt bx10) (fun e => HGB.out.2.2.2.2 e.symm)).trans bx10
            have HB10 := Lib.hid (And.intro bx10 bx11)
            clear MN hN fN x9 bg9 bm9 cm0 Fg bm10 Fm bx10 bx11
            go_simp
            refine hK.out _ _ (fun _ => HS2) ?_
            clear hK K
            try simp only [Act.put, List.setIfInBounds_toArray, List.set_cons_zero, List.set_cons_succ]
            refine d_one (i := 9) (by kernel_rfl) rfl rfl (fun K hK => ?_)
            simp only [List.getElem_toArray, List.getElem_cons_succ, List.getElem_cons_zero]
            go_simp
            refine hK.out _ _ (fun _ => ⟨block_cell HB10.out.1 0, block_cell HB10.out.1 1⟩) ?_
            clear hK K
            try simp only [Act.put, List.setIfInBounds_toArray, List.set_cons_zero, List.set_cons_succ]
            have HS3 : (w9.setCell ⟨gb, k, none⟩ (.pointer (some ⟨g, 0, none⟩))).cell? ⟨xb, 0, none⟩ = some (.int .i64 p) ∧ (w9.setCell ⟨gb, k, none⟩ (.pointer (some ⟨g, 0, none⟩))).cell? ⟨xb, 1, none⟩ = some (.slice (some ta) n c) := ⟨block_cell HB10.out.1 0, block_cell HB10.out.1 1⟩
            refine d_take (i := 10) (v := ?_) [] (some 73) rfl (by rfl) (by kernel_rfl) (by kernel_rfl) (by kernel_rfl) (by kernel_rfl) (by kernel_rfl) (by kernel_rfl) (fun _ _ _ h => h) (.inl ⟨by rfl, ?_⟩) HS3 ?_
            rotate_left 1
            · (intro W hW; (try dsimp only at hW); go_simp; try with_reducible rfl)
            try simp only [Act.put, List.setIfInBounds_toArray, List.set_cons_zero, List.set_cons_succ]
            refine d_one (i := 11) (by kernel_rfl) rfl rfl (fun K hK => ?_)
            simp only [List.getElem_toArray, List.getElem_cons_succ, List.getElem_cons_zero]
            go_simp
            refine hK.out _ _ (fun _ => ⟨block_cell HB10.out.2 0, block_cell HB10.out.2 1⟩) ?_
            clear hK K
            try simp only [Act.put, List.setIfInBounds_toArray, List.set_cons_zero, List.set_cons_succ]
            refine d_done (by kernel_rfl) ?_ _
            clear HS1 HS2 HS3 cg cm fg fm
            go_wp2_with fail
            go_roundw
            case rel => exact ⟨k + 1, _, _, _, _, by go_num, by omega, PM.out⟩
            case measure => simp [intOf]; omega
      · obtain rfl : k = 2 := by omega
        have HI2 := Lib.hid (And.intro HI.out trivial)
        have p2 : U0.cell? ⟨xb, 2, none⟩ = some (.slice B m e) := block_cell HI.out.xbx 2
        go_wp2_with fail
        clear p2 HI
        go_loopw [78] (fun v78 U2 => ∃ (i : Nat) (F M : Nat → Nat → Prop) (ks : Nat → List TkV) (js : Nat → List JobV), v78 = .int .i64 (i : Int) ∧ i ≤ m ∧ Hid (PS w U2 2 gb mb xb gg mm F M p ks js ks js A B n c m e)) (fun v78 _ => m - (intOf v78).toNat)
        case atStart => exact ⟨0, _, _, _, _, rfl, by omega, HI2.out.1⟩
        case round =>
          clear HI2
          obtain ⟨i, F, M, ks, js, rfl, hi, HI⟩ := hrel
          obtain ⟨U2, hUe⟩ : ∃ V : World, V = wr := ⟨_, rfl⟩
          subst hUe
          by_cases hlt : i < m
          · obtain ⟨o, ho⟩ : ∃ o, os[i]? = some o := ⟨os[i]'(by rw [HR.out.2.2.1]; exact hlt), List.getElem?_eq_getElem _⟩
            obtain ⟨k, hk2, hkQ⟩ : ∃ k : Nat, k < 2 ∧ o.Q % 2 = (k : Int) := ⟨(o.Q % 2).toNat, by omega, by omega⟩
            have hand : Go.bits .and .i64 o.Q 1 = (k : Int) := (mask_core o.Q 1 2 (by decide) (by decide)).trans hkQ
            obtain ⟨i5, hi5⟩ : ∃ i5, i * 5 = i5 := ⟨_, rfl⟩
            obtain ⟨ad, rfl, _, _⟩ := HR.out.2.1.2 (show 0 < m by omega)
            have hrr := HR.out.2.1.ext HI.out.ext
            have k0 := hrr.rowAt (o5_even os) (o5_at ho) hi5 (i := 0) rfl
            have k1 := hrr.rowAt (o5_even os) (o5_at ho) hi5 (i := 1) rfl
            have k2 := hrr.rowAt (o5_even os) (o5_at ho) hi5 (i := 2) rfl
            have k3 := hrr.rowAt (o5_even os) (o5_at ho) hi5 (i := 3) rfl
            have k4 := hrr.rowAt (o5_even os) (o5_at ho) hi5 (i := 4) rfl
            rw [Nat.add_zero] at k0
            rw [← add_add', add_lit' _ (by omega)] at k1 k2 k3 k4
            have z0 : (0 : Int) ≤ i := by omega
            have z1 : (i : Int) < m := by omega
            have y0 : (0 : Int) ≤ k := by omega
            have y1 : (k : Int) < 2 := by omega
            have XV := (Ext.refl U2).alloc (.cells #[.int .i64 o.K, .int .i64 o.Q, .int .i64 o.T, .int .i64 o.W, .int .i64 o.X] 35)
            have hbo := heap_alloc_new U2 (.cells #[.int .i64 o.K, .int .i64 o.Q, .int .i64 o.T, .int .i64 o.W, .int .i64 o.X] 35)
            have hold : ∀ b, b < U2.heap.size → b ≠ U2.heap.size := fun b hb => by omega
            have hset : ∀ l, l < 2 → F l U2.heap.size ∨ M l U2.heap.size → False := fun l hl h => by
              rcases h with h | h
              · exact hold _ ((HI.out.gp l hl).lt _ h) rfl
              · exact hold _ ((HI.out.mp l hl).lt _ h) rfl
            have HOL := Lib.hid hset
            have HV := Lib.hid (And.intro (HI.out.ex XV) hbo)
            clear XV hbo hrr ho HI hold hset hkQ
            go_upto_region 24 with (fail)
            generalize U2.alloc (.cells #[.int .i64 o.K, .int .i64 o.Q, .int .i64 o.T, .int .i64 o.W, .int .i64 o.X] 35) = V at *
            generalize U2.heap.size = ob at *
            have J := Lib.hid HV.out.1
            have HOB := Lib.hid HV.out.2
            have b0 : V.cell? ⟨ob, 0, none⟩ = some (.int .i64 o.K) := block_cell HV.out.2 0
            have b3 : V.cell? ⟨ob, 1, none⟩ = some (.int .i64 o.Q) := block_cell HV.out.2 1
            clear HV k0 k1 k2 k3 k4 hi5
            have HFS := Lib.hid (fun (gk hk_ : Nat → List TkV) (gj hj_ : Nat → List JobV) (F M : Nat → Nat → Prop) (W : World) (hJ : PS w W 2 gb mb xb gg mm F M p gk gj hk_ hj_ A (some ad) n c m e) (hB : W.heap[ob]? = some (.cells #[.int .i64 o.K, .int .i64 o.Q, .int .i64 o.T, .int .i64 o.W, .int .i64 o.X] 35 (0, 0))) => (show W.cell? ⟨gb, k, none⟩ = some (.pointer (some ⟨gg k, 0, none⟩)) ∧ W.cell? ⟨mb, k, none⟩ = some (.pointer (some ⟨mm k, 0, none⟩)) ∧ W.cell? ⟨ob, 2, none⟩ = some (.int .i64 o.T) ∧ W.cell? ⟨ob, 3, none⟩ = some (.int .i64 o.W) ∧ W.cell? ⟨ob, 4, none⟩ = some (.int .i64 o.X) from
              ⟨hJ.gcell hk2 hk2, hJ.mcell hk2 hk2, block_cell hB 2, block_cell hB 3, block_cell hB 4⟩))
            by_cases h20 : (2000 : Int) < (i : Int)
            · go_wp2_with fail
              go_returns
              exact ⟨rfl, J.out.ext⟩
            · by_cases hK : o.K = 1
              · have hK1 : (o.K == 1) = true := by simp [hK]
                obtain ⟨nn, vv, ks', js', BR⟩ := both_rel (J.out.gp k hk2) E o.T o.W o.X
                have HS1 := HFS.out _ _ _ _ _ _ _ (J.out.ex (Ext.refl V).drew) HOB.out
                have JD := J.out.ex (Ext.refl V).drew
                have C1 := Lib.hid (BR.g _ _ _ (JD.gp k hk2) ((HW.out.2.2.ext J.out.ext).ext (Ext.refl V).drew))
                have HBR := Lib.hid BR
                have HJD := Lib.hid JD
                clear BR JD
                go_upto_region 28 with (fail)
                clear b0 b3
                refine d_region (fun W : World => W.cell? ⟨gb, k, none⟩ = some (.pointer (some ⟨gg k, 0, none⟩)) ∧ W.cell? ⟨mb, k, none⟩ = some (.pointer (some ⟨mm k, 0, none⟩)) ∧ W.cell? ⟨ob, 2, none⟩ = some (.int .i64 o.T) ∧ W.cell? ⟨ob, 3, none⟩ = some (.int .i64 o.W) ∧ W.cell? ⟨ob, 4, none⟩ = some (.int .i64 o.X)) [] (by kernel_rfl) ?_
                refine d_take (i := 0) (v := ?_) [] (some 92) rfl (by rfl) (by kernel_rfl) (by kernel_rfl) (by kernel_rfl) (by kernel_rfl) (by kernel_rfl) (by kernel_rfl) (fun _ _ _ h => h) (.inl ⟨by rfl, ?_⟩) HS1 ?_
                rotate_left 1
                · (intro W hW; (try dsimp only at hW); go_simp; try with_reducible rfl)
                try simp only [Act.put, List.setIfInBounds_toArray, List.set_cons_zero, List.set_cons_succ]
                refine d_take (i := 1) (v := ?_) [] (some 93) rfl (by rfl) (by kernel_rfl) (by kernel_rfl) (by kernel_rfl) (by kernel_rfl) (by kernel_rfl) (by kernel_rfl) (fun _ _ _ h => h) (.inl ⟨by rfl, ?_⟩) HS1 ?_
                rotate_left 1
                · (intro W hW; (try dsimp only at hW); go_simp; try with_reducible rfl)
                try simp only [Act.put, List.setIfInBounds_toArray, List.set_cons_zero, List.set_cons_succ]
                refine d_take (i := 2) (v := ?_) [] (some 94) rfl (by rfl) (by kernel_rfl) (by kernel_rfl) (by kernel_rfl) (by kernel_rfl) (by kernel_rfl) (by kernel_rfl) (fun _ _ _ h => h) (.inl ⟨by rfl, ?_⟩) HS1 ?_
                rotate_left 1
                · (intro W hW; (try dsimp only at hW); go_simp; try with_reducible rfl)
                try simp only [Act.put, List.setIfInBounds_toArray, List.set_cons_zero, List.set_cons_succ]
                refine d_take (i := 3) (v := ?_) [] (some 95) rfl (by rfl) (by kernel_rfl) (by kernel_rfl) (by kernel_rfl) (by kernel_rfl) (by kernel_rfl) (by kernel_rfl) (fun _ _ _ h => h) (.inl ⟨by rfl, ?_⟩) HS1 ?_
                rotate_left 1
                · (intro W hW; (try dsimp only at hW); go_simp; try with_reducible rfl)
                try simp only [Act.put, List.setIfInBounds_toArray, List.set_cons_zero, List.set_cons_succ]
                refine d_take (i := 4) (v := ?_) [] (some 96) rfl (by rfl) (by kernel_rfl) (by kernel_rfl) (by kernel_rfl) (by kernel_rfl) (by kernel_rfl) (by kernel_rfl) (fun _ _ _ h => h) (.inl ⟨by rfl, ?_⟩) HS1 ?_
                rotate_left 1
                · (intro W hW; (try dsimp only at hW); go_simp; try with_reducible rfl)
                try simp only [Act.put, List.setIfInBounds_toArray, List.set_cons_zero, List.set_cons_succ]
                refine d_take (i := 5) (v := ?_) [] (some 97) rfl (by rfl) (by kernel_rfl) (by kernel_rfl) (by kernel_rfl) (by kernel_rfl) (by kernel_rfl) (by kernel_rfl) (fun _ _ _ h => h) (.inl ⟨by rfl, ?_⟩) HS1 ?_
                rotate_left 1
                · (intro W hW; (try dsimp only at hW); go_simp; try with_reducible rfl)
                try simp only [Act.put, List.setIfInBounds_toArray, List.set_cons_zero, List.set_cons_succ]
                refine d_take (i := 6) (v := ?_) [] (some 98) rfl (by rfl) (by kernel_rfl) (by kernel_rfl) (by kernel_rfl) (by kernel_rfl) (by kernel_rfl) (by kernel_rfl) (fun _ _ _ h => h) (.inl ⟨by rfl, ?_⟩) HS1 ?_
                rotate_left 1
                · (intro W hW; (try dsimp only at hW); go_simp; try with_reducible rfl)
                try simp only [Act.put, List.setIfInBounds_toArray, List.set_cons_zero, List.set_cons_succ]
                refine d_take (i := 7) (v := ?_) [] (some 99) rfl (by rfl) (by kernel_rfl) (by kernel_rfl) (by kernel_rfl) (by kernel_rfl) (by kernel_rfl) (by kernel_rfl) (fun _ _ _ h => h) (.inl ⟨by rfl, ?_⟩) HS1 ?_
                rotate_left 1
                · (intro W hW; (try dsimp only at hW); go_simp; try with_reducible rfl)
                try simp only [Act.put, List.setIfInBounds_toArray, List.set_cons_zero, List.set_cons_succ]
                refine d_take (i := 8) (v := ?_) [] (some 100) rfl (by rfl) (by kernel_rfl) (by kernel_rfl) (by kernel_rfl) (by kernel_rfl) (by kernel_rfl) (by kernel_rfl) (fun _ _ _ h => h) (.inl ⟨by rfl, ?_⟩) HS1 ?_
                rotate_left 1
                · (intro W hW; (try dsimp only at hW); go_simp; try with_reducible rfl)
                try simp only [Act.put, List.setIfInBounds_toArray, List.set_cons_zero, List.set_cons_succ]
                refine d_take (i := 11) (v := ?_) [] (some 103) rfl (by rfl) (by kernel_rfl) (by kernel_rfl) (by kernel_rfl) (by kernel_rfl) (by kernel_rfl) (by kernel_rfl) (fun _ _ _ h => h) (.inl ⟨by rfl, ?_⟩) HS1 ?_
                rotate_left 1
                · (intro W hW; (try dsimp only at hW); go_simp; try with_reducible rfl)
                try simp only [Act.put, List.setIfInBounds_toArray, List.set_cons_zero, List.set_cons_succ]
                refine d_take (i := 12) (v := ?_) [] (some 104) rfl (by rfl) (by kernel_rfl) (by kernel_rfl) (by kernel_rfl) (by kernel_rfl) (by kernel_rfl) (by kernel_rfl) (fun _ _ _ h => h) (.inl ⟨by rfl, ?_⟩) HS1 ?_
                rotate_left 1
                · (intro W hW; (try dsimp only at hW); go_simp; try with_reducible rfl)
                try simp only [Act.put, List.setIfInBounds_toArray, List.set_cons_zero, List.set_cons_succ]
                refine d_take (i := 13) (v := ?_) [] (some 105) rfl (by rfl) (by kernel_rfl) (by kernel_rfl) (by kernel_rfl) (by kernel_rfl) (by kernel_rfl) (by kernel_rfl) (fun _ _ _ h => h) (.inl ⟨by rfl, ?_⟩) HS1 ?_
                rotate_left 1
                · (intro W hW; (try dsimp only at hW); go_simp; try with_reducible rfl)
                try simp only [Act.put, List.setIfInBounds_toArray, List.set_cons_zero, List.set_cons_succ]
                refine d_take (i := 14) (v := ?_) [] (some 106) rfl (by rfl) (by kernel_rfl) (by kernel_rfl) (by kernel_rfl) (by kernel_rfl) (by kernel_rfl) (by kernel_rfl) (fun _ _ _ h => h) (.inl ⟨by rfl, ?_⟩) HS1 ?_
                rotate_left 1
                · (intro W hW; (try dsimp only at hW); go_simp; try with_reducible rfl)
                try simp only [Act.put, List.setIfInBounds_toArray, List.set_cons_zero, List.set_cons_succ]
                refine d_take (i := 15) (v := ?_) [] (some 107) rfl (by rfl) (by kernel_rfl) (by kernel_rfl) (by kernel_rfl) (by kernel_rfl) (by kernel_rfl) (by kernel_rfl) (fun _ _ _ h => h) (.inl ⟨by rfl, ?_⟩) HS1 ?_
                rotate_left 1
                · (intro W hW; (try dsimp only at hW); go_simp; try with_reducible rfl)
                try simp only [Act.put, List.setIfInBounds_toArray, List.set_cons_zero, List.set_cons_succ]
                refine d_take (i := 16) (v := ?_) [] (some 108) rfl (by rfl) (by kernel_rfl) (by kernel_rfl) (by kernel_rfl) (by kernel_rfl) (by kernel_rfl) (by kernel_rfl) (fun _ _ _ h => h) (.inl ⟨by rfl, ?_⟩) HS1 ?_
                rotate_left 1
                · (intro W hW; (try dsimp only at hW); go_simp; try with_reducible rfl)
                try simp only [Act.put, List.setIfInBounds_toArray, List.set_cons_zero, List.set_cons_succ]
                refine d_take (i := 17) (v := ?_) [] (some 109) rfl (by rfl) (by kernel_rfl) (by kernel_rfl) (by kernel_rfl) (by kernel_rfl) (by kernel_rfl) (by kernel_rfl) (fun _ _ _ h => h) (.inl ⟨by rfl, ?_⟩) HS1 ?_
                rotate_left 1
                · (intro W hW; (try dsimp only at hW); go_simp; try with_reducible rfl)
                try simp only [Act.put, List.setIfInBounds_toArray, List.set_cons_zero, List.set_cons_succ]
                refine d_take (i := 18) (v := ?_) [] (some 110) rfl (by rfl) (by kernel_rfl) (by kernel_rfl) (by kernel_rfl) (by kernel_rfl) (by kernel_rfl) (by kernel_rfl) (fun _ _ _ h => h) (.inl ⟨by rfl, ?_⟩) HS1 ?_
                rotate_left 1
                · (intro W hW; (try dsimp only at hW); go_simp; try with_reducible rfl)
                try simp only [Act.put, List.setIfInBounds_toArray, List.set_cons_zero, List.set_cons_succ]
                refine d_take (i := 19) (v := ?_) [] (some 111) rfl (by rfl) (by kernel_rfl) (by kernel_rfl) (by kernel_rfl) (by kernel_rfl) (by kernel_rfl) (by kernel_rfl) (fun _ _ _ h => h) (.inl ⟨by rfl, ?_⟩) HS1 ?_
                rotate_left 1
                · (intro W hW; (try dsimp only at hW); go_simp; try with_reducible rfl)
                try simp only [Act.put, List.setIfInBounds_toArray, List.set_cons_zero, List.set_cons_succ]
                refine d_call (i := 9) (by kernel_rfl) rfl (by rfl) (fun K hK => ?_)
                simp only [List.getElem_toArray, List.getElem_cons_succ, List.getElem_cons_zero]
                go_simp
                refine C1.out.mono ?_
                rintro e0 w5 ⟨rfl, F', n5⟩
                have J5 := Lib.hid (HJD.out.step_g hk2 n5)
                have ob5 := Lib.hid (n5.blk (show V.drew.heap[ob]? = _ from HOB.out) (fun h => HOL.out k hk2 (.inl h)))
                have HS2 := HFS.out _ _ _ _ _ _ _ J5.out ob5.out
                clear C1 n5
                go_simp
                refine hK.out _ _ (fun _ => HS2) ?_
                clear hK K
                try simp only [Act.put, List.setIfInBounds_toArray, List.set_cons_zero, List.set_cons_succ]
                refine d_call (i := 10) (by kernel_rfl) rfl (by rfl) (fun K hK => ?_)
                simp only [List.getElem_toArray, List.getElem_cons_succ, List.getElem_cons_zero]
                go_simp
                refine (HBR.out.num w5 (HW.out.2.2.ext J5.out.ext)).mono ?_
                rintro e0 w6 ⟨rfl, x6⟩
                have J6 := Lib.hid (J5.out.ex x6)
                have ob6 := Lib.hid ((x6.block ob (block_lt ob5.out)).trans ob5.out)
                have HS3 := HFS.out _ _ _ _ _ _ _ J6.out ob6.out
                have C2 := Lib.hid (HBR.out.m _ _ _ (J6.out.mp k hk2))
                have hob6 := Lib.hid (fun hM : M k ob => (show False from HOL.out k hk2 (.inr hM)))
                clear x6
                go_simp
                refine hK.out _ _ (fun _ => HS3) ?_
                clear hK K
                try simp only [Act.put, List.setIfInBounds_toArray, List.set_cons_zero, List.set_cons_succ]
                refine d_call (i := 20) (by kernel_rfl) rfl (by rfl) (fun K hK => ?_)
                simp only [List.getElem_toArray, List.getElem_cons_succ, List.getElem_cons_zero]
                go_simp
                refine C2.out.mono ?_
                rintro e0 w7 ⟨rfl, M', n7⟩
                have J2 := Lib.hid (J6.out.step_m hk2 n7)
                have ob7 := Lib.hid (n7.blk ob6.out hob6.out)
                have HS4 := HFS.out _ _ _ _ _ _ _ J2.out ob7.out
                clear C2 n7
                go_simp
                refine hK.out _ _ (fun _ => HS4) ?_
                clear hK K
                try simp only [Act.put, List.setIfInBounds_toArray, List.set_cons_zero, List.set_cons_succ]
                refine d_take (i := 21) (v := ?_) [] (some 113) rfl (by rfl) (by kernel_rfl) (by kernel_rfl) (by kernel_rfl) (by kernel_rfl) (by kernel_rfl) (by kernel_rfl) (fun _ _ _ h => h) (.inl ⟨by rfl, ?_⟩) HS4 ?_
                rotate_left 1
                · (intro W hW; (try dsimp only at hW); go_simp; try with_reducible rfl)
                try simp only [Act.put, List.setIfInBounds_toArray, List.set_cons_zero, List.set_cons_succ]
                refine d_done (by kernel_rfl) ?_ _
                clear HS1 HS2 HS3 HS4
                have HS1 := HFS.out _ _ _ _ _ _ _ (J2.out.ex (Ext.refl w7).drew) ob7.out
                have AK := Lib.hid (asks_ ((J2.out.ex (Ext.refl w7).drew).gp k hk2) ((J2.out.ex (Ext.refl w7).drew).mp k hk2) o.W (Post := fun e w' => e = .returned (.bool true) ∧ Ext w7.drew w') (Lib.hid fun w' hx => ⟨rfl, hx⟩))
                go_upto_region 35 with (fail)
                refine d_region (fun W : World => W.cell? ⟨gb, k, none⟩ = some (.pointer (some ⟨gg k, 0, none⟩)) ∧ W.cell? ⟨mb, k, none⟩ = some (.pointer (some ⟨mm k, 0, none⟩)) ∧ W.cell? ⟨ob, 2, none⟩ = some (.int .i64 o.T) ∧ W.cell? ⟨ob, 3, none⟩ = some (.int .i64 o.W) ∧ W.cell? ⟨ob, 4, none⟩ = some (.int .i64 o.X)) [] (by kernel_rfl) ?_
                refine d_take (i := 0) (v := ?_) [] (some 146) rfl (by rfl) (by kernel_rfl) (by kernel_rfl) (by kernel_rfl) (by kernel_rfl) (by kernel_rfl) (by kernel_rfl) (fun _ _ _ h => h) (.inl ⟨by rfl, ?_⟩) HS1 ?_
                rotate_left 1
                · (intro W hW; (try dsimp only at hW); go_simp; try with_reducible rfl)
                try simp only [Act.put, List.setIfInBounds_toArray, List.set_cons_zero, List.set_cons_succ]
                refine d_take (i := 1) (v := ?_) [] (some 147) rfl (by rfl) (by kernel_rfl) (by kernel_rfl) (by kernel_rfl) (by kernel_rfl) (by kernel_rfl) (by kernel_rfl) (fun _ _ _ h => h) (.inl ⟨by rfl, ?_⟩) HS1 ?_
                rotate_left 1
                · (intro W hW; (try dsimp only at hW); go_simp; try with_reducible rfl)
                try simp only [Act.put, List.setIfInBounds_toArray, List.set_cons_zero, List.set_cons_succ]
                refine d_take (i := 2) (v := ?_) [] (some 148) rfl (by rfl) (by kernel_rfl) (by kernel_rfl) (by kernel_rfl) (by kernel_rfl) (by kernel_rfl) (by kernel_rfl) (fun _ _ _ h => h) (.inl ⟨by rfl, ?_⟩) HS1 ?_
                rotate_left 1
                · (intro W hW; (try dsimp only at hW); go_simp; try with_reducible rfl)
                try simp only [Act.put, List.setIfInBounds_toArray, List.set_cons_zero, List.set_cons_succ]
                refine d_take (i := 3) (v := ?_) [] (some 149) rfl (by rfl) (by kernel_rfl) (by kernel_rfl) (by kernel_rfl) (by kernel_rfl) (by kernel_rfl) (by kernel_rfl) (fun _ _ _ h => h) (.inl ⟨by rfl, ?_⟩) HS1 ?_
                rotate_left 1
                · (intro W hW; (try dsimp only at hW); go_simp; try with_reducible rfl)
                try simp only [Act.put, List.setIfInBounds_toArray, List.set_cons_zero, List.set_cons_succ]
                refine d_take (i := 4) (v := ?_) [] (some 150) rfl (by rfl) (by kernel_rfl) (by kernel_rfl) (by kernel_rfl) (by kernel_rfl) (by kernel_rfl) (by kernel_rfl) (fun _ _ _ h => h) (.inl ⟨by rfl, ?_⟩) HS1 ?_
                rotate_left 1
                · (intro W hW; (try dsimp only at hW); go_simp; try with_reducible rfl)
                try simp only [Act.put, List.setIfInBounds_toArray, List.set_cons_zero, List.set_cons_succ]
                refine d_take (i := 5) (v := ?_) [] (some 151) rfl (by rfl) (by kernel_rfl) (by kernel_rfl) (by kernel_rfl) (by kernel_rfl) (by kernel_rfl) (by kernel_rfl) (fun _ _ _ h => h) (.inl ⟨by rfl, ?_⟩) HS1 ?_
                rotate_left 1
                · (intro W hW; (try dsimp only at hW); go_simp; try with_reducible rfl)
                try simp only [Act.put, List.setIfInBounds_toArray, List.set_cons_zero, List.set_cons_succ]
                refine d_take (i := 6) (v := ?_) [] (some 152) rfl (by rfl) (by kernel_rfl) (by kernel_rfl) (by kernel_rfl) (by kernel_rfl) (by kernel_rfl) (by kernel_rfl) (fun _ _ _ h => h) (.inl ⟨by rfl, ?_⟩) HS1 ?_
                rotate_left 1
                · (intro W hW; (try dsimp only at hW); go_simp; try with_reducible rfl)
                try simp only [Act.put, List.setIfInBounds_toArray, List.set_cons_zero, List.set_cons_succ]
                refine d_take (i := 7) (v := ?_) [] (some 153) rfl (by rfl) (by kernel_rfl) (by kernel_rfl) (by kernel_rfl) (by kernel_rfl) (by kernel_rfl) (by kernel_rfl) (fun _ _ _ h => h) (.inl ⟨by rfl, ?_⟩) HS1 ?_
                rotate_left 1
                · (intro W hW; (try dsimp only at hW); go_simp; try with_reducible rfl)
                try simp only [Act.put, List.setIfInBounds_toArray, List.set_cons_zero, List.set_cons_succ]
                refine d_call (i := 8) (by kernel_rfl) rfl (by rfl) (fun K hK => ?_)
                simp only [List.getElem_toArray, List.getElem_cons_succ, List.getElem_cons_zero]
                go_simp
                refine AK.out.mono ?_
                rintro e0 w8 ⟨rfl, x8⟩
                have J3 := Lib.hid (J2.out.ex ((Ext.refl w7).drew.trans x8))
                have HS2 := HFS.out _ _ _ _ _ _ _ J3.out ((x8.block ob (block_lt (w := w7.drew) ob7.out)).trans ob7.out)
                clear x8 AK
                go_simp
                refine hK.out _ _ (fun _ => HS2) ?_
                clear hK K
                try simp only [Act.put, List.setIfInBounds_toArray, List.set_cons_zero, List.set_cons_succ]
                refine d_take (i := 9) (v := ?_) [] (some 155) rfl (by rfl) (by kernel_rfl) (by kernel_rfl) (by kernel_rfl) (by kernel_rfl) (by kernel_rfl) (by kernel_rfl) (fun _ _ _ h => h) (.inl ⟨by rfl, ?_⟩) HS2 ?_
                rotate_left 1
                · (intro W hW; (try dsimp only at hW); go_simp; try with_reducible rfl)
                try simp only [Act.put, List.setIfInBounds_toArray, List.set_cons_zero, List.set_cons_succ]
                refine d_done (by kernel_rfl) ?_ _
                clear HS1 HS2
                go_wp2_with fail
                go_roundw
                case rel => exact ⟨i + 1, _, _, _, _, by go_num, by omega, J3.out⟩
                case measure => simp [intOf]; omega
              · by_cases hKr : o.K = 2
                · have hK2 : (o.K == 1) = false := by simp [hKr]
                  have hK3 : (o.K == 2) = true := by simp [hKr]
                  obtain ⟨j, d, nn, vv, js', BR⟩ := both_run E p (ks k) (js k)
                  have c1 := J.out.gcell hk2 hk2
                  have C1 := Lib.hid (BR.g _ _ _ (J.out.gp k hk2) (HW.out.2.2.ext J.out.ext))
                  have HBR := Lib.hid BR
                  clear BR
                  go_wp2_with fail
                  clear b0 b3
                  refine C1.out.mono ?_
                  rintro e0 w5 ⟨rfl, F', n5⟩
                  have J5 := J.out.step_g hk2 n5
                  have ob5 := n5.blk HOB.out (fun h => HOL.out k hk2 (.inl h))
                  have HM5 := Lib.hid (J5.mp k hk2).lt
                  have XB := (Ext.refl w5).alloc (.cells #[.int .i64 (j.T : Int), .int .i64 j.R, .int .i64 j.D, .int .i64 j.L, .int .i64 j.N] 46)
                  have hbj := heap_alloc_new w5 (.cells #[.int .i64 (j.T : Int), .int .i64 j.R, .int .i64 j.D, .int .i64 j.L, .int .i64 j.N] 46)
                  have H5 := Lib.hid (And.intro (J5.ex XB) (And.intro ((XB.block ob (block_lt ob5)).trans ob5) hbj))
                  clear C1 n5 J5 ob5 XB hbj c1
                  go_upto_region 32 with (fail)
                  generalize w5.alloc (.cells #[.int .i64 (j.T : Int), .int .i64 j.R, .int .i64 j.D, .int .i64 j.L, .int .i64 j.N] 46) = V5 at *
                  generalize hjb : w5.heap.size = jb at *
                  have HJB := Lib.hid hjb
                  clear hjb
                  have c1 := H5.out.1.mcell hk2 hk2
                  have C2 := Lib.hid (HBR.out.m _ _ _ (H5.out.1.mp k hk2))
                  go_wp2_with fail
                  refine C2.out.mono ?_
                  rintro e0 w7 ⟨rfl, M', n7⟩
                  have J7 := H5.out.1.step_m hk2 n7
                  have ob7 := n7.blk H5.out.2.1 (fun h => HOL.out k hk2 (.inr h))
                  have jb7 := n7.blk H5.out.2.2 (fun h => by have h1 := HM5.out jb h; omega)
                  have XB := (Ext.refl w7).alloc (.cells #[.int .i64 (j.T : Int), .int .i64 j.R, .int .i64 j.D, .int .i64 j.L, .int .i64 j.N] 46)
                  have hbj := heap_alloc_new w7 (.cells #[.int .i64 (j.T : Int), .int .i64 j.R, .int .i64 j.D, .int .i64 j.L, .int .i64 j.N] 46)
                  have J2 := Lib.hid (J7.ex XB)
                  have H7 := Lib.hid (And.intro ((XB.block ob (block_lt ob7)).trans ob7) (And.intro ((XB.block jb (block_lt jb7)).trans jb7) hbj))
                  clear C2 n7 J7 ob7 jb7 XB hbj c1
                  go_upto_region 33 with (fail)
                  generalize w7.alloc (.cells #[.int .i64 (j.T : Int), .int .i64 j.R, .int .i64 j.D, .int .i64 j.L, .int .i64 j.N] 46) = V7 at *
                  generalize w7.heap.size = kb at *
                  have r0 : V7.cell? ⟨jb, 0, none⟩ = some (.int .i64 (j.T : Int)) := block_cell H7.out.2.1 0
                  have r1 : V7.cell? ⟨jb, 1, none⟩ = some (.int .i64 j.R) := block_cell H7.out.2.1 1
                  have r2 : V7.cell? ⟨jb, 2, none⟩ = some (.int .i64 j.D) := block_cell H7.out.2.1 2
                  have r3 : V7.cell? ⟨jb, 3, none⟩ = some (.int .i64 j.L) := block_cell H7.out.2.1 3
                  have r4 : V7.cell? ⟨jb, 4, none⟩ = some (.int .i64 j.N) := block_cell H7.out.2.1 4
                  have q0 : V7.cell? ⟨kb, 0, none⟩ = some (.int .i64 (j.T : Int)) := block_cell H7.out.2.2 0
                  have q1 : V7.cell? ⟨kb, 1, none⟩ = some (.int .i64 j.R) := block_cell H7.out.2.2 1
                  have q2 : V7.cell? ⟨kb, 2, none⟩ = some (.int .i64 j.D) := block_cell H7.out.2.2 2
                  have q3 : V7.cell? ⟨kb, 3, none⟩ = some (.int .i64 j.L) := block_cell H7.out.2.2 3
                  have q4 : V7.cell? ⟨kb, 4, none⟩ = some (.int .i64 j.N) := block_cell H7.out.2.2 4
                  have C3 := Lib.hid (HBR.out.num V7 (HW.out.2.2.ext J2.out.ext))
                  go_wp2_with fail
                  refine C3.out.mono ?_
                  rintro e0 w9 ⟨rfl, x9⟩
                  have J9 := Lib.hid (J2.out.ex x9)
                  have ob9 := Lib.hid ((x9.block ob (block_lt H7.out.1)).trans H7.out.1)
                  clear C3 x9 r0 r1 r2 r3 r4 q0 q1 q2 q3 q4 J2
                  have J2 := J9
                  clear J9
                  go_upto_region 35 with (fail)
                  have HS1 := HFS.out _ _ _ _ _ _ _ (J2.out.ex (Ext.refl w9).drew) ob9.out
                  have AK := Lib.hid (asks_ ((J2.out.ex (Ext.refl w9).drew).gp k hk2) ((J2.out.ex (Ext.refl w9).drew).mp k hk2) o.W (Post := fun e w' => e = .returned (.bool true) ∧ Ext w9.drew w') (Lib.hid fun w' hx => ⟨rfl, hx⟩))
                  go_upto_region 35 with (fail)
                  refine d_region (fun W : World => W.cell? ⟨gb, k, none⟩ = some (.pointer (some ⟨gg k, 0, none⟩)) ∧ W.cell? ⟨mb, k, none⟩ = some (.pointer (some ⟨mm k, 0, none⟩)) ∧ W.cell? ⟨ob, 2, none⟩ = some (.int .i64 o.T) ∧ W.cell? ⟨ob, 3, none⟩ = some (.int .i64 o.W) ∧ W.cell? ⟨ob, 4, none⟩ = some (.int .i64 o.X)) [] (by kernel_rfl) ?_
                  refine d_take (i := 0) (v := ?_) [] (some 146) rfl (by rfl) (by kernel_rfl) (by kernel_rfl) (by kernel_rfl) (by kernel_rfl) (by kernel_rfl) (by kernel_rfl) (fun _ _ _ h => h) (.inl ⟨by rfl, ?_⟩) HS1 ?_
                  rotate_left 1
                  · (intro W hW; (try dsimp only at hW); go_simp; try with_reducible rfl)
                  try simp only [Act.put, List.setIfInBounds_toArray, List.set_cons_zero, List.set_cons_succ]
                  refine d_take (i := 1) (v := ?_) [] (some 147) rfl (by rfl) (by kernel_rfl) (by kernel_rfl) (by kernel_rfl) (by kernel_rfl) (by kernel_rfl) (by kernel_rfl) (fun _ _ _ h => h) (.inl ⟨by rfl, ?_⟩) HS1 ?_
                  rotate_left 1
                  · (intro W hW; (try dsimp only at hW); go_simp; try with_reducible rfl)
                  try simp only [Act.put, List.setIfInBounds_toArray, List.set_cons_zero, List.set_cons_succ]
                  refine d_take (i := 2) (v := ?_) [] (some 148) rfl (by rfl) (by kernel_rfl) (by kernel_rfl) (by kernel_rfl) (by kernel_rfl) (by kernel_rfl) (by kernel_rfl) (fun _ _ _ h => h) (.inl ⟨by rfl, ?_⟩) HS1 ?_
                  rotate_left 1
                  · (intro W hW; (try dsimp only at hW); go_simp; try with_reducible rfl)
                  try simp only [Act.put, List.setIfInBounds_toArray, List.set_cons_zero, List.set_cons_succ]
                  refine d_take (i := 3) (v := ?_) [] (some 149) rfl (by rfl) (by kernel_rfl) (by kernel_rfl) (by kernel_rfl) (by kernel_rfl) (by kernel_rfl) (by kernel_rfl) (fun _ _ _ h => h) (.inl ⟨by rfl, ?_⟩) HS1 ?_
                  rotate_left 1
                  · (intro W hW; (try dsimp only at hW); go_simp; try with_reducible rfl)
                  try simp only [Act.put, List.setIfInBounds_toArray, List.set_cons_zero, List.set_cons_succ]
                  refine d_take (i := 4) (v := ?_) [] (some 150) rfl (by rfl) (by kernel_rfl) (by kernel_rfl) (by kernel_rfl) (by kernel_rfl) (by kernel_rfl) (by kernel_rfl) (fun _ _ _ h => h) (.inl ⟨by rfl, ?_⟩) HS1 ?_
                  rotate_left 1
                  · (intro W hW; (try dsimp only at hW); go_simp; try with_reducible rfl)
                  try simp only [Act.put, List.setIfInBounds_toArray, List.set_cons_zero, List.set_cons_succ]
                  refine d_take (i := 5) (v := ?_) [] (some 151) rfl (by rfl) (by kernel_rfl) (by kernel_rfl) (by kernel_rfl) (by kernel_rfl) (by kernel_rfl) (by kernel_rfl) (fun _ _ _ h => h) (.inl ⟨by rfl, ?_⟩) HS1 ?_
                  rotate_left 1
                  · (intro W hW; (try dsimp only at hW); go_simp; try with_reducible rfl)
                  try simp only [Act.put, List.setIfInBounds_toArray, List.set_cons_zero, List.set_cons_succ]
                  refine d_take (i := 6) (v := ?_) [] (some 152) rfl (by rfl) (by kernel_rfl) (by kernel_rfl) (by kernel_rfl) (by kernel_rfl) (by kernel_rfl) (by kernel_rfl) (fun _ _ _ h => h) (.inl ⟨by rfl, ?_⟩) HS1 ?_
                  rotate_left 1
                  · (intro W hW; (try dsimp only at hW); go_simp; try with_reducible rfl)
                  try simp only [Act.put, List.setIfInBounds_toArray, List.set_cons_zero, List.set_cons_succ]
                  refine d_take (i := 7) (v := ?_) [] (some 153) rfl (by rfl) (by kernel_rfl) (by kernel_rfl) (by kernel_rfl) (by kernel_rfl) (by kernel_rfl) (by kernel_rfl) (fun _ _ _ h => h) (.inl ⟨by rfl, ?_⟩) HS1 ?_
                  rotate_left 1
                  · (intro W hW; (try dsimp only at hW); go_simp; try with_reducible rfl)
                  try simp only [Act.put, List.setIfInBounds_toArray, List.set_cons_zero, List.set_cons_succ]
                  refine d_call (i := 8) (by kernel_rfl) rfl (by rfl) (fun K hK => ?_)
                  simp only [List.getElem_toArray, List.getElem_cons_succ, List.getElem_cons_zero]
                  go_simp
                  refine AK.out.mono ?_
                  rintro e0 w8 ⟨rfl, x8⟩
                  have J3 := Lib.hid (J2.out.ex ((Ext.refl w9).drew.trans x8))
                  have HS2 := HFS.out _ _ _ _ _ _ _ J3.out ((x8.block ob (block_lt (w := w9.drew) ob9.out)).trans ob9.out)
                  clear x8 AK
                  go_simp
                  refine hK.out _ _ (fun _ => HS2) ?_
                  clear hK K
                  try simp only [Act.put, List.setIfInBounds_toArray, List.set_cons_zero, List.set_cons_succ]
                  refine d_take (i := 9) (v := ?_) [] (some 155) rfl (by rfl) (by kernel_rfl) (by kernel_rfl) (by kernel_rfl) (by kernel_rfl) (by kernel_rfl) (by kernel_rfl) (fun _ _ _ h => h) (.inl ⟨by rfl, ?_⟩) HS2 ?_
                  rotate_left 1
                  · (intro W hW; (try dsimp only at hW); go_simp; try with_reducible rfl)
                  try simp only [Act.put, List.setIfInBounds_toArray, List.set_cons_zero, List.set_cons_succ]
                  refine d_done (by kernel_rfl) ?_ _
                  clear HS1 HS2
                  go_wp2_with fail
                  go_roundw
                  case rel => exact ⟨i + 1, _, _, _, _, by go_num, by omega, J3.out⟩
                  case measure => simp [intOf]; omega
                · have hK2 : (o.K == 1) = false := by simp [hK]
                  have hK3 : (o.K == 2) = false := by simp [hKr]
                  have J2 := J
                  go_upto_region 35 with (fail)
                  clear b0 b3
                  have HS1 := HFS.out _ _ _ _ _ _ _ (J2.out.ex (Ext.refl V).drew) HOB.out
                  have AK := Lib.hid (asks_ ((J2.out.ex (Ext.refl V).drew).gp k hk2) ((J2.out.ex (Ext.refl V).drew).mp k hk2) o.W (Post := fun e w' => e = .returned (.bool true) ∧ Ext V.drew w') (Lib.hid fun w' hx => ⟨rfl, hx⟩))
                  go_upto_region 35 with (fail)
                  refine d_region (fun W : World => W.cell? ⟨gb, k, none⟩ = some (.pointer (some ⟨gg k, 0, none⟩)) ∧ W.cell? ⟨mb, k, none⟩ = some (.pointer (some ⟨mm k, 0, none⟩)) ∧ W.cell? ⟨ob, 2, none⟩ = some (.int .i64 o.T) ∧ W.cell? ⟨ob, 3, none⟩ = some (.int .i64 o.W) ∧ W.cell? ⟨ob, 4, none⟩ = some (.int .i64 o.X)) [] (by kernel_rfl) ?_
                  refine d_take (i := 0) (v := ?_) [] (some 146) rfl (by rfl) (by kernel_rfl) (by kernel_rfl) (by kernel_rfl) (by kernel_rfl) (by kernel_rfl) (by kernel_rfl) (fun _ _ _ h => h) (.inl ⟨by rfl, ?_⟩) HS1 ?_
                  rotate_left 1
                  · (intro W hW; (try dsimp only at hW); go_simp; try with_reducible rfl)
                  try simp only [Act.put, List.setIfInBounds_toArray, List.set_cons_zero, List.set_cons_succ]
                  refine d_take (i := 1) (v := ?_) [] (some 147) rfl (by rfl) (by kernel_rfl) (by kernel_rfl) (by kernel_rfl) (by kernel_rfl) (by kernel_rfl) (by kernel_rfl) (fun _ _ _ h => h) (.inl ⟨by rfl, ?_⟩) HS1 ?_
                  rotate_left 1
                  · (intro W hW; (try dsimp only at hW); go_simp; try with_reducible rfl)
                  try simp only [Act.put, List.setIfInBounds_toArray, List.set_cons_zero, List.set_cons_succ]
                  refine d_take (i := 2) (v := ?_) [] (some 148) rfl (by rfl) (by kernel_rfl) (by kernel_rfl) (by kernel_rfl) (by kernel_rfl) (by kernel_rfl) (by kernel_rfl) (fun _ _ _ h => h) (.inl ⟨by rfl, ?_⟩) HS1 ?_
                  rotate_left 1
                  · (intro W hW; (try dsimp only at hW); go_simp; try with_reducible rfl)
                  try simp only [Act.put, List.setIfInBounds_toArray, List.set_cons_zero, List.set_cons_succ]
                  refine d_take (i := 3) (v := ?_) [] (some 149) rfl (by rfl) (by kernel_rfl) (by kernel_rfl) (by kernel_rfl) (by kernel_rfl) (by kernel_rfl) (by kernel_rfl) (fun _ _ _ h => h) (.inl ⟨by rfl, ?_⟩) HS1 ?_
                  rotate_left 1
                  · (intro W hW; (try dsimp only at hW); go_simp; try with_reducible rfl)
                  try simp only [Act.put, List.setIfInBounds_toArray, List.set_cons_zero, List.set_cons_succ]
                  refine d_take (i := 4) (v := ?_) [] (some 150) rfl (by rfl) (by kernel_rfl) (by kernel_rfl) (by kernel_rfl) (by kernel_rfl) (by kernel_rfl) (by kernel_rfl) (fun _ _ _ h => h) (.inl ⟨by rfl, ?_⟩) HS1 ?_
                  rotate_left 1
                  · (intro W hW; (try dsimp only at hW); go_simp; try with_reducible rfl)
                  try simp only [Act.put, List.setIfInBounds_toArray, List.set_cons_zero, List.set_cons_succ]
                  refine d_take (i := 5) (v := ?_) [] (some 151) rfl (by rfl) (by kernel_rfl) (by kernel_rfl) (by kernel_rfl) (by kernel_rfl) (by kernel_rfl) (by kernel_rfl) (fun _ _ _ h => h) (.inl ⟨by rfl, ?_⟩) HS1 ?_
                  rotate_left 1
                  · (intro W hW; (try dsimp only at hW); go_simp; try with_reducible rfl)
                  try simp only [Act.put, List.setIfInBounds_toArray, List.set_cons_zero, List.set_cons_succ]
                  refine d_take (i := 6) (v := ?_) [] (some 152) rfl (by rfl) (by kernel_rfl) (by kernel_rfl) (by kernel_rfl) (by kernel_rfl) (by kernel_rfl) (by kernel_rfl) (fun _ _ _ h => h) (.inl ⟨by rfl, ?_⟩) HS1 ?_
                  rotate_left 1
                  · (intro W hW; (try dsimp only at hW); go_simp; try with_reducible rfl)
                  try simp only [Act.put, List.setIfInBounds_toArray, List.set_cons_zero, List.set_cons_succ]
                  refine d_take (i := 7) (v := ?_) [] (some 153) rfl (by rfl) (by kernel_rfl) (by kernel_rfl) (by kernel_rfl) (by kernel_rfl) (by kernel_rfl) (by kernel_rfl) (fun _ _ _ h => h) (.inl ⟨by rfl, ?_⟩) HS1 ?_
                  rotate_left 1
                  · (intro W hW; (try dsimp only at hW); go_simp; try with_reducible rfl)
                  try simp only [Act.put, List.setIfInBounds_toArray, List.set_cons_zero, List.set_cons_succ]
                  refine d_call (i := 8) (by kernel_rfl) rfl (by rfl) (fun K hK => ?_)
                  simp only [List.getElem_toArray, List.getElem_cons_succ, List.getElem_cons_zero]
                  go_simp
                  refine AK.out.mono ?_
                  rintro e0 w8 ⟨rfl, x8⟩
                  have J3 := Lib.hid (J2.out.ex ((Ext.refl V).drew.trans x8))
                  have HS2 := HFS.out _ _ _ _ _ _ _ J3.out ((x8.block ob (block_lt (w := V.drew) HOB.out)).trans HOB.out)
                  clear x8 AK
                  go_simp
                  refine hK.out _ _ (fun _ => HS2) ?_
                  clear hK K
                  try simp only [Act.put, List.setIfInBounds_toArray, List.set_cons_zero, List.set_cons_succ]
                  refine d_take (i := 9) (v := ?_) [] (some 155) rfl (by rfl) (by kernel_rfl) (by kernel_rfl) (by kernel_rfl) (by kernel_rfl) (by kernel_rfl) (by kernel_rfl) (fun _ _ _ h => h) (.inl ⟨by rfl, ?_⟩) HS2 ?_
                  rotate_left 1
                  · (intro W hW; (try dsimp only at hW); go_simp; try with_reducible rfl)
                  try simp only [Act.put, List.setIfInBounds_toArray, List.set_cons_zero, List.set_cons_succ]
                  refine d_done (by kernel_rfl) ?_ _
                  clear HS1 HS2
                  go_wp2_with fail
                  go_roundw
                  case rel => exact ⟨i + 1, _, _, _, _, by go_num, by omega, J3.out⟩
                  case measure => simp [intOf]; omega
          · obtain rfl : m = i := by omega
            go_wp2_with fail
            go_returns
            exact ⟨rfl, HI.out.ext⟩
  · have HNL := Lib.hid hL
    have hes := fun w => err_same w (E 3)
    clear hL
    go_wp2_with fail
    go_loopw [21] (fun v21 wr => v21 = .int .i64 0 ∧ Hid (Ext w wr ∧ wr.heap[xb]? = some (.cells #[.int .i64 p, .slice A n c, .slice B m e] 25 (0, 0)))) (fun _ _ => 0)
    case atStart => exact ⟨rfl, H1.out.1, H1.out.2.2.2⟩
    case round =>
      obtain ⟨rfl, HI⟩ := hrel
      have HRD := Lib.hid (HR.out.1.ext HI.out.1)
      have X0' := Lib.hid ((Ext.refl wr).alloc (.cells #[] 41))
      have cA : (wr.alloc (.cells #[] 41)).cell? ⟨xb, 1, none⟩ = some (.slice A n c) := block_cell ((X0'.out.block _ (block_lt HI.out.2)).trans HI.out.2) 1
      go_upto_region 8 with (fail)
      go_wp2_with (at_builtin; refine held ?_)
      refine Held.go (wp_app (m := n) (news := (trows ts).flatten) eltT4 (base := wr.heap.size) (n := 0) (c := 0) (xs := []) (World.ownsRow_lit (size := 4) _ #[] 0 (Nat.le_refl _) (by simp [maxLen]) rfl) (HRD.out.ext X0'.out) (trows_one _) (by omega) (.inr ⟨by omega, by omega⟩) (by simp) _ _ rfl rfl rfl rfl ?_)
      intro A5 c5 w5 o5 g5 hA5 _
      rw [List.nil_append, Nat.zero_add] at o5
      rw [Nat.zero_add]
      have x5 : Ext wr w5 := g5.ext ((Ext.refl wr).alloc _) (fun g hg => by injection hg with hg; rw [← hg]; exact Nat.le_refl _)
      have b5 := (x5.block _ (block_lt HI.out.2)).trans HI.out.2
      have p0 : w5.cell? ⟨xb, 0, none⟩ = some (.int .i64 p) := block_cell b5 0
      have X5 := HI.out.1.trans x5
      have NW := Lib.hid (new_no p A5 n c5 ts w5 o5.rd (by omega) ((HW.out.2.2.sen _ (by decide)).ext X5) HNL.out)
      have H5 := Lib.hid (And.intro X5 b5)
      clear cA x5 o5 g5 hA5 X5 b5
      go_wp2_with fail
      refine NW.out.mono ?_
      rintro e0 w6 ⟨rfl, x6⟩
      have b6 := (x6.block _ (block_lt H5.out.2)).trans H5.out.2
      have X6 := H5.out.1.trans x6
      have q0 : w6.cell? ⟨xb, 0, none⟩ = some (.int .i64 p) := block_cell b6 0
      have q1 : w6.cell? ⟨xb, 1, none⟩ = some (.slice A n c) := block_cell b6 1
      have LGR := Lib.hid (rguest_loop A n c p ts w6 (HR.out.1.ext X6) (by omega) false (Lib.hid ⟨fun e => (by cases e), fun e => absurd e HNL.out⟩))
      have H6 := Lib.hid X6
      clear NW x6 b6 X6 p0
      go_wp2_with fail
      refine LGR.out.mono ?_
      rintro e0 w7 ⟨rfl, x7⟩
      have s0 := ((HW.out.2.2.sen 3 (by decide)).ext (H6.out.trans x7)).2.1
      have H7 := Lib.hid (H6.out.trans x7)
      clear LGR x7 q0 q1
      go_wp2_with fail
      go_returns
      exact ⟨rfl, H7.out⟩
end Go.Proofs.YtbpbmelfhgbogaaDoor
