/-
  The statement DiskFlushes, walked.
-/
import Derived.Test.YtchkeclhnbekkaaDoorDkAlive
import Derived.Test.YtchkeclhnbekkaaDoorDkScript
import Derived.BigRegion
namespace Go.Proofs.YtchkeclhnbekkaaDoor
set_option maxRecDepth 100000
open Go.RowKit Go.Maps
set_option linter.unusedVariables false
theorem add_lit (a : Addr) {k : Nat} (hk : k ≠ 0) : a.add k = ⟨a.block, a.off + k, none⟩ := by unfold Addr.add; rw [if_neg hk]
def FP (w wr : World) (g : Nat) (X : Nat → Prop) (Zm : Nat) : Prop := ∃ f l nw, DL w wr g X 5 f l nw false Zm
section
variable {w wr w' : World} {g Zm : Nat} {X : Nat → Prop} {pn pl pg : Addr}
theorem FP.ex' (h : FP w wr g X Zm) (hx : Ext wr w') : FP w w' g X Zm := by
  obtain ⟨f, l, nw, h1⟩ := h
  exact ⟨f, l, nw, h1.ex' hx⟩
theorem FP.mono (h : FP w wr g X Zm) {Zn : Nat} (hz : Zm ≤ Zn) : FP w wr g X Zn := by
  obtain ⟨f, l, nw, h1⟩ := h
  exact ⟨f, l, nw, h1.mono hz⟩
theorem FP.sub (h : FP w wr g X Zm) {Y : Nat → Prop} (hY : ∀ q, Y q → X q) : FP w wr g Y Zm := by
  obtain ⟨f, l, nw, h1⟩ := h
  exact ⟨f, l, nw, h1.sub hY⟩
theorem FP.wext (h : FP w wr g X Zm) : Ext w wr := by
  obtain ⟨f, l, nw, h1⟩ := h
  exact h1.ext
theorem FP.box (h : FP w wr g (fun _ => False) Zm) {o : Obj} : FP w (wr.alloc o) g (fun b => b = wr.heap.size) Zm := by
  obtain ⟨f, l, nw, h1⟩ := h
  exact ⟨f, l, nw, (h1.add ((Ext.refl wr).alloc o) (q := wr.heap.size) (Nat.le_refl _) (by simp)).sub (fun q e => .inr e)⟩
theorem FP.flush (h : FP w wr g X Zm) (hZ : Zm < 2600000000000) : Calls Tryd.prog 11 #[.pointer (some ⟨g, 0, none⟩)] wr fun e w' => e = .returned .nilIface ∧ ∃ F nw, DL w w' g X 5 F [] nw false Zm := by
  obtain ⟨f, l, nw, h1⟩ := h
  exact (h1.flush hZ).mono fun e w' ⟨he, hd⟩ => ⟨he, _, _, hd.dl⟩
theorem FP.write (h : FP w wr g X Zm) (hE : DE w pn pl pg) (hZ : Zm < 2600000000000) {w3 : World} (hx : Ext wr w3) {s : List Nat} (ho : Own w3 wr.heap.size 5 1 (some ⟨wr.heap.size, 0, none⟩) 64 64 (u8s s)) (i : Int) (hs : IsSec s) :
    ∃ v, Calls Tryd.prog 10 #[.pointer (some ⟨g, 0, none⟩), .int .i64 i, .slice (some ⟨wr.heap.size, 0, none⟩) 64 64] w3 fun e w' => e = .returned v ∧ FP w w' g X (Zm + 1) ∧ ∀ q, X q → w'.heap[q]? = w3.heap[q]? := by
  obtain ⟨f, l, nw, h1⟩ := h
  obtain ⟨v, l', nw', hv, hc⟩ := (h1.add hx (q := wr.heap.size) (Nat.le_refl _) ho.lt).write hE hZ i _ hs ho.rd (.inr rfl)
  exact ⟨v, hc.mono fun e w' ⟨he, hd⟩ => ⟨he, ⟨f, l', nw', hd.dl.sub (fun q e => .inl e)⟩, fun q hq => hd.kp q (.inl hq)⟩⟩
theorem DL.wait0 {W : World} {S nw : Int} {f : Int → List Nat} {lost : Bool} (h : DL W wr g X S f [] nw lost Zm) : Calls Tryd.prog 14 #[.pointer (some ⟨g, 0, none⟩)] wr fun e w' => e = .returned (.int .i64 0) ∧ Ext wr w' := h.wait
/-- A store into a block that is none of the disk's. -/
theorem DL.poke {W : World} {S nw : Int} {f : Int → List Nat} {l : List WrV} {lost : Bool} (h : DL W wr g X S f l nw lost Zm) {q : Nat} (hf : Fr wr w' (· = q)) (hq : X q) (hw : W.heap.size ≤ q) : DL W w' g X S f l nw lost Zm := by
  obtain ⟨F, b, m, c, Z, A, h1, h2, h3, h4, h5, h6⟩ := h.ex
  have nF : ∀ p, F p → ¬ p = q := fun p hp e => (h6 p hp).2.1 (e ▸ hq)
  exact ⟨⟨F, b, m, c, Z, A, h1.fr hf (nF g h2) (nF b h3) (fun a ha => nF _ (h4 a ha)), h2, h3, h4, h5, fun p hp => ⟨(h6 p hp).1, (h6 p hp).2.1, Nat.lt_of_lt_of_le (h6 p hp).2.2 hf.size⟩⟩, h.nws, Fr.ext h.ext hf (fun p e => by rw [e]; exact hw), fun p hp => Nat.lt_of_lt_of_le (h.xl p hp) hf.size⟩
end
set_option maxHeartbeats 12800000 in
theorem dflushes_any (A0 : Option Addr) (n c0 : Nat) (os : List O5) (kp : Nat) (hkp : kp < 18446744073709551616) (torn : Int) (w : World) (hr : Rd w 5 A0 n (o5rows os).flatten) (hol : os.length = n) (hok : ∀ o ∈ os, o.ok w) (hn : n * 56 ≤ 140737488351232) {pn pl pg : Addr} (hE : DE w pn pl pg) :
    Calls Tryd.prog 5 #[.slice A0 n c0, .int .u64 (kp : Int), .int .i64 torn] w fun e w' => e = .returned (.bool true) ∧ Ext w w' := by
  have HE := Lib.hid hE
  have HO := Lib.hid (And.intro hol (And.intro hr hok))
  have HKP := Lib.hid hkp
  have AL := Lib.hid (dalive_any w hE)
  clear hr hol hok hE hkp
  go_enter Tryd.func5, Tryd.ntmps5
  go_wp2_with fail
  refine AL.out.mono ?_
  rintro e0 w1 ⟨rfl, x1⟩
  have NW := Lib.hid (DL.new w1 x1 5 (by omega) (by omega))
  clear AL x1
  go_wp2_with fail
  refine NW.out.mono ?_
  rintro e0 w2 ⟨rfl, d2, x2⟩
  generalize w1.heap.size + 1 = g at *
  have A2 := Lib.hid (show FP w w2 g (fun _ => False) 0 from ⟨_, _, _, d2.sub (fun q h => h.elim)⟩)
  clear NW d2 x2
  go_wp2_with fail
  go_loopw [32] (fun v32 wr => ∃ i : Nat, v32 = .int .i64 (i : Int) ∧ i ≤ n ∧ i ≤ 301 ∧ Hid (FP w wr g (fun _ => False) i)) (fun v32 _ => n - (intOf v32).toNat)
  case atStart => exact ⟨0, rfl, by omega, by omega, A2.out⟩
  case round =>
    obtain ⟨i, rfl, hi, h301, HI⟩ := hrel
    obtain ⟨U2, hU2⟩ : ∃ V : World, V = wr := ⟨_, rfl⟩
    subst hU2
    by_cases hlt : i < n
    · obtain ⟨o, ho⟩ : ∃ o, os[i]? = some o := ⟨os[i]'(by rw [HO.out.1]; exact hlt), List.getElem?_eq_getElem _⟩
      obtain ⟨i5, hi5⟩ : ∃ i5, i * 5 = i5 := ⟨_, rfl⟩
      obtain ⟨ad, rfl, _, _⟩ := HO.out.2.1.2 (show 0 < n by omega)
      have hrr := HO.out.2.1.ext HI.out.wext
      have k0 := hrr.rowAt (o5_even os) (o5_at ho) hi5 (i := 0) rfl
      have k1 := hrr.rowAt (o5_even os) (o5_at ho) hi5 (i := 1) rfl
      have k2 := hrr.rowAt (o5_even os) (o5_at ho) hi5 (i := 2) rfl
      have k3 := hrr.rowAt (o5_even os) (o5_at ho) hi5 (i := 3) rfl
      have k4 := hrr.rowAt (o5_even os) (o5_at ho) hi5 (i := 4) rfl
      rw [Nat.add_zero] at k0
      rw [← add_add', add_lit _ (by omega)] at k1 k2 k3 k4
      have z0 : (0 : Int) ≤ i := by omega
      have z1 : (i : Int) < n := by omega
      have HOK := Lib.hid (HO.out.2.2 o (List.mem_of_getElem? ho))
      have HB := Lib.hid (And.intro (heap_alloc_new U2 (.cells #[.int .i64 o.K, .int .i64 o.I, .int .i64 o.T, .int .u64 (o.kp : Int), .slice o.A o.n o.c] 42)) (HI.out.box (o := (.cells #[.int .i64 o.K, .int .i64 o.I, .int .i64 o.T, .int .u64 (o.kp : Int), .slice o.A o.n o.c] 42))))
      clear hrr ho
      go_upto_region 9 with (fail)
      generalize U2.alloc (.cells #[.int .i64 o.K, .int .i64 o.I, .int .i64 o.T, .int .u64 (o.kp : Int), .slice o.A o.n o.c] 42) = V at *
      generalize U2.heap.size = ob at *
      clear k0 k1 k2 k3 k4 hi5
      by_cases h300 : (300 : Int) < (i : Int)
      · have HA := Lib.hid ((HB.out.2.sub (Y := fun _ => False) (fun q h => h.elim)).mono (show i ≤ 302 from by omega))
        have FL := Lib.hid (HA.out.flush (by omega))
        go_wp2_with fail
        refine FL.out.mono ?_
        rintro e0 w2 ⟨rfl, F, nw, d2⟩
        have WT := Lib.hid d2.wait0
        have D2 := Lib.hid d2
        clear FL d2
        go_wp2_with fail
        refine WT.out.mono ?_
        rintro e0 w3 ⟨rfl, x3⟩
        have D3 := Lib.hid (((D2.out.ex' x3).add ((Ext.refl w3).alloc (.cells #[.string ⟨#[]⟩, .string ⟨#[]⟩, .string ⟨#[]⟩, .string ⟨#[]⟩, .string ⟨#[]⟩] 45)) (q := w3.heap.size) (Nat.le_refl _) (by simp)).sub (Y := fun b => b = w3.heap.size) (fun q e => .inr e))
        have HB3 := Lib.hid (And.intro (heap_alloc_new w3 (.cells #[.string ⟨#[]⟩, .string ⟨#[]⟩, .string ⟨#[]⟩, .string ⟨#[]⟩, .string ⟨#[]⟩] 45)) (show w.heap.size ≤ w3.heap.size from (D2.out.ex' x3).ext.size))
        clear WT x3
        go_upto_region 15 with (fail)
        generalize w3.alloc (.cells #[.string ⟨#[]⟩, .string ⟨#[]⟩, .string ⟨#[]⟩, .string ⟨#[]⟩, .string ⟨#[]⟩] 45) = V3 at *
        generalize w3.heap.size = wb at *
        go_wp2_with fail
        go_loopw [56] (fun v56 wr => ∃ j : Nat, v56 = .int .i64 (j : Int) ∧ j ≤ 5 ∧ Hid (DL w wr g (fun b => b = wb) 5 F [] nw false 302 ∧ ∃ cs : Array Value, wr.heap[wb]? = some (.cells cs 45 (0, 0)) ∧ cs.size = 5 ∧ ∀ i : Nat, i < j → cs[i]? = some (.string (str (F (i : Int)))))) (fun v56 _ => 5 - (intOf v56).toNat)
        case atStart => exact ⟨0, rfl, by omega, D3.out, _, HB3.out.1, rfl, fun i hi => by omega⟩
        case round =>
          obtain ⟨j, rfl, hj, HJ⟩ := hrel
          obtain ⟨U4, hU4⟩ : ∃ V : World, V = wr := ⟨_, rfl⟩
          subst hU4
          by_cases hj5 : j < 5
          · have RD := Lib.hid (HJ.out.1.read HE.out (by omega) (j : Int) (by omega) (by omega))
            obtain ⟨hD, cs, hcs, hsz, hcv⟩ := HJ.out
            have HC := Lib.hid (And.intro hcs (And.intro hsz hcv))
            have z0 : (0 : Int) ≤ j := by omega
            have z1 : (j : Int) < 5 := by omega
            clear hD hcs hsz hcv
            go_wp2_with fail
            refine RD.out.mono ?_
            rintro e0 w5 ⟨sb, rfl, r5, _, _, x5⟩
            have cv := strRun r5
            rw [readW_stays (fun x hx => by cases hx)] at cv
            have b5 := (x5.block wb (block_lt HC.out.1)).trans HC.out.1
            obtain ⟨u, hu⟩ : ∃ u, cs[j]? = some u := ⟨_, Array.getElem?_eq_getElem (by have := HC.out.2.1; omega)⟩
            have c5 : w5.cell? ⟨wb, j, none⟩ = some u := (block_cell b5 j).trans hu
            have f5 := block_fz b5 j
            have HN := Lib.hid (show DL w (w5.setCell ⟨wb, j, none⟩ (.string (str (F (j : Int))))) g (fun b => b = wb) 5 F [] nw false 302 ∧ ∃ cs : Array Value, (w5.setCell ⟨wb, j, none⟩ (.string (str (F (j : Int))))).heap[wb]? = some (.cells cs 45 (0, 0)) ∧ cs.size = 5 ∧ ∀ i : Nat, i < j + 1 → cs[i]? = some (.string (str (F (i : Int)))) from by
              refine ⟨(HJ.out.1.ex' x5).poke (Fr.store w5 ⟨wb, j, none⟩ _) rfl HB3.out.2, _, heap_setCell_same w5 wb j _ _ _ b5, by simp [HC.out.2.1], fun i hi => ?_⟩
              by_cases e : i = j
              · subst e
                rw [Array.getElem?_setIfInBounds_self_of_lt (by have := HC.out.2.1; omega)]
              · rw [Array.getElem?_setIfInBounds_ne (by omega)]
                exact HC.out.2.2 i (by omega))
            clear RD r5 x5 b5 hu
            go_wp2_with fail
            go_roundw
            case rel => exact ⟨j + 1, by go_num, by omega, HN.out⟩
            case measure => simp [intOf]; omega
          · obtain rfl : j = 5 := by omega
            have CR := Lib.hid (HJ.out.1.crash (by omega) kp HKP.out torn)
            obtain ⟨hD, cs, hcs, hsz, hcv⟩ := HJ.out
            have HC := Lib.hid (And.intro hcs (And.intro hsz hcv))
            clear hD hcs hsz hcv
            go_wp2_with fail
            refine CR.out.mono ?_
            rintro e0 w6 ⟨rfl, n6⟩
            have H6 := Lib.hid (And.intro (show DL w w6 g (fun b => b = wb) 5 F [] nw false 302 from n6.dl) ((n6.kp wb rfl).trans HC.out.1))
            clear CR n6
            go_wp2_with fail
            go_loopw [76] (fun v76 wr => ∃ j : Nat, v76 = .int .i64 (j : Int) ∧ j ≤ 5 ∧ Hid (Ext w6 wr)) (fun v76 _ => 5 - (intOf v76).toNat)
            case atStart => exact ⟨0, rfl, by omega, Ext.refl w6⟩
            case round =>
              obtain ⟨j, rfl, hj, HK⟩ := hrel
              obtain ⟨U7, hU7⟩ : ∃ V : World, V = wr := ⟨_, rfl⟩
              subst hU7
              by_cases hj5 : j < 5
              · have RD := Lib.hid ((H6.out.1.ex' HK.out).read HE.out (by omega) (j : Int) (by omega) (by omega))
                have z0 : (0 : Int) ≤ j := by omega
                have z1 : (j : Int) < 5 := by omega
                go_wp2_with fail
                refine RD.out.mono ?_
                rintro e0 w8 ⟨sb, rfl, r8, _, _, x8⟩
                have cv := fun q => strRun (r8.ext ((Ext.refl w8).drewN q))
                rw [readW_stays (fun x hx => by cases hx)] at cv
                have b8 := ((HK.out.trans x8).block wb (block_lt H6.out.2)).trans H6.out.2
                have c8 : w8.cell? ⟨wb, j, none⟩ = some (.string (str (F (j : Int)))) := (block_cell b8 j).trans (HC.out.2.2 j hj5)
                have HN := Lib.hid (fun q => (HK.out.trans x8).drewN q)
                clear RD r8 x8 b8
                go_wp2_with fail
                go_quiet (fail)
                go_wp2_with fail
                go_roundw
                case rel => exact ⟨j + 1, by go_num, by omega, HN.out _⟩
                case measure => simp [intOf]; omega
              · obtain rfl : j = 5 := by omega
                have HX := Lib.hid (H6.out.1.ex' HK.out).ext
                go_wp2_with fail
                go_returns
                exact ⟨rfl, HX.out⟩
      · have i300 : i ≤ 300 := by omega
        have HS1 : V.drew.cell? ⟨ob, 1, none⟩ = some (.int .i64 o.I) ∧ V.drew.cell? ⟨ob, 4, none⟩ = some (.slice o.A o.n o.c) := ⟨block_cell (w := V.drew) (show V.drew.heap[ob]? = _ from HB.out.1) 1, block_cell (w := V.drew) (show V.drew.heap[ob]? = _ from HB.out.1) 4⟩
        have AD := Lib.hid (And.intro (HB.out.2.ex' (Ext.refl V).drew) (show V.drew.heap[ob]? = some (.cells #[.int .i64 o.K, .int .i64 o.I, .int .i64 o.T, .int .u64 (o.kp : Int), .slice o.A o.n o.c] 42) from HB.out.1))
        have RO := Lib.hid (HOK.out.rd.ext (HB.out.2.wext.trans (Ext.refl V).drew))
        go_upto_region 10 with (fail)
        refine d_region (fun W : World => W.cell? ⟨ob, 1, none⟩ = some (.int .i64 o.I) ∧ W.cell? ⟨ob, 4, none⟩ = some (.slice o.A o.n o.c)) [] (by kernel_rfl) ?_
        generalize V.drew = U at *
        have FI := Lib.hid (filled_any o.A o.n o.c o.l U (by have h1 := HOK.out.le; have h2 := HOK.out.small; omega) RO.out)
        refine d_take (i := 0) (v := ?_) [] (some 39) rfl (by rfl) (by kernel_rfl) (by kernel_rfl) (by kernel_rfl) (by kernel_rfl) (by kernel_rfl) (by kernel_rfl) (fun _ _ _ h => h) (.inl ⟨by rfl, ?_⟩) HS1 ?_
        rotate_left 1
        · (intro W hW; (try dsimp only at hW); go_simp; try with_reducible rfl)
        try simp only [Act.put, List.setIfInBounds_toArray, List.set_cons_zero, List.set_cons_succ]
        refine d_take (i := 1) (v := ?_) [] (some 40) rfl (by rfl) (by kernel_rfl) (by kernel_rfl) (by kernel_rfl) (by kernel_rfl) (by kernel_rfl) (by kernel_rfl) (fun _ _ _ h => h) (.inl ⟨by rfl, ?_⟩) HS1 ?_
        rotate_left 1
        · (intro W hW; (try dsimp only at hW); go_simp; try with_reducible rfl)
        try simp only [Act.put, List.setIfInBounds_toArray, List.set_cons_zero, List.set_cons_succ]
        refine d_take (i := 2) (v := ?_) [] (some 41) rfl (by rfl) (by kernel_rfl) (by kernel_rfl) (by kernel_rfl) (by kernel_rfl) (by kernel_rfl) (by kernel_rfl) (fun _ _ _ h => h) (.inl ⟨by rfl, ?_⟩) HS1 ?_
        rotate_left 1
        · (intro W hW; (try dsimp only at hW); go_simp; try with_reducible rfl)
        try simp only [Act.put, List.setIfInBounds_toArray, List.set_cons_zero, List.set_cons_succ]
        refine d_take (i := 3) (v := ?_) [] (some 42) rfl (by rfl) (by kernel_rfl) (by kernel_rfl) (by kernel_rfl) (by kernel_rfl) (by kernel_rfl) (by kernel_rfl) (fun _ _ _ h => h) (.inl ⟨by rfl, ?_⟩) HS1 ?_
        rotate_left 1
        · (intro W hW; (try dsimp only at hW); go_simp; try with_reducible rfl)
        try simp only [Act.put, List.setIfInBounds_toArray, List.set_cons_zero, List.set_cons_succ]
        refine d_take (i := 4) (v := ?_) [] (some 43) rfl (by rfl) (by kernel_rfl) (by kernel_rfl) (by kernel_rfl) (by kernel_rfl) (by kernel_rfl) (by kernel_rfl) (fun _ _ _ h => h) (.inl ⟨by rfl, ?_⟩) HS1 ?_
        rotate_left 1
        · (intro W hW; (try dsimp only at hW); go_simp; try with_reducible rfl)
        try simp only [Act.put, List.setIfInBounds_toArray, List.set_cons_zero, List.set_cons_succ]
        refine d_call (i := 5) (by kernel_rfl) rfl (by rfl) (fun K hK => ?_)
        simp only [List.getElem_toArray, List.getElem_cons_succ, List.getElem_cons_zero]
        go_simp
        refine FI.out.mono ?_
        rintro e0 w3 ⟨rfl, o3, x3⟩
        have ob3 := (x3.block ob (block_lt AD.out.2)).trans AD.out.2
        have HS2 : w3.cell? ⟨ob, 1, none⟩ = some (.int .i64 o.I) ∧ w3.cell? ⟨ob, 4, none⟩ = some (.slice o.A o.n o.c) := ⟨block_cell ob3 1, block_cell ob3 4⟩
        obtain ⟨v, WR⟩ := AD.out.1.write HE.out (by omega) x3 o3 o.I (fillL_sec HOK.out.byte)
        have WR := Lib.hid WR
        have OB3 := Lib.hid ob3
        clear FI o3 ob3 x3
        generalize U.heap.size = fb at *
        go_simp
        refine hK.out _ _ (fun _ => HS2) ?_
        clear hK K
        try simp only [Act.put, List.setIfInBounds_toArray, List.set_cons_zero, List.set_cons_succ]
        refine d_call (i := 6) (by kernel_rfl) rfl (by rfl) (fun K hK => ?_)
        simp only [List.getElem_toArray, List.getElem_cons_succ, List.getElem_cons_zero]
        go_simp
        refine WR.out.mono ?_
        rintro e0 w4 ⟨rfl, a4, kp4⟩
        have ob4 := (kp4 ob rfl).trans OB3.out
        have HS3 : w4.cell? ⟨ob, 1, none⟩ = some (.int .i64 o.I) ∧ w4.cell? ⟨ob, 4, none⟩ = some (.slice o.A o.n o.c) := ⟨block_cell ob4 1, block_cell ob4 4⟩
        have HA := Lib.hid (a4.sub (Y := fun _ => False) (fun q h => h.elim))
        clear WR a4 kp4 ob4
        go_simp
        refine hK.out _ _ (fun _ => HS3) ?_
        clear hK K
        try simp only [Act.put, List.setIfInBounds_toArray, List.set_cons_zero, List.set_cons_succ]
        refine d_done (by kernel_rfl) ?_ _
        clear HS1 HS2 HS3
        go_wp2_with fail
        go_roundw
        case rel => exact ⟨i + 1, by go_num, by omega, by omega, HA.out⟩
        case measure => simp [intOf]; omega
    · obtain rfl : n = i := by omega
      have HA := Lib.hid (HI.out.mono (show n ≤ 302 from by omega))
      have FL := Lib.hid (HA.out.flush (by omega))
      go_wp2_with fail
      refine FL.out.mono ?_
      rintro e0 w2 ⟨rfl, F, nw, d2⟩
      have WT := Lib.hid d2.wait0
      have D2 := Lib.hid d2
      clear FL d2
      go_wp2_with fail
      refine WT.out.mono ?_
      rintro e0 w3 ⟨rfl, x3⟩
      have D3 := Lib.hid (((D2.out.ex' x3).add ((Ext.refl w3).alloc (.cells #[.string ⟨#[]⟩, .string ⟨#[]⟩, .string ⟨#[]⟩, .string ⟨#[]⟩, .string ⟨#[]⟩] 45)) (q := w3.heap.size) (Nat.le_refl _) (by simp)).sub (Y := fun b => b = w3.heap.size) (fun q e => .inr e))
      have HB3 := Lib.hid (And.intro (heap_alloc_new w3 (.cells #[.string ⟨#[]⟩, .string ⟨#[]⟩, .string ⟨#[]⟩, .string ⟨#[]⟩, .string ⟨#[]⟩] 45)) (show w.heap.size ≤ w3.heap.size from (D2.out.ex' x3).ext.size))
      clear WT x3
      go_upto_region 15 with (fail)
      generalize w3.alloc (.cells #[.string ⟨#[]⟩, .string ⟨#[]⟩, .string ⟨#[]⟩, .string ⟨#[]⟩, .string ⟨#[]⟩] 45) = V3 at *
      generalize w3.heap.size = wb at *
      go_wp2_with fail
      go_loopw [56] (fun v56 wr => ∃ j : Nat, v56 = .int .i64 (j : Int) ∧ j ≤ 5 ∧ Hid (DL w wr g (fun b => b = wb) 5 F [] nw false 302 ∧ ∃ cs : Array Value, wr.heap[wb]? = some (.cells cs 45 (0, 0)) ∧ cs.size = 5 ∧ ∀ i : Nat, i < j → cs[i]? = some (.string (str (F (i : Int)))))) (fun v56 _ => 5 - (intOf v56).toNat)
      case atStart => exact ⟨0, rfl, by omega, D3.out, _, HB3.out.1, rfl, fun i hi => by omega⟩
      case round =>
        obtain ⟨j, rfl, hj, HJ⟩ := hrel
        obtain ⟨U4, hU4⟩ : ∃ V : World, V = wr := ⟨_, rfl⟩
        subst hU4
        by_cases hj5 : j < 5
        · have RD := Lib.hid (HJ.out.1.read HE.out (by omega) (j : Int) (by omega) (by omega))
          obtain ⟨hD, cs, hcs, hsz, hcv⟩ := HJ.out
          have HC := Lib.hid (And.intro hcs (And.intro hsz hcv))
          have z0 : (0 : Int) ≤ j := by omega
          have z1 : (j : Int) < 5 := by omega
          clear hD hcs hsz hcv
          go_wp2_with fail
          refine RD.out.mono ?_
          rintro e0 w5 ⟨sb, rfl, r5, _, _, x5⟩
          have cv := strRun r5
          rw [readW_stays (fun x hx => by cases hx)] at cv
          have b5 := (x5.block wb (block_lt HC.out.1)).trans HC.out.1
          obtain ⟨u, hu⟩ : ∃ u, cs[j]? = some u := ⟨_, Array.getElem?_eq_getElem (by have := HC.out.2.1; omega)⟩
          have c5 : w5.cell? ⟨wb, j, none⟩ = some u := (block_cell b5 j).trans hu
          have f5 := block_fz b5 j
          have HN := Lib.hid (show DL w (w5.setCell ⟨wb, j, none⟩ (.string (str (F (j : Int))))) g (fun b => b = wb) 5 F [] nw false 302 ∧ ∃ cs : Array Value, (w5.setCell ⟨wb, j, none⟩ (.string (str (F (j : Int))))).heap[wb]? = some (.cells cs 45 (0, 0)) ∧ cs.size = 5 ∧ ∀ i : Nat, i < j + 1 → cs[i]? = some (.string (str (F (i : Int)))) from by
            refine ⟨(HJ.out.1.ex' x5).poke (Fr.store w5 ⟨wb, j, none⟩ _) rfl HB3.out.2, _, heap_setCell_same w5 wb j _ _ _ b5, by simp [HC.out.2.1], fun i hi => ?_⟩
            by_cases e : i = j
            · subst e
              rw [Array.getElem?_setIfInBounds_self_of_lt (by have := HC.out.2.1; omega)]
            · rw [Array.getElem?_setIfInBounds_ne (by omega)]
              exact HC.out.2.2 i (by omega))
          clear RD r5 x5 b5 hu
          go_wp2_with fail
          go_roundw
          case rel => exact ⟨j + 1, by go_num, by omega, HN.out⟩
          case measure => simp [intOf]; omega
        · obtain rfl : j = 5 := by omega
          have CR := Lib.hid (HJ.out.1.crash (by omega) kp HKP.out torn)
          obtain ⟨hD, cs, hcs, hsz, hcv⟩ := HJ.out
          have HC := Lib.hid (And.intro hcs (And.intro hsz hcv))
          clear hD hcs hsz hcv
          go_wp2_with fail
          refine CR.out.mono ?_
          rintro e0 w6 ⟨rfl, n6⟩
          have H6 := Lib.hid (And.intro (show DL w w6 g (fun b => b = wb) 5 F [] nw false 302 from n6.dl) ((n6.kp wb rfl).trans HC.out.1))
          clear CR n6
          go_wp2_with fail
          go_loopw [76] (fun v76 wr => ∃ j : Nat, v76 = .int .i64 (j : Int) ∧ j ≤ 5 ∧ Hid (Ext w6 wr)) (fun v76 _ => 5 - (intOf v76).toNat)
          case atStart => exact ⟨0, rfl, by omega, Ext.refl w6⟩
          case round =>
            obtain ⟨j, rfl, hj, HK⟩ := hrel
            obtain ⟨U7, hU7⟩ : ∃ V : World, V = wr := ⟨_, rfl⟩
            subst hU7
            by_cases hj5 : j < 5
            · have RD := Lib.hid ((H6.out.1.ex' HK.out).read HE.out (by omega) (j : Int) (by omega) (by omega))
              have z0 : (0 : Int) ≤ j := by omega
              have z1 : (j : Int) < 5 := by omega
              go_wp2_with fail
              refine RD.out.mono ?_
              rintro e0 w8 ⟨sb, rfl, r8, _, _, x8⟩
              have cv := fun q => strRun (r8.ext ((Ext.refl w8).drewN q))
              rw [readW_stays (fun x hx => by cases hx)] at cv
              have b8 := ((HK.out.trans x8).block wb (block_lt H6.out.2)).trans H6.out.2
              have c8 : w8.cell? ⟨wb, j, none⟩ = some (.string (str (F (j : Int)))) := (block_cell b8 j).trans (HC.out.2.2 j hj5)
              have HN := Lib.hid (fun q => (HK.out.trans x8).drewN q)
              clear RD r8 x8 b8
              go_wp2_with fail
              go_quiet (fail)
              go_wp2_with fail
              go_roundw
              case rel => exact ⟨j + 1, by go_num, by omega, HN.out _⟩
              case measure => simp [intOf]; omega
            · obtain rfl : j = 5 := by omega
              have HX := Lib.hid (H6.out.1.ex' HK.out).ext
              go_wp2_with fail
              go_returns
              exact ⟨rfl, HX.out⟩
end Go.Proofs.YtchkeclhnbekkaaDoor
