/-
  Package almonerlaw09: OrderAdds, walked.
-/
import Derived.Test.YteflnnlihblpgaaDoorMgOrderAddsProof16
namespace Go.Proofs.YteflnnlihblpgaaDoor
set_option maxRecDepth 100000
open Go.RowKit Go.Maps
set_option linter.unusedVariables false
set_option maxHeartbeats 6400000 in
theorem adds_any (A : Option Addr) (n c : Nat) (ss : List EnS) (w : World) (hs : Led w A n ss) (hn : n ≤ 1470000000000) (hb : ∀ s ∈ ss, I64 s.e.cl ∧ I64 s.e.nu) {pg pf : Addr} (hG : Sen w 0 pg) (hF : Sen w 4 pf) : Calls Tryd.prog 4 #[.slice A n c] w fun x w' => x = .returned (.bool true) ∧ Ext w w' := by
  have hsl := hs.len
  have HS := Lib.hid (fun W (hx : Ext w W) => And.intro (hs.ext hx) (And.intro (hG.ext hx) (hF.ext hx)))
  have HI64 := Lib.hid hb
  clear hs hb hG hF
  have CA := Lib.hid (alive_any w)
  go_enter Tryd.func4, Tryd.ntmps4
  go_upto_region 3 with (go_at_call 12; refine CA.out.mono ?_; rintro x w1 ⟨rfl, x1⟩)
  have o0 : OLed (w1.alloc (.cells #[] 29)) w1.heap.size (some ⟨w1.heap.size, 0, none⟩) 0 0 [] := ⟨World.ownsRow_lit (size := 10) _ #[] 0 (Nat.le_refl _) (by simp [maxLen]) rfl, by simp⟩
  have X2 := (Ext.refl w1).alloc (.cells #[] 29)
  have s2 : (w1.alloc (.cells #[] 29)).heap.size = w1.heap.size + 1 := World.size_alloc ..
  have H2 := Lib.hid (And.intro o0 (And.intro X2 (And.intro x1 s2)))
  clear o0 X2 x1 s2 CA
  go_upto_region 4 with (fail)
  generalize w1.alloc (.cells #[] 29) = w2 at *
  generalize hq1 : w1.heap.size = q1 at *
  have HQ := Lib.hid hq1
  clear hq1
  have rm : (Instr.makeMap 49 none).run Tryd.prog w2 = .ok (.map (some w2.heap.size)) (w2.alloc (.map #[] 0)) := by kernel_rfl
  have H3 := Lib.hid (And.intro (MapP.made Tryd.prog 50 w2) (And.intro ((Ext.refl w2).alloc (.map #[] 0)) (World.size_alloc w2 (.map #[] 0))))
  go_upto_region 5 with (fail)
  clear rm
  generalize w2.alloc (.map #[] 0) = w3 at *
  generalize hpb : w2.heap.size = pb at *
  have HPB := Lib.hid hpb
  clear hpb
  have rm : (Instr.makeMap 43 none).run Tryd.prog w3 = .ok (.map (some w3.heap.size)) (w3.alloc (.map #[] 0)) := by kernel_rfl
  have H4 := Lib.hid (And.intro (MapI.made Tryd.prog 3 w3) ((Ext.refl w3).alloc (.map #[] 0)))
  go_upto_region 6 with (fail)
  clear rm
  generalize w3.alloc (.map #[] 0) = w4 at *
  generalize hlb : w3.heap.size = lb at *
  have HLB := Lib.hid hlb
  clear hlb
  have H5 : Hid (AddsG w1 w4 pb lb 0 0 (some ⟨q1, 0, none⟩) 0 0 [] (valF (lastF (ents [])))) := Lib.hid ⟨by rw [HQ.out]; exact (H2.out.1.ext (H3.out.2.1)).ext H4.out.2, by omega, by simp, H3.out.1.ext H4.out.2, H4.out.1, by have := H3.out.2.2; have := HLB.out; omega, H2.out.2.1.trans (H3.out.2.1.trans H4.out.2), by have := H2.out.2.2.2; have := HPB.out; have := HQ.out; omega, by have := H2.out.2.2.2; have := HPB.out; have := HQ.out; have := HLB.out; have := H3.out.2.2; omega⟩
  have HW1 := Lib.hid H2.out.2.2.1
  clear H2 H3 H4 HPB HLB HQ
  go_wp2_with fail
  go_loopw [3, 6, 7, 8, 9, 10, 11, 12, 13, 14, 15, 30] (fun v3 _ _ _ _ _ _ _ _ _ _ v30 wr => ∃ (k : Nat) (B : Option Addr) (m d : Nat), v3 = .slice B m d ∧ v30 = .int .i64 (k : Int) ∧ k ≤ n ∧ m ≤ 64 ∧ Hid (∃ uu, AddsG w1 wr pb lb k k B m d uu (valF (lastF (ents uu))))) (fun _ _ _ _ _ _ _ _ _ _ _ v30 _ => n - (intOf v30).toNat)
  case atStart => exact ⟨0, _, 0, 0, rfl, rfl, by omega, by omega, Lib.hid ⟨[], H5.out⟩⟩
  case round =>
    obtain ⟨k, B, m, d, rfl, rfl, hk, hm64, HI⟩ := hrel
    clear H5
    obtain ⟨uu, HA⟩ := HI.out
    have HA := Lib.hid HA
    clear HI
    by_cases hlt : k < n
    · obtain ⟨x, hx⟩ : ∃ x, ss[k]? = some x := ⟨ss[k]'(by omega), List.getElem?_eq_getElem _⟩
      obtain ⟨k10, hk10⟩ : ∃ k10, k * 10 = k10 := ⟨_, rfl⟩
      obtain ⟨ad, rfl, y0, y1, y2, y3, y4, y5, y6, y7, y8, y9⟩ := (HS.out wr (HW1.out.trans HA.out.x)).1.entry hx hk10
      have k0 : (0 : Int) ≤ k := by omega
      have k1 : (k : Int) < n := by omega
      have XB := (Ext.refl wr).alloc (.cells #[.int .i64 x.e.cl, .int .i64 x.e.nu, .int .i64 x.e.kd, .int .i64 x.e.id, .int .i64 x.e.sk, .int .i64 x.e.sq, .int .i64 x.e.st, .int .i64 x.e.pol, .slice x.A x.n x.c, .int .i64 x.e.at_] 29)
      have HB := Lib.hid (And.intro (heap_alloc_new wr (.cells #[.int .i64 x.e.cl, .int .i64 x.e.nu, .int .i64 x.e.kd, .int .i64 x.e.id, .int .i64 x.e.sk, .int .i64 x.e.sq, .int .i64 x.e.st, .int .i64 x.e.pol, .slice x.A x.n x.c, .int .i64 x.e.at_] 29)) (And.intro (HA.out.ext XB) (HI64.out x (List.mem_of_getElem? hx))))
      have HTB := Lib.hid (And.intro HA.out.pl.lt HA.out.la.lt)
      have HLx := Lib.hid (((HS.out wr (HW1.out.trans HA.out.x)).1.all x (List.mem_of_getElem? hx)).ext XB)
      clear hx XB HA
      go_upto_region 9 with (fail)
      clear y0 y1 y2 y3 y4 y5 y6 y7 y8 y9
      generalize wr.alloc (.cells #[.int .i64 x.e.cl, .int .i64 x.e.nu, .int .i64 x.e.kd, .int .i64 x.e.id, .int .i64 x.e.sk, .int .i64 x.e.sq, .int .i64 x.e.st, .int .i64 x.e.pol, .slice x.A x.n x.c, .int .i64 x.e.at_] 29) = U at *
      generalize wr.heap.size = tb at *
      have c0 : ∀ W, Ext U W → W.cell? ⟨tb, 0, none⟩ = some (.int .i64 x.e.cl) := fun W hx => block_cell ((hx.block _ (block_lt (HB.out.1))).trans (HB.out.1)) 0
      have c1 : ∀ W, Ext U W → W.cell? ⟨tb, 1, none⟩ = some (.int .i64 x.e.nu) := fun W hx => block_cell ((hx.block _ (block_lt (HB.out.1))).trans (HB.out.1)) 1
      have c2 : ∀ W, Ext U W → W.cell? ⟨tb, 2, none⟩ = some (.int .i64 x.e.kd) := fun W hx => block_cell ((hx.block _ (block_lt (HB.out.1))).trans (HB.out.1)) 2
      have c3 : ∀ W, Ext U W → W.cell? ⟨tb, 3, none⟩ = some (.int .i64 x.e.id) := fun W hx => block_cell ((hx.block _ (block_lt (HB.out.1))).trans (HB.out.1)) 3
      have c4 : ∀ W, Ext U W → W.cell? ⟨tb, 4, none⟩ = some (.int .i64 x.e.sk) := fun W hx => block_cell ((hx.block _ (block_lt (HB.out.1))).trans (HB.out.1)) 4
      have c5 : ∀ W, Ext U W → W.cell? ⟨tb, 5, none⟩ = some (.int .i64 x.e.sq) := fun W hx => block_cell ((hx.block _ (block_lt (HB.out.1))).trans (HB.out.1)) 5
      have c6 : ∀ W, Ext U W → W.cell? ⟨tb, 6, none⟩ = some (.int .i64 x.e.st) := fun W hx => block_cell ((hx.block _ (block_lt (HB.out.1))).trans (HB.out.1)) 6
      have c7 : ∀ W, Ext U W → W.cell? ⟨tb, 7, none⟩ = some (.int .i64 x.e.pol) := fun W hx => block_cell ((hx.block _ (block_lt (HB.out.1))).trans (HB.out.1)) 7
      have c8 : ∀ W, Ext U W → W.cell? ⟨tb, 8, none⟩ = some (.slice x.A x.n x.c) := fun W hx => block_cell ((hx.block _ (block_lt (HB.out.1))).trans (HB.out.1)) 8
      have c9 : ∀ W, Ext U W → W.cell? ⟨tb, 9, none⟩ = some (.int .i64 x.e.at_) := fun W hx => block_cell ((hx.block _ (block_lt (HB.out.1))).trans (HB.out.1)) 9
      have HSW := Lib.hid (fun W' (hx : Ext U W') => HS.out W' (HW1.out.trans (HB.out.2.1.x.trans hx)))
      have XW := Ext.refl U
      by_cases h100 : k ≤ 100
      · have kk : ¬ (100 : Int) < k := by omega
        go_upto_region 10 with (fail)
        clear kk
        by_cases h0 : placeL (ents uu) x.e.cl x.e.nu = 0
        · by_cases h64 : m < 64
          · obtain ⟨m1, hm1⟩ : ∃ m1, m + 1 = m1 := ⟨_, rfl⟩
            have CD := Lib.hid (add_new B m d uu x U HB.out.2.1.led.led HLx.out (by omega) h0 h64 (HSW.out U XW).2.1)
            rw [hm1] at CD
            have HM1 := Lib.hid hm1
            have hm1i : (m : Int) + 1 = (m1 : Int) := by omega
            have hm1b : m1 ≤ 64 := by omega
            have HP := Lib.hid (And.intro h0 h64)
            clear h0 hm1
            go_upto_region 11 with (go_at_call 14; refine CD.out.mono ?_; rintro _ w3 ⟨B2, d2, vv, rfl, hvv, o2, x3⟩)
            have HO := Lib.hid (And.intro hvv (And.intro o2 x3))
            have HLO := Lib.hid HB.out.2.1.x.size
            clear hvv o2
            have XB2 := (Ext.refl w3).alloc (.cells #[.int .i64 x.e.cl, .int .i64 x.e.nu] 50)
            have HB2 := Lib.hid (And.intro (heap_alloc_new w3 (.cells #[.int .i64 x.e.cl, .int .i64 x.e.nu] 50)) (And.intro (x3.trans XB2) XB2))
            clear XB2 CD
            go_upto_region 14 with (fail)
            generalize w3.alloc (.cells #[.int .i64 x.e.cl, .int .i64 x.e.nu] 50) = V at *
            generalize w3.heap.size = kb_ at *
            have XV := Ext.refl V
            have e0 : ∀ W, Ext V W → W.cell? ⟨kb_, 0, none⟩ = some (.int .i64 x.e.cl) := fun W hx => block_cell ((hx.block _ (block_lt HB2.out.1)).trans HB2.out.1) 0
            have e1 : ∀ W, Ext V W → W.cell? ⟨kb_, 1, none⟩ = some (.int .i64 x.e.nu) := fun W hx => block_cell ((hx.block _ (block_lt HB2.out.1)).trans HB2.out.1) 1
            have f0 : ∀ W, Ext V W → W.cell? ⟨tb, 0, none⟩ = some (.int .i64 x.e.cl) := fun W hx => block_cell ((hx.block _ (block_lt (((HB2.out.2.1.block _ (block_lt HB.out.1)).trans HB.out.1)))).trans (((HB2.out.2.1.block _ (block_lt HB.out.1)).trans HB.out.1))) 0
            have f1 : ∀ W, Ext V W → W.cell? ⟨tb, 1, none⟩ = some (.int .i64 x.e.nu) := fun W hx => block_cell ((hx.block _ (block_lt (((HB2.out.2.1.block _ (block_lt HB.out.1)).trans HB.out.1)))).trans (((HB2.out.2.1.block _ (block_lt HB.out.1)).trans HB.out.1))) 1
            have f2 : ∀ W, Ext V W → W.cell? ⟨tb, 2, none⟩ = some (.int .i64 x.e.kd) := fun W hx => block_cell ((hx.block _ (block_lt (((HB2.out.2.1.block _ (block_lt HB.out.1)).trans HB.out.1)))).trans (((HB2.out.2.1.block _ (block_lt HB.out.1)).trans HB.out.1))) 2
            have f3 : ∀ W, Ext V W → W.cell? ⟨tb, 3, none⟩ = some (.int .i64 x.e.id) := fun W hx => block_cell ((hx.block _ (block_lt (((HB2.out.2.1.block _ (block_lt HB.out.1)).trans HB.out.1)))).trans (((HB2.out.2.1.block _ (block_lt HB.out.1)).trans HB.out.1))) 3
            have f4 : ∀ W, Ext V W → W.cell? ⟨tb, 4, none⟩ = some (.int .i64 x.e.sk) := fun W hx => block_cell ((hx.block _ (block_lt (((HB2.out.2.1.block _ (block_lt HB.out.1)).trans HB.out.1)))).trans (((HB2.out.2.1.block _ (block_lt HB.out.1)).trans HB.out.1))) 4
            have f5 : ∀ W, Ext V W → W.cell? ⟨tb, 5, none⟩ = some (.int .i64 x.e.sq) := fun W hx => block_cell ((hx.block _ (block_lt (((HB2.out.2.1.block _ (block_lt HB.out.1)).trans HB.out.1)))).trans (((HB2.out.2.1.block _ (block_lt HB.out.1)).trans HB.out.1))) 5
            have f6 : ∀ W, Ext V W → W.cell? ⟨tb, 6, none⟩ = some (.int .i64 x.e.st) := fun W hx => block_cell ((hx.block _ (block_lt (((HB2.out.2.1.block _ (block_lt HB.out.1)).trans HB.out.1)))).trans (((HB2.out.2.1.block _ (block_lt HB.out.1)).trans HB.out.1))) 6
            have f7 : ∀ W, Ext V W → W.cell? ⟨tb, 7, none⟩ = some (.int .i64 x.e.pol) := fun W hx => block_cell ((hx.block _ (block_lt (((HB2.out.2.1.block _ (block_lt HB.out.1)).trans HB.out.1)))).trans (((HB2.out.2.1.block _ (block_lt HB.out.1)).trans HB.out.1))) 7
            have f8 : ∀ W, Ext V W → W.cell? ⟨tb, 8, none⟩ = some (.slice x.A x.n x.c) := fun W hx => block_cell ((hx.block _ (block_lt (((HB2.out.2.1.block _ (block_lt HB.out.1)).trans HB.out.1)))).trans (((HB2.out.2.1.block _ (block_lt HB.out.1)).trans HB.out.1))) 8
            have f9 : ∀ W, Ext V W → W.cell? ⟨tb, 9, none⟩ = some (.int .i64 x.e.at_) := fun W hx => block_cell ((hx.block _ (block_lt (((HB2.out.2.1.block _ (block_lt HB.out.1)).trans HB.out.1)))).trans (((HB2.out.2.1.block _ (block_lt HB.out.1)).trans HB.out.1))) 9
            clear c0 c1 c2 c3 c4 c5 c6 c7 c8 c9
            have SG := Lib.hid (HB.out.2.1.ext HB2.out.2.1)
            have LK := SG.out.pl.at_ok pair_key Tryd.underlying49 (zeroInt V) HB.out.2.2.1 HB.out.2.2.2
            rw [placeV_gone HP.out.1] at LK
            simp only [Option.getD_none, Option.isSome_none] at LK
            have CB := Lib.hid (begins_any B m d uu B2 m1 d2 vv V SG.out.led.led (HO.out.2.1.led.ext HB2.out.2.2) HO.out.2.1.own.cap_le (by omega) true (Lib.hid (by rw [HO.out.1]; simp [begB])))
            have hmx : max (m : Int) (m1 : Int) = (m1 : Int) := by omega
            go_upto_region 17 with (go_at_call 20; refine CB.out.mono ?_; rintro _ w5 ⟨rfl, x5⟩)
            have HV5 := Lib.hid (And.intro x5 (SG.out.ext x5))
            obtain ⟨w6, hst, M6, f6⟩ := HV5.out.2.pl.store pair_key Tryd.underlying49 (by omega) HB.out.2.2.1 HB.out.2.2.2 (.int .i64 m1)
            have HO5 := Lib.hid (HO.out.2.1.ext (HB2.out.2.2.trans x5))
            have S6 := HV5.out.2.new HP.out.2 HB.out.2.2 HO.out.1 (by rw [HM1.out]; exact HO5.out.base_mono HLO.out) HP.out.1 (by rw [HM1.out]; exact M6) f6
            have HK6 := Lib.hid ((f6.block tb (Nat.lt_of_lt_of_le (block_lt HB.out.1) (HB2.out.2.1.trans x5).size) (fun e => by have e : tb = pb := e; have := HTB.out.1; omega)).trans (((HB2.out.2.1.trans x5).block _ (block_lt HB.out.1)).trans HB.out.1))
            have H6 := Lib.hid S6
            clear S6 f6 M6 LK CB hmx
            have g0 : w6.cell? ⟨tb, 0, none⟩ = some (.int .i64 x.e.cl) := block_cell (HK6.out) 0
            have g1 : w6.cell? ⟨tb, 1, none⟩ = some (.int .i64 x.e.nu) := block_cell (HK6.out) 1
            have g2 : w6.cell? ⟨tb, 2, none⟩ = some (.int .i64 x.e.kd) := block_cell (HK6.out) 2
            have g3 : w6.cell? ⟨tb, 3, none⟩ = some (.int .i64 x.e.id) := block_cell (HK6.out) 3
            have g4 : w6.cell? ⟨tb, 4, none⟩ = some (.int .i64 x.e.sk) := block_cell (HK6.out) 4
            have g5 : w6.cell? ⟨tb, 5, none⟩ = some (.int .i64 x.e.sq) := block_cell (HK6.out) 5
            have g6 : w6.cell? ⟨tb, 6, none⟩ = some (.int .i64 x.e.st) := block_cell (HK6.out) 6
            have g7 : w6.cell? ⟨tb, 7, none⟩ = some (.int .i64 x.e.pol) := block_cell (HK6.out) 7
            have g8 : w6.cell? ⟨tb, 8, none⟩ = some (.slice x.A x.n x.c) := block_cell (HK6.out) 8
            have g9 : w6.cell? ⟨tb, 9, none⟩ = some (.int .i64 x.e.at_) := block_cell (HK6.out) 9
            obtain ⟨gg, hgg⟩ : ∃ gg, lastF (ents uu) x.e.cl = gg := ⟨_, rfl⟩
            have LK2 := H6.out.la.at_ok Tryd.underlying43 Tryd.underlying3 (zeroInt w6) HB.out.2.2.1
            rw [show valF (lastF (ents uu)) x.e.cl = gg.map (.int .i64) by rw [← hgg]; rfl] at LK2
            have HGG := Lib.hid hgg
            clear hgg
            cases gg with
            | none =>
              simp only [Option.map_none, Option.getD_none, Option.isSome_none] at LK2
              obtain ⟨w7, hst7, M7, f7⟩ := H6.out.la.store Tryd.underlying43 Tryd.underlying3 (by omega) HB.out.2.2.1 (.int .i64 x.e.nu)
              have H7 := Lib.hid (H6.out.last M7 f7)
              clear M7 f7
              go_wp2_with fail
              go_roundw
              case rel => exact ⟨k + 1, _, _, _, rfl, by go_num, by omega, by have := HM1.out; have := HP.out.2; omega, Lib.hid ⟨vv, by rw [HO.out.1, ← valF_put (.inl HGG.out), ← HM1.out]; exact H7.out⟩⟩
              case measure => simp [intOf]; omega
            | some mm =>
              simp only [Option.map_some, Option.getD_some, Option.isSome_some] at LK2
              by_cases hmm : mm < x.e.nu
              · have HMM := Lib.hid hmm
                obtain ⟨w7, hst7, M7, f7⟩ := H6.out.la.store Tryd.underlying43 Tryd.underlying3 (by omega) HB.out.2.2.1 (.int .i64 x.e.nu)
                have H7 := Lib.hid (H6.out.last M7 f7)
                clear M7 f7
                go_wp2_with fail
                go_roundw
                case rel => exact ⟨k + 1, _, _, _, rfl, by go_num, by omega, by have := HM1.out; have := HP.out.2; omega, Lib.hid ⟨vv, by rw [HO.out.1, ← valF_put (.inr ⟨mm, HGG.out, HMM.out⟩), ← HM1.out]; exact H7.out⟩⟩
                case measure => simp [intOf]; omega
              · have HMM := Lib.hid hmm
                go_wp2_with fail
                go_roundw
                case rel => exact ⟨k + 1, _, _, _, rfl, by go_num, by omega, by have := HM1.out; have := HP.out.2; omega, Lib.hid ⟨vv, by rw [HO.out.1, valF_keep HGG.out HMM.out, ← HM1.out]; exact H6.out.keep (by omega) rfl⟩⟩
                case measure => simp [intOf]; omega
          · have CD := Lib.hid (add_full B m d uu x U HB.out.2.1.led.led HLx.out (by omega) h0 (by omega) (HSW.out U XW).2.1 (HSW.out U XW).2.2)
            have h65 : (64 : Int) ≤ m := by omega
            clear h0
            go_wp2_with (go_at_call 14; refine CD.out.mono ?_; rintro _ w3 ⟨rfl, x3⟩)
            go_returns
            exact ⟨rfl, HW1.out.trans (HB.out.2.1.x.trans x3)⟩
        · obtain ⟨p, hp⟩ : ∃ p, placeL (ents uu) x.e.cl x.e.nu = p + 1 := ⟨_, (Nat.sub_add_cancel (by omega)).symm⟩
          obtain ⟨P, hP⟩ : ∃ P, ((p + 1 : Nat) : Int) = P := ⟨_, rfl⟩
          have CD := Lib.hid (add_there B m d uu x U HB.out.2.1.led.led HLx.out (by omega) p hp)
          rw [hP] at CD
          have hpm : P ≤ m ∧ 1 ≤ P := by have h1 := placeL_le (c := x.e.cl) (n := x.e.nu) (ents uu); have h2 := HB.out.2.1.elen; omega
          have HP := Lib.hid hp
          clear hp h0
          go_upto_region 11 with (go_at_call 14; refine CD.out.mono ?_; rintro _ w3 ⟨B2, d2, vv, rfl, hvv, o2, x3⟩)
          have HO := Lib.hid (And.intro hvv (And.intro o2 x3))
          have HLO := Lib.hid HB.out.2.1.x.size
          clear hvv o2
          have XB2 := (Ext.refl w3).alloc (.cells #[.int .i64 x.e.cl, .int .i64 x.e.nu] 50)
          have HB2 := Lib.hid (And.intro (heap_alloc_new w3 (.cells #[.int .i64 x.e.cl, .int .i64 x.e.nu] 50)) (And.intro (x3.trans XB2) XB2))
          clear XB2 CD
          go_upto_region 14 with (fail)
          generalize w3.alloc (.cells #[.int .i64 x.e.cl, .int .i64 x.e.nu] 50) = V at *
          generalize w3.heap.size = kb_ at *
          have XV := Ext.refl V
          have e0 : ∀ W, Ext V W → W.cell? ⟨kb_, 0, none⟩ = some (.int .i64 x.e.cl) := fun W hx => block_cell ((hx.block _ (block_lt HB2.out.1)).trans HB2.out.1) 0
          have e1 : ∀ W, Ext V W → W.cell? ⟨kb_, 1, none⟩ = some (.int .i64 x.e.nu) := fun W hx => block_cell ((hx.block _ (block_lt HB2.out.1)).trans HB2.out.1) 1
          have f0 : ∀ W, Ext V W → W.cell? ⟨tb, 0, none⟩ = some (.int .i64 x.e.cl) := fun W hx => block_cell ((hx.block _ (block_lt (((HB2.out.2.1.block _ (block_lt HB.out.1)).trans HB.out.1)))).trans (((HB2.out.2.1.block _ (block_lt HB.out.1)).trans HB.out.1))) 0
          have f1 : ∀ W, Ext V W → W.cell? ⟨tb, 1, none⟩ = some (.int .i64 x.e.nu) := fun W hx => block_cell ((hx.block _ (block_lt (((HB2.out.2.1.block _ (block_lt HB.out.1)).trans HB.out.1)))).trans (((HB2.out.2.1.block _ (block_lt HB.out.1)).trans HB.out.1))) 1
          have f2 : ∀ W, Ext V W → W.cell? ⟨tb, 2, none⟩ = some (.int .i64 x.e.kd) := fun W hx => block_cell ((hx.block _ (block_lt (((HB2.out.2.1.block _ (block_lt HB.out.1)).trans HB.out.1)))).trans (((HB2.out.2.1.block _ (block_lt HB.out.1)).trans HB.out.1))) 2
          have f3 : ∀ W, Ext V W → W.cell? ⟨tb, 3, none⟩ = some (.int .i64 x.e.id) := fun W hx => block_cell ((hx.block _ (block_lt (((HB2.out.2.1.block _ (block_lt HB.out.1)).trans HB.out.1)))).trans (((HB2.out.2.1.block _ (block_lt HB.out.1)).trans HB.out.1))) 3
          have f4 : ∀ W, Ext V W → W.cell? ⟨tb, 4, none⟩ = some (.int .i64 x.e.sk) := fun W hx => block_cell ((hx.block _ (block_lt (((HB2.out.2.1.block _ (block_lt HB.out.1)).trans HB.out.1)))).trans (((HB2.out.2.1.block _ (block_lt HB.out.1)).trans HB.out.1))) 4
          have f5 : ∀ W, Ext V W → W.cell? ⟨tb, 5, none⟩ = some (.int .i64 x.e.sq) := fun W hx => block_cell ((hx.block _ (block_lt (((HB2.out.2.1.block _ (block_lt HB.out.1)).trans HB.out.1)))).trans (((HB2.out.2.1.block _ (block_lt HB.out.1)).trans HB.out.1))) 5
          have f6 : ∀ W, Ext V W → W.cell? ⟨tb, 6, none⟩ = some (.int .i64 x.e.st) := fun W hx => block_cell ((hx.block _ (block_lt (((HB2.out.2.1.block _ (block_lt HB.out.1)).trans HB.out.1)))).trans (((HB2.out.2.1.block _ (block_lt HB.out.1)).trans HB.out.1))) 6
          have f7 : ∀ W, Ext V W → W.cell? ⟨tb, 7, none⟩ = some (.int .i64 x.e.pol) := fun W hx => block_cell ((hx.block _ (block_lt (((HB2.out.2.1.block _ (block_lt HB.out.1)).trans HB.out.1)))).trans (((HB2.out.2.1.block _ (block_lt HB.out.1)).trans HB.out.1))) 7
          have f8 : ∀ W, Ext V W → W.cell? ⟨tb, 8, none⟩ = some (.slice x.A x.n x.c) := fun W hx => block_cell ((hx.block _ (block_lt (((HB2.out.2.1.block _ (block_lt HB.out.1)).trans HB.out.1)))).trans (((HB2.out.2.1.block _ (block_lt HB.out.1)).trans HB.out.1))) 8
          have f9 : ∀ W, Ext V W → W.cell? ⟨tb, 9, none⟩ = some (.int .i64 x.e.at_) := fun W hx => block_cell ((hx.block _ (block_lt (((HB2.out.2.1.block _ (block_lt HB.out.1)).trans HB.out.1)))).trans (((HB2.out.2.1.block _ (block_lt HB.out.1)).trans HB.out.1))) 9
          clear c0 c1 c2 c3 c4 c5 c6 c7 c8 c9
          have SG := Lib.hid (HB.out.2.1.ext HB2.out.2.1)
          have LK := SG.out.pl.at_ok pair_key Tryd.underlying49 (zeroInt V) HB.out.2.2.1 HB.out.2.2.2
          rw [placeV_there HP.out] at LK
          simp only [Option.getD_some, Option.isSome_some] at LK
          rw [hP] at LK
          have CB := Lib.hid (begins_any B m d uu B2 m d2 vv V SG.out.led.led (HO.out.2.1.led.ext HB2.out.2.2) HO.out.2.1.own.cap_le (by omega) true (Lib.hid (by rw [HO.out.1]; simp [begB])))
          have HP2 := Lib.hid hP
          clear hP
          have hmx : max (m : Int) P = (m : Int) := by omega
          go_upto_region 17 with (go_at_call 20; refine CB.out.mono ?_; rintro _ w5 ⟨rfl, x5⟩)
          have HV5 := Lib.hid (And.intro x5 (SG.out.ext x5))
          obtain ⟨w6, hst, M6, f6⟩ := HV5.out.2.pl.store pair_key Tryd.underlying49 (by omega) HB.out.2.2.1 HB.out.2.2.2 (.int .i64 P)
          have HO5 := Lib.hid (HO.out.2.1.ext (HB2.out.2.2.trans x5))
          have S6 := HV5.out.2.there HO.out.1 (HO5.out.base_mono HLO.out) (placeV_there HP.out) (by rw [HP2.out]; exact M6) f6
          have HK6 := Lib.hid ((f6.block tb (Nat.lt_of_lt_of_le (block_lt HB.out.1) (HB2.out.2.1.trans x5).size) (fun e => by have e : tb = pb := e; have := HTB.out.1; omega)).trans (((HB2.out.2.1.trans x5).block _ (block_lt HB.out.1)).trans HB.out.1))
          have H6 := Lib.hid S6
          clear S6 f6 M6 LK CB hmx
          have g0 : w6.cell? ⟨tb, 0, none⟩ = some (.int .i64 x.e.cl) := block_cell (HK6.out) 0
          have g1 : w6.cell? ⟨tb, 1, none⟩ = some (.int .i64 x.e.nu) := block_cell (HK6.out) 1
          have g2 : w6.cell? ⟨tb, 2, none⟩ = some (.int .i64 x.e.kd) := block_cell (HK6.out) 2
          have g3 : w6.cell? ⟨tb, 3, none⟩ = some (.int .i64 x.e.id) := block_cell (HK6.out) 3
          have g4 : w6.cell? ⟨tb, 4, none⟩ = some (.int .i64 x.e.sk) := block_cell (HK6.out) 4
          have g5 : w6.cell? ⟨tb, 5, none⟩ = some (.int .i64 x.e.sq) := block_cell (HK6.out) 5
          have g6 : w6.cell? ⟨tb, 6, none⟩ = some (.int .i64 x.e.st) := block_cell (HK6.out) 6
          have g7 : w6.cell? ⟨tb, 7, none⟩ = some (.int .i64 x.e.pol) := block_cell (HK6.out) 7
          have g8 : w6.cell? ⟨tb, 8, none⟩ = some (.slice x.A x.n x.c) := block_cell (HK6.out) 8
          have g9 : w6.cell? ⟨tb, 9, none⟩ = some (.int .i64 x.e.at_) := block_cell (HK6.out) 9
          obtain ⟨gg, hgg⟩ : ∃ gg, lastF (ents uu) x.e.cl = gg := ⟨_, rfl⟩
          have LK2 := H6.out.la.at_ok Tryd.underlying43 Tryd.underlying3 (zeroInt w6) HB.out.2.2.1
          rw [show valF (lastF (ents uu)) x.e.cl = gg.map (.int .i64) by rw [← hgg]; rfl] at LK2
          obtain ⟨mm, hmm, hle⟩ := lastF_there HP.out
          obtain rfl : some mm = gg := hmm.symm.trans hgg
          have nl : ¬ mm < x.e.nu := by omega
          simp only [Option.map_some, Option.getD_some, Option.isSome_some] at LK2
          clear hgg hmm hle
          go_wp2_with fail
          go_roundw
          case rel => exact ⟨k + 1, _, _, _, rfl, by go_num, by omega, by omega, Lib.hid ⟨vv, (by rw [HO.out.1]; exact H6.out.keep (by omega) rfl)⟩⟩
          case measure => simp [intOf]; omega
      · have kk : (100 : Int) < k := by omega
        go_upto_region 23 with (fail)
        as_aux_lemma =>
        have HS_ := Lib.hid (HB.out.2.1)
        have CL := Lib.hid (last_any B m d uu U HS_.out.led.led (by omega) HS_.out.i64)
        go_upto_region 24 with (go_at_call 22; refine CL.out.mono ?_; rintro _ w7 ⟨gb, rfl, hgb, hgm, x7⟩)
        have SS := Lib.hid (And.intro (HS_.out.ext x7) hgm)
        obtain ⟨K, l1, l2⟩ := hgm.len2 SS.out.1.la Tryd.underlying43 Tryd.underlying3
        obtain ⟨wi, cnt, hrun, hmr, xi⟩ := SS.out.1.la.range Tryd.underlying43 Tryd.underlying3
        have HR := Lib.hid (And.intro hmr xi)
        clear hmr xi hgm hgb CL x7
        go_wp2_with fail
        obtain ⟨ri, hri⟩ : ∃ ri, w7.heap.size = ri := ⟨_, rfl⟩
        rw [hri] at HR
        simp only [hri]
        have HRI := Lib.hid hri
        clear hri hrun l1 l2
        go_loopw [17, 18] (fun _ _ wz => ∃ cnt : Nat, Hid (MapR Tryd.prog 3 wz lb ri k (valF (lastF (ents uu))) cnt ∧ Ext w7 wz)) (fun _ _ wz => wz.rangeLeft lb ri)
        case atStart => exact ⟨cnt, HR⟩
        case round =>
          obtain ⟨cz, HI⟩ := hrel
          clear HR
          rcases HI.out.1.next Tryd.underlying3 0 with hnx | ⟨x, v, wn, cn, hf, hnx, hmr, hlt, hfr, hen, b1, b2⟩
          rotate_left 1
          · obtain ⟨mx, hmx, rfl⟩ : ∃ mx, lastF (ents uu) x = some mx ∧ .int .i64 mx = v := by
              unfold valF at hf
              exact Option.map_eq_some_iff.1 hf
            have XN := Fr.ext HI.out.2 hfr (fun i e => by have e : i = ri := e; have := HRI.out; omega)
            have LK := (SS.out.2.ext XN).at_ Tryd.underlying43 Tryd.underlying3 (zeroInt wn) ⟨b1, b2⟩
            rw [show (valF (lastF (ents uu)) x).getD (.int .i64 0) = .int .i64 mx by unfold valF; rw [hmx]; rfl] at LK
            have HN := Lib.hid (And.intro hmr (And.intro XN hlt))
            clear hf hmr hlt hfr XN hmx b1 b2
            go_wp2_with fail
            go_roundw
            case rel => exact ⟨cn, Lib.hid ⟨HN.out.1, HN.out.2.1⟩⟩
            case measure => rw [HN.out.1.left_eq, HI.out.1.left_eq]; exact HN.out.2.2
          · have SZ := Lib.hid (SS.out.1.ext HI.out.2)
            obtain ⟨wi2, cnt2, hrun2, hmr2, xi2⟩ := SZ.out.pl.range pair_key Tryd.underlying49
            have HR2 := Lib.hid (And.intro hmr2 (HI.out.2.trans xi2))
            have hr2lo := HI.out.2.size
            clear hmr2 xi2 HI
            go_wp2_with fail
            obtain ⟨r2, hr2⟩ : ∃ r2, wr.heap.size = r2 := ⟨_, rfl⟩
            rw [hr2] at HR2
            simp only [hr2]
            have HRJ : Hid (w7.heap.size ≤ r2) := Lib.hid (by omega)
            clear hr2 hr2lo hrun2
            go_loopw [19, 20, 21, 22] (fun _ _ _ _ wy => ∃ cnt : Nat, Hid (MapPR Tryd.prog 50 wy pb r2 k (placeV (ents uu)) cnt ∧ Ext w7 wy)) (fun _ _ _ _ wy => wy.rangeLeft pb r2)
            case atStart => exact ⟨cnt2, HR2⟩
            case round =>
              obtain ⟨cy, HI⟩ := hrel
              clear HR2
              rcases HI.out.1.next pair_key 0 with hnx2 | ⟨x, y, v, wn, cn, hf, hnx2, hmr, hlt, hfr, hen, b1, b2⟩
              rotate_left 1
              · obtain ⟨p, hp, rfl⟩ := placeV_some hf
                have XN := Fr.ext HI.out.2 hfr (fun i e => by have e : i = r2 := e; have := HRJ.out; omega)
                have XB := (Ext.refl wn).alloc (.cells #[.int .i64 x, .int .i64 y] 50)
                have HN := Lib.hid (And.intro (hmr.ext XB) (And.intro (XN.trans XB) (And.intro hlt (heap_alloc_new wn (.cells #[.int .i64 x, .int .i64 y] 50)))))
                clear hmr hlt hfr XN XB b1 b2 hf
                go_upto_region 34 with (fail)
                generalize wn.alloc (.cells #[.int .i64 x, .int .i64 y] 50) = Y at *
                generalize wn.heap.size = yb at *
                have e0 : Y.cell? ⟨yb, 0, none⟩ = some (.int .i64 x) := block_cell HN.out.2.2.2 0
                have e1 : Y.cell? ⟨yb, 1, none⟩ = some (.int .i64 y) := block_cell HN.out.2.2.2 1
                have CPl := Lib.hid (place_ok B m d uu Y x y (SS.out.1.led.led.ext HN.out.2.1) (by omega) p hp)
                clear hp
                go_wp2_with (go_at_call 18; refine CPl.out.mono ?_; rintro _ w13 ⟨rfl, x13⟩)
                go_roundw
                case rel => exact ⟨cn, Lib.hid ⟨HN.out.1.ext x13, HN.out.2.1.trans x13⟩⟩
                case measure => rw [(HN.out.1.ext x13).left_eq, HI.out.1.left_eq]; exact HN.out.2.2.1
              · go_wp2_with fail
                go_returns
                exact ⟨rfl, HW1.out.trans (SS.out.1.x.trans HI.out.2)⟩
    · obtain rfl : n = k := by omega
      go_upto_region 23 with (fail)
      as_aux_lemma =>
      have HS_ := Lib.hid (HA.out)
      have CL := Lib.hid (last_any B m d uu wr HS_.out.led.led (by omega) HS_.out.i64)
      go_upto_region 24 with (go_at_call 22; refine CL.out.mono ?_; rintro _ w7 ⟨gb, rfl, hgb, hgm, x7⟩)
      have SS := Lib.hid (And.intro (HS_.out.ext x7) hgm)
      obtain ⟨K, l1, l2⟩ := hgm.len2 SS.out.1.la Tryd.underlying43 Tryd.underlying3
      obtain ⟨wi, cnt, hrun, hmr, xi⟩ := SS.out.1.la.range Tryd.underlying43 Tryd.underlying3
      have HR := Lib.hid (And.intro hmr xi)
      clear hmr xi hgm hgb CL x7
      go_wp2_with fail
      obtain ⟨ri, hri⟩ : ∃ ri, w7.heap.size = ri := ⟨_, rfl⟩
      rw [hri] at HR
      simp only [hri]
      have HRI := Lib.hid hri
      clear hri hrun l1 l2
      go_loopw [17, 18] (fun _ _ wz => ∃ cnt : Nat, Hid (MapR Tryd.prog 3 wz lb ri n (valF (lastF (ents uu))) cnt ∧ Ext w7 wz)) (fun _ _ wz => wz.rangeLeft lb ri)
      case atStart => exact ⟨cnt, HR⟩
      case round =>
        obtain ⟨cz, HI⟩ := hrel
        clear HR
        rcases HI.out.1.next Tryd.underlying3 0 with hnx | ⟨x, v, wn, cn, hf, hnx, hmr, hlt, hfr, hen, b1, b2⟩
        rotate_left 1
        · obtain ⟨mx, hmx, rfl⟩ : ∃ mx, lastF (ents uu) x = some mx ∧ .int .i64 mx = v := by
            unfold valF at hf
            exact Option.map_eq_some_iff.1 hf
          have XN := Fr.ext HI.out.2 hfr (fun i e => by have e : i = ri := e; have := HRI.out; omega)
          have LK := (SS.out.2.ext XN).at_ Tryd.underlying43 Tryd.underlying3 (zeroInt wn) ⟨b1, b2⟩
          rw [show (valF (lastF (ents uu)) x).getD (.int .i64 0) = .int .i64 mx by unfold valF; rw [hmx]; rfl] at LK
          have HN := Lib.hid (And.intro hmr (And.intro XN hlt))
          clear hf hmr hlt hfr XN hmx b1 b2
          go_wp2_with fail
          go_roundw
          case rel => exact ⟨cn, Lib.hid ⟨HN.out.1, HN.out.2.1⟩⟩
          case measure => rw [HN.out.1.left_eq, HI.out.1.left_eq]; exact HN.out.2.2
        · have SZ := Lib.hid (SS.out.1.ext HI.out.2)
          obtain ⟨wi2, cnt2, hrun2, hmr2, xi2⟩ := SZ.out.pl.range pair_key Tryd.underlying49
          have HR2 := Lib.hid (And.intro hmr2 (HI.out.2.trans xi2))
          have hr2lo := HI.out.2.size
          clear hmr2 xi2 HI
          go_wp2_with fail
          obtain ⟨r2, hr2⟩ : ∃ r2, wr.heap.size = r2 := ⟨_, rfl⟩
          rw [hr2] at HR2
          simp only [hr2]
          have HRJ : Hid (w7.heap.size ≤ r2) := Lib.hid (by omega)
          clear hr2 hr2lo hrun2
          go_loopw [19, 20, 21, 22] (fun _ _ _ _ wy => ∃ cnt : Nat, Hid (MapPR Tryd.prog 50 wy pb r2 n (placeV (ents uu)) cnt ∧ Ext w7 wy)) (fun _ _ _ _ wy => wy.rangeLeft pb r2)
          case atStart => exact ⟨cnt2, HR2⟩
          case round =>
            obtain ⟨cy, HI⟩ := hrel
            clear HR2
            rcases HI.out.1.next pair_key 0 with hnx2 | ⟨x, y, v, wn, cn, hf, hnx2, hmr, hlt, hfr, hen, b1, b2⟩
            rotate_left 1
            · obtain ⟨p, hp, rfl⟩ := placeV_some hf
              have XN := Fr.ext HI.out.2 hfr (fun i e => by have e : i = r2 := e; have := HRJ.out; omega)
              have XB := (Ext.refl wn).alloc (.cells #[.int .i64 x, .int .i64 y] 50)
              have HN := Lib.hid (And.intro (hmr.ext XB) (And.intro (XN.trans XB) (And.intro hlt (heap_alloc_new wn (.cells #[.int .i64 x, .int .i64 y] 50)))))
              clear hmr hlt hfr XN XB b1 b2 hf
              go_upto_region 34 with (fail)
              generalize wn.alloc (.cells #[.int .i64 x, .int .i64 y] 50) = Y at *
              generalize wn.heap.size = yb at *
              have e0 : Y.cell? ⟨yb, 0, none⟩ = some (.int .i64 x) := block_cell HN.out.2.2.2 0
              have e1 : Y.cell? ⟨yb, 1, none⟩ = some (.int .i64 y) := block_cell HN.out.2.2.2 1
              have CPl := Lib.hid (place_ok B m d uu Y x y (SS.out.1.led.led.ext HN.out.2.1) (by omega) p hp)
              clear hp
              go_wp2_with (go_at_call 18; refine CPl.out.mono ?_; rintro _ w13 ⟨rfl, x13⟩)
              go_roundw
              case rel => exact ⟨cn, Lib.hid ⟨HN.out.1.ext x13, HN.out.2.1.trans x13⟩⟩
              case measure => rw [(HN.out.1.ext x13).left_eq, HI.out.1.left_eq]; exact HN.out.2.2.1
            · go_wp2_with fail
              go_returns
              exact ⟨rfl, HW1.out.trans (SS.out.1.x.trans HI.out.2)⟩
end Go.Proofs.YteflnnlihblpgaaDoor
