/-
  Package almonerlaw17: speaks; NetPuts; walked.
-/
import Derived.Test.YteflnnlihblpgaaDoorMgNetPutsProof19
namespace Go.Proofs.YteflnnlihblpgaaDoor
set_option maxRecDepth 100000
open Go.RowKit
set_option linter.unusedVariables false
def ms1 : Ms := ⟨1, 0, 0, 0, 1, 0, 0, 0⟩
def ms2 : Ms := ⟨1, 0, 0, 0, 0, 0, 0, 0⟩
theorem ms1_put : ∃ t, ms1.put [] = 1 :: t ∧ (ms1.put []).length = 14 := by
  have e0 : putL [] = [0] := by unfold putL; rw [List.length_nil, Wr.num_small (by omega)]; rfl
  have e : ms1.raw [] = [1, 0, 0, 0, 1, 0, 0, 0, 1, 0] := by
    unfold Ms.raw
    rw [e0]
    simp only [Ms.nums, ms1, putN, List.flatMap_cons, List.flatMap_nil]
    rw [show (1 : Int).toNat = 1 from rfl, show (0 : Int).toNat = 0 from rfl, show ([0] : List Nat).length = 1 from rfl, show Wr.num 1 = [1] from Wr.num_small (by omega), show Wr.num 0 = [0] from Wr.num_small (by omega)]
    rfl
  unfold Ms.put
  rw [sealed_len, e]
  exact ⟨_, rfl, rfl⟩
set_option maxHeartbeats 3200000 in
theorem speaks_any (w : World) {ps : Addr} (hS : Sen w 1 ps) : Calls Tryd.prog 37 #[] w fun x w' => x = .returned (.bool true) ∧ Ext w w' := by
  have HS := Lib.hid (fun W (hx : Ext w W) => hS.ext hx)
  have C1 : Hid (Calls Tryd.prog 39 #[.agg #[.int .i64 1, .int .i64 0, .int .i64 0, .int .i64 0, .int .i64 1, .int .i64 0, .int .i64 0, .int .i64 0, .slice none 0 0]] w fun x w' => ∃ B k d, x = .returned (.tuple #[.slice B k d, .nilIface]) ∧ Own w' w.heap.size 5 1 B k d (u8s (ms1.put [])) ∧ Ext w w') := Lib.hid (mput_ok (m := ms1) (A := none) (n := 0) (c := 0) (ss := []) (w := w) Led.nil_ (by omega) (by decide) hS)
  have C2 : Hid (∀ W, Ext w W → Calls Tryd.prog 39 #[.agg #[.int .i64 1, .int .i64 0, .int .i64 0, .int .i64 0, .int .i64 0, .int .i64 0, .int .i64 0, .int .i64 0, .slice none 0 0]] W fun x w' => x = .returned (.tuple #[.slice none 0 0, .iface 149 (.pointer (some ps))]) ∧ Ext W w') := Lib.hid (fun W hx => mput_no (m := ms2) (A := none) (n := 0) (c := 0) (ss := []) (w := W) Led.nil_ (by omega) (by decide) (HS.out W hx))
  clear hS
  go_enter Tryd.func37, Tryd.ntmps37
  go_upto_region 2 with (go_at_call 39; refine C1.out.mono ?_; rintro _ w1 ⟨B, k, d, rfl, o1, x1⟩)
  obtain ⟨t, ht, hl⟩ := ms1_put
  obtain rfl : k = 14 := by have h := o1.len; rw [u8s_len, hl] at h; omega
  have H1 := Lib.hid (And.intro o1 x1)
  have HT := Lib.hid ht
  clear hl ht C1 o1 x1
  go_upto_region 3 with (go_at_call 39; refine (C2.out w1 H1.out.2).mono ?_; rintro _ w2 ⟨rfl, x2⟩)
  obtain ⟨ad, rfl, _, hcell⟩ := (H1.out.1.rd.ext x2).at_ (k := 0) (by omega)
  have y0 : w2.cell? ad = some (.int .u8 1) := by
    have h := hcell 0 (.int .u8 1) (by rw [HT.out]; rfl)
    rwa [show ad.add 0 = ad by unfold Addr.add; rw [if_pos rfl]] at h
  have s2 := (HS.out w2 (H1.out.2.trans x2)).2.1
  have ES := err_same
  have HX := Lib.hid (H1.out.2.trans x2)
  clear C2 x2 hcell
  go_wp2_with fail
  go_returns
  exact ⟨rfl, HX.out⟩
set_option maxHeartbeats 6400000 in
theorem netputs_any (m : Ms) (A : Option Addr) (n c : Nat) (ss : List EnS) (w : World) (hs : Led w A n ss) (hn : n ≤ 1470000000000) {pb ps pu : Addr} (hB : Sen w 2 pb) (hS : Sen w 1 ps) (hU : Sen w 3 pu) : Calls Tryd.prog 9 #[.agg #[.int .i64 m.kd, .int .i64 m.fr, .int .i64 m.tw, .int .i64 m.jb, .int .i64 m.br, .int .i64 m.bn, .int .i64 m.ar, .int .i64 m.an, .slice A n c]] w fun x w' => x = .returned (.bool true) ∧ Ext w w' := by
  have HS := Lib.hid (fun W (hx : Ext w W) => And.intro (hs.ext hx) (And.intro (hB.ext hx) (And.intro (hS.ext hx) (hU.ext hx))))
  have XB := (Ext.refl w).alloc (.cells #[.int .i64 m.kd, .int .i64 m.fr, .int .i64 m.tw, .int .i64 m.jb, .int .i64 m.br, .int .i64 m.bn, .int .i64 m.ar, .int .i64 m.an, .slice A n c] 76)
  have HV := Lib.hid (And.intro (heap_alloc_new w (.cells #[.int .i64 m.kd, .int .i64 m.fr, .int .i64 m.tw, .int .i64 m.jb, .int .i64 m.br, .int .i64 m.bn, .int .i64 m.ar, .int .i64 m.an, .slice A n c] 76)) XB)
  clear XB hs hB hS hU
  go_enter Tryd.func9, Tryd.ntmps9
  go_upto_region 1 with (fail)
  generalize w.alloc (.cells #[.int .i64 m.kd, .int .i64 m.fr, .int .i64 m.tw, .int .i64 m.jb, .int .i64 m.br, .int .i64 m.bn, .int .i64 m.ar, .int .i64 m.an, .slice A n c] 76) = V at *
  obtain ⟨ob, hob⟩ : ∃ ob, w.heap.size = ob := ⟨_, rfl⟩
  rw [hob] at HV
  simp only [hob]
  have HOB := Lib.hid hob
  clear hob
  have CA := Lib.hid (speaks_any V (HS.out V HV.out.2).2.2.1)
  go_upto_region 3 with (go_at_call 37; refine CA.out.mono ?_; rintro _ w1 ⟨rfl, x1⟩)
  have c0 : w1.cell? ⟨ob, 0, none⟩ = some (.int .i64 m.kd) := block_cell (((x1.block _ (block_lt HV.out.1)).trans HV.out.1)) 0
  have c1 : w1.cell? ⟨ob, 1, none⟩ = some (.int .i64 m.fr) := block_cell (((x1.block _ (block_lt HV.out.1)).trans HV.out.1)) 1
  have c2 : w1.cell? ⟨ob, 2, none⟩ = some (.int .i64 m.tw) := block_cell (((x1.block _ (block_lt HV.out.1)).trans HV.out.1)) 2
  have c3 : w1.cell? ⟨ob, 3, none⟩ = some (.int .i64 m.jb) := block_cell (((x1.block _ (block_lt HV.out.1)).trans HV.out.1)) 3
  have c4 : w1.cell? ⟨ob, 4, none⟩ = some (.int .i64 m.br) := block_cell (((x1.block _ (block_lt HV.out.1)).trans HV.out.1)) 4
  have c5 : w1.cell? ⟨ob, 5, none⟩ = some (.int .i64 m.bn) := block_cell (((x1.block _ (block_lt HV.out.1)).trans HV.out.1)) 5
  have c6 : w1.cell? ⟨ob, 6, none⟩ = some (.int .i64 m.ar) := block_cell (((x1.block _ (block_lt HV.out.1)).trans HV.out.1)) 6
  have c7 : w1.cell? ⟨ob, 7, none⟩ = some (.int .i64 m.an) := block_cell (((x1.block _ (block_lt HV.out.1)).trans HV.out.1)) 7
  have c8 : w1.cell? ⟨ob, 8, none⟩ = some (.slice A n c) := block_cell (((x1.block _ (block_lt HV.out.1)).trans HV.out.1)) 8
  have X2 := (Ext.refl w1).alloc (.cells #[.int .i64 m.kd, .int .i64 m.fr, .int .i64 m.tw, .int .i64 m.jb, .int .i64 m.br, .int .i64 m.bn, .int .i64 m.ar, .int .i64 m.an, .slice A n c] 76)
  have H2 := Lib.hid (And.intro (((x1.trans X2).block _ (block_lt HV.out.1)).trans HV.out.1) (And.intro (heap_alloc_new w1 (.cells #[.int .i64 m.kd, .int .i64 m.fr, .int .i64 m.tw, .int .i64 m.jb, .int .i64 m.br, .int .i64 m.bn, .int .i64 m.ar, .int .i64 m.an, .slice A n c] 76)) (And.intro (HV.out.2.trans (x1.trans X2)) (show ob < w1.heap.size from Nat.lt_of_lt_of_le (block_lt HV.out.1) x1.size))))
  clear X2 x1 CA
  go_upto_region 4 with (fail)
  clear c0 c1 c2 c3 c4 c5 c6 c7 c8
  generalize w1.alloc (.cells #[.int .i64 m.kd, .int .i64 m.fr, .int .i64 m.tw, .int .i64 m.jb, .int .i64 m.br, .int .i64 m.bn, .int .i64 m.ar, .int .i64 m.an, .slice A n c] 76) = V2 at *
  obtain ⟨ib, hib⟩ : ∃ ib, w1.heap.size = ib := ⟨_, rfl⟩
  rw [hib] at H2
  simp only [hib]
  clear hib
  have CC := Lib.hid (rcopy_any A n c ss V2 (HS.out V2 H2.out.2.2.1).1 (by omega))
  have c8 : V2.cell? ⟨ob, 8, none⟩ = some (.slice A n c) := block_cell H2.out.1 8
  have CC2 : Hid (Calls Tryd.prog 13 #[.slice A n c] V2 fun e w' => ∃ B d uu, e = .returned (.slice B n d) ∧ w'.cell? ⟨ib, 8, none⟩ = some (.slice A n c) ∧ w'.frozen? ⟨ib, 8, none⟩ = false ∧ Hid (ents uu = ents ss ∧ OLed (w'.setCell ⟨ib, 8, none⟩ (.slice B n d)) V2.heap.size B n d uu ∧ (w'.setCell ⟨ib, 8, none⟩ (.slice B n d)).heap[ib]? = some (.cells #[.int .i64 m.kd, .int .i64 m.fr, .int .i64 m.tw, .int .i64 m.jb, .int .i64 m.br, .int .i64 m.bn, .int .i64 m.ar, .int .i64 m.an, .slice B n d] 76 (0, 0)) ∧ (w'.setCell ⟨ib, 8, none⟩ (.slice B n d)).heap[ob]? = some (.cells #[.int .i64 m.kd, .int .i64 m.fr, .int .i64 m.tw, .int .i64 m.jb, .int .i64 m.br, .int .i64 m.bn, .int .i64 m.ar, .int .i64 m.an, .slice A n c] 76 (0, 0)) ∧ Ext w (w'.setCell ⟨ib, 8, none⟩ (.slice B n d)))) := Lib.hid (CC.out.mono (by
    rintro e w' ⟨B, d, uu, rfl, hu, ol, x⟩
    have bi := (x.block _ (block_lt H2.out.2.1)).trans H2.out.2.1
    have bo := (x.block _ (block_lt H2.out.1)).trans H2.out.1
    have f := Fr.store w' ⟨ib, 8, none⟩ (.slice B n d)
    exact ⟨B, d, uu, rfl, block_cell bi 8, block_fz bi 8, Lib.hid ⟨hu, ol.fr f bi (by decide) (by decide), heap_setCell_same w' ib 8 _ _ (.slice B n d) bi, (f.block ob (block_lt bo) (fun e => by have e : ob = ib := e; have := H2.out.2.2.2; omega)).trans bo, Fr.ext (H2.out.2.2.1.trans x) f (fun i e => by have e : i = ib := e; have := H2.out.2.2.2; have := HOB.out; omega)⟩⟩))
  clear CC
  go_upto_region 5 with (go_at_call 13; refine CC2.out.mono ?_; rintro _ w3 ⟨B, d, uu, rfl, i8, j8, H3⟩)
  clear c8 i8 j8 CC2
  generalize w3.setCell ⟨ib, 8, none⟩ (.slice B n d) = V3 at *
  have u0 : ∀ W, Ext V3 W → W.cell? ⟨ib, 0, none⟩ = some (.int .i64 m.kd) := fun W hx => block_cell ((hx.block _ (block_lt (H3.out.2.2.1))).trans (H3.out.2.2.1)) 0
  have u1 : ∀ W, Ext V3 W → W.cell? ⟨ib, 1, none⟩ = some (.int .i64 m.fr) := fun W hx => block_cell ((hx.block _ (block_lt (H3.out.2.2.1))).trans (H3.out.2.2.1)) 1
  have u2 : ∀ W, Ext V3 W → W.cell? ⟨ib, 2, none⟩ = some (.int .i64 m.tw) := fun W hx => block_cell ((hx.block _ (block_lt (H3.out.2.2.1))).trans (H3.out.2.2.1)) 2
  have u3 : ∀ W, Ext V3 W → W.cell? ⟨ib, 3, none⟩ = some (.int .i64 m.jb) := fun W hx => block_cell ((hx.block _ (block_lt (H3.out.2.2.1))).trans (H3.out.2.2.1)) 3
  have u4 : ∀ W, Ext V3 W → W.cell? ⟨ib, 4, none⟩ = some (.int .i64 m.br) := fun W hx => block_cell ((hx.block _ (block_lt (H3.out.2.2.1))).trans (H3.out.2.2.1)) 4
  have u5 : ∀ W, Ext V3 W → W.cell? ⟨ib, 5, none⟩ = some (.int .i64 m.bn) := fun W hx => block_cell ((hx.block _ (block_lt (H3.out.2.2.1))).trans (H3.out.2.2.1)) 5
  have u6 : ∀ W, Ext V3 W → W.cell? ⟨ib, 6, none⟩ = some (.int .i64 m.ar) := fun W hx => block_cell ((hx.block _ (block_lt (H3.out.2.2.1))).trans (H3.out.2.2.1)) 6
  have u7 : ∀ W, Ext V3 W → W.cell? ⟨ib, 7, none⟩ = some (.int .i64 m.an) := fun W hx => block_cell ((hx.block _ (block_lt (H3.out.2.2.1))).trans (H3.out.2.2.1)) 7
  have u8 : ∀ W, Ext V3 W → W.cell? ⟨ib, 8, none⟩ = some (.slice B n d) := fun W hx => block_cell ((hx.block _ (block_lt (H3.out.2.2.1))).trans (H3.out.2.2.1)) 8
  have q0 : ∀ W, Ext V3 W → W.cell? ⟨ob, 0, none⟩ = some (.int .i64 m.kd) := fun W hx => block_cell ((hx.block _ (block_lt (H3.out.2.2.2.1))).trans (H3.out.2.2.2.1)) 0
  have q1 : ∀ W, Ext V3 W → W.cell? ⟨ob, 1, none⟩ = some (.int .i64 m.fr) := fun W hx => block_cell ((hx.block _ (block_lt (H3.out.2.2.2.1))).trans (H3.out.2.2.2.1)) 1
  have q2 : ∀ W, Ext V3 W → W.cell? ⟨ob, 2, none⟩ = some (.int .i64 m.tw) := fun W hx => block_cell ((hx.block _ (block_lt (H3.out.2.2.2.1))).trans (H3.out.2.2.2.1)) 2
  have q3 : ∀ W, Ext V3 W → W.cell? ⟨ob, 3, none⟩ = some (.int .i64 m.jb) := fun W hx => block_cell ((hx.block _ (block_lt (H3.out.2.2.2.1))).trans (H3.out.2.2.2.1)) 3
  have q4 : ∀ W, Ext V3 W → W.cell? ⟨ob, 4, none⟩ = some (.int .i64 m.br) := fun W hx => block_cell ((hx.block _ (block_lt (H3.out.2.2.2.1))).trans (H3.out.2.2.2.1)) 4
  have q5 : ∀ W, Ext V3 W → W.cell? ⟨ob, 5, none⟩ = some (.int .i64 m.bn) := fun W hx => block_cell ((hx.block _ (block_lt (H3.out.2.2.2.1))).trans (H3.out.2.2.2.1)) 5
  have q6 : ∀ W, Ext V3 W → W.cell? ⟨ob, 6, none⟩ = some (.int .i64 m.ar) := fun W hx => block_cell ((hx.block _ (block_lt (H3.out.2.2.2.1))).trans (H3.out.2.2.2.1)) 6
  have q7 : ∀ W, Ext V3 W → W.cell? ⟨ob, 7, none⟩ = some (.int .i64 m.an) := fun W hx => block_cell ((hx.block _ (block_lt (H3.out.2.2.2.1))).trans (H3.out.2.2.2.1)) 7
  have q8 : ∀ W, Ext V3 W → W.cell? ⟨ob, 8, none⟩ = some (.slice A n c) := fun W hx => block_cell ((hx.block _ (block_lt (H3.out.2.2.2.1))).trans (H3.out.2.2.2.1)) 8
  have HW := Lib.hid (fun W (hx : Ext V3 W) => HS.out W (H3.out.2.2.2.2.trans hx))
  have HU := Lib.hid (fun W (hx : Ext V3 W) => H3.out.2.1.led.ext hx)
  have X0 := Ext.refl V3
  have ES := err_same
  obtain ⟨b, hb⟩ : ∃ b, m.form (ents ss) = b := ⟨_, rfl⟩
  have hb2 : m.form (ents uu) = b := by rw [H3.out.1]; exact hb
  have CK := Lib.hid (fun W (hx : Ext V3 W) => mcheck_any m B n d uu W (HU.out W hx) (by omega) b (Lib.hid hb2) (HW.out W hx).2.2.1)
  have CS := Lib.hid (fun W (hx : Ext V3 W) => rsamem_any m m B n d uu A n c ss W (HU.out W hx) (HW.out W hx).1 (by omega) true (Lib.hid (decide_eq_true ⟨rfl, H3.out.1⟩)))
  have CF := Lib.hid (fun W (hx : Ext V3 W) => rmform_any m A n c ss W (HW.out W hx).1 (by omega) b (Lib.hid hb))
  cases b
  · have CP := Lib.hid (fun W (hx : Ext V3 W) => mput_no (m := m) (c := d) (HU.out W hx) (by omega) hb2 (HW.out W hx).2.2.1)
    have HE := Lib.hid (fun W (hx : Ext V3 W) => (HW.out W hx).2.2.1.2.1)
    clear hb hb2
    go_upto_region 10 with (first | (go_at_call 38; refine (CK.out _ X0).mono ?_; rintro x w3 ⟨rfl, x3⟩; rw [if_neg (by decide)]; have X3 := X0.trans x3; clear x3) | (go_at_call 39; refine (CP.out _ X3).mono ?_; rintro x w4 ⟨rfl, x4⟩; have X4 := X3.trans x4; clear x4) | (go_at_call 40; refine (CS.out _ X4).mono ?_; rintro x w5 ⟨rfl, x5⟩; have X5 := X4.trans x5) | (go_at_call 41; refine (CF.out _ X5).mono ?_; rintro x w6 ⟨rfl, x6⟩; have X6 := X5.trans x6))
    have s6 := HE.out w6 X6
    go_wp2_with fail
    go_returns
    exact ⟨rfl, H3.out.2.2.2.2.trans X6⟩
  · have CP := Lib.hid (fun W (hx : Ext V3 W) => mput_ok (m := m) (c := d) (HU.out W hx) (by omega) hb2 (HW.out W hx).2.2.1)
    have CR := Lib.hid (fun W (hx : Ext V3 W) => rmput_any m A n c ss W (HW.out W hx).1 hb)
    have HF := Lib.hid hb
    have HPB : Hid (∀ x ∈ m.put (ents ss), x < 256) := Lib.hid (sealed_byte (fun x hx => by
      unfold Ms.raw at hx
      rcases List.mem_append.1 hx with hx | hx
      · exact putN_byte _ x hx
      · rcases List.mem_append.1 hx with hx | hx
        · exact Wr.num_byte _ x hx
        · exact putL_byte _ x hx))
    clear hb hb2
    go_upto_region 11 with (first | (go_at_call 38; refine (CK.out _ X0).mono ?_; rintro x w3 ⟨rfl, x3⟩; rw [if_pos (by decide)]; have X3 := X0.trans x3; clear x3) | (go_at_call 39; refine (CP.out _ X3).mono ?_; rintro x w4 ⟨B2, m2, d2, rfl, o4, x4⟩; have X4 := X3.trans x4; clear x4) | (go_at_call 40; refine (CS.out _ X4).mono ?_; rintro x w5 ⟨rfl, x5⟩; have X5 := X4.trans x5) | (go_at_call 41; refine (CF.out _ X5).mono ?_; rintro x w6 ⟨rfl, x6⟩; have X6 := X5.trans x6))
    rw [H3.out.1] at o4
    have H4 := Lib.hid (And.intro (o4.ext (x5.trans x6)) X6)
    have hm2 : m2 ≤ 30000 := by
      have h1 := o4.len
      rw [u8s_len] at h1
      have h2 := putL_le (form_good HF.out)
      have h3 := putN_le HF.out 8
      have h4 : (Wr.num (putL (ents ss)).length).length ≤ 9 := numlen9 (by omega)
      have h5 : (m.put (ents ss)).length = (putN (m.nums.take 8)).length + ((Wr.num (putL (ents ss)).length).length + (putL (ents ss)).length) + 4 := by unfold Ms.put; rw [sealed_len]; unfold Ms.raw; rw [List.length_append, List.length_append]; rfl
      omega
    have CG := Lib.hid (mget_any B2 m2 d2 (m.put (ents ss)) w6 H4.out.1.rd HPB.out (by omega) H4.out.1.cap_le (HW.out w6 X6).2.1 (HW.out w6 X6).2.2.1 (HW.out w6 X6).2.2.2)
    clear o4 x5 x6 X3 X4 X5 X6 X0 CK CS CF CP
    go_upto_region 12 with (go_at_call 42; refine CG.out.mono ?_; rintro _ w7 ⟨hg, x7⟩; rcases hg with ⟨m7, tt, B7, n7, d7, hl7, hf7, he7, rfl, o7⟩ | ⟨hno, rfl⟩)
    rotate_left 1
    · exact absurd rfl (hno m (ents ss) HF.out)
    obtain ⟨rfl, he8⟩ := mput_inj HF.out hf7 he7
    have X8 := (Ext.refl w7).alloc (.cells #[.int .i64 m.kd, .int .i64 m.fr, .int .i64 m.tw, .int .i64 m.jb, .int .i64 m.br, .int .i64 m.bn, .int .i64 m.ar, .int .i64 m.an, .slice B7 n7 d7] 76)
    have H8 := Lib.hid (And.intro (heap_alloc_new w7 (.cells #[.int .i64 m.kd, .int .i64 m.fr, .int .i64 m.tw, .int .i64 m.jb, .int .i64 m.br, .int .i64 m.bn, .int .i64 m.ar, .int .i64 m.an, .slice B7 n7 d7] 76)) (And.intro ((((H4.out.2.trans x7).trans X8).block _ (block_lt H3.out.2.2.2.1)).trans H3.out.2.2.2.1) (And.intro (o7.led.ext X8) (And.intro ((H4.out.2.trans x7).trans X8) (And.intro ((H4.out.1.rd.ext x7).ext X8) (And.intro he8 (show n7 ≤ 64 by have h1 := (form_good hf7).1; rw [ents_len] at h1; omega)))))))
    have hn7 := H8.out.2.2.2.2.2.2
    clear X8 o7 x7 he7 he8 hf7 hl7 CG
    generalize w7.alloc (.cells #[.int .i64 m.kd, .int .i64 m.fr, .int .i64 m.tw, .int .i64 m.jb, .int .i64 m.br, .int .i64 m.bn, .int .i64 m.ar, .int .i64 m.an, .slice B7 n7 d7] 76) = V8 at *
    generalize w7.heap.size = t8 at *
    clear q0 u0 q1 u1 q2 u2 q3 u3 q4 u4 q5 u5 q6 u6 q7 u7 q8 u8
    have p0 : ∀ W, Ext V8 W → W.cell? ⟨t8, 0, none⟩ = some (.int .i64 m.kd) := fun W hx => block_cell ((hx.block _ (block_lt (H8.out.1))).trans (H8.out.1)) 0
    have p1 : ∀ W, Ext V8 W → W.cell? ⟨t8, 1, none⟩ = some (.int .i64 m.fr) := fun W hx => block_cell ((hx.block _ (block_lt (H8.out.1))).trans (H8.out.1)) 1
    have p2 : ∀ W, Ext V8 W → W.cell? ⟨t8, 2, none⟩ = some (.int .i64 m.tw) := fun W hx => block_cell ((hx.block _ (block_lt (H8.out.1))).trans (H8.out.1)) 2
    have p3 : ∀ W, Ext V8 W → W.cell? ⟨t8, 3, none⟩ = some (.int .i64 m.jb) := fun W hx => block_cell ((hx.block _ (block_lt (H8.out.1))).trans (H8.out.1)) 3
    have p4 : ∀ W, Ext V8 W → W.cell? ⟨t8, 4, none⟩ = some (.int .i64 m.br) := fun W hx => block_cell ((hx.block _ (block_lt (H8.out.1))).trans (H8.out.1)) 4
    have p5 : ∀ W, Ext V8 W → W.cell? ⟨t8, 5, none⟩ = some (.int .i64 m.bn) := fun W hx => block_cell ((hx.block _ (block_lt (H8.out.1))).trans (H8.out.1)) 5
    have p6 : ∀ W, Ext V8 W → W.cell? ⟨t8, 6, none⟩ = some (.int .i64 m.ar) := fun W hx => block_cell ((hx.block _ (block_lt (H8.out.1))).trans (H8.out.1)) 6
    have p7 : ∀ W, Ext V8 W → W.cell? ⟨t8, 7, none⟩ = some (.int .i64 m.an) := fun W hx => block_cell ((hx.block _ (block_lt (H8.out.1))).trans (H8.out.1)) 7
    have p8 : ∀ W, Ext V8 W → W.cell? ⟨t8, 8, none⟩ = some (.slice B7 n7 d7) := fun W hx => block_cell ((hx.block _ (block_lt (H8.out.1))).trans (H8.out.1)) 8
    have q0 : ∀ W, Ext V8 W → W.cell? ⟨ob, 0, none⟩ = some (.int .i64 m.kd) := fun W hx => block_cell ((hx.block _ (block_lt (H8.out.2.1))).trans (H8.out.2.1)) 0
    have q1 : ∀ W, Ext V8 W → W.cell? ⟨ob, 1, none⟩ = some (.int .i64 m.fr) := fun W hx => block_cell ((hx.block _ (block_lt (H8.out.2.1))).trans (H8.out.2.1)) 1
    have q2 : ∀ W, Ext V8 W → W.cell? ⟨ob, 2, none⟩ = some (.int .i64 m.tw) := fun W hx => block_cell ((hx.block _ (block_lt (H8.out.2.1))).trans (H8.out.2.1)) 2
    have q3 : ∀ W, Ext V8 W → W.cell? ⟨ob, 3, none⟩ = some (.int .i64 m.jb) := fun W hx => block_cell ((hx.block _ (block_lt (H8.out.2.1))).trans (H8.out.2.1)) 3
    have q4 : ∀ W, Ext V8 W → W.cell? ⟨ob, 4, none⟩ = some (.int .i64 m.br) := fun W hx => block_cell ((hx.block _ (block_lt (H8.out.2.1))).trans (H8.out.2.1)) 4
    have q5 : ∀ W, Ext V8 W → W.cell? ⟨ob, 5, none⟩ = some (.int .i64 m.bn) := fun W hx => block_cell ((hx.block _ (block_lt (H8.out.2.1))).trans (H8.out.2.1)) 5
    have q6 : ∀ W, Ext V8 W → W.cell? ⟨ob, 6, none⟩ = some (.int .i64 m.ar) := fun W hx => block_cell ((hx.block _ (block_lt (H8.out.2.1))).trans (H8.out.2.1)) 6
    have q7 : ∀ W, Ext V8 W → W.cell? ⟨ob, 7, none⟩ = some (.int .i64 m.an) := fun W hx => block_cell ((hx.block _ (block_lt (H8.out.2.1))).trans (H8.out.2.1)) 7
    have q8 : ∀ W, Ext V8 W → W.cell? ⟨ob, 8, none⟩ = some (.slice A n c) := fun W hx => block_cell ((hx.block _ (block_lt (H8.out.2.1))).trans (H8.out.2.1)) 8
    have rs := fun W (hx : Ext V8 W) => run_str (P := Tryd.prog) (w := W) (s := 9) Tryd.underlying54 Tryd.underlying5 Tryd.underlying9 d2 (H8.out.2.2.2.2.1.ext hx)
    have CR8 := Lib.hid (fun W (hx : Ext V8 W) => CR.out W (H8.out.2.2.2.1.trans hx))
    have CS1 := Lib.hid (fun W (hx : Ext V8 W) => rsamem_any m m B7 n7 d7 tt A n c ss W (H8.out.2.2.1.ext hx) (HW.out W (H8.out.2.2.2.1.trans hx)).1 (by omega) true (Lib.hid (decide_eq_true ⟨rfl, H8.out.2.2.2.2.2.1.symm⟩)))
    clear CR ES hn7
    have HY : Ext V8 V8.drew := (Ext.refl V8).drew
    refine d_region (fun W => Ext V8 W) [] (by kernel_rfl) ?_
    refine d_take (i := 0) (v := ?_) [] (some 48) rfl (by rfl) (by kernel_rfl) (by kernel_rfl) (by kernel_rfl) (by kernel_rfl) (by kernel_rfl) (by kernel_rfl) (fun _ _ _ h => h) (.inl ⟨by rfl, ?_⟩) HY ?_
    rotate_left 1
    · (intro W hW; (try dsimp only at hW); go_simp; try with_reducible rfl)
    try simp only [Act.put, List.setIfInBounds_toArray, List.set_cons_zero, List.set_cons_succ]
    refine d_take (i := 1) (v := ?_) [] (some 49) rfl (by rfl) (by kernel_rfl) (by kernel_rfl) (by kernel_rfl) (by kernel_rfl) (by kernel_rfl) (by kernel_rfl) (fun _ _ _ h => h) (.inl ⟨by rfl, ?_⟩) HY ?_
    rotate_left 1
    · (intro W hW; (try dsimp only at hW); go_simp; try with_reducible rfl)
    try simp only [Act.put, List.setIfInBounds_toArray, List.set_cons_zero, List.set_cons_succ]
    refine d_take (i := 2) (v := ?_) [] (some 50) rfl (by rfl) (by kernel_rfl) (by kernel_rfl) (by kernel_rfl) (by kernel_rfl) (by kernel_rfl) (by kernel_rfl) (fun _ _ _ h => h) (.inl ⟨by rfl, ?_⟩) HY ?_
    rotate_left 1
    · (intro W hW; (try dsimp only at hW); go_simp; try with_reducible rfl)
    try simp only [Act.put, List.setIfInBounds_toArray, List.set_cons_zero, List.set_cons_succ]
    refine d_take (i := 3) (v := ?_) [] (some 51) rfl (by rfl) (by kernel_rfl) (by kernel_rfl) (by kernel_rfl) (by kernel_rfl) (by kernel_rfl) (by kernel_rfl) (fun _ _ _ h => h) (.inl ⟨by rfl, ?_⟩) HY ?_
    rotate_left 1
    · (intro W hW; (try dsimp only at hW); go_simp; try with_reducible rfl)
    try simp only [Act.put, List.setIfInBounds_toArray, List.set_cons_zero, List.set_cons_succ]
    refine d_take (i := 4) (v := ?_) [] (some 52) rfl (by rfl) (by kernel_rfl) (by kernel_rfl) (by kernel_rfl) (by kernel_rfl) (by kernel_rfl) (by kernel_rfl) (fun _ _ _ h => h) (.inl ⟨by rfl, ?_⟩) HY ?_
    rotate_left 1
    · (intro W hW; (try dsimp only at hW); go_simp; try with_reducible rfl)
    try simp only [Act.put, List.setIfInBounds_toArray, List.set_cons_zero, List.set_cons_succ]
    refine d_take (i := 5) (v := ?_) [] (some 53) rfl (by rfl) (by kernel_rfl) (by kernel_rfl) (by kernel_rfl) (by kernel_rfl) (by kernel_rfl) (by kernel_rfl) (fun _ _ _ h => h) (.inl ⟨by rfl, ?_⟩) HY ?_
    rotate_left 1
    · (intro W hW; (try dsimp only at hW); go_simp; try with_reducible rfl)
    try simp only [Act.put, List.setIfInBounds_toArray, List.set_cons_zero, List.set_cons_succ]
    refine d_take (i := 6) (v := ?_) [] (some 54) rfl (by rfl) (by kernel_rfl) (by kernel_rfl) (by kernel_rfl) (by kernel_rfl) (by kernel_rfl) (by kernel_rfl) (fun _ _ _ h => h) (.inl ⟨by rfl, ?_⟩) HY ?_
    rotate_left 1
    · (intro W hW; (try dsimp only at hW); go_simp; try with_reducible rfl)
    try simp only [Act.put, List.setIfInBounds_toArray, List.set_cons_zero, List.set_cons_succ]
    refine d_take (i := 7) (v := ?_) [] (some 55) rfl (by rfl) (by kernel_rfl) (by kernel_rfl) (by kernel_rfl) (by kernel_rfl) (by kernel_rfl) (by kernel_rfl) (fun _ _ _ h => h) (.inl ⟨by rfl, ?_⟩) HY ?_
    rotate_left 1
    · (intro W hW; (try dsimp only at hW); go_simp; try with_reducible rfl)
    try simp only [Act.put, List.setIfInBounds_toArray, List.set_cons_zero, List.set_cons_succ]
    refine d_take (i := 8) (v := ?_) [] (some 56) rfl (by rfl) (by kernel_rfl) (by kernel_rfl) (by kernel_rfl) (by kernel_rfl) (by kernel_rfl) (by kernel_rfl) (fun _ _ _ h => h) (.inl ⟨by rfl, ?_⟩) HY ?_
    rotate_left 1
    · (intro W hW; (try dsimp only at hW); go_simp; try with_reducible rfl)
    try simp only [Act.put, List.setIfInBounds_toArray, List.set_cons_zero, List.set_cons_succ]
    refine d_take (i := 9) (v := ?_) [] (some 57) rfl (by rfl) (by kernel_rfl) (by kernel_rfl) (by kernel_rfl) (by kernel_rfl) (by kernel_rfl) (by kernel_rfl) (fun _ _ _ h => h) (.inl ⟨by rfl, ?_⟩) HY ?_
    rotate_left 1
    · (intro W hW; (try dsimp only at hW); go_simp; try with_reducible rfl)
    try simp only [Act.put, List.setIfInBounds_toArray, List.set_cons_zero, List.set_cons_succ]
    refine d_call (i := 10) (by kernel_rfl) rfl (by rfl) (fun K hK => ?_)
    simp only [List.getElem_toArray, List.getElem_cons_succ, List.getElem_cons_zero]
    go_simp
    refine (CR8.out _ HY).mono ?_
    rintro x w9 ⟨B9, m9, d9, rfl, o9, x9⟩
    have X9 := HY.trans x9
    refine hK.out _ _ (fun _ => X9) ?_
    clear hK K 
    try simp only [Act.put, List.setIfInBounds_toArray, List.set_cons_zero, List.set_cons_succ]
    have r9 := run_str (P := Tryd.prog) (w := w9) (s := 9) Tryd.underlying54 Tryd.underlying5 Tryd.underlying9 d9 o9.rd
    refine d_call (i := 11) (by kernel_rfl) rfl (by rfl) (fun K hK => ?_)
    simp only [List.getElem_toArray, List.getElem_cons_succ, List.getElem_cons_zero]
    go_simp
    refine hK.out _ _ (fun _ => X9) ?_
    clear hK K 
    try simp only [Act.put, List.setIfInBounds_toArray, List.set_cons_zero, List.set_cons_succ]
    clear r9 o9 x9
    refine d_take (i := 12) (v := ?_) [] (some 60) rfl (by rfl) (by kernel_rfl) (by kernel_rfl) (by kernel_rfl) (by kernel_rfl) (by kernel_rfl) (by kernel_rfl) (fun _ _ _ h => h) (.inl ⟨by rfl, ?_⟩) X9 ?_
    rotate_left 1
    · (intro W hW; (try dsimp only at hW); go_simp; try with_reducible rfl)
    try simp only [Act.put, List.setIfInBounds_toArray, List.set_cons_zero, List.set_cons_succ]
    refine d_take (i := 13) (v := ?_) [] (some 61) rfl (by rfl) (by kernel_rfl) (by kernel_rfl) (by kernel_rfl) (by kernel_rfl) (by kernel_rfl) (by kernel_rfl) (fun _ _ _ h => h) (.inl ⟨by rfl, ?_⟩) X9 ?_
    rotate_left 1
    · (intro W hW; (try dsimp only at hW); go_simp; try with_reducible rfl)
    try simp only [Act.put, List.setIfInBounds_toArray, List.set_cons_zero, List.set_cons_succ]
    refine d_take (i := 14) (v := ?_) [] (some 62) rfl (by rfl) (by kernel_rfl) (by kernel_rfl) (by kernel_rfl) (by kernel_rfl) (by kernel_rfl) (by kernel_rfl) (fun _ _ _ h => h) (.inl ⟨by rfl, ?_⟩) X9 ?_
    rotate_left 1
    · (intro W hW; (try dsimp only at hW); go_simp; try with_reducible rfl)
    try simp only [Act.put, List.setIfInBounds_toArray, List.set_cons_zero, List.set_cons_succ]
    refine d_take (i := 15) (v := ?_) [] (some 63) rfl (by rfl) (by kernel_rfl) (by kernel_rfl) (by kernel_rfl) (by kernel_rfl) (by kernel_rfl) (by kernel_rfl) (fun _ _ _ h => h) (.inl ⟨by rfl, ?_⟩) X9 ?_
    rotate_left 1
    · (intro W hW; (try dsimp only at hW); go_simp; try with_reducible rfl)
    try simp only [Act.put, List.setIfInBounds_toArray, List.set_cons_zero, List.set_cons_succ]
    refine d_take (i := 16) (v := ?_) [] (some 64) rfl (by rfl) (by kernel_rfl) (by kernel_rfl) (by kernel_rfl) (by kernel_rfl) (by kernel_rfl) (by kernel_rfl) (fun _ _ _ h => h) (.inl ⟨by rfl, ?_⟩) X9 ?_
    rotate_left 1
    · (intro W hW; (try dsimp only at hW); go_simp; try with_reducible rfl)
    try simp only [Act.put, List.setIfInBounds_toArray, List.set_cons_zero, List.set_cons_succ]
    refine d_take (i := 17) (v := ?_) [] (some 65) rfl (by rfl) (by kernel_rfl) (by kernel_rfl) (by kernel_rfl) (by kernel_rfl) (by kernel_rfl) (by kernel_rfl) (fun _ _ _ h => h) (.inl ⟨by rfl, ?_⟩) X9 ?_
    rotate_left 1
    · (intro W hW; (try dsimp only at hW); go_simp; try with_reducible rfl)
    try simp only [Act.put, List.setIfInBounds_toArray, List.set_cons_zero, List.set_cons_succ]
    refine d_take (i := 18) (v := ?_) [] (some 66) rfl (by rfl) (by kernel_rfl) (by kernel_rfl) (by kernel_rfl) (by kernel_rfl) (by kernel_rfl) (by kernel_rfl) (fun _ _ _ h => h) (.inl ⟨by rfl, ?_⟩) X9 ?_
    rotate_left 1
    · (intro W hW; (try dsimp only at hW); go_simp; try with_reducible rfl)
    try simp only [Act.put, List.setIfInBounds_toArray, List.set_cons_zero, List.set_cons_succ]
    refine d_take (i := 19) (v := ?_) [] (some 67) rfl (by rfl) (by kernel_rfl) (by kernel_rfl) (by kernel_rfl) (by kernel_rfl) (by kernel_rfl) (by kernel_rfl) (fun _ _ _ h => h) (.inl ⟨by rfl, ?_⟩) X9 ?_
    rotate_left 1
    · (intro W hW; (try dsimp only at hW); go_simp; try with_reducible rfl)
    try simp only [Act.put, List.setIfInBounds_toArray, List.set_cons_zero, List.set_cons_succ]
    refine d_take (i := 20) (v := ?_) [] (some 68) rfl (by rfl) (by kernel_rfl) (by kernel_rfl) (by kernel_rfl) (by kernel_rfl) (by kernel_rfl) (by kernel_rfl) (fun _ _ _ h => h) (.inl ⟨by rfl, ?_⟩) X9 ?_
    rotate_left 1
    · (intro W hW; (try dsimp only at hW); go_simp; try with_reducible rfl)
    try simp only [Act.put, List.setIfInBounds_toArray, List.set_cons_zero, List.set_cons_succ]
    refine d_call (i := 21) (by kernel_rfl) rfl (by rfl) (fun K hK => ?_)
    simp only [List.getElem_toArray, List.getElem_cons_succ, List.getElem_cons_zero]
    go_simp
    refine (CS1.out _ X9).mono ?_
    rintro x w10 ⟨rfl, x10⟩
    have X10 := X9.trans x10
    refine hK.out _ _ (fun _ => X10) ?_
    clear hK K 
    try simp only [Act.put, List.setIfInBounds_toArray, List.set_cons_zero, List.set_cons_succ]
    refine d_take (i := 22) (v := ?_) [] (some 70) rfl (by rfl) (by kernel_rfl) (by kernel_rfl) (by kernel_rfl) (by kernel_rfl) (by kernel_rfl) (by kernel_rfl) (fun _ _ _ h => h) (.inl ⟨by rfl, ?_⟩) X10 ?_
    rotate_left 1
    · (intro W hW; (try dsimp only at hW); go_simp; try with_reducible rfl)
    try simp only [Act.put, List.setIfInBounds_toArray, List.set_cons_zero, List.set_cons_succ]
    refine d_one (i := 23) (by kernel_rfl) rfl rfl (fun K hK => ?_)
    simp only [List.getElem_toArray, List.getElem_cons_succ, List.getElem_cons_zero]
    go_simp
    refine hK.out _ _ (fun _ => X10) ?_
    clear hK K 
    try simp only [Act.put, List.setIfInBounds_toArray, List.set_cons_zero, List.set_cons_succ]
    refine d_done (by kernel_rfl) ?_ _
    go_wp2_with fail
    go_returns
    exact ⟨rfl, H3.out.2.2.2.2.trans (H8.out.2.2.2.1.trans X10)⟩
end Go.Proofs.YteflnnlihblpgaaDoor
