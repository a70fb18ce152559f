/-
  Package almonerlaw09: OrderRows, walked.
-/
import Derived.Test.YteflnnlihblpgaaDoorMgOrderRowsProof16
namespace Go.Proofs.YteflnnlihblpgaaDoor
set_option maxRecDepth 100000
open Go.RowKit Go.Maps
set_option linter.unusedVariables false
theorem num_is (E : Nat → Addr) (i g : Nat) (n : Int) (hi : gsN[i]? = some g) (hn : (i : Int) + 1 = n) (w : World) (hE : Errs w E) :
    Calls Tryd.prog 17 #[.iface 149 (.pointer (some (E g)))] w fun e w' => e = .returned (.int .i64 n) ∧ Ext w w' := by
  subst hn
  exact num_at E i g w hE hi
theorem Led.entry_at {w : World} {ad : Addr} {n : Nat} {ss : List EnS} (h : Led w (some ad) n ss) {k k10 : Nat} {x : EnS} (hk : ss[k]? = some x) (h10 : k * 10 = k10) :
    w.cell? (ad.add k10) = some (.int .i64 x.e.cl) ∧ w.cell? ⟨(ad.add k10).block, (ad.add k10).off + 1, none⟩ = some (.int .i64 x.e.nu) ∧ w.cell? ⟨(ad.add k10).block, (ad.add k10).off + 2, none⟩ = some (.int .i64 x.e.kd) ∧ w.cell? ⟨(ad.add k10).block, (ad.add k10).off + 3, none⟩ = some (.int .i64 x.e.id) ∧ w.cell? ⟨(ad.add k10).block, (ad.add k10).off + 4, none⟩ = some (.int .i64 x.e.sk) ∧ w.cell? ⟨(ad.add k10).block, (ad.add k10).off + 5, none⟩ = some (.int .i64 x.e.sq) ∧ w.cell? ⟨(ad.add k10).block, (ad.add k10).off + 6, none⟩ = some (.int .i64 x.e.st) ∧ w.cell? ⟨(ad.add k10).block, (ad.add k10).off + 7, none⟩ = some (.int .i64 x.e.pol) ∧ w.cell? ⟨(ad.add k10).block, (ad.add k10).off + 8, none⟩ = some (.slice x.A x.n x.c) ∧ w.cell? ⟨(ad.add k10).block, (ad.add k10).off + 9, none⟩ = some (.int .i64 x.e.at_) := by
  obtain ⟨ad', h1, q⟩ := h.entry hk h10
  injection h1 with h1
  rw [h1]
  exact q
set_option maxHeartbeats 6400000 in
theorem rows_any (A : Option Addr) (n c : Nat) (ss : List EnS) (B : Option Addr) (m d : Nat) (tt : List EnS) (s : EnS) (w : World) (hs : Led w A n ss) (ht : Led w B m tt) (he : s.Lies w) (hn : n ≤ 1470000000000) (hm : m ≤ 1470000000000) (hnc : n ≤ c) (hmd : m ≤ d) (hb : ∀ s ∈ ss, I64 s.e.cl ∧ I64 s.e.nu) (E : Nat → Addr) (hE : Errs w E) : Calls Tryd.prog 3 #[.slice A n c, .slice B m d, .agg #[.int .i64 s.e.cl, .int .i64 s.e.nu, .int .i64 s.e.kd, .int .i64 s.e.id, .int .i64 s.e.sk, .int .i64 s.e.sq, .int .i64 s.e.st, .int .i64 s.e.pol, .slice s.A s.n s.c, .int .i64 s.e.at_]] w fun x w' => x = .returned (.bool true) ∧ Ext w w' := by
  have hsl := hs.len
  have htl := ht.len
  have HS := Lib.hid (fun W (hx : Ext w W) => And.intro (hs.ext hx) (And.intro (ht.ext hx) (And.intro (he.ext hx) (hE.ext hx))))
  have HI64 := Lib.hid hb
  have X1 := (Ext.refl w).alloc (.cells #[.int .i64 s.e.cl, .int .i64 s.e.nu, .int .i64 s.e.kd, .int .i64 s.e.id, .int .i64 s.e.sk, .int .i64 s.e.sq, .int .i64 s.e.st, .int .i64 s.e.pol, .slice s.A s.n s.c, .int .i64 s.e.at_] 29)
  have b1 := heap_alloc_new w (.cells #[.int .i64 s.e.cl, .int .i64 s.e.nu, .int .i64 s.e.kd, .int .i64 s.e.id, .int .i64 s.e.sk, .int .i64 s.e.sq, .int .i64 s.e.st, .int .i64 s.e.pol, .slice s.A s.n s.c, .int .i64 s.e.at_] 29)
  have HV := Lib.hid (And.intro b1 X1)
  clear X1 b1
  clear hs ht he hb hE
  go_enter Tryd.func3, Tryd.ntmps3
  go_upto_region 1 with (fail)
  generalize w.alloc (.cells #[.int .i64 s.e.cl, .int .i64 s.e.nu, .int .i64 s.e.kd, .int .i64 s.e.id, .int .i64 s.e.sk, .int .i64 s.e.sq, .int .i64 s.e.st, .int .i64 s.e.pol, .slice s.A s.n s.c, .int .i64 s.e.at_] 29) = V at *
  generalize w.heap.size = ob at *
  have c0 : ∀ W, Ext V W → W.cell? ⟨ob, 0, none⟩ = some (.int .i64 s.e.cl) := fun W hx => block_cell ((hx.block _ (block_lt (HV.out.1))).trans (HV.out.1)) 0
  have c1 : ∀ W, Ext V W → W.cell? ⟨ob, 1, none⟩ = some (.int .i64 s.e.nu) := fun W hx => block_cell ((hx.block _ (block_lt (HV.out.1))).trans (HV.out.1)) 1
  have c2 : ∀ W, Ext V W → W.cell? ⟨ob, 2, none⟩ = some (.int .i64 s.e.kd) := fun W hx => block_cell ((hx.block _ (block_lt (HV.out.1))).trans (HV.out.1)) 2
  have c3 : ∀ W, Ext V W → W.cell? ⟨ob, 3, none⟩ = some (.int .i64 s.e.id) := fun W hx => block_cell ((hx.block _ (block_lt (HV.out.1))).trans (HV.out.1)) 3
  have c4 : ∀ W, Ext V W → W.cell? ⟨ob, 4, none⟩ = some (.int .i64 s.e.sk) := fun W hx => block_cell ((hx.block _ (block_lt (HV.out.1))).trans (HV.out.1)) 4
  have c5 : ∀ W, Ext V W → W.cell? ⟨ob, 5, none⟩ = some (.int .i64 s.e.sq) := fun W hx => block_cell ((hx.block _ (block_lt (HV.out.1))).trans (HV.out.1)) 5
  have c6 : ∀ W, Ext V W → W.cell? ⟨ob, 6, none⟩ = some (.int .i64 s.e.st) := fun W hx => block_cell ((hx.block _ (block_lt (HV.out.1))).trans (HV.out.1)) 6
  have c7 : ∀ W, Ext V W → W.cell? ⟨ob, 7, none⟩ = some (.int .i64 s.e.pol) := fun W hx => block_cell ((hx.block _ (block_lt (HV.out.1))).trans (HV.out.1)) 7
  have c8 : ∀ W, Ext V W → W.cell? ⟨ob, 8, none⟩ = some (.slice s.A s.n s.c) := fun W hx => block_cell ((hx.block _ (block_lt (HV.out.1))).trans (HV.out.1)) 8
  have c9 : ∀ W, Ext V W → W.cell? ⟨ob, 9, none⟩ = some (.int .i64 s.e.at_) := fun W hx => block_cell ((hx.block _ (block_lt (HV.out.1))).trans (HV.out.1)) 9
  have HL := Lib.hid (fun W (hx : Ext V W) => HS.out W (HV.out.2.trans hx))
  have XV := Ext.refl V
  have CA := Lib.hid (alive_any V)
  go_upto_region 3 with (go_at_call 12; refine CA.out.mono ?_; rintro x w1 ⟨rfl, x1⟩)
  have CC := Lib.hid (rcopy_any A n c ss w1 (HL.out w1 x1).1 (by omega))
  go_upto_region 4 with (go_at_call 13; refine CC.out.mono ?_; rintro x w2 ⟨B1, d1, uu, rfl, huu, o1, x2⟩)
  have X2 := x1.trans x2
  have HU := Lib.hid (And.intro huu (And.intro o1 X2))
  have CD := Lib.hid (add_any B1 n d1 uu s w2 o1.led (HL.out w2 X2).2.2.1 (by omega) ((HL.out w2 X2).2.2.2.sen 0 (by decide)) ((HL.out w2 X2).2.2.2.sen 4 (by decide)))
  clear huu o1 x1 x2 CA CC
  go_upto_region 5 with (go_at_call 14; refine CD.out.mono ?_; rintro x w3 ⟨B2, m2, d2, vv, p, code, v, rfl, hadd, o2, x3, hv⟩)
  have X3 := X2.trans x3
  rw [HU.out.1] at hadd
  have HO := Lib.hid (And.intro hadd (And.intro o2 x3))
  have CR := Lib.hid (radd_any A n c ss s w3 (HL.out w3 X3).1 (HL.out w3 X3).2.2.1 hn hnc)
  clear hadd o2 x3 CD X2
  go_upto_region 6 with (go_at_call 15; refine CR.out.mono ?_; rintro x w4 ⟨B3, m3, d3, xx, p', code', rfl, hadd, hl3, x4⟩; obtain ⟨hvx, rfl, rfl⟩ := HO.out.1.same hadd)
  have X4 := X3.trans x4
  have hm3 : m3 ≤ 1470000000001 ∧ m2 ≤ 1470000000001 := by
    have h1 := hl3.len
    have h2 := HO.out.2.1.led.len
    have h3 := congrArg List.length hvx
    rw [ents_len, ents_len] at h3
    have h4 := (ents_len ss).trans hsl
    rcases hadd with ⟨q, _, h, _⟩ | ⟨_, _, h, _⟩ | ⟨_, _, h, _⟩ <;> have h5 := congrArg List.length h <;> simp only [ents_len, List.length_append, List.length_nil, List.length_cons] at h5 <;> omega
  have CS := Lib.hid (rsameledger_any B2 m2 d2 vv B3 m3 d3 xx w4 (HO.out.2.1.led.ext x4) hl3 (by omega) true (Lib.hid (decide_eq_true hvx)))
  have CN : Hid (∀ W, Ext V W → Calls Tryd.prog 17 #[v] W fun e w' => e = .returned (.int .i64 code) ∧ Ext W w') := Lib.hid (fun W hx => by
    rcases hv.out with ⟨h1, h2⟩ | ⟨h1, h2⟩ <;> rw [h1, h2]
    · exact num_nil W
    · exact num_is E 6 4 7 rfl rfl W (HL.out W hx).2.2.2)
  have HX4 := Lib.hid (And.intro x4 X4)
  have HM3 := Lib.hid hm3.2
  clear hadd hl3 hvx hm3 x4 CR X3
  go_upto_region 8 with (first
    | (go_at_call 16; refine CS.out.mono ?_; rintro x w5 ⟨rfl, x5⟩; have X5 := X4.trans x5)
    | (go_at_call 17; refine (CN.out _ X5).mono ?_; rintro x w6 ⟨rfl, x6⟩; have X6 := X5.trans x6))
  have HU2 : Hid (ents uu = ents ss ∧ (∀ W, Ext w6 W → Led W B1 n uu) ∧ ∀ s ∈ uu, I64 s.e.cl ∧ I64 s.e.nu) := Lib.hid ⟨HU.out.1, fun W hx => HU.out.2.1.led.ext ((HO.out.2.2.trans HX4.out.1).trans ((x5.trans x6).trans hx)), fun t ht => by
    have h1 : t.e ∈ ents ss := by rw [← HU.out.1]; exact List.mem_map.2 ⟨t, ht, rfl⟩
    obtain ⟨y, hy, e⟩ := List.mem_map.1 h1
    rw [← e]
    exact HI64.out y hy⟩
  have HX6 := Lib.hid (And.intro (HX4.out.1.trans (x5.trans x6)) X6)
  have CP := Lib.hid (place_any B1 n d1 uu w6 s.e.cl s.e.nu (HU2.out.2.1 w6 (Ext.refl _)) (by omega) ((HL.out w6 X6).2.2.2.sen 0 (by decide)))
  rw [HU2.out.1] at CP
  clear x5 x6 X5 CS CN
  go_upto_region 9 with (go_at_call 18; refine CP.out.mono ?_; rintro x w7 ⟨v15, rfl, x7, hv15⟩)
  have X7 := X6.trans x7
  have CQ := Lib.hid (rplace_any A n c ss w7 s.e.cl s.e.nu (HL.out w7 X7).1 (by omega))
  go_upto_region 10 with (go_at_call 19; refine CQ.out.mono ?_; rintro x w8 ⟨rfl, x8⟩)
  have X8 := X7.trans x8
  have x68 := x7.trans x8
  clear CP CQ x7 x8 X7 X6
  generalize placeL (ents ss) s.e.cl s.e.nu = q at *
  obtain ⟨bb, hbb⟩ : ∃ bb, begB (ents ss) (ents tt) = bb := ⟨_, rfl⟩
  have CB := Lib.hid (begins_any B1 n d1 uu B m d tt w8 (HU2.out.2.1 w8 x68) (HL.out w8 X8).2.1 hmd (by omega) bb (Lib.hid (by rw [HU2.out.1]; exact hbb)))
  have CC := Lib.hid (fun W (hx : Ext V W) => rbegins_any A n c ss B m d tt W (HL.out W hx).1 (HL.out W hx).2.1 hmd (by omega) bb (Lib.hid hbb))
  have pG := ((HL.out w8 X8).2.2.2.sen 0 (by decide)).2.1
  have eN := fun W => err_same_ne W (E 0)
  have HX8 := Lib.hid (And.intro x68 X8)
  clear hbb
  rcases hv15.out with ⟨h0, rfl⟩ | ⟨h0, rfl⟩
  case' inl => subst h0
  case' inr => have hq : (0 : Int) < q := by omega
  all_goals go_upto_region 12 with (first
    | (go_at_call 20; refine CB.out.mono ?_; rintro x w9 ⟨rfl, x9⟩; have X9 := X8.trans x9)
    | (go_at_call 21; refine (CC.out _ X9).mono ?_; rintro x w10 ⟨rfl, x10⟩; have X10 := X9.trans x10))
  all_goals
    have HX10 := Lib.hid (And.intro (HX8.out.1.trans (x9.trans x10)) X10)
    clear pG eN X8 x68 X9 x9 x10 CB CC hv15
    have CLs := Lib.hid (last_any B1 n d1 uu w10 (HU2.out.2.1 w10 HX10.out.1) (by omega) HU2.out.2.2)
    go_upto_region 13 with (go_at_call 22; refine CLs.out.mono ?_; rintro x w11 ⟨mb, rfl, hmb, hmp, x11⟩)
    rw [HU2.out.1] at hmp
    have HM := Lib.hid (And.intro hmp (And.intro (HX10.out.1.trans x11) (X10.trans x11)))
    clear hmp x11 X10 CLs hmb c0 c1 c2 c3 c4 c5 c6 c7 c8 c9
    go_wp2_with fail
    go_loopw [19, 104] (fun _ v104 wr => ∃ k : Nat, v104 = .int .i64 (k : Int) ∧ k ≤ n ∧ Hid (Ext w11 wr)) (fun _ v104 _ => n - (intOf v104).toNat)
    case atStart => exact ⟨0, rfl, by omega, Lib.hid (Ext.refl _)⟩
    case round =>
      obtain ⟨k, rfl, hk, HI⟩ := hrel
      by_cases hlt : k < n
      · obtain ⟨x, hx⟩ : ∃ x, ss[k]? = some x := ⟨ss[k]'(by omega), List.getElem?_eq_getElem _⟩
        obtain ⟨k10, hk10⟩ : ∃ k10, k * 10 = k10 := ⟨_, rfl⟩
        obtain ⟨ad, rfl, y0, y1, y2, y3, y4, y5, y6, y7, y8, y9⟩ := (HL.out wr (HM.out.2.2.trans HI.out)).1.entry hx hk10
        have k0 : (0 : Int) ≤ k := by omega
        have k1 : (k : Int) < n := by omega
        have hxm := List.mem_of_getElem? hx
        obtain ⟨mx, hmx, hle⟩ := lastF_mem (es := ents ss) (e := x.e) (List.mem_map.2 ⟨x, hxm, rfl⟩)
        have HX := Lib.hid (And.intro (HI64.out x hxm) (And.intro hmx (lastF_place hmx)))
        have XB := (Ext.refl wr).alloc (.cells #[.int .i64 x.e.cl, .int .i64 x.e.nu, .int .i64 x.e.kd, .int .i64 x.e.id, .int .i64 x.e.sk, .int .i64 x.e.sq, .int .i64 x.e.st, .int .i64 x.e.pol, .slice x.A x.n x.c, .int .i64 x.e.at_] 29)
        have HB := Lib.hid (And.intro (heap_alloc_new wr (.cells #[.int .i64 x.e.cl, .int .i64 x.e.nu, .int .i64 x.e.kd, .int .i64 x.e.id, .int .i64 x.e.sk, .int .i64 x.e.sq, .int .i64 x.e.st, .int .i64 x.e.pol, .slice x.A x.n x.c, .int .i64 x.e.at_] 29)) (HI.out.trans XB))
        clear hx XB HI hxm hmx
        go_upto_region 16 with (fail)
        clear y0 y1 y2 y3 y4 y5 y6 y7 y8 y9
        generalize wr.alloc (.cells #[.int .i64 x.e.cl, .int .i64 x.e.nu, .int .i64 x.e.kd, .int .i64 x.e.id, .int .i64 x.e.sk, .int .i64 x.e.sq, .int .i64 x.e.st, .int .i64 x.e.pol, .slice x.A x.n x.c, .int .i64 x.e.at_] 29) = W at *
        generalize wr.heap.size = tb at *
        have c0 : W.cell? ⟨tb, 0, none⟩ = some (.int .i64 x.e.cl) := block_cell (HB.out.1) 0
        have c1 : W.cell? ⟨tb, 1, none⟩ = some (.int .i64 x.e.nu) := block_cell (HB.out.1) 1
        have c2 : W.cell? ⟨tb, 2, none⟩ = some (.int .i64 x.e.kd) := block_cell (HB.out.1) 2
        have c3 : W.cell? ⟨tb, 3, none⟩ = some (.int .i64 x.e.id) := block_cell (HB.out.1) 3
        have c4 : W.cell? ⟨tb, 4, none⟩ = some (.int .i64 x.e.sk) := block_cell (HB.out.1) 4
        have c5 : W.cell? ⟨tb, 5, none⟩ = some (.int .i64 x.e.sq) := block_cell (HB.out.1) 5
        have c6 : W.cell? ⟨tb, 6, none⟩ = some (.int .i64 x.e.st) := block_cell (HB.out.1) 6
        have c7 : W.cell? ⟨tb, 7, none⟩ = some (.int .i64 x.e.pol) := block_cell (HB.out.1) 7
        have c8 : W.cell? ⟨tb, 8, none⟩ = some (.slice x.A x.n x.c) := block_cell (HB.out.1) 8
        have c9 : W.cell? ⟨tb, 9, none⟩ = some (.int .i64 x.e.at_) := block_cell (HB.out.1) 9
        have LK := (HM.out.1.ext HB.out.2).at_ Tryd.underlying43 Tryd.underlying3 (zeroInt W) HX.out.1.1
        rw [show (valF (lastF (ents ss)) x.e.cl).getD (.int .i64 0) = .int .i64 mx by unfold valF; rw [HX.out.2.1]; rfl] at LK
        have nl : ¬ mx < x.e.nu := by omega
        have CPl := Lib.hid (rplace_any (.some ad) n c ss W x.e.cl mx (HL.out W (HM.out.2.2.trans HB.out.2)).1 (by omega))
        obtain ⟨r, hr⟩ : ∃ r, placeL (ents ss) x.e.cl mx = r := ⟨_, rfl⟩
        rw [hr] at CPl
        have hr0 : (0 : Int) < r := by have := HX.out.2.2; omega
        clear hr hle
        go_wp2_with (go_at_call 19; refine CPl.out.mono ?_; rintro x w13 ⟨rfl, x13⟩)
        go_roundw
        case rel => exact ⟨k + 1, by go_num, by omega, Lib.hid (HB.out.2.trans x13)⟩
        case measure => simp [intOf]; omega
      · obtain rfl : n = k := by omega
        have HW := Lib.hid (And.intro (HM.out.1.ext HI.out) HI.out)
        obtain ⟨wi, cnt, hrun, hmr, xi⟩ := HW.out.1.range Tryd.underlying43 Tryd.underlying3
        have HR := Lib.hid (And.intro hmr (HW.out.2.trans xi))
        clear hmr xi
        go_wp2_with fail
        have hri : w11.heap.size ≤ wr.heap.size := HW.out.2.size
        generalize wr.heap.size = ri at *
        have HRI := Lib.hid hri
        clear hri hrun HW HI
        go_loopw [20, 21] (fun _ _ wz => ∃ cnt : Nat, Hid (MapR Tryd.prog 3 wz mb ri n (valF (lastF (ents ss))) cnt ∧ Ext w11 wz)) (fun _ _ wz => wz.rangeLeft mb ri)
        case atStart => exact ⟨cnt, HR⟩
        case round =>
          obtain ⟨cz, HI⟩ := hrel
          clear HR
          rcases HI.out.1.next Tryd.underlying3 0 with hnx | ⟨x, v, wn, cn, hf, hnx, hmr, hlt, hfr, hen, _, _⟩
          rotate_left 1
          · obtain ⟨mx, hmx, rfl⟩ : ∃ mx, lastF (ents ss) x = some mx ∧ .int .i64 mx = v := by
              unfold valF at hf
              exact Option.map_eq_some_iff.1 hf
            have XN := Fr.ext HI.out.2 hfr (fun i e => by have e : i = ri := e; have := HRI.out; omega)
            have CPl := Lib.hid (rplace_any A n c ss wn x mx (HL.out wn (HM.out.2.2.trans XN)).1 (by omega))
            obtain ⟨r, hr⟩ : ∃ r, placeL (ents ss) x mx = r := ⟨_, rfl⟩
            have hr0 : (0 : Int) < r := by have := lastF_place hmx; omega
            rw [hr] at CPl
            have HN := Lib.hid (And.intro hmr (And.intro XN hlt))
            clear hr hf hmr hlt hfr XN hmx
            go_wp2_with (go_at_call 19; refine CPl.out.mono ?_; rintro x w13 ⟨rfl, x13⟩)
            go_roundw
            case rel => exact ⟨cn, Lib.hid ⟨HN.out.1.ext x13, HN.out.2.1.trans x13⟩⟩
            case measure => rw [(HN.out.1.ext x13).left_eq, HI.out.1.left_eq]; exact HN.out.2.2
          · go_upto_region 24 with (fail)
            have HZ := Lib.hid (And.intro (HM.out.2.1.trans HI.out.2) (HM.out.2.2.trans HI.out.2))
            clear HI
            by_cases hn0 : n = 0
            · have nz : ¬ (0 : Int) < (n : Int) := by omega
              refine w_region (fun w1 => Ext wr w1) [] (by kernel_rfl) ((Ext.refl wr).drew) ?_
              refine w_take (i := 0) (v := ?_) [] (some 139) rfl (by rfl) (by kernel_rfl) (by kernel_rfl) (by kernel_rfl) (by kernel_rfl) (by kernel_rfl) (by kernel_rfl) (fun _ _ _ h => h) (YieldsIf.yieldsW (.inl ⟨by rfl, ?_⟩)) ?_
              rotate_left 1
              · (intro W hW; (try dsimp only at hW); go_simp; try with_reducible rfl)
              try simp only [Act.put, List.setIfInBounds_toArray, List.set_cons_zero, List.set_cons_succ]
              refine w_take (i := 1) (v := ?_) [] (some 140) rfl (by rfl) (by kernel_rfl) (by kernel_rfl) (by kernel_rfl) (by kernel_rfl) (by kernel_rfl) (by kernel_rfl) (fun _ _ _ h => h) (YieldsIf.yieldsW (.inl ⟨by rfl, ?_⟩)) ?_
              rotate_left 1
              · (intro W hW; (try dsimp only at hW); go_simp; try with_reducible rfl)
              try simp only [Act.put, List.setIfInBounds_toArray, List.set_cons_zero, List.set_cons_succ]
              refine w_take (i := 2) (v := .bool false) [] (some 141) rfl (by rfl) (by kernel_rfl) (by kernel_rfl) (by kernel_rfl) (by kernel_rfl) (by kernel_rfl) (by kernel_rfl) (fun _ _ _ h => h) (YieldsIf.yieldsW (.inl ⟨by rfl, ?_⟩)) ?_
              · (intro W hW; (try dsimp only at hW); go_simp; try with_reducible rfl)
              try simp only [Act.put, List.setIfInBounds_toArray, List.set_cons_zero, List.set_cons_succ]
              refine w_take (i := 3) (v := .bool false) [] (some 142) rfl (by rfl) (by kernel_rfl) (by kernel_rfl) (by kernel_rfl) (by kernel_rfl) (by kernel_rfl) (by kernel_rfl) (fun _ _ _ h => h) (YieldsIf.yieldsW (.inl ⟨by rfl, ?_⟩)) ?_
              · (intro W hW; (try dsimp only at hW); go_simp; try with_reducible rfl)
              try simp only [Act.put, List.setIfInBounds_toArray, List.set_cons_zero, List.set_cons_succ]
              refine w_take (i := 4) (v := undef) [] (some 143) rfl (by rfl) (by kernel_rfl) (by kernel_rfl) (by kernel_rfl) (by kernel_rfl) (by kernel_rfl) (by kernel_rfl) (fun _ _ _ h => h) (.inr ⟨by rfl, rfl⟩) ?_
              try simp only [Act.put, List.setIfInBounds_toArray, List.set_cons_zero, List.set_cons_succ]
              refine w_take (i := 5) (v := undef) [] (some 144) rfl (by rfl) (by kernel_rfl) (by kernel_rfl) (by kernel_rfl) (by kernel_rfl) (by kernel_rfl) (by kernel_rfl) (fun _ _ _ h => h) (.inr ⟨by rfl, rfl⟩) ?_
              try simp only [Act.put, List.setIfInBounds_toArray, List.set_cons_zero, List.set_cons_succ]
              refine w_take (i := 6) (v := undef) [] (some 145) rfl (by rfl) (by kernel_rfl) (by kernel_rfl) (by kernel_rfl) (by kernel_rfl) (by kernel_rfl) (by kernel_rfl) (fun _ _ _ h => h) (.inr ⟨by rfl, rfl⟩) ?_
              try simp only [Act.put, List.setIfInBounds_toArray, List.set_cons_zero, List.set_cons_succ]
              refine w_take (i := 7) (v := .bool false) [] (some 146) rfl (by rfl) (by kernel_rfl) (by kernel_rfl) (by kernel_rfl) (by kernel_rfl) (by kernel_rfl) (by kernel_rfl) (fun _ _ _ h => h) (YieldsIf.yieldsW (.inl ⟨by rfl, ?_⟩)) ?_
              · (intro W hW; (try dsimp only at hW); go_simp; try with_reducible rfl)
              try simp only [Act.put, List.setIfInBounds_toArray, List.set_cons_zero, List.set_cons_succ]
              refine w_take (i := 8) (v := .bool false) [] (some 147) rfl (by rfl) (by kernel_rfl) (by kernel_rfl) (by kernel_rfl) (by kernel_rfl) (by kernel_rfl) (by kernel_rfl) (fun _ _ _ h => h) (YieldsIf.yieldsW (.inl ⟨by rfl, ?_⟩)) ?_
              · (intro W hW; (try dsimp only at hW); go_simp; try with_reducible rfl)
              try simp only [Act.put, List.setIfInBounds_toArray, List.set_cons_zero, List.set_cons_succ]
              refine w_take (i := 9) (v := undef) [] (some 148) rfl (by rfl) (by kernel_rfl) (by kernel_rfl) (by kernel_rfl) (by kernel_rfl) (by kernel_rfl) (by kernel_rfl) (fun _ _ _ h => h) (.inr ⟨by rfl, rfl⟩) ?_
              try simp only [Act.put, List.setIfInBounds_toArray, List.set_cons_zero, List.set_cons_succ]
              refine w_take (i := 10) (v := undef) [] (some 149) rfl (by rfl) (by kernel_rfl) (by kernel_rfl) (by kernel_rfl) (by kernel_rfl) (by kernel_rfl) (by kernel_rfl) (fun _ _ _ h => h) (.inr ⟨by rfl, rfl⟩) ?_
              try simp only [Act.put, List.setIfInBounds_toArray, List.set_cons_zero, List.set_cons_succ]
              refine w_take (i := 11) (v := undef) [] (some 150) rfl (by rfl) (by kernel_rfl) (by kernel_rfl) (by kernel_rfl) (by kernel_rfl) (by kernel_rfl) (by kernel_rfl) (fun _ _ _ h => h) (.inr ⟨by rfl, rfl⟩) ?_
              try simp only [Act.put, List.setIfInBounds_toArray, List.set_cons_zero, List.set_cons_succ]
              refine w_take (i := 12) (v := undef) [] (some 151) rfl (by rfl) (by kernel_rfl) (by kernel_rfl) (by kernel_rfl) (by kernel_rfl) (by kernel_rfl) (by kernel_rfl) (fun _ _ _ h => h) (.inr ⟨by rfl, rfl⟩) ?_
              try simp only [Act.put, List.setIfInBounds_toArray, List.set_cons_zero, List.set_cons_succ]
              refine w_take (i := 13) (v := undef) [] (some 152) rfl (by rfl) (by kernel_rfl) (by kernel_rfl) (by kernel_rfl) (by kernel_rfl) (by kernel_rfl) (by kernel_rfl) (fun _ _ _ h => h) (.inr ⟨by rfl, rfl⟩) ?_
              try simp only [Act.put, List.setIfInBounds_toArray, List.set_cons_zero, List.set_cons_succ]
              refine w_take (i := 14) (v := undef) [] (some 153) rfl (by rfl) (by kernel_rfl) (by kernel_rfl) (by kernel_rfl) (by kernel_rfl) (by kernel_rfl) (by kernel_rfl) (fun _ _ _ h => h) (.inr ⟨by rfl, rfl⟩) ?_
              try simp only [Act.put, List.setIfInBounds_toArray, List.set_cons_zero, List.set_cons_succ]
              refine w_take (i := 15) (v := undef) [] (some 154) rfl (by rfl) (by kernel_rfl) (by kernel_rfl) (by kernel_rfl) (by kernel_rfl) (by kernel_rfl) (by kernel_rfl) (fun _ _ _ h => h) (.inr ⟨by rfl, rfl⟩) ?_
              try simp only [Act.put, List.setIfInBounds_toArray, List.set_cons_zero, List.set_cons_succ]
              refine w_take (i := 16) (v := undef) [] (some 155) rfl (by rfl) (by kernel_rfl) (by kernel_rfl) (by kernel_rfl) (by kernel_rfl) (by kernel_rfl) (by kernel_rfl) (fun _ _ _ h => h) (.inr ⟨by rfl, rfl⟩) ?_
              try simp only [Act.put, List.setIfInBounds_toArray, List.set_cons_zero, List.set_cons_succ]
              refine w_take (i := 17) (v := undef) [] (some 156) rfl (by rfl) (by kernel_rfl) (by kernel_rfl) (by kernel_rfl) (by kernel_rfl) (by kernel_rfl) (by kernel_rfl) (fun _ _ _ h => h) (.inr ⟨by rfl, rfl⟩) ?_
              try simp only [Act.put, List.setIfInBounds_toArray, List.set_cons_zero, List.set_cons_succ]
              refine w_take (i := 18) (v := undef) [] (some 157) rfl (by rfl) (by kernel_rfl) (by kernel_rfl) (by kernel_rfl) (by kernel_rfl) (by kernel_rfl) (by kernel_rfl) (fun _ _ _ h => h) (.inr ⟨by rfl, rfl⟩) ?_
              try simp only [Act.put, List.setIfInBounds_toArray, List.set_cons_zero, List.set_cons_succ]
              refine w_take (i := 19) (v := undef) [] (some 158) rfl (by rfl) (by kernel_rfl) (by kernel_rfl) (by kernel_rfl) (by kernel_rfl) (by kernel_rfl) (by kernel_rfl) (fun _ _ _ h => h) (.inr ⟨by rfl, rfl⟩) ?_
              try simp only [Act.put, List.setIfInBounds_toArray, List.set_cons_zero, List.set_cons_succ]
              refine w_take (i := 20) (v := undef) [] (some 159) rfl (by rfl) (by kernel_rfl) (by kernel_rfl) (by kernel_rfl) (by kernel_rfl) (by kernel_rfl) (by kernel_rfl) (fun _ _ _ h => h) (.inr ⟨by rfl, rfl⟩) ?_
              try simp only [Act.put, List.setIfInBounds_toArray, List.set_cons_zero, List.set_cons_succ]
              refine w_take (i := 21) (v := undef) [] (some 160) rfl (by rfl) (by kernel_rfl) (by kernel_rfl) (by kernel_rfl) (by kernel_rfl) (by kernel_rfl) (by kernel_rfl) (fun _ _ _ h => h) (.inr ⟨by rfl, rfl⟩) ?_
              try simp only [Act.put, List.setIfInBounds_toArray, List.set_cons_zero, List.set_cons_succ]
              refine w_take (i := 22) (v := undef) [] (some 161) rfl (by rfl) (by kernel_rfl) (by kernel_rfl) (by kernel_rfl) (by kernel_rfl) (by kernel_rfl) (by kernel_rfl) (fun _ _ _ h => h) (.inr ⟨by rfl, rfl⟩) ?_
              try simp only [Act.put, List.setIfInBounds_toArray, List.set_cons_zero, List.set_cons_succ]
              refine w_take (i := 23) (v := undef) [] (some 162) rfl (by rfl) (by kernel_rfl) (by kernel_rfl) (by kernel_rfl) (by kernel_rfl) (by kernel_rfl) (by kernel_rfl) (fun _ _ _ h => h) (.inr ⟨by rfl, rfl⟩) ?_
              try simp only [Act.put, List.setIfInBounds_toArray, List.set_cons_zero, List.set_cons_succ]
              refine w_take (i := 24) (v := .bool false) [] (some 163) rfl (by rfl) (by kernel_rfl) (by kernel_rfl) (by kernel_rfl) (by kernel_rfl) (by kernel_rfl) (by kernel_rfl) (fun _ _ _ h => h) (YieldsIf.yieldsW (.inl ⟨by rfl, ?_⟩)) ?_
              · (intro W hW; (try dsimp only at hW); go_simp; try with_reducible rfl)
              try simp only [Act.put, List.setIfInBounds_toArray, List.set_cons_zero, List.set_cons_succ]
              refine w_done (by kernel_rfl) (by rfl) (fun V2 hV2 => ?_) _
              clear hn0 nz
              go_upto_region 26 with (fail)
              as_aux_lemma =>
              have HT := Lib.hid (And.intro (HZ.out.1.trans hV2) (HZ.out.2.trans hV2))
              clear hV2 HZ
              rcases (hv.out.imp And.left And.left : code = 0 ∨ code = 7) with hc | hc
              · have CBe := Lib.hid (fun W (hx : Ext V2 W) => begins_any B1 n d1 uu B2 m2 d2 vv W (HU2.out.2.1 W (HT.out.1.trans hx)) (HO.out.2.1.led.ext (HX6.out.1.trans (HT.out.1.trans hx))) HO.out.2.1.own.cap_le (by have := HM3.out; omega) true (Lib.hid (by have h := HO.out.1; rw [hc] at h; rw [HU2.out.1]; exact h.begins)))
                go_upto_region 28 with (go_at_call 20; refine (CBe.out _ (Ext.refl _)).mono ?_; rintro x V3 ⟨rfl, hV3⟩)
                have HT3 := Lib.hid (And.intro (HT.out.1.trans hV3) (HT.out.2.trans hV3))
                clear hV3 hc
                have HO3 := Lib.hid (HO.out.2.1.ext (HX6.out.1.trans HT3.out.1))
                have hml : Hid (vv.length = m2) := Lib.hid HO3.out.led.len
                go_wp2_with fail
                go_loopw [22, 23, 174] (fun _ _ v174 wr => ∃ k : Nat, v174 = .int .i64 (k : Int) ∧ k ≤ m2 ∧ Hid (Fr V3 wr (w2.heap.size ≤ ·) ∧ (0 < m2 → ∃ b, B2 = some ⟨b, 0, none⟩ ∧ Spoil V3 wr w2.heap.size b vv))) (fun _ _ v174 _ => m2 - (intOf v174).toNat)
                case atStart => exact ⟨0, rfl, by omega, Lib.hid ⟨Fr.refl _ _, fun h => by
                  obtain ⟨b, _, e, _⟩ := Own.zero HO3.out.own h
                  subst e
                  exact ⟨b, rfl, Spoil.start HO3.out h⟩⟩⟩
                case round =>
                  obtain ⟨k, rfl, hk, HI⟩ := hrel
                  by_cases hlt : k < m2
                  · obtain ⟨b, hB, hS⟩ := HI.out.2 (by omega)
                    obtain ⟨ae, hA2⟩ : ∃ ad, B2 = some ad := ⟨_, hB⟩
                    have hAd : Hid (ae = ⟨b, 0, none⟩) := Lib.hid (Option.some.inj (hA2.symm.trans hB))
                    clear hB
                    subst hA2
                    obtain ⟨x, hx⟩ : ∃ x, vv[k]? = some x := ⟨vv[k]'(by have := hml.out; omega), List.getElem?_eq_getElem _⟩
                    obtain ⟨k10, hk10⟩ : ∃ k10, k * 10 = k10 := ⟨_, rfl⟩
                    have k0 : (0 : Int) ≤ k := by omega
                    have k1 : (k : Int) < m2 := by omega
                    have HA : Hid (ae.add k10 = ⟨b, k10, none⟩) := Lib.hid (by rw [hAd.out, add_zero_])
                    have HK10 := Lib.hid hk10
                    have y8 : wr.cell? ⟨(ae.add k10).block, (ae.add k10).off + 8, none⟩ = some (.slice x.A x.n x.c) := by rw [HA.out]; have h := (hS.row k x hx).1; rwa [hk10] at h
                    have HX := Lib.hid (And.intro hS (And.intro hx (List.mem_of_getElem? hx)))
                    have hm2 := HM3.out
                    have hxn := (HO3.out.all x HX.out.2.2).1.le
                    clear hS hx HI
                    go_wp2_with fail
                    clear y8
                    go_loopw [23, 184] (fun _ v184 wi => ∃ j : Nat, v184 = .int .i64 (j : Int) ∧ j ≤ x.n ∧ Hid (Spoil V3 wi w2.heap.size b vv)) (fun _ v184 _ => x.n - (intOf v184).toNat)
                    case atStart => exact ⟨0, rfl, by omega, Lib.hid HX.out.1⟩
                    case round =>
                      obtain ⟨j, rfl, hj, HJ⟩ := hrel
                      by_cases hjl : j < x.n
                      · obtain ⟨g, hg, hgb, hlo, hfz, y, hy⟩ := HJ.out.tk x HX.out.2.2 j hjl
                        have HN := HJ.out.task HX.out.2.2 hjl hg (-9)
                        obtain ⟨j4, hj4⟩ : ∃ j4, j * 4 = j4 := ⟨_, rfl⟩
                        rw [hj4] at hy HN
                        have j0 : (0 : Int) ≤ j := by omega
                        have j1 : (j : Int) < x.n := by omega
                        have z8 : wr.cell? ⟨(ae.add k10).block, (ae.add k10).off + 8, none⟩ = some (.slice (some ⟨g, 0, none⟩) x.n x.c) := by rw [HA.out, ← hg]; have h := (HJ.out.row k x HX.out.2.1).1; rwa [HK10.out] at h
                        have zf := hfz j4
                        have HN2 := Lib.hid HN
                        clear hfz hg hgb hlo HN
                        go_wp2_with fail
                        go_roundw
                        case rel => exact ⟨j + 1, by go_num, by omega, HN2⟩
                        case measure => simp [intOf]; omega
                      · obtain rfl : j = x.n := by omega
                        obtain ⟨_, y, hy⟩ := HJ.out.row k x HX.out.2.1
                        have HN := HJ.out.client HX.out.2.1 (-9)
                        have zf := HJ.out.fb (k * 10)
                        rw [HK10.out, ← HA.out] at hy HN zf
                        have HN2 := Lib.hid HN
                        clear HN
                        go_wp2_with fail
                        go_roundw
                        case rel => exact ⟨k + 1, by go_num, by omega, Lib.hid ⟨HN2.out.fr, fun _ => ⟨b, congrArg some hAd.out, HN2.out⟩⟩⟩
                        case measure => simp [intOf]; omega
                  · obtain rfl : m2 = k := by omega
                    have XF := Fr.ext (HO.out.2.2.trans (HX6.out.1.trans HT3.out.1)) HI.out.1 (fun i e => e)
                    have CF := Lib.hid (rsameledger_any B1 n d1 uu _ n c ss wr (HU.out.2.1.led.ext XF) (HL.out wr (HU.out.2.2.trans XF)).1 (by omega) true (Lib.hid (decide_eq_true HU.out.1)))
                    have HXF := Lib.hid XF
                    clear XF HI
                    go_wp2_with (go_at_call 16; refine CF.out.mono ?_; rintro x wf ⟨rfl, xf⟩)
                    go_returns
                    exact ⟨rfl, HV.out.2.trans (HU.out.2.2.trans (HXF.out.trans xf))⟩
              · have hV3 := Ext.refl V2
                have hc0 : ¬ code = 0 := by omega
                clear hc
                go_upto_region 28 with (fail)
                have hc := hc0
                have HT3 := Lib.hid (And.intro (HT.out.1.trans hV3) (HT.out.2.trans hV3))
                clear hV3 hc
                have HO3 := Lib.hid (HO.out.2.1.ext (HX6.out.1.trans HT3.out.1))
                have hml : Hid (vv.length = m2) := Lib.hid HO3.out.led.len
                go_wp2_with fail
                go_loopw [22, 23, 174] (fun _ _ v174 wr => ∃ k : Nat, v174 = .int .i64 (k : Int) ∧ k ≤ m2 ∧ Hid (Fr V2 wr (w2.heap.size ≤ ·) ∧ (0 < m2 → ∃ b, B2 = some ⟨b, 0, none⟩ ∧ Spoil V2 wr w2.heap.size b vv))) (fun _ _ v174 _ => m2 - (intOf v174).toNat)
                case atStart => exact ⟨0, rfl, by omega, Lib.hid ⟨Fr.refl _ _, fun h => by
                  obtain ⟨b, _, e, _⟩ := Own.zero HO3.out.own h
                  subst e
                  exact ⟨b, rfl, Spoil.start HO3.out h⟩⟩⟩
                case round =>
                  obtain ⟨k, rfl, hk, HI⟩ := hrel
                  by_cases hlt : k < m2
                  · obtain ⟨b, hB, hS⟩ := HI.out.2 (by omega)
                    obtain ⟨ae, hA2⟩ : ∃ ad, B2 = some ad := ⟨_, hB⟩
                    have hAd : Hid (ae = ⟨b, 0, none⟩) := Lib.hid (Option.some.inj (hA2.symm.trans hB))
                    clear hB
                    subst hA2
                    obtain ⟨x, hx⟩ : ∃ x, vv[k]? = some x := ⟨vv[k]'(by have := hml.out; omega), List.getElem?_eq_getElem _⟩
                    obtain ⟨k10, hk10⟩ : ∃ k10, k * 10 = k10 := ⟨_, rfl⟩
                    have k0 : (0 : Int) ≤ k := by omega
                    have k1 : (k : Int) < m2 := by omega
                    have HA : Hid (ae.add k10 = ⟨b, k10, none⟩) := Lib.hid (by rw [hAd.out, add_zero_])
                    have HK10 := Lib.hid hk10
                    have y8 : wr.cell? ⟨(ae.add k10).block, (ae.add k10).off + 8, none⟩ = some (.slice x.A x.n x.c) := by rw [HA.out]; have h := (hS.row k x hx).1; rwa [hk10] at h
                    have HX := Lib.hid (And.intro hS (And.intro hx (List.mem_of_getElem? hx)))
                    have hm2 := HM3.out
                    have hxn := (HO3.out.all x HX.out.2.2).1.le
                    clear hS hx HI
                    go_wp2_with fail
                    clear y8
                    go_loopw [23, 184] (fun _ v184 wi => ∃ j : Nat, v184 = .int .i64 (j : Int) ∧ j ≤ x.n ∧ Hid (Spoil V2 wi w2.heap.size b vv)) (fun _ v184 _ => x.n - (intOf v184).toNat)
                    case atStart => exact ⟨0, rfl, by omega, Lib.hid HX.out.1⟩
                    case round =>
                      obtain ⟨j, rfl, hj, HJ⟩ := hrel
                      by_cases hjl : j < x.n
                      · obtain ⟨g, hg, hgb, hlo, hfz, y, hy⟩ := HJ.out.tk x HX.out.2.2 j hjl
                        have HN := HJ.out.task HX.out.2.2 hjl hg (-9)
                        obtain ⟨j4, hj4⟩ : ∃ j4, j * 4 = j4 := ⟨_, rfl⟩
                        rw [hj4] at hy HN
                        have j0 : (0 : Int) ≤ j := by omega
                        have j1 : (j : Int) < x.n := by omega
                        have z8 : wr.cell? ⟨(ae.add k10).block, (ae.add k10).off + 8, none⟩ = some (.slice (some ⟨g, 0, none⟩) x.n x.c) := by rw [HA.out, ← hg]; have h := (HJ.out.row k x HX.out.2.1).1; rwa [HK10.out] at h
                        have zf := hfz j4
                        have HN2 := Lib.hid HN
                        clear hfz hg hgb hlo HN
                        go_wp2_with fail
                        go_roundw
                        case rel => exact ⟨j + 1, by go_num, by omega, HN2⟩
                        case measure => simp [intOf]; omega
                      · obtain rfl : j = x.n := by omega
                        obtain ⟨_, y, hy⟩ := HJ.out.row k x HX.out.2.1
                        have HN := HJ.out.client HX.out.2.1 (-9)
                        have zf := HJ.out.fb (k * 10)
                        rw [HK10.out, ← HA.out] at hy HN zf
                        have HN2 := Lib.hid HN
                        clear HN
                        go_wp2_with fail
                        go_roundw
                        case rel => exact ⟨k + 1, by go_num, by omega, Lib.hid ⟨HN2.out.fr, fun _ => ⟨b, congrArg some hAd.out, HN2.out⟩⟩⟩
                        case measure => simp [intOf]; omega
                  · obtain rfl : m2 = k := by omega
                    have XF := Fr.ext (HO.out.2.2.trans (HX6.out.1.trans HT3.out.1)) HI.out.1 (fun i e => e)
                    have CF := Lib.hid (rsameledger_any B1 n d1 uu _ n c ss wr (HU.out.2.1.led.ext XF) (HL.out wr (HU.out.2.2.trans XF)).1 (by omega) true (Lib.hid (decide_eq_true HU.out.1)))
                    have HXF := Lib.hid XF
                    clear XF HI
                    go_wp2_with (go_at_call 16; refine CF.out.mono ?_; rintro x wf ⟨rfl, xf⟩)
                    go_returns
                    exact ⟨rfl, HV.out.2.trans (HU.out.2.2.trans (HXF.out.trans xf))⟩
            have np : (0 : Int) < (n : Int) := by omega
            have np2 : 0 < n := by omega
            by_cases hm0 : m = 0
            · have mz : ¬ (0 : Int) < (m : Int) := by omega
              refine w_region (fun w1 => Ext wr w1) [] (by kernel_rfl) ((Ext.refl wr).drew) ?_
              refine w_take (i := 0) (v := ?_) [] (some 139) rfl (by rfl) (by kernel_rfl) (by kernel_rfl) (by kernel_rfl) (by kernel_rfl) (by kernel_rfl) (by kernel_rfl) (fun _ _ _ h => h) (YieldsIf.yieldsW (.inl ⟨by rfl, ?_⟩)) ?_
              rotate_left 1
              · (intro W hW; (try dsimp only at hW); go_simp; try with_reducible rfl)
              try simp only [Act.put, List.setIfInBounds_toArray, List.set_cons_zero, List.set_cons_succ]
              refine w_take (i := 1) (v := ?_) [] (some 140) rfl (by rfl) (by kernel_rfl) (by kernel_rfl) (by kernel_rfl) (by kernel_rfl) (by kernel_rfl) (by kernel_rfl) (fun _ _ _ h => h) (YieldsIf.yieldsW (.inl ⟨by rfl, ?_⟩)) ?_
              rotate_left 1
              · (intro W hW; (try dsimp only at hW); go_simp; try with_reducible rfl)
              try simp only [Act.put, List.setIfInBounds_toArray, List.set_cons_zero, List.set_cons_succ]
              refine w_take (i := 2) (v := .bool true) [] (some 141) rfl (by rfl) (by kernel_rfl) (by kernel_rfl) (by kernel_rfl) (by kernel_rfl) (by kernel_rfl) (by kernel_rfl) (fun _ _ _ h => h) (YieldsIf.yieldsW (.inl ⟨by rfl, ?_⟩)) ?_
              · (intro W hW; (try dsimp only at hW); go_simp; try with_reducible rfl)
              try simp only [Act.put, List.setIfInBounds_toArray, List.set_cons_zero, List.set_cons_succ]
              refine w_take (i := 3) (v := .bool true) [] (some 142) rfl (by rfl) (by kernel_rfl) (by kernel_rfl) (by kernel_rfl) (by kernel_rfl) (by kernel_rfl) (by kernel_rfl) (fun _ _ _ h => h) (YieldsIf.yieldsW (.inl ⟨by rfl, ?_⟩)) ?_
              · (intro W hW; (try dsimp only at hW); go_simp; try with_reducible rfl)
              try simp only [Act.put, List.setIfInBounds_toArray, List.set_cons_zero, List.set_cons_succ]
              refine w_take (i := 4) (v := ?_) [] (some 143) rfl (by rfl) (by kernel_rfl) (by kernel_rfl) (by kernel_rfl) (by kernel_rfl) (by kernel_rfl) (by kernel_rfl) (fun _ _ _ h => h) (YieldsIf.yieldsW (.inl ⟨by rfl, ?_⟩)) ?_
              rotate_left 1
              · (intro W hW; (try dsimp only at hW); go_simp; try with_reducible rfl)
              try simp only [Act.put, List.setIfInBounds_toArray, List.set_cons_zero, List.set_cons_succ]
              refine w_take (i := 5) (v := ?_) [] (some 144) rfl (by rfl) (by kernel_rfl) (by kernel_rfl) (by kernel_rfl) (by kernel_rfl) (by kernel_rfl) (by kernel_rfl) (fun _ _ _ h => h) (YieldsIf.yieldsW (.inl ⟨by rfl, ?_⟩)) ?_
              rotate_left 1
              · (intro W hW; (try dsimp only at hW); go_simp; try with_reducible rfl)
              try simp only [Act.put, List.setIfInBounds_toArray, List.set_cons_zero, List.set_cons_succ]
              refine w_take (i := 6) (v := .bool false) [] (some 145) rfl (by rfl) (by kernel_rfl) (by kernel_rfl) (by kernel_rfl) (by kernel_rfl) (by kernel_rfl) (by kernel_rfl) (fun _ _ _ h => h) (YieldsIf.yieldsW (.inl ⟨by rfl, ?_⟩)) ?_
              · (intro W hW; (try dsimp only at hW); go_simp; try with_reducible rfl)
              try simp only [Act.put, List.setIfInBounds_toArray, List.set_cons_zero, List.set_cons_succ]
              refine w_take (i := 7) (v := .bool false) [] (some 146) rfl (by rfl) (by kernel_rfl) (by kernel_rfl) (by kernel_rfl) (by kernel_rfl) (by kernel_rfl) (by kernel_rfl) (fun _ _ _ h => h) (YieldsIf.yieldsW (.inl ⟨by rfl, ?_⟩)) ?_
              · (intro W hW; (try dsimp only at hW); go_simp; try with_reducible rfl)
              try simp only [Act.put, List.setIfInBounds_toArray, List.set_cons_zero, List.set_cons_succ]
              refine w_take (i := 8) (v := .bool false) [] (some 147) rfl (by rfl) (by kernel_rfl) (by kernel_rfl) (by kernel_rfl) (by kernel_rfl) (by kernel_rfl) (by kernel_rfl) (fun _ _ _ h => h) (YieldsIf.yieldsW (.inl ⟨by rfl, ?_⟩)) ?_
              · (intro W hW; (try dsimp only at hW); go_simp; try with_reducible rfl)
              try simp only [Act.put, List.setIfInBounds_toArray, List.set_cons_zero, List.set_cons_succ]
              refine w_take (i := 9) (v := undef) [] (some 148) rfl (by rfl) (by kernel_rfl) (by kernel_rfl) (by kernel_rfl) (by kernel_rfl) (by kernel_rfl) (by kernel_rfl) (fun _ _ _ h => h) (.inr ⟨by rfl, rfl⟩) ?_
              try simp only [Act.put, List.setIfInBounds_toArray, List.set_cons_zero, List.set_cons_succ]
              refine w_take (i := 10) (v := undef) [] (some 149) rfl (by rfl) (by kernel_rfl) (by kernel_rfl) (by kernel_rfl) (by kernel_rfl) (by kernel_rfl) (by kernel_rfl) (fun _ _ _ h => h) (.inr ⟨by rfl, rfl⟩) ?_
              try simp only [Act.put, List.setIfInBounds_toArray, List.set_cons_zero, List.set_cons_succ]
              refine w_take (i := 11) (v := undef) [] (some 150) rfl (by rfl) (by kernel_rfl) (by kernel_rfl) (by kernel_rfl) (by kernel_rfl) (by kernel_rfl) (by kernel_rfl) (fun _ _ _ h => h) (.inr ⟨by rfl, rfl⟩) ?_
              try simp only [Act.put, List.setIfInBounds_toArray, List.set_cons_zero, List.set_cons_succ]
              refine w_take (i := 12) (v := undef) [] (some 151) rfl (by rfl) (by kernel_rfl) (by kernel_rfl) (by kernel_rfl) (by kernel_rfl) (by kernel_rfl) (by kernel_rfl) (fun _ _ _ h => h) (.inr ⟨by rfl, rfl⟩) ?_
              try simp only [Act.put, List.setIfInBounds_toArray, List.set_cons_zero, List.set_cons_succ]
              refine w_take (i := 13) (v := undef) [] (some 152) rfl (by rfl) (by kernel_rfl) (by kernel_rfl) (by kernel_rfl) (by kernel_rfl) (by kernel_rfl) (by kernel_rfl) (fun _ _ _ h => h) (.inr ⟨by rfl, rfl⟩) ?_
              try simp only [Act.put, List.setIfInBounds_toArray, List.set_cons_zero, List.set_cons_succ]
              refine w_take (i := 14) (v := undef) [] (some 153) rfl (by rfl) (by kernel_rfl) (by kernel_rfl) (by kernel_rfl) (by kernel_rfl) (by kernel_rfl) (by kernel_rfl) (fun _ _ _ h => h) (.inr ⟨by rfl, rfl⟩) ?_
              try simp only [Act.put, List.setIfInBounds_toArray, List.set_cons_zero, List.set_cons_succ]
              refine w_take (i := 15) (v := undef) [] (some 154) rfl (by rfl) (by kernel_rfl) (by kernel_rfl) (by kernel_rfl) (by kernel_rfl) (by kernel_rfl) (by kernel_rfl) (fun _ _ _ h => h) (.inr ⟨by rfl, rfl⟩) ?_
              try simp only [Act.put, List.setIfInBounds_toArray, List.set_cons_zero, List.set_cons_succ]
              refine w_take (i := 16) (v := undef) [] (some 155) rfl (by rfl) (by kernel_rfl) (by kernel_rfl) (by kernel_rfl) (by kernel_rfl) (by kernel_rfl) (by kernel_rfl) (fun _ _ _ h => h) (.inr ⟨by rfl, rfl⟩) ?_
              try simp only [Act.put, List.setIfInBounds_toArray, List.set_cons_zero, List.set_cons_succ]
              refine w_take (i := 17) (v := undef) [] (some 156) rfl (by rfl) (by kernel_rfl) (by kernel_rfl) (by kernel_rfl) (by kernel_rfl) (by kernel_rfl) (by kernel_rfl) (fun _ _ _ h => h) (.inr ⟨by rfl, rfl⟩) ?_
              try simp only [Act.put, List.setIfInBounds_toArray, List.set_cons_zero, List.set_cons_succ]
              refine w_take (i := 18) (v := undef) [] (some 157) rfl (by rfl) (by kernel_rfl) (by kernel_rfl) (by kernel_rfl) (by kernel_rfl) (by kernel_rfl) (by kernel_rfl) (fun _ _ _ h => h) (.inr ⟨by rfl, rfl⟩) ?_
              try simp only [Act.put, List.setIfInBounds_toArray, List.set_cons_zero, List.set_cons_succ]
              refine w_take (i := 19) (v := undef) [] (some 158) rfl (by rfl) (by kernel_rfl) (by kernel_rfl) (by kernel_rfl) (by kernel_rfl) (by kernel_rfl) (by kernel_rfl) (fun _ _ _ h => h) (.inr ⟨by rfl, rfl⟩) ?_
              try simp only [Act.put, List.setIfInBounds_toArray, List.set_cons_zero, List.set_cons_succ]
              refine w_take (i := 20) (v := undef) [] (some 159) rfl (by rfl) (by kernel_rfl) (by kernel_rfl) (by kernel_rfl) (by kernel_rfl) (by kernel_rfl) (by kernel_rfl) (fun _ _ _ h => h) (.inr ⟨by rfl, rfl⟩) ?_
              try simp only [Act.put, List.setIfInBounds_toArray, List.set_cons_zero, List.set_cons_succ]
              refine w_take (i := 21) (v := undef) [] (some 160) rfl (by rfl) (by kernel_rfl) (by kernel_rfl) (by kernel_rfl) (by kernel_rfl) (by kernel_rfl) (by kernel_rfl) (fun _ _ _ h => h) (.inr ⟨by rfl, rfl⟩) ?_
              try simp only [Act.put, List.setIfInBounds_toArray, List.set_cons_zero, List.set_cons_succ]
              refine w_take (i := 22) (v := undef) [] (some 161) rfl (by rfl) (by kernel_rfl) (by kernel_rfl) (by kernel_rfl) (by kernel_rfl) (by kernel_rfl) (by kernel_rfl) (fun _ _ _ h => h) (.inr ⟨by rfl, rfl⟩) ?_
              try simp only [Act.put, List.setIfInBounds_toArray, List.set_cons_zero, List.set_cons_succ]
              refine w_take (i := 23) (v := undef) [] (some 162) rfl (by rfl) (by kernel_rfl) (by kernel_rfl) (by kernel_rfl) (by kernel_rfl) (by kernel_rfl) (by kernel_rfl) (fun _ _ _ h => h) (.inr ⟨by rfl, rfl⟩) ?_
              try simp only [Act.put, List.setIfInBounds_toArray, List.set_cons_zero, List.set_cons_succ]
              refine w_take (i := 24) (v := .bool false) [] (some 163) rfl (by rfl) (by kernel_rfl) (by kernel_rfl) (by kernel_rfl) (by kernel_rfl) (by kernel_rfl) (by kernel_rfl) (fun _ _ _ h => h) (YieldsIf.yieldsW (.inl ⟨by rfl, ?_⟩)) ?_
              · (intro W hW; (try dsimp only at hW); go_simp; try with_reducible rfl)
              try simp only [Act.put, List.setIfInBounds_toArray, List.set_cons_zero, List.set_cons_succ]
              refine w_done (by kernel_rfl) (by rfl) (fun V2 hV2 => ?_) _
              clear hm0 mz np np2
              go_upto_region 26 with (fail)
              as_aux_lemma =>
              have HT := Lib.hid (And.intro (HZ.out.1.trans hV2) (HZ.out.2.trans hV2))
              clear hV2 HZ
              rcases (hv.out.imp And.left And.left : code = 0 ∨ code = 7) with hc | hc
              · have CBe := Lib.hid (fun W (hx : Ext V2 W) => begins_any B1 n d1 uu B2 m2 d2 vv W (HU2.out.2.1 W (HT.out.1.trans hx)) (HO.out.2.1.led.ext (HX6.out.1.trans (HT.out.1.trans hx))) HO.out.2.1.own.cap_le (by have := HM3.out; omega) true (Lib.hid (by have h := HO.out.1; rw [hc] at h; rw [HU2.out.1]; exact h.begins)))
                go_upto_region 28 with (go_at_call 20; refine (CBe.out _ (Ext.refl _)).mono ?_; rintro x V3 ⟨rfl, hV3⟩)
                have HT3 := Lib.hid (And.intro (HT.out.1.trans hV3) (HT.out.2.trans hV3))
                clear hV3 hc
                have HO3 := Lib.hid (HO.out.2.1.ext (HX6.out.1.trans HT3.out.1))
                have hml : Hid (vv.length = m2) := Lib.hid HO3.out.led.len
                go_wp2_with fail
                go_loopw [22, 23, 174] (fun _ _ v174 wr => ∃ k : Nat, v174 = .int .i64 (k : Int) ∧ k ≤ m2 ∧ Hid (Fr V3 wr (w2.heap.size ≤ ·) ∧ (0 < m2 → ∃ b, B2 = some ⟨b, 0, none⟩ ∧ Spoil V3 wr w2.heap.size b vv))) (fun _ _ v174 _ => m2 - (intOf v174).toNat)
                case atStart => exact ⟨0, rfl, by omega, Lib.hid ⟨Fr.refl _ _, fun h => by
                  obtain ⟨b, _, e, _⟩ := Own.zero HO3.out.own h
                  subst e
                  exact ⟨b, rfl, Spoil.start HO3.out h⟩⟩⟩
                case round =>
                  obtain ⟨k, rfl, hk, HI⟩ := hrel
                  by_cases hlt : k < m2
                  · obtain ⟨b, hB, hS⟩ := HI.out.2 (by omega)
                    obtain ⟨ae, hA2⟩ : ∃ ad, B2 = some ad := ⟨_, hB⟩
                    have hAd : Hid (ae = ⟨b, 0, none⟩) := Lib.hid (Option.some.inj (hA2.symm.trans hB))
                    clear hB
                    subst hA2
                    obtain ⟨x, hx⟩ : ∃ x, vv[k]? = some x := ⟨vv[k]'(by have := hml.out; omega), List.getElem?_eq_getElem _⟩
                    obtain ⟨k10, hk10⟩ : ∃ k10, k * 10 = k10 := ⟨_, rfl⟩
                    have k0 : (0 : Int) ≤ k := by omega
                    have k1 : (k : Int) < m2 := by omega
                    have HA : Hid (ae.add k10 = ⟨b, k10, none⟩) := Lib.hid (by rw [hAd.out, add_zero_])
                    have HK10 := Lib.hid hk10
                    have y8 : wr.cell? ⟨(ae.add k10).block, (ae.add k10).off + 8, none⟩ = some (.slice x.A x.n x.c) := by rw [HA.out]; have h := (hS.row k x hx).1; rwa [hk10] at h
                    have HX := Lib.hid (And.intro hS (And.intro hx (List.mem_of_getElem? hx)))
                    have hm2 := HM3.out
                    have hxn := (HO3.out.all x HX.out.2.2).1.le
                    clear hS hx HI
                    go_wp2_with fail
                    clear y8
                    go_loopw [23, 184] (fun _ v184 wi => ∃ j : Nat, v184 = .int .i64 (j : Int) ∧ j ≤ x.n ∧ Hid (Spoil V3 wi w2.heap.size b vv)) (fun _ v184 _ => x.n - (intOf v184).toNat)
                    case atStart => exact ⟨0, rfl, by omega, Lib.hid HX.out.1⟩
                    case round =>
                      obtain ⟨j, rfl, hj, HJ⟩ := hrel
                      by_cases hjl : j < x.n
                      · obtain ⟨g, hg, hgb, hlo, hfz, y, hy⟩ := HJ.out.tk x HX.out.2.2 j hjl
                        have HN := HJ.out.task HX.out.2.2 hjl hg (-9)
                        obtain ⟨j4, hj4⟩ : ∃ j4, j * 4 = j4 := ⟨_, rfl⟩
                        rw [hj4] at hy HN
                        have j0 : (0 : Int) ≤ j := by omega
                        have j1 : (j : Int) < x.n := by omega
                        have z8 : wr.cell? ⟨(ae.add k10).block, (ae.add k10).off + 8, none⟩ = some (.slice (some ⟨g, 0, none⟩) x.n x.c) := by rw [HA.out, ← hg]; have h := (HJ.out.row k x HX.out.2.1).1; rwa [HK10.out] at h
                        have zf := hfz j4
                        have HN2 := Lib.hid HN
                        clear hfz hg hgb hlo HN
                        go_wp2_with fail
                        go_roundw
                        case rel => exact ⟨j + 1, by go_num, by omega, HN2⟩
                        case measure => simp [intOf]; omega
                      · obtain rfl : j = x.n := by omega
                        obtain ⟨_, y, hy⟩ := HJ.out.row k x HX.out.2.1
                        have HN := HJ.out.client HX.out.2.1 (-9)
                        have zf := HJ.out.fb (k * 10)
                        rw [HK10.out, ← HA.out] at hy HN zf
                        have HN2 := Lib.hid HN
                        clear HN
                        go_wp2_with fail
                        go_roundw
                        case rel => exact ⟨k + 1, by go_num, by omega, Lib.hid ⟨HN2.out.fr, fun _ => ⟨b, congrArg some hAd.out, HN2.out⟩⟩⟩
                        case measure => simp [intOf]; omega
                  · obtain rfl : m2 = k := by omega
                    have XF := Fr.ext (HO.out.2.2.trans (HX6.out.1.trans HT3.out.1)) HI.out.1 (fun i e => e)
                    have CF := Lib.hid (rsameledger_any B1 n d1 uu _ n c ss wr (HU.out.2.1.led.ext XF) (HL.out wr (HU.out.2.2.trans XF)).1 (by omega) true (Lib.hid (decide_eq_true HU.out.1)))
                    have HXF := Lib.hid XF
                    clear XF HI
                    go_wp2_with (go_at_call 16; refine CF.out.mono ?_; rintro x wf ⟨rfl, xf⟩)
                    go_returns
                    exact ⟨rfl, HV.out.2.trans (HU.out.2.2.trans (HXF.out.trans xf))⟩
              · have hV3 := Ext.refl V2
                have hc0 : ¬ code = 0 := by omega
                clear hc
                go_upto_region 28 with (fail)
                have hc := hc0
                have HT3 := Lib.hid (And.intro (HT.out.1.trans hV3) (HT.out.2.trans hV3))
                clear hV3 hc
                have HO3 := Lib.hid (HO.out.2.1.ext (HX6.out.1.trans HT3.out.1))
                have hml : Hid (vv.length = m2) := Lib.hid HO3.out.led.len
                go_wp2_with fail
                go_loopw [22, 23, 174] (fun _ _ v174 wr => ∃ k : Nat, v174 = .int .i64 (k : Int) ∧ k ≤ m2 ∧ Hid (Fr V2 wr (w2.heap.size ≤ ·) ∧ (0 < m2 → ∃ b, B2 = some ⟨b, 0, none⟩ ∧ Spoil V2 wr w2.heap.size b vv))) (fun _ _ v174 _ => m2 - (intOf v174).toNat)
                case atStart => exact ⟨0, rfl, by omega, Lib.hid ⟨Fr.refl _ _, fun h => by
                  obtain ⟨b, _, e, _⟩ := Own.zero HO3.out.own h
                  subst e
                  exact ⟨b, rfl, Spoil.start HO3.out h⟩⟩⟩
                case round =>
                  obtain ⟨k, rfl, hk, HI⟩ := hrel
                  by_cases hlt : k < m2
                  · obtain ⟨b, hB, hS⟩ := HI.out.2 (by omega)
                    obtain ⟨ae, hA2⟩ : ∃ ad, B2 = some ad := ⟨_, hB⟩
                    have hAd : Hid (ae = ⟨b, 0, none⟩) := Lib.hid (Option.some.inj (hA2.symm.trans hB))
                    clear hB
                    subst hA2
                    obtain ⟨x, hx⟩ : ∃ x, vv[k]? = some x := ⟨vv[k]'(by have := hml.out; omega), List.getElem?_eq_getElem _⟩
                    obtain ⟨k10, hk10⟩ : ∃ k10, k * 10 = k10 := ⟨_, rfl⟩
                    have k0 : (0 : Int) ≤ k := by omega
                    have k1 : (k : Int) < m2 := by omega
                    have HA : Hid (ae.add k10 = ⟨b, k10, none⟩) := Lib.hid (by rw [hAd.out, add_zero_])
                    have HK10 := Lib.hid hk10
                    have y8 : wr.cell? ⟨(ae.add k10).block, (ae.add k10).off + 8, none⟩ = some (.slice x.A x.n x.c) := by rw [HA.out]; have h := (hS.row k x hx).1; rwa [hk10] at h
                    have HX := Lib.hid (And.intro hS (And.intro hx (List.mem_of_getElem? hx)))
                    have hm2 := HM3.out
                    have hxn := (HO3.out.all x HX.out.2.2).1.le
                    clear hS hx HI
                    go_wp2_with fail
                    clear y8
                    go_loopw [23, 184] (fun _ v184 wi => ∃ j : Nat, v184 = .int .i64 (j : Int) ∧ j ≤ x.n ∧ Hid (Spoil V2 wi w2.heap.size b vv)) (fun _ v184 _ => x.n - (intOf v184).toNat)
                    case atStart => exact ⟨0, rfl, by omega, Lib.hid HX.out.1⟩
                    case round =>
                      obtain ⟨j, rfl, hj, HJ⟩ := hrel
                      by_cases hjl : j < x.n
                      · obtain ⟨g, hg, hgb, hlo, hfz, y, hy⟩ := HJ.out.tk x HX.out.2.2 j hjl
                        have HN := HJ.out.task HX.out.2.2 hjl hg (-9)
                        obtain ⟨j4, hj4⟩ : ∃ j4, j * 4 = j4 := ⟨_, rfl⟩
                        rw [hj4] at hy HN
                        have j0 : (0 : Int) ≤ j := by omega
                        have j1 : (j : Int) < x.n := by omega
                        have z8 : wr.cell? ⟨(ae.add k10).block, (ae.add k10).off + 8, none⟩ = some (.slice (some ⟨g, 0, none⟩) x.n x.c) := by rw [HA.out, ← hg]; have h := (HJ.out.row k x HX.out.2.1).1; rwa [HK10.out] at h
                        have zf := hfz j4
                        have HN2 := Lib.hid HN
                        clear hfz hg hgb hlo HN
                        go_wp2_with fail
                        go_roundw
                        case rel => exact ⟨j + 1, by go_num, by omega, HN2⟩
                        case measure => simp [intOf]; omega
                      · obtain rfl : j = x.n := by omega
                        obtain ⟨_, y, hy⟩ := HJ.out.row k x HX.out.2.1
                        have HN := HJ.out.client HX.out.2.1 (-9)
                        have zf := HJ.out.fb (k * 10)
                        rw [HK10.out, ← HA.out] at hy HN zf
                        have HN2 := Lib.hid HN
                        clear HN
                        go_wp2_with fail
                        go_roundw
                        case rel => exact ⟨k + 1, by go_num, by omega, Lib.hid ⟨HN2.out.fr, fun _ => ⟨b, congrArg some hAd.out, HN2.out⟩⟩⟩
                        case measure => simp [intOf]; omega
                  · obtain rfl : m2 = k := by omega
                    have XF := Fr.ext (HO.out.2.2.trans (HX6.out.1.trans HT3.out.1)) HI.out.1 (fun i e => e)
                    have CF := Lib.hid (rsameledger_any B1 n d1 uu _ n c ss wr (HU.out.2.1.led.ext XF) (HL.out wr (HU.out.2.2.trans XF)).1 (by omega) true (Lib.hid (decide_eq_true HU.out.1)))
                    have HXF := Lib.hid XF
                    clear XF HI
                    go_wp2_with (go_at_call 16; refine CF.out.mono ?_; rintro x wf ⟨rfl, xf⟩)
                    go_returns
                    exact ⟨rfl, HV.out.2.trans (HU.out.2.2.trans (HXF.out.trans xf))⟩
            · have mp : (0 : Int) < (m : Int) := by omega
              have mp2 : 0 < m := by omega
              obtain ⟨xa, hxa⟩ : ∃ x, ss[0]? = some x := ⟨ss[0]'(by omega), List.getElem?_eq_getElem _⟩
              obtain ⟨yb, hyb⟩ : ∃ x, tt[0]? = some x := ⟨tt[0]'(by omega), List.getElem?_eq_getElem _⟩
              obtain ⟨ad, hA⟩ : ∃ ad, A = some ad := by obtain ⟨ad, h, _⟩ := (HL.out wr HZ.out.2).1.entry hxa (k10 := 0) rfl; exact ⟨ad, h⟩
              obtain ⟨bd, hB⟩ : ∃ ad, B = some ad := by obtain ⟨ad, h, _⟩ := (HL.out wr HZ.out.2).2.1.entry hyb (k10 := 0) rfl; exact ⟨ad, h⟩
              subst hA hB
              have yy := fun W (hx : Ext wr W) => (HL.out W (HZ.out.2.trans hx)).1.entry_at hxa (k10 := 0) rfl
              have zz := fun W (hx : Ext wr W) => (HL.out W (HZ.out.2.trans hx)).2.1.entry_at hyb (k10 := 0) rfl
              rw [show ad.add 0 = ad by unfold Addr.add; rw [if_pos rfl]] at yy
              rw [show bd.add 0 = bd by unfold Addr.add; rw [if_pos rfl]] at zz
              have y0 := fun W (hx : Ext wr W) => (yy W hx).1
              have y1 := fun W (hx : Ext wr W) => (yy W hx).2.1
              have y2 := fun W (hx : Ext wr W) => (yy W hx).2.2.1
              have y3 := fun W (hx : Ext wr W) => (yy W hx).2.2.2.1
              have y4 := fun W (hx : Ext wr W) => (yy W hx).2.2.2.2.1
              have y5 := fun W (hx : Ext wr W) => (yy W hx).2.2.2.2.2.1
              have y6 := fun W (hx : Ext wr W) => (yy W hx).2.2.2.2.2.2.1
              have y7 := fun W (hx : Ext wr W) => (yy W hx).2.2.2.2.2.2.2.1
              have y8 := fun W (hx : Ext wr W) => (yy W hx).2.2.2.2.2.2.2.2.1
              have y9 := fun W (hx : Ext wr W) => (yy W hx).2.2.2.2.2.2.2.2.2
              have z0 := fun W (hx : Ext wr W) => (zz W hx).1
              have z1 := fun W (hx : Ext wr W) => (zz W hx).2.1
              have z2 := fun W (hx : Ext wr W) => (zz W hx).2.2.1
              have z3 := fun W (hx : Ext wr W) => (zz W hx).2.2.2.1
              have z4 := fun W (hx : Ext wr W) => (zz W hx).2.2.2.2.1
              have z5 := fun W (hx : Ext wr W) => (zz W hx).2.2.2.2.2.1
              have z6 := fun W (hx : Ext wr W) => (zz W hx).2.2.2.2.2.2.1
              have z7 := fun W (hx : Ext wr W) => (zz W hx).2.2.2.2.2.2.2.1
              have z8 := fun W (hx : Ext wr W) => (zz W hx).2.2.2.2.2.2.2.2.1
              have z9 := fun W (hx : Ext wr W) => (zz W hx).2.2.2.2.2.2.2.2.2
              obtain ⟨bs, hbs⟩ : ∃ b, decide (xa.e = yb.e) = b := ⟨_, rfl⟩
              have lx : ∀ W, Ext wr W → xa.Lies W := fun W hx => (HL.out W (HZ.out.2.trans hx)).1.all _ (List.mem_of_getElem? hxa)
              have ly : ∀ W, Ext wr W → yb.Lies W := fun W hx => (HL.out W (HZ.out.2.trans hx)).2.1.all _ (List.mem_of_getElem? hyb)
              have C15 := Lib.hid (fun W (hx : Ext wr W) => same_any xa yb W (lx W hx) (ly W hx) bs (Lib.hid hbs))
              have C22 := Lib.hid (fun W (hx : Ext wr W) => rsame_any xa yb W (lx W hx) (ly W hx) bs (Lib.hid hbs))
              have q1 : ∀ W, (binOp .neq 4 (.bool bs) (.bool bs)).run Tryd.prog W = .ok (.bool false) W := fun W => by cases bs <;> kernel_rfl
              clear yy zz hxa hyb lx ly hbs
              refine w_region (fun w1 => Ext wr w1) [] (by kernel_rfl) ((Ext.refl wr).drew) ?_
              refine w_take (i := 0) (v := ?_) [] (some 139) rfl (by rfl) (by kernel_rfl) (by kernel_rfl) (by kernel_rfl) (by kernel_rfl) (by kernel_rfl) (by kernel_rfl) (fun _ _ _ h => h) (YieldsIf.yieldsW (.inl ⟨by rfl, ?_⟩)) ?_
              rotate_left 1
              · (intro W hW; (try dsimp only at hW); go_simp; try with_reducible rfl)
              try simp only [Act.put, List.setIfInBounds_toArray, List.set_cons_zero, List.set_cons_succ]
              refine w_take (i := 1) (v := ?_) [] (some 140) rfl (by rfl) (by kernel_rfl) (by kernel_rfl) (by kernel_rfl) (by kernel_rfl) (by kernel_rfl) (by kernel_rfl) (fun _ _ _ h => h) (YieldsIf.yieldsW (.inl ⟨by rfl, ?_⟩)) ?_
              rotate_left 1
              · (intro W hW; (try dsimp only at hW); go_simp; try with_reducible rfl)
              try simp only [Act.put, List.setIfInBounds_toArray, List.set_cons_zero, List.set_cons_succ]
              refine w_take (i := 2) (v := .bool true) [] (some 141) rfl (by rfl) (by kernel_rfl) (by kernel_rfl) (by kernel_rfl) (by kernel_rfl) (by kernel_rfl) (by kernel_rfl) (fun _ _ _ h => h) (YieldsIf.yieldsW (.inl ⟨by rfl, ?_⟩)) ?_
              · (intro W hW; (try dsimp only at hW); go_simp; try with_reducible rfl)
              try simp only [Act.put, List.setIfInBounds_toArray, List.set_cons_zero, List.set_cons_succ]
              refine w_take (i := 3) (v := .bool true) [] (some 142) rfl (by rfl) (by kernel_rfl) (by kernel_rfl) (by kernel_rfl) (by kernel_rfl) (by kernel_rfl) (by kernel_rfl) (fun _ _ _ h => h) (YieldsIf.yieldsW (.inl ⟨by rfl, ?_⟩)) ?_
              · (intro W hW; (try dsimp only at hW); go_simp; try with_reducible rfl)
              try simp only [Act.put, List.setIfInBounds_toArray, List.set_cons_zero, List.set_cons_succ]
              refine w_take (i := 4) (v := ?_) [] (some 143) rfl (by rfl) (by kernel_rfl) (by kernel_rfl) (by kernel_rfl) (by kernel_rfl) (by kernel_rfl) (by kernel_rfl) (fun _ _ _ h => h) (YieldsIf.yieldsW (.inl ⟨by rfl, ?_⟩)) ?_
              rotate_left 1
              · (intro W hW; (try dsimp only at hW); go_simp; try with_reducible rfl)
              try simp only [Act.put, List.setIfInBounds_toArray, List.set_cons_zero, List.set_cons_succ]
              refine w_take (i := 5) (v := ?_) [] (some 144) rfl (by rfl) (by kernel_rfl) (by kernel_rfl) (by kernel_rfl) (by kernel_rfl) (by kernel_rfl) (by kernel_rfl) (fun _ _ _ h => h) (YieldsIf.yieldsW (.inl ⟨by rfl, ?_⟩)) ?_
              rotate_left 1
              · (intro W hW; (try dsimp only at hW); go_simp; try with_reducible rfl)
              try simp only [Act.put, List.setIfInBounds_toArray, List.set_cons_zero, List.set_cons_succ]
              refine w_take (i := 6) (v := .bool true) [] (some 145) rfl (by rfl) (by kernel_rfl) (by kernel_rfl) (by kernel_rfl) (by kernel_rfl) (by kernel_rfl) (by kernel_rfl) (fun _ _ _ h => h) (YieldsIf.yieldsW (.inl ⟨by rfl, ?_⟩)) ?_
              · (intro W hW; (try dsimp only at hW); go_simp; try with_reducible rfl)
              try simp only [Act.put, List.setIfInBounds_toArray, List.set_cons_zero, List.set_cons_succ]
              refine w_take (i := 7) (v := .bool true) [] (some 146) rfl (by rfl) (by kernel_rfl) (by kernel_rfl) (by kernel_rfl) (by kernel_rfl) (by kernel_rfl) (by kernel_rfl) (fun _ _ _ h => h) (YieldsIf.yieldsW (.inl ⟨by rfl, ?_⟩)) ?_
              · (intro W hW; (try dsimp only at hW); go_simp; try with_reducible rfl)
              try simp only [Act.put, List.setIfInBounds_toArray, List.set_cons_zero, List.set_cons_succ]
              refine w_take (i := 8) (v := .bool true) [] (some 147) rfl (by rfl) (by kernel_rfl) (by kernel_rfl) (by kernel_rfl) (by kernel_rfl) (by kernel_rfl) (by kernel_rfl) (fun _ _ _ h => h) (YieldsIf.yieldsW (.inl ⟨by rfl, ?_⟩)) ?_
              · (intro W hW; (try dsimp only at hW); go_simp; try with_reducible rfl)
              try simp only [Act.put, List.setIfInBounds_toArray, List.set_cons_zero, List.set_cons_succ]
              refine w_take (i := 9) (v := ?_) [] (some 148) rfl (by rfl) (by kernel_rfl) (by kernel_rfl) (by kernel_rfl) (by kernel_rfl) (by kernel_rfl) (by kernel_rfl) (fun _ _ _ h => h) (YieldsIf.yieldsW (.inl ⟨by rfl, ?_⟩)) ?_
              rotate_left 1
              · (intro W hW; (try dsimp only at hW); go_simp; try with_reducible rfl)
              try simp only [Act.put, List.setIfInBounds_toArray, List.set_cons_zero, List.set_cons_succ]
              refine w_take (i := 10) (v := ?_) [] (some 149) rfl (by rfl) (by kernel_rfl) (by kernel_rfl) (by kernel_rfl) (by kernel_rfl) (by kernel_rfl) (by kernel_rfl) (fun _ _ _ h => h) (YieldsIf.yieldsW (.inl ⟨by rfl, ?_⟩)) ?_
              rotate_left 1
              · (intro W hW; (try dsimp only at hW); go_simp; try with_reducible rfl)
              try simp only [Act.put, List.setIfInBounds_toArray, List.set_cons_zero, List.set_cons_succ]
              refine w_take (i := 11) (v := ?_) [] (some 150) rfl (by rfl) (by kernel_rfl) (by kernel_rfl) (by kernel_rfl) (by kernel_rfl) (by kernel_rfl) (by kernel_rfl) (fun _ _ _ h => h) (YieldsIf.yieldsW (.inl ⟨by rfl, ?_⟩)) ?_
              rotate_left 1
              · (intro W hW; (try dsimp only at hW); go_simp; try with_reducible rfl)
              try simp only [Act.put, List.setIfInBounds_toArray, List.set_cons_zero, List.set_cons_succ]
              refine w_take (i := 12) (v := ?_) [] (some 151) rfl (by rfl) (by kernel_rfl) (by kernel_rfl) (by kernel_rfl) (by kernel_rfl) (by kernel_rfl) (by kernel_rfl) (fun _ _ _ h => h) (YieldsIf.yieldsW (.inl ⟨by rfl, ?_⟩)) ?_
              rotate_left 1
              · (intro W hW; (try dsimp only at hW); go_simp; try with_reducible rfl)
              try simp only [Act.put, List.setIfInBounds_toArray, List.set_cons_zero, List.set_cons_succ]
              refine w_take (i := 13) (v := ?_) [] (some 152) rfl (by rfl) (by kernel_rfl) (by kernel_rfl) (by kernel_rfl) (by kernel_rfl) (by kernel_rfl) (by kernel_rfl) (fun _ _ _ h => h) (YieldsIf.yieldsW (.inl ⟨by rfl, ?_⟩)) ?_
              rotate_left 1
              · (intro W hW; (try dsimp only at hW); go_simp; try with_reducible rfl)
              try simp only [Act.put, List.setIfInBounds_toArray, List.set_cons_zero, List.set_cons_succ]
              refine w_take (i := 14) (v := ?_) [] (some 153) rfl (by rfl) (by kernel_rfl) (by kernel_rfl) (by kernel_rfl) (by kernel_rfl) (by kernel_rfl) (by kernel_rfl) (fun _ _ _ h => h) (YieldsIf.yieldsW (.inl ⟨by rfl, ?_⟩)) ?_
              rotate_left 1
              · (intro W hW; (try dsimp only at hW); go_simp; try with_reducible rfl)
              try simp only [Act.put, List.setIfInBounds_toArray, List.set_cons_zero, List.set_cons_succ]
              refine w_take (i := 15) (v := .bool bs) [] (some 154) rfl (by rfl) (by kernel_rfl) (by kernel_rfl) (by kernel_rfl) (by kernel_rfl) (by kernel_rfl) (by kernel_rfl) (fun _ _ _ h => h) (.inl ⟨by rfl, ?_⟩) ?_
              · (intro W hW; refine .inr ⟨_, _, _, ?_, ((C15.out W hW).mono fun _ _ ⟨h1, h2⟩ => ⟨h1, hW.trans h2⟩)⟩; go_simp; try with_reducible rfl)
              try simp only [Act.put, List.setIfInBounds_toArray, List.set_cons_zero, List.set_cons_succ]
              refine w_take (i := 16) (v := ?_) [] (some 155) rfl (by rfl) (by kernel_rfl) (by kernel_rfl) (by kernel_rfl) (by kernel_rfl) (by kernel_rfl) (by kernel_rfl) (fun _ _ _ h => h) (YieldsIf.yieldsW (.inl ⟨by rfl, ?_⟩)) ?_
              rotate_left 1
              · (intro W hW; (try dsimp only at hW); go_simp; try with_reducible rfl)
              try simp only [Act.put, List.setIfInBounds_toArray, List.set_cons_zero, List.set_cons_succ]
              refine w_take (i := 17) (v := ?_) [] (some 156) rfl (by rfl) (by kernel_rfl) (by kernel_rfl) (by kernel_rfl) (by kernel_rfl) (by kernel_rfl) (by kernel_rfl) (fun _ _ _ h => h) (YieldsIf.yieldsW (.inl ⟨by rfl, ?_⟩)) ?_
              rotate_left 1
              · (intro W hW; (try dsimp only at hW); go_simp; try with_reducible rfl)
              try simp only [Act.put, List.setIfInBounds_toArray, List.set_cons_zero, List.set_cons_succ]
              refine w_take (i := 18) (v := ?_) [] (some 157) rfl (by rfl) (by kernel_rfl) (by kernel_rfl) (by kernel_rfl) (by kernel_rfl) (by kernel_rfl) (by kernel_rfl) (fun _ _ _ h => h) (YieldsIf.yieldsW (.inl ⟨by rfl, ?_⟩)) ?_
              rotate_left 1
              · (intro W hW; (try dsimp only at hW); go_simp; try with_reducible rfl)
              try simp only [Act.put, List.setIfInBounds_toArray, List.set_cons_zero, List.set_cons_succ]
              refine w_take (i := 19) (v := ?_) [] (some 158) rfl (by rfl) (by kernel_rfl) (by kernel_rfl) (by kernel_rfl) (by kernel_rfl) (by kernel_rfl) (by kernel_rfl) (fun _ _ _ h => h) (YieldsIf.yieldsW (.inl ⟨by rfl, ?_⟩)) ?_
              rotate_left 1
              · (intro W hW; (try dsimp only at hW); go_simp; try with_reducible rfl)
              try simp only [Act.put, List.setIfInBounds_toArray, List.set_cons_zero, List.set_cons_succ]
              refine w_take (i := 20) (v := ?_) [] (some 159) rfl (by rfl) (by kernel_rfl) (by kernel_rfl) (by kernel_rfl) (by kernel_rfl) (by kernel_rfl) (by kernel_rfl) (fun _ _ _ h => h) (YieldsIf.yieldsW (.inl ⟨by rfl, ?_⟩)) ?_
              rotate_left 1
              · (intro W hW; (try dsimp only at hW); go_simp; try with_reducible rfl)
              try simp only [Act.put, List.setIfInBounds_toArray, List.set_cons_zero, List.set_cons_succ]
              refine w_take (i := 21) (v := ?_) [] (some 160) rfl (by rfl) (by kernel_rfl) (by kernel_rfl) (by kernel_rfl) (by kernel_rfl) (by kernel_rfl) (by kernel_rfl) (fun _ _ _ h => h) (YieldsIf.yieldsW (.inl ⟨by rfl, ?_⟩)) ?_
              rotate_left 1
              · (intro W hW; (try dsimp only at hW); go_simp; try with_reducible rfl)
              try simp only [Act.put, List.setIfInBounds_toArray, List.set_cons_zero, List.set_cons_succ]
              refine w_take (i := 22) (v := .bool bs) [] (some 161) rfl (by rfl) (by kernel_rfl) (by kernel_rfl) (by kernel_rfl) (by kernel_rfl) (by kernel_rfl) (by kernel_rfl) (fun _ _ _ h => h) (.inl ⟨by rfl, ?_⟩) ?_
              · (intro W hW; refine .inr ⟨_, _, _, ?_, ((C22.out W hW).mono fun _ _ ⟨h1, h2⟩ => ⟨h1, hW.trans h2⟩)⟩; go_simp; try with_reducible rfl)
              try simp only [Act.put, List.setIfInBounds_toArray, List.set_cons_zero, List.set_cons_succ]
              refine w_take (i := 23) (v := .bool false) [] (some 162) rfl (by rfl) (by kernel_rfl) (by kernel_rfl) (by kernel_rfl) (by kernel_rfl) (by kernel_rfl) (by kernel_rfl) (fun _ _ _ h => h) (YieldsIf.yieldsW (.inl ⟨by rfl, ?_⟩)) ?_
              · (intro W hW; (try dsimp only at hW); go_simp; try with_reducible rfl)
              try simp only [Act.put, List.setIfInBounds_toArray, List.set_cons_zero, List.set_cons_succ]
              refine w_take (i := 24) (v := .bool false) [] (some 163) rfl (by rfl) (by kernel_rfl) (by kernel_rfl) (by kernel_rfl) (by kernel_rfl) (by kernel_rfl) (by kernel_rfl) (fun _ _ _ h => h) (YieldsIf.yieldsW (.inl ⟨by rfl, ?_⟩)) ?_
              · (intro W hW; (try dsimp only at hW); go_simp; try with_reducible rfl)
              try simp only [Act.put, List.setIfInBounds_toArray, List.set_cons_zero, List.set_cons_succ]
              refine w_done (by kernel_rfl) (by rfl) (fun V2 hV2 => ?_) _
              clear y0 z0 y1 z1 y2 z2 y3 z3 y4 z4 y5 z5 y6 z6 y7 z7 y8 z8 y9 z9 q1 C15 C22 np np2 mp mp2
              go_upto_region 26 with (fail)
              as_aux_lemma =>
              have HT := Lib.hid (And.intro (HZ.out.1.trans hV2) (HZ.out.2.trans hV2))
              clear hV2 HZ
              rcases (hv.out.imp And.left And.left : code = 0 ∨ code = 7) with hc | hc
              · have CBe := Lib.hid (fun W (hx : Ext V2 W) => begins_any B1 n d1 uu B2 m2 d2 vv W (HU2.out.2.1 W (HT.out.1.trans hx)) (HO.out.2.1.led.ext (HX6.out.1.trans (HT.out.1.trans hx))) HO.out.2.1.own.cap_le (by have := HM3.out; omega) true (Lib.hid (by have h := HO.out.1; rw [hc] at h; rw [HU2.out.1]; exact h.begins)))
                go_upto_region 28 with (go_at_call 20; refine (CBe.out _ (Ext.refl _)).mono ?_; rintro x V3 ⟨rfl, hV3⟩)
                have HT3 := Lib.hid (And.intro (HT.out.1.trans hV3) (HT.out.2.trans hV3))
                clear hV3 hc
                have HO3 := Lib.hid (HO.out.2.1.ext (HX6.out.1.trans HT3.out.1))
                have hml : Hid (vv.length = m2) := Lib.hid HO3.out.led.len
                go_wp2_with fail
                go_loopw [22, 23, 174] (fun _ _ v174 wr => ∃ k : Nat, v174 = .int .i64 (k : Int) ∧ k ≤ m2 ∧ Hid (Fr V3 wr (w2.heap.size ≤ ·) ∧ (0 < m2 → ∃ b, B2 = some ⟨b, 0, none⟩ ∧ Spoil V3 wr w2.heap.size b vv))) (fun _ _ v174 _ => m2 - (intOf v174).toNat)
                case atStart => exact ⟨0, rfl, by omega, Lib.hid ⟨Fr.refl _ _, fun h => by
                  obtain ⟨b, _, e, _⟩ := Own.zero HO3.out.own h
                  subst e
                  exact ⟨b, rfl, Spoil.start HO3.out h⟩⟩⟩
                case round =>
                  obtain ⟨k, rfl, hk, HI⟩ := hrel
                  by_cases hlt : k < m2
                  · obtain ⟨b, hB, hS⟩ := HI.out.2 (by omega)
                    obtain ⟨ae, hA2⟩ : ∃ ad, B2 = some ad := ⟨_, hB⟩
                    have hAd : Hid (ae = ⟨b, 0, none⟩) := Lib.hid (Option.some.inj (hA2.symm.trans hB))
                    clear hB
                    subst hA2
                    obtain ⟨x, hx⟩ : ∃ x, vv[k]? = some x := ⟨vv[k]'(by have := hml.out; omega), List.getElem?_eq_getElem _⟩
                    obtain ⟨k10, hk10⟩ : ∃ k10, k * 10 = k10 := ⟨_, rfl⟩
                    have k0 : (0 : Int) ≤ k := by omega
                    have k1 : (k : Int) < m2 := by omega
                    have HA : Hid (ae.add k10 = ⟨b, k10, none⟩) := Lib.hid (by rw [hAd.out, add_zero_])
                    have HK10 := Lib.hid hk10
                    have y8 : wr.cell? ⟨(ae.add k10).block, (ae.add k10).off + 8, none⟩ = some (.slice x.A x.n x.c) := by rw [HA.out]; have h := (hS.row k x hx).1; rwa [hk10] at h
                    have HX := Lib.hid (And.intro hS (And.intro hx (List.mem_of_getElem? hx)))
                    have hm2 := HM3.out
                    have hxn := (HO3.out.all x HX.out.2.2).1.le
                    clear hS hx HI
                    go_wp2_with fail
                    clear y8
                    go_loopw [23, 184] (fun _ v184 wi => ∃ j : Nat, v184 = .int .i64 (j : Int) ∧ j ≤ x.n ∧ Hid (Spoil V3 wi w2.heap.size b vv)) (fun _ v184 _ => x.n - (intOf v184).toNat)
                    case atStart => exact ⟨0, rfl, by omega, Lib.hid HX.out.1⟩
                    case round =>
                      obtain ⟨j, rfl, hj, HJ⟩ := hrel
                      by_cases hjl : j < x.n
                      · obtain ⟨g, hg, hgb, hlo, hfz, y, hy⟩ := HJ.out.tk x HX.out.2.2 j hjl
                        have HN := HJ.out.task HX.out.2.2 hjl hg (-9)
                        obtain ⟨j4, hj4⟩ : ∃ j4, j * 4 = j4 := ⟨_, rfl⟩
                        rw [hj4] at hy HN
                        have j0 : (0 : Int) ≤ j := by omega
                        have j1 : (j : Int) < x.n := by omega
                        have z8 : wr.cell? ⟨(ae.add k10).block, (ae.add k10).off + 8, none⟩ = some (.slice (some ⟨g, 0, none⟩) x.n x.c) := by rw [HA.out, ← hg]; have h := (HJ.out.row k x HX.out.2.1).1; rwa [HK10.out] at h
                        have zf := hfz j4
                        have HN2 := Lib.hid HN
                        clear hfz hg hgb hlo HN
                        go_wp2_with fail
                        go_roundw
                        case rel => exact ⟨j + 1, by go_num, by omega, HN2⟩
                        case measure => simp [intOf]; omega
                      · obtain rfl : j = x.n := by omega
                        obtain ⟨_, y, hy⟩ := HJ.out.row k x HX.out.2.1
                        have HN := HJ.out.client HX.out.2.1 (-9)
                        have zf := HJ.out.fb (k * 10)
                        rw [HK10.out, ← HA.out] at hy HN zf
                        have HN2 := Lib.hid HN
                        clear HN
                        go_wp2_with fail
                        go_roundw
                        case rel => exact ⟨k + 1, by go_num, by omega, Lib.hid ⟨HN2.out.fr, fun _ => ⟨b, congrArg some hAd.out, HN2.out⟩⟩⟩
                        case measure => simp [intOf]; omega
                  · obtain rfl : m2 = k := by omega
                    have XF := Fr.ext (HO.out.2.2.trans (HX6.out.1.trans HT3.out.1)) HI.out.1 (fun i e => e)
                    have CF := Lib.hid (rsameledger_any B1 n d1 uu _ n c ss wr (HU.out.2.1.led.ext XF) (HL.out wr (HU.out.2.2.trans XF)).1 (by omega) true (Lib.hid (decide_eq_true HU.out.1)))
                    have HXF := Lib.hid XF
                    clear XF HI
                    go_wp2_with (go_at_call 16; refine CF.out.mono ?_; rintro x wf ⟨rfl, xf⟩)
                    go_returns
                    exact ⟨rfl, HV.out.2.trans (HU.out.2.2.trans (HXF.out.trans xf))⟩
              · have hV3 := Ext.refl V2
                have hc0 : ¬ code = 0 := by omega
                clear hc
                go_upto_region 28 with (fail)
                have hc := hc0
                have HT3 := Lib.hid (And.intro (HT.out.1.trans hV3) (HT.out.2.trans hV3))
                clear hV3 hc
                have HO3 := Lib.hid (HO.out.2.1.ext (HX6.out.1.trans HT3.out.1))
                have hml : Hid (vv.length = m2) := Lib.hid HO3.out.led.len
                go_wp2_with fail
                go_loopw [22, 23, 174] (fun _ _ v174 wr => ∃ k : Nat, v174 = .int .i64 (k : Int) ∧ k ≤ m2 ∧ Hid (Fr V2 wr (w2.heap.size ≤ ·) ∧ (0 < m2 → ∃ b, B2 = some ⟨b, 0, none⟩ ∧ Spoil V2 wr w2.heap.size b vv))) (fun _ _ v174 _ => m2 - (intOf v174).toNat)
                case atStart => exact ⟨0, rfl, by omega, Lib.hid ⟨Fr.refl _ _, fun h => by
                  obtain ⟨b, _, e, _⟩ := Own.zero HO3.out.own h
                  subst e
                  exact ⟨b, rfl, Spoil.start HO3.out h⟩⟩⟩
                case round =>
                  obtain ⟨k, rfl, hk, HI⟩ := hrel
                  by_cases hlt : k < m2
                  · obtain ⟨b, hB, hS⟩ := HI.out.2 (by omega)
                    obtain ⟨ae, hA2⟩ : ∃ ad, B2 = some ad := ⟨_, hB⟩
                    have hAd : Hid (ae = ⟨b, 0, none⟩) := Lib.hid (Option.some.inj (hA2.symm.trans hB))
                    clear hB
                    subst hA2
                    obtain ⟨x, hx⟩ : ∃ x, vv[k]? = some x := ⟨vv[k]'(by have := hml.out; omega), List.getElem?_eq_getElem _⟩
                    obtain ⟨k10, hk10⟩ : ∃ k10, k * 10 = k10 := ⟨_, rfl⟩
                    have k0 : (0 : Int) ≤ k := by omega
                    have k1 : (k : Int) < m2 := by omega
                    have HA : Hid (ae.add k10 = ⟨b, k10, none⟩) := Lib.hid (by rw [hAd.out, add_zero_])
                    have HK10 := Lib.hid hk10
                    have y8 : wr.cell? ⟨(ae.add k10).block, (ae.add k10).off + 8, none⟩ = some (.slice x.A x.n x.c) := by rw [HA.out]; have h := (hS.row k x hx).1; rwa [hk10] at h
                    have HX := Lib.hid (And.intro hS (And.intro hx (List.mem_of_getElem? hx)))
                    have hm2 := HM3.out
                    have hxn := (HO3.out.all x HX.out.2.2).1.le
                    clear hS hx HI
                    go_wp2_with fail
                    clear y8
                    go_loopw [23, 184] (fun _ v184 wi => ∃ j : Nat, v184 = .int .i64 (j : Int) ∧ j ≤ x.n ∧ Hid (Spoil V2 wi w2.heap.size b vv)) (fun _ v184 _ => x.n - (intOf v184).toNat)
                    case atStart => exact ⟨0, rfl, by omega, Lib.hid HX.out.1⟩
                    case round =>
                      obtain ⟨j, rfl, hj, HJ⟩ := hrel
                      by_cases hjl : j < x.n
                      · obtain ⟨g, hg, hgb, hlo, hfz, y, hy⟩ := HJ.out.tk x HX.out.2.2 j hjl
                        have HN := HJ.out.task HX.out.2.2 hjl hg (-9)
                        obtain ⟨j4, hj4⟩ : ∃ j4, j * 4 = j4 := ⟨_, rfl⟩
                        rw [hj4] at hy HN
                        have j0 : (0 : Int) ≤ j := by omega
                        have j1 : (j : Int) < x.n := by omega
                        have z8 : wr.cell? ⟨(ae.add k10).block, (ae.add k10).off + 8, none⟩ = some (.slice (some ⟨g, 0, none⟩) x.n x.c) := by rw [HA.out, ← hg]; have h := (HJ.out.row k x HX.out.2.1).1; rwa [HK10.out] at h
                        have zf := hfz j4
                        have HN2 := Lib.hid HN
                        clear hfz hg hgb hlo HN
                        go_wp2_with fail
                        go_roundw
                        case rel => exact ⟨j + 1, by go_num, by omega, HN2⟩
                        case measure => simp [intOf]; omega
                      · obtain rfl : j = x.n := by omega
                        obtain ⟨_, y, hy⟩ := HJ.out.row k x HX.out.2.1
                        have HN := HJ.out.client HX.out.2.1 (-9)
                        have zf := HJ.out.fb (k * 10)
                        rw [HK10.out, ← HA.out] at hy HN zf
                        have HN2 := Lib.hid HN
                        clear HN
                        go_wp2_with fail
                        go_roundw
                        case rel => exact ⟨k + 1, by go_num, by omega, Lib.hid ⟨HN2.out.fr, fun _ => ⟨b, congrArg some hAd.out, HN2.out⟩⟩⟩
                        case measure => simp [intOf]; omega
                  · obtain rfl : m2 = k := by omega
                    have XF := Fr.ext (HO.out.2.2.trans (HX6.out.1.trans HT3.out.1)) HI.out.1 (fun i e => e)
                    have CF := Lib.hid (rsameledger_any B1 n d1 uu _ n c ss wr (HU.out.2.1.led.ext XF) (HL.out wr (HU.out.2.2.trans XF)).1 (by omega) true (Lib.hid (decide_eq_true HU.out.1)))
                    have HXF := Lib.hid XF
                    clear XF HI
                    go_wp2_with (go_at_call 16; refine CF.out.mono ?_; rintro x wf ⟨rfl, xf⟩)
                    go_returns
                    exact ⟨rfl, HV.out.2.trans (HU.out.2.2.trans (HXF.out.trans xf))⟩
end Go.Proofs.YteflnnlihblpgaaDoor
