/-
  The statement NetCounts, walked.
-/
import Derived.Test.YtjobehbaecgdpaaDoorNtCountS
import Derived.Test.YtjobehbaecgdpaaDoorArrEq
import Derived.Deep.Cut
import Derived.Deep.MidRow
namespace Go.Proofs.YtjobehbaecgdpaaDoor
set_option maxRecDepth 100000
open Go.RowKit
set_option linter.unusedVariables false
theorem add_lit (a : Addr) {k : Nat} (hk : k ≠ 0) : a.add k = ⟨a.block, a.off + k, none⟩ := by unfold Addr.add; rw [if_neg hk]
def zs256 : List Value := ints (List.replicate 256 0)
theorem zero256 : ∀ w, (zeroValue 43).run Tryd.prog w = .ok (.agg zs256.toArray) w := fun w => by kernel_rfl
theorem zs256_len : zs256.length = 256 := by unfold zs256 ints; rw [List.length_map, List.length_replicate]
set_option maxHeartbeats 12800000 in
theorem ncounts_any (A0 : Option Addr) (n c0 : Nat) (os : List O6) (w : World) (hr : Rd w 6 A0 n (o6rows os).flatten) (hol : os.length = n) (hok : ∀ o ∈ os, o.ok w) (hn : n * 64 ≤ 140737488351232) {pg pf pn : Addr}
    (hG : Sen w 0 pg) (hF : Sen w 5 pf) (hN : Sen w 4 pn) :
    Calls Tryd.prog 4 #[.slice A0 n c0] w fun e w' => e = .returned (.bool true) ∧ Ext w w' := by
  have SG := Lib.hid (fun w' (hx : Ext w w') => hG.ext hx)
  have SF := Lib.hid (fun w' (hx : Ext w w') => hF.ext hx)
  have HO := Lib.hid (And.intro hol (And.intro hr hok))
  have AL := Lib.hid (nalive_any w hG)
  clear hr hol hok hG hF hN
  go_enter Tryd.func4, Tryd.ntmps4
  go_wp2_with fail
  refine AL.out.mono ?_
  rintro e u0 ⟨rfl, e0⟩
  have E0 := Lib.hid e0
  clear e0 AL
  go_wp2_with fail
  refine (nnew_any u0).mono ?_
  rintro e u1 ⟨rfl, h1, x1⟩
  have hz := zero256
  obtain ⟨Z, hZ⟩ : ∃ Z, zs256.toArray = Z := ⟨_, rfl⟩
  rw [hZ] at hz
  have HZ := Lib.hid hZ
  have x10 := E0.out.trans x1
  have hgl := h1.lt
  have hgw : w.heap.size ≤ u0.heap.size := E0.out.size
  have X2 := (Ext.refl u1).alloc (.cells Z 43)
  have hs2 : (u1.alloc (.cells Z 43)).heap.size = u1.heap.size + 1 := World.size_alloc _ _
  have X3 := (Ext.refl (u1.alloc (.cells Z 43))).alloc (.cells #[.int .u8 0] 5)
  have oL : Own (u1.alloc (.cells Z 43)) w.heap.size 43 1 (some ⟨u1.heap.size, 0, none⟩) 256 256 Z.toList := World.ownsRow_lit (size := 1) u1 Z 256 x10.size (by simp [maxLen]) (by rw [← hZ, List.size_toArray, zs256_len])
  have oM : Own ((u1.alloc (.cells Z 43)).alloc (.cells #[.int .u8 0] 5)) w.heap.size 5 1 (some ⟨(u1.alloc (.cells Z 43)).heap.size, 0, none⟩) 1 1 [.int .u8 0] := World.ownsRow_lit (size := 1) (u1.alloc (.cells Z 43)) #[.int .u8 0] 1 (Nat.le_trans x10.size X2.size) (by simp [maxLen]) rfl
  rw [hs2] at oM
  have eZ : Z.toList = ints (List.replicate 256 0) := by rw [← hZ]; rfl
  rw [eZ] at oL
  have J0 : NA w ((u1.alloc (.cells Z 43)).alloc (.cells #[.int .u8 0] 5)) u0.heap.size none 0 0 [] 0 (some ⟨u1.heap.size + 1, 0, none⟩) 1 1 [0] u1.heap.size (List.replicate 256 0) :=
    ⟨(h1.ex X2).ex X3, oM, oL.ext X3, x10.trans (X2.trans X3), hgw, by omega, (fun b hb => by injection hb with hb; subst hb; exact ⟨by show u1.heap.size + 1 ≠ u0.heap.size; omega, by show u1.heap.size + 1 ≠ u1.heap.size; omega⟩), (fun a ha => by cases ha), (fun a b ha => by cases ha), (fun x hx => by cases hx), (fun x hx => by cases hx)⟩
  have HJ := Lib.hid (And.intro J0 ML.start)
  clear J0 h1 x1 x10 hgl hgw X2 X3 hs2 oL oM eZ hZ
  go_upto_region 8 with (fail)
  clear hz
  have hnb : n ≤ 2199023255488 := by omega
  generalize (u1.alloc (.cells Z 43)).alloc (.cells #[.int .u8 0] 5) = U at *
  generalize u1.heap.size + 1 = q1 at *
  generalize u1.heap.size = lb at *
  generalize u0.heap.size = g at *
  go_wp2_with fail
  go_loopw [5, 28] (fun v5 v28 wr => ∃ (i : Nat) (A : Option Addr) (m c : Nat) (ls : List LetV) (last L S mc : Nat) (marks : List Nat) (lf : List Int), v5 = .slice (some ⟨S, 0, none⟩) L mc ∧ v28 = .int .i64 (i : Int) ∧ i ≤ n ∧ last ≤ i ∧ L = last + 1 ∧ Hid (NA w wr g A m c ls last (some ⟨S, 0, none⟩) L mc marks lb lf ∧ ML ls marks lf last)) (fun _ v28 _ => n - (intOf v28).toNat)
  case atStart => exact ⟨0, none, 0, 0, [], 0, 1, q1, 1, [0], _, rfl, rfl, by omega, by omega, rfl, HJ.out⟩
  case round =>
    obtain ⟨i, A, m, c, ls, last, L, S, mc, marks, lf, rfl, rfl, hi, hlast, hL, HI⟩ := hrel
    obtain ⟨U2, hU2⟩ : ∃ U2, U2 = wr := ⟨_, rfl⟩
    subst hU2
    clear HJ
    have HL := Lib.hid (show last + 1 = L from hL.symm)
    have hLi : (last : Int) + 1 = (L : Int) := by omega
    have hLb : L ≤ i + 1 := by omega
    clear hL
    by_cases hlt : i < n
    · obtain ⟨o, ho⟩ : ∃ o, os[i]? = some o := ⟨os[i]'(by rw [HO.out.1]; exact hlt), List.getElem?_eq_getElem _⟩
      obtain ⟨i6, hi6⟩ : ∃ i6, i * 6 = i6 := ⟨_, rfl⟩
      obtain ⟨ad, rfl, _, _⟩ := HO.out.2.1.2 (show 0 < n by omega)
      have hrr := HO.out.2.1.ext HI.out.1.ext
      have k0 := hrr.rowAt (o6_even os) (o6_at ho) hi6 (i := 0) rfl
      have k1 := hrr.rowAt (o6_even os) (o6_at ho) hi6 (i := 1) rfl
      have k2 := hrr.rowAt (o6_even os) (o6_at ho) hi6 (i := 2) rfl
      have k3 := hrr.rowAt (o6_even os) (o6_at ho) hi6 (i := 3) rfl
      have k4 := hrr.rowAt (o6_even os) (o6_at ho) hi6 (i := 4) rfl
      have k5 := hrr.rowAt (o6_even os) (o6_at ho) hi6 (i := 5) rfl
      rw [Nat.add_zero] at k0
      rw [← add_add', add_lit _ (by omega)] at k1 k2 k3 k4 k5
      have z0 : (0 : Int) ≤ i := by omega
      have z1 : (i : Int) < n := by omega
      have XV := (Ext.refl U2).alloc (.cells #[.int .i64 o.K, .int .i64 o.Q, .int .i64 o.F, .int .i64 o.T, .int .i64 o.N, .slice o.A o.n o.c] 29)
      have hb := heap_alloc_new U2 (.cells #[.int .i64 o.K, .int .i64 o.Q, .int .i64 o.F, .int .i64 o.T, .int .i64 o.N, .slice o.A o.n o.c] 29)
      have hgU := HI.out.1.net.lt
      have hlU := HI.out.1.lft.lt
      have HOL := Lib.hid (And.intro (fun e => (show False from by
        rcases (show U2.heap.size = g ∨ A.map (·.block) = some U2.heap.size from e) with e | e
        · omega
        · obtain ⟨a, ha, hab⟩ := Option.map_eq_some_iff.1 e
          have := HI.out.1.net.own.lt_at ha
          omega)) (show ¬ U2.heap.size = lb from by omega))
      have HV := Lib.hid (And.intro (And.intro (HI.out.1.ex XV) HI.out.2) hb)
      clear XV hb hrr ho HI hgU hlU
      go_upto_region 11 with (fail)
      generalize U2.alloc (.cells #[.int .i64 o.K, .int .i64 o.Q, .int .i64 o.F, .int .i64 o.T, .int .i64 o.N, .slice o.A o.n o.c] 29) = V at *
      generalize U2.heap.size = ob at *
      have J := Lib.hid HV.out.1
      have HB := Lib.hid HV.out.2
      have b0 : V.cell? ⟨ob, 0, none⟩ = some (.int .i64 o.K) := block_cell HV.out.2 0
      have b4 : V.cell? ⟨ob, 4, none⟩ = some (.int .i64 o.N) := block_cell HV.out.2 4
      clear HV k0 k1 k2 k3 k4 k5 hi6
      by_cases hK : o.K = 1
      · have hK1 : (o.K == 1) = true := by simp [hK]
        obtain ⟨b, hb, hbN⟩ : ∃ b : Nat, b < 256 ∧ o.N % 256 = (b : Int) := ⟨(o.N % 256).toNat, by omega, by omega⟩
        have hb256 := hb
        have hcv : IntKind.u8.wrap o.N = (b : Int) := by rw [IntKind.wrap_u8]; omega
        have HCV := Lib.hid hcv
        have zb0 : (0 : Int) ≤ (b : Int) := by omega
        have zb1 : (b : Int) < 256 := by omega
        have XA := (Ext.refl V).alloc (.cells #[.int .u8 (b : Int)] 5)
        have RN : Rd (V.alloc (.cells #[.int .u8 (b : Int)] 5)) 1 (some ⟨V.heap.size, 0, none⟩) 1 (u8s [b]) := Rd.new V #[.int .u8 (b : Int)] 5 (0, 0)
        have hgV := J.out.1.net.lt
        by_cases hfull : m = 4096
        · have SO := Lib.hid (send_full (J.out.1.net.ex XA) hfull 1 2 ⟨by omega, by omega⟩ ⟨by omega, by omega⟩ (some ⟨V.heap.size, 0, none⟩) 1 1 (SF.out _ (J.out.1.ext.trans XA)))
          have XA := Lib.hid XA
          clear RN hbN hb
          go_wp2_with fail
          refine SO.out.mono ?_
          rintro e0 w1 ⟨rfl, x1⟩
          have JE := Lib.hid (And.intro (J.out.1.ex (XA.out.trans x1)) J.out.2)
          clear x1 SO
          go_wp2_with fail
          go_roundw
          case rel => exact ⟨i + 1, A, m, c, ls, last, L, S, mc, marks, lf, rfl, by go_num, by omega, by omega, HL.out.symm, JE.out.1, JE.out.2⟩
          case measure => simp [intOf]; omega
        · have hmm : m < 4096 := by have := J.out.1.net.few; omega
          have SO := Lib.hid (send_ok (J.out.1.net.ex XA) hmm (by omega) 1 2 ⟨by omega, by omega⟩ ⟨by omega, by omega⟩ (some ⟨V.heap.size, 0, none⟩) 1 1 [b] RN (fun y hy => by simp at hy; omega) (by omega) (fun _ c hc => by injection hc with hc; subst hc; show V.heap.size ≠ g; omega))
          rw [hLi] at SO
          have XA := Lib.hid XA
          clear RN hbN hb
          go_wp2_with fail
          refine SO.out.mono ?_
          rintro e0 w1 ⟨rfl, hp⟩
          obtain ⟨A', c', x, JN, hN, hF, hT, hnn, hl⟩ := (J.out.1.ex XA.out).put hp
          have ob1 := Lib.hid ((hp.fr.block ob (Nat.lt_of_lt_of_le (block_lt HB.out) XA.out.size) (fun e => HOL.out.1 e)).trans ((XA.out.block ob (block_lt HB.out)).trans HB.out))
          have HXX := Lib.hid (And.intro hN (And.intro hF (And.intro hT (And.intro hnn hl))))
          rw [HL.out] at JN
          have JN := Lib.hid JN
          clear SO hp hN hF hT hnn hl XA b0 b4
          obtain ⟨q0, hq0⟩ : ∃ q0 : Nat, cnt ls b = q0 := ⟨_, rfl⟩
          have hq4 : q0 ≤ 4096 := by have h1 := cnt_le ls b; have h2 := J.out.1.net.few; have h3 := J.out.1.net.len; omega
          have cl : w1.cell? ⟨lb, b, none⟩ = some (.int .i64 (q0 : Int)) := JN.out.lft.cellAt hb256 (by rw [← hq0]; simp only [ints, List.getElem?_map, J.out.2.cn b hb256, Option.map_some])
          have fl : w1.frozen? ⟨lb, b, none⟩ = false := JN.out.lft.frozenAt b
          have wr1 : IntKind.i64.wrap ((q0 : Int) + 1) = (q0 : Int) + 1 := by rw [IntKind.wrap_i64]; omega
          have JL := Lib.hid (JN.out.left b ((q0 : Int) + 1))
          have HQ := Lib.hid hq0
          clear hq0
          have b4 : w1.cell? ⟨ob, 4, none⟩ = some (.int .i64 o.N) := block_cell ob1.out 4
          go_upto_region 16 with (fail)
          clear cl fl wr1
          have Fl := Fr.store w1 ⟨lb, b, none⟩ (.int .i64 ((q0 : Int) + 1))
          have ob2 := Lib.hid ((Fl.block ob (block_lt ob1.out) HOL.out.2).trans ob1.out)
          clear Fl
          generalize w1.setCell ⟨lb, b, none⟩ (.int .i64 ((q0 : Int) + 1)) = w2 at *
          clear b4
          have b4 : w2.cell? ⟨ob, 4, none⟩ = some (.int .i64 o.N) := block_cell ob2.out 4
          have XA2 := (Ext.refl w2).alloc (.cells #[.int .u8 (b : Int)] 5)
          go_wp2_with (at_builtin; refine held ?_)
          refine Held.go (wp_app (m := 1) (news := u8s [b]) eltU8 (JL.out.mks.ext XA2) (Rd.new w2 #[.int .u8 (b : Int)] 5 (0, 0)) (fun u hu => by simp [u8s] at hu; subst hu; rfl) (by omega) (.inr ⟨by omega, by omega⟩) (by have h1 := JL.out.ext.size; have h2 := XA2.size; omega) _ _ rfl rfl rfl rfl ?_)
          intro M2 mc2 w3 o3 g3 hM2 _
          obtain ⟨S2, rfl⟩ := o3.head (by omega)
          have JM := JL.out.mark XA2 o3 g3 hM2
          have MP := J.out.2.push hb256 HXX.out.1 HXX.out.2.1 HXX.out.2.2.1 HXX.out.2.2.2.1 HXX.out.2.2.2.2
          rw [HQ.out] at MP
          rw [HL.out] at MP
          have JE := Lib.hid (And.intro JM MP)
          clear XA2 o3 g3 hM2 JM MP b4
          go_wp2_with fail
          go_roundw
          case rel => exact ⟨i + 1, A', _, _, _, L, L + 1, S2, mc2, _, _, rfl, by go_num, by omega, by omega, by omega, JE.out.1, JE.out.2⟩
          case measure => simp [intOf]; omega
      · by_cases hKc : o.K = 4
        · have hK1 : (o.K == 1) = false := by simp [hK]
          have hK4 : (o.K == 4) = true := by simp [hKc]
          by_cases hm0 : m = 0
          · have NN := Lib.hid (nth_none J.out.1.net hm0 o.N)
            go_wp2_with fail
            refine NN.out.mono ?_
            rintro e0 w1 ⟨rfl, x1⟩
            have JE := Lib.hid (And.intro (J.out.1.ex x1) J.out.2)
            clear NN x1
            go_wp2_with fail
            go_roundw
            case rel => exact ⟨i + 1, A, m, c, ls, last, L, S, mc, marks, lf, rfl, by go_num, by omega, by omega, HL.out.symm, JE.out.1, JE.out.2⟩
            case measure => simp [intOf]; omega
          have hm1 : 0 < m := by omega
          obtain ⟨x, hx⟩ : ∃ x, ls[nthJ o.N m]? = some x := ⟨_, List.getElem?_eq_getElem (by have h1 := J.out.1.net.len; have h2 := (nthJ_spec o.N hm1).choose_spec.2.2.2.2; omega)⟩
          have NN := Lib.hid (nth_some J.out.1.net hm1 o.N hx)
          obtain ⟨b, hbm, hb256, hxl, hxn, hxF, hxT⟩ := J.out.2.mark hx
          have hxL : x.N < L := by have h1 := (List.getElem?_eq_some_iff.1 hbm).1; have h2 := J.out.2.len; have h3 := HL.out; omega
          have zb0 : (0 : Int) ≤ (b : Int) := by omega
          have zb1 : (b : Int) < 256 := by omega
          have zx0 : (0 : Int) ≤ (x.N : Int) := by omega
          have zx1 : (x.N : Int) < (L : Int) := by omega
          have HX := Lib.hid (And.intro hx (And.intro hbm (And.intro hxl (And.intro hxn (And.intro hxF hxT)))))
          clear hx hbm hxl hxn hxF hxT
          go_wp2_with fail
          refine NN.out.mono ?_
          rintro e0 wn ⟨rfl, xn⟩
          have J := Lib.hid (And.intro (J.out.1.ex xn) J.out.2)
          have HB := Lib.hid ((xn.block ob (block_lt HB.out)).trans HB.out)
          clear NN xn b0 b4
          have b0 : wn.cell? ⟨ob, 0, none⟩ = some (.int .i64 o.K) := block_cell HB.out 0
          by_cases hfull : m = 4096
          · have CO := Lib.hid (copy_full J.out.1.net hfull HX.out.1 (y := (x.N : Int)) rfl (SF.out _ J.out.1.ext))
            go_wp2_with fail
            refine CO.out.mono ?_
            rintro e0 w1 ⟨rfl, x1⟩
            have JE := Lib.hid (And.intro (J.out.1.ex x1) J.out.2)
            clear x1 CO
            go_wp2_with fail
            go_roundw
            case rel => exact ⟨i + 1, A, m, c, ls, last, L, S, mc, marks, lf, rfl, by go_num, by omega, by omega, HL.out.symm, JE.out.1, JE.out.2⟩
            case measure => simp [intOf]; omega
          · have hmm : m < 4096 := by have := J.out.1.net.few; omega
            have CO := Lib.hid (copy_ok J.out.1.net hmm (by omega) HX.out.1 (y := (x.N : Int)) rfl)
            rw [hLi, HX.out.2.2.2.2.1, HX.out.2.2.2.2.2, HX.out.2.2.2.1, HX.out.2.2.1] at CO
            go_wp2_with fail
            refine CO.out.mono ?_
            rintro e0 w1 ⟨rfl, hp⟩
            obtain ⟨A', c', xx, JN, hN, hF, hT, hnn, hl⟩ := J.out.1.put hp
            have ob1 := Lib.hid ((hp.fr.block ob (block_lt HB.out) (fun e => HOL.out.1 e)).trans HB.out)
            have HXX := Lib.hid (And.intro hN (And.intro hF (And.intro hT (And.intro hnn hl))))
            rw [HL.out] at JN
            have JN := Lib.hid JN
            clear CO hp hN hF hT hnn hl b0
            obtain ⟨q0, hq0⟩ : ∃ q0 : Nat, cnt ls b = q0 := ⟨_, rfl⟩
            have hq4 : q0 ≤ 4096 := by have h1 := cnt_le ls b; have h2 := J.out.1.net.few; have h3 := J.out.1.net.len; omega
            have cl : w1.cell? ⟨lb, b, none⟩ = some (.int .i64 (q0 : Int)) := JN.out.lft.cellAt hb256 (by rw [← hq0]; simp only [ints, List.getElem?_map, J.out.2.cn b hb256, Option.map_some])
            have fl : w1.frozen? ⟨lb, b, none⟩ = false := JN.out.lft.frozenAt b
            have wr1 : IntKind.i64.wrap ((q0 : Int) + 1) = (q0 : Int) + 1 := by rw [IntKind.wrap_i64]; omega
            have JL := Lib.hid (JN.out.left b ((q0 : Int) + 1))
            have HQ := Lib.hid hq0
            clear hq0
            have cm : w1.cell? ⟨S, x.N, none⟩ = some (.int .u8 (b : Int)) := JN.out.mks.cellAt hxL (by simp only [u8s, List.getElem?_map, HX.out.2.1, Option.map_some])
            go_upto_region 30 with (fail)
            clear cl fl wr1
            have Fl := Fr.store w1 ⟨lb, b, none⟩ (.int .i64 ((q0 : Int) + 1))
            have ob2 := Lib.hid ((Fl.block ob (block_lt ob1.out) HOL.out.2).trans ob1.out)
            clear Fl
            generalize w1.setCell ⟨lb, b, none⟩ (.int .i64 ((q0 : Int) + 1)) = w2 at *
            clear cm
            have cm : w2.cell? ⟨S, x.N, none⟩ = some (.int .u8 (b : Int)) := JL.out.mks.cellAt hxL (by simp only [u8s, List.getElem?_map, HX.out.2.1, Option.map_some])
            have XA2 := (Ext.refl w2).alloc (.cells #[.int .u8 (b : Int)] 5)
            go_wp2_with (at_builtin; refine held ?_)
            refine Held.go (wp_app (m := 1) (news := u8s [b]) eltU8 (JL.out.mks.ext XA2) (Rd.new w2 #[.int .u8 (b : Int)] 5 (0, 0)) (fun u hu => by simp [u8s] at hu; subst hu; rfl) (by omega) (.inr ⟨by omega, by omega⟩) (by have h1 := JL.out.ext.size; have h2 := XA2.size; omega) _ _ rfl rfl rfl rfl ?_)
            intro M2 mc2 w3 o3 g3 hM2 _
            obtain ⟨S2, rfl⟩ := o3.head (by omega)
            have JM := JL.out.mark XA2 o3 g3 hM2
            have MP := J.out.2.push hb256 HXX.out.1 HXX.out.2.1 HXX.out.2.2.1 HXX.out.2.2.2.1 HXX.out.2.2.2.2
            rw [HQ.out] at MP
            rw [HL.out] at MP
            have JE := Lib.hid (And.intro JM MP)
            clear XA2 o3 g3 hM2 JM MP cm
            go_wp2_with fail
            go_roundw
            case rel => exact ⟨i + 1, A', _, _, _, L, L + 1, S2, mc2, _, _, rfl, by go_num, by omega, by omega, by omega, JE.out.1, JE.out.2⟩
            case measure => simp [intOf]; omega
        · by_cases hKd : o.K = 2
          · have hK1 : (o.K == 1) = false := by simp [hK]
            have hK4 : (o.K == 4) = false := by simp [hKc]
            have hK2 : (o.K == 2) = true := by simp [hKd]
            have hK3 : (o.K == 3) = false := by simp [hKd]
            by_cases hm0 : m = 0
            · have NN := Lib.hid (nth_none J.out.1.net hm0 o.N)
              go_wp2_with fail
              refine NN.out.mono ?_
              rintro e0 w1 ⟨rfl, x1⟩
              have JE := Lib.hid (And.intro (J.out.1.ex x1) J.out.2)
              clear NN x1
              go_wp2_with fail
              go_roundw
              case rel => exact ⟨i + 1, A, m, c, ls, last, L, S, mc, marks, lf, rfl, by go_num, by omega, by omega, HL.out.symm, JE.out.1, JE.out.2⟩
              case measure => simp [intOf]; omega
            have hm1 : 0 < m := by omega
            obtain ⟨x, hx⟩ : ∃ x, ls[nthJ o.N m]? = some x := ⟨_, List.getElem?_eq_getElem (by have h1 := J.out.1.net.len; have h2 := (nthJ_spec o.N hm1).choose_spec.2.2.2.2; omega)⟩
            have NN := Lib.hid (nth_some J.out.1.net hm1 o.N hx)
            obtain ⟨b, hbm, hb256, hxl, hxn, hxF, hxT⟩ := J.out.2.mark hx
            have hxL : x.N < L := by have h1 := (List.getElem?_eq_some_iff.1 hbm).1; have h2 := J.out.2.len; have h3 := HL.out; omega
            have zb0 : (0 : Int) ≤ (b : Int) := by omega
            have zb1 : (b : Int) < 256 := by omega
            have zx0 : (0 : Int) ≤ (x.N : Int) := by omega
            have zx1 : (x.N : Int) < (L : Int) := by omega
            have HX := Lib.hid (And.intro hx (And.intro hbm (And.intro hxl (And.intro hxn (And.intro hxF hxT)))))
            clear hx hbm hxl hxn hxF hxT
            go_wp2_with fail
            refine NN.out.mono ?_
            rintro e0 wn ⟨rfl, xn⟩
            have J := Lib.hid (And.intro (J.out.1.ex xn) J.out.2)
            have HB := Lib.hid ((xn.block ob (block_lt HB.out)).trans HB.out)
            clear NN xn b0 b4
            have b0 : wn.cell? ⟨ob, 0, none⟩ = some (.int .i64 o.K) := block_cell HB.out 0
            have cm : wn.cell? ⟨S, x.N, none⟩ = some (.int .u8 (b : Int)) := J.out.1.mks.cellAt hxL (by simp only [u8s, List.getElem?_map, HX.out.2.1, Option.map_some])
            obtain ⟨hc1, _, MP⟩ := J.out.2.pop HX.out.1 HX.out.2.1
            obtain ⟨q0, hq0⟩ : ∃ q0 : Nat, cnt ls b = q0 := ⟨_, rfl⟩
            rw [hq0] at MP hc1
            have hq4 : q0 ≤ 4096 := by have h1 := cnt_le ls b; have h2 := J.out.1.net.few; have h3 := J.out.1.net.len; omega
            have cl : wn.cell? ⟨lb, b, none⟩ = some (.int .i64 (q0 : Int)) := J.out.1.lft.cellAt hb256 (by rw [← hq0]; simp only [ints, List.getElem?_map, J.out.2.cn b hb256, Option.map_some])
            have fl : wn.frozen? ⟨lb, b, none⟩ = false := J.out.1.lft.frozenAt b
            have wr1 : IntKind.i64.wrap ((q0 : Int) - 1) = (q0 : Int) - 1 := by rw [IntKind.wrap_i64]; omega
            have JL := Lib.hid (J.out.1.left b ((q0 : Int) - 1))
            have MPL := Lib.hid MP
            clear hq0 MP
            go_upto_region 32 with (fail)
            clear cl fl wr1 cm b0
            have Fl := Fr.store wn ⟨lb, b, none⟩ (.int .i64 ((q0 : Int) - 1))
            have ob2 := Lib.hid ((Fl.block ob (block_lt HB.out) HOL.out.2).trans HB.out)
            clear Fl
            generalize wn.setCell ⟨lb, b, none⟩ (.int .i64 ((q0 : Int) - 1)) = w2 at *
            have b0 : w2.cell? ⟨ob, 0, none⟩ = some (.int .i64 o.K) := block_cell ob2.out 0
            have DO := deliver_ok JL.out.net HX.out.1 (y := (x.N : Int)) rfl
            unfold LetV.val at DO
            rw [HX.out.2.2.2.2.1, HX.out.2.2.2.2.2, HX.out.2.2.2.1] at DO
            have DO := Lib.hid DO
            go_wp2_with fail
            refine DO.out.mono ?_
            rintro e0 w3 ⟨rfl, hNS, hfr⟩
            have hby := (JL.out.net.byt x (List.mem_of_getElem? HX.out.1))
            have hRd := rd0 hfr hby.1 (fun h0 a ha e => by
              have h1 := hby.2.2.2 h0 a ha
              rcases e with e | e
              · exact h1.1 e
              · exact h1.2 e)
            rw [HX.out.2.2.2.1, HX.out.2.2.1] at hRd
            have JP := JL.out.pop hNS hfr
            have XL := (Ext.refl w3).alloc (.cells #[.int .i64 (x.N : Int), .int .i64 1, .int .i64 2, .slice x.A 1 x.c] 37)
            have hbl := heap_alloc_new w3 (.cells #[.int .i64 (x.N : Int), .int .i64 1, .int .i64 2, .slice x.A 1 x.c] 37)
            have H4 := Lib.hid (And.intro (JP.ex XL) (And.intro hbl (hRd.ext XL)))
            clear DO hNS hfr hby hRd JP XL hbl b0
            go_upto_region 36 with (fail)
            generalize w3.alloc (.cells #[.int .i64 (x.N : Int), .int .i64 1, .int .i64 2, .slice x.A 1 x.c] 37) = w4 at *
            generalize w3.heap.size = l4 at *
            obtain ⟨ax, hax, _, hcx⟩ := H4.out.2.2.2 (by omega)
            have HCX := Lib.hid (hcx 0 _ (show (u8s [b])[0]? = some (.int .u8 (b : Int)) from rfl))
            have r1 : w4.cell? ⟨l4, 1, none⟩ = some (.int .i64 1) := block_cell H4.out.2.1 1
            have r2 : w4.cell? ⟨l4, 2, none⟩ = some (.int .i64 2) := block_cell H4.out.2.1 2
            have r3 : w4.cell? ⟨l4, 3, none⟩ = some (.slice (some ax) 1 x.c) := by rw [← hax]; exact block_cell H4.out.2.1 3
            clear hcx hax
            have cx : w4.cell? ax = some (.int .u8 (b : Int)) := by
              have h1 := HCX.out
              have e0 : ax.add 0 = ax := by unfold Addr.add; rw [if_pos rfl]
              rwa [e0] at h1
            have cm : w4.cell? ⟨S, x.N, none⟩ = some (.int .u8 (b : Int)) := H4.out.1.mks.cellAt hxL (by simp only [u8s, List.getElem?_map, HX.out.2.1, Option.map_some])
            go_quiet (fail)
            have JE := Lib.hid (And.intro (H4.out.1.ex ((Ext.refl w4).drewN nq)) MPL.out)
            clear r1 r2 r3 cx cm
            go_wp2_with fail
            go_roundw
            case rel => exact ⟨i + 1, A, m - 1, c, _, last, L, S, mc, marks, _, rfl, by go_num, by omega, by omega, HL.out.symm, JE.out.1, JE.out.2⟩
            case measure => simp [intOf]; omega
          · by_cases hKe : o.K = 3
            · have hK1 : (o.K == 1) = false := by simp [hK]
              have hK4 : (o.K == 4) = false := by simp [hKc]
              have hK2 : (o.K == 2) = false := by simp [hKd]
              have hK3 : (o.K == 3) = true := by simp [hKe]
              by_cases hm0 : m = 0
              · have NN := Lib.hid (nth_none J.out.1.net hm0 o.N)
                go_wp2_with fail
                refine NN.out.mono ?_
                rintro e0 w1 ⟨rfl, x1⟩
                have JE := Lib.hid (And.intro (J.out.1.ex x1) J.out.2)
                clear NN x1
                go_wp2_with fail
                go_roundw
                case rel => exact ⟨i + 1, A, m, c, ls, last, L, S, mc, marks, lf, rfl, by go_num, by omega, by omega, HL.out.symm, JE.out.1, JE.out.2⟩
                case measure => simp [intOf]; omega
              have hm1 : 0 < m := by omega
              obtain ⟨x, hx⟩ : ∃ x, ls[nthJ o.N m]? = some x := ⟨_, List.getElem?_eq_getElem (by have h1 := J.out.1.net.len; have h2 := (nthJ_spec o.N hm1).choose_spec.2.2.2.2; omega)⟩
              have NN := Lib.hid (nth_some J.out.1.net hm1 o.N hx)
              obtain ⟨b, hbm, hb256, hxl, hxn, hxF, hxT⟩ := J.out.2.mark hx
              have hxL : x.N < L := by have h1 := (List.getElem?_eq_some_iff.1 hbm).1; have h2 := J.out.2.len; have h3 := HL.out; omega
              have zb0 : (0 : Int) ≤ (b : Int) := by omega
              have zb1 : (b : Int) < 256 := by omega
              have zx0 : (0 : Int) ≤ (x.N : Int) := by omega
              have zx1 : (x.N : Int) < (L : Int) := by omega
              have HX := Lib.hid (And.intro hx (And.intro hbm (And.intro hxl (And.intro hxn (And.intro hxF hxT)))))
              clear hx hbm hxl hxn hxF hxT
              go_wp2_with fail
              refine NN.out.mono ?_
              rintro e0 wn ⟨rfl, xn⟩
              have J := Lib.hid (And.intro (J.out.1.ex xn) J.out.2)
              have HB := Lib.hid ((xn.block ob (block_lt HB.out)).trans HB.out)
              clear NN xn b0 b4
              have b0 : wn.cell? ⟨ob, 0, none⟩ = some (.int .i64 o.K) := block_cell HB.out 0
              have cm : wn.cell? ⟨S, x.N, none⟩ = some (.int .u8 (b : Int)) := J.out.1.mks.cellAt hxL (by simp only [u8s, List.getElem?_map, HX.out.2.1, Option.map_some])
              obtain ⟨hc1, _, MP⟩ := J.out.2.pop HX.out.1 HX.out.2.1
              obtain ⟨q0, hq0⟩ : ∃ q0 : Nat, cnt ls b = q0 := ⟨_, rfl⟩
              rw [hq0] at MP hc1
              have hq4 : q0 ≤ 4096 := by have h1 := cnt_le ls b; have h2 := J.out.1.net.few; have h3 := J.out.1.net.len; omega
              have cl : wn.cell? ⟨lb, b, none⟩ = some (.int .i64 (q0 : Int)) := J.out.1.lft.cellAt hb256 (by rw [← hq0]; simp only [ints, List.getElem?_map, J.out.2.cn b hb256, Option.map_some])
              have fl : wn.frozen? ⟨lb, b, none⟩ = false := J.out.1.lft.frozenAt b
              have wr1 : IntKind.i64.wrap ((q0 : Int) - 1) = (q0 : Int) - 1 := by rw [IntKind.wrap_i64]; omega
              have JL := Lib.hid (J.out.1.left b ((q0 : Int) - 1))
              have MPL := Lib.hid MP
              clear hq0 MP
              go_upto_region 32 with (fail)
              clear cl fl wr1 cm b0
              have Fl := Fr.store wn ⟨lb, b, none⟩ (.int .i64 ((q0 : Int) - 1))
              have ob2 := Lib.hid ((Fl.block ob (block_lt HB.out) HOL.out.2).trans HB.out)
              clear Fl
              generalize wn.setCell ⟨lb, b, none⟩ (.int .i64 ((q0 : Int) - 1)) = w2 at *
              have b0 : w2.cell? ⟨ob, 0, none⟩ = some (.int .i64 o.K) := block_cell ob2.out 0
              have DO := Lib.hid (drop_ok JL.out.net HX.out.1 (y := (x.N : Int)) rfl)
              go_wp2_with fail
              refine DO.out.mono ?_
              rintro e0 w3 ⟨rfl, hNS, hfr⟩
              have JE := Lib.hid (And.intro (JL.out.pop hNS hfr) MPL.out)
              clear DO hNS hfr b0
              go_wp2_with fail
              go_roundw
              case rel => exact ⟨i + 1, A, m - 1, c, _, last, L, S, mc, marks, _, rfl, by go_num, by omega, by omega, HL.out.symm, JE.out.1, JE.out.2⟩
              case measure => simp [intOf]; omega
            · have hK1 : (o.K == 1) = false := by simp [hK]
              have hK4 : (o.K == 4) = false := by simp [hKc]
              have hK2 : (o.K == 2) = false := by simp [hKd]
              have hK3 : (o.K == 3) = false := by simp [hKe]
              have JE := J
              go_wp2_with fail
              go_roundw
              case rel => exact ⟨i + 1, A, m, c, ls, last, L, S, mc, marks, lf, rfl, by go_num, by omega, by omega, HL.out.symm, JE.out.1, JE.out.2⟩
              case measure => simp [intOf]; omega
    · obtain rfl : n = i := by omega
      have WT := Lib.hid (waiting_any HI.out.1.net)
      have HI2 := Lib.hid HI.out
      have hfew := HI.out.1.net.few
      clear HI
      go_wp2_with fail
      refine WT.out.mono ?_
      rintro e0 wv ⟨BW, dW, rfl, oW, xW⟩
      have HBW := Lib.hid (And.intro (fun a (ha : BW = some a) => (show U2.heap.size ≤ a.block from oW.base_le _ (by rw [ha]; rfl))) oW.rd)
      have JW := Lib.hid (HI2.out.1.ex xW)
      have HLT := Lib.hid (And.intro HI2.out.1.net.lt (And.intro HI2.out.1.lft.lt (fun a (ha : A = some a) => HI2.out.1.net.own.lt_at ha)))
      have HWN := Lib.hid (show (nums ls).length = m from by rw [show (nums ls).length = ls.length by simp [nums]]; exact HI2.out.1.net.len)
      clear WT oW xW
      go_wp2_with fail
      go_loopw [161] (fun v161 wr => ∃ (j : Nat) (lf' : List Int), v161 = .int .i64 (j : Int) ∧ j ≤ m ∧ Hid (NA w wr g A (m - j) c (ls.drop j) last (some ⟨S, 0, none⟩) L mc marks lb lf' ∧ ML (ls.drop j) marks lf' last ∧ Rd wr 1 BW m (ints (nums ls)))) (fun v161 _ => m - (intOf v161).toNat)
      case atStart => exact ⟨0, lf, rfl, by omega, JW.out, HI2.out.2, HBW.out.2⟩
      case round =>
        obtain ⟨j, lf', rfl, hj, HX⟩ := hrel
        obtain ⟨W, hW⟩ : ∃ V : World, V = wr := ⟨_, rfl⟩
        subst hW
        by_cases hjm : j < m
        · have hlen : ls.length = m := HI2.out.1.net.len
          obtain ⟨x, hx⟩ : ∃ x, ls[j]? = some x := ⟨ls[j]'(by omega), List.getElem?_eq_getElem _⟩
          have hx0 : (ls.drop j)[0]? = some x := by rw [List.getElem?_drop]; exact hx
          obtain ⟨b, hbm, hb256, hxl, hxn, hxF, hxT⟩ := HX.out.2.1.mark hx0
          obtain ⟨ab, hab, _, hcb⟩ := HX.out.2.2.2 (by omega)
          have hnj : (ints (nums ls))[j]? = some (.int .i64 (x.N : Int)) := by simp [ints, nums, hx]
          have cj : W.cell? (ab.add j) = some (.int .i64 (x.N : Int)) := hcb j _ hnj
          have hBW : BW = some ab := hab
          have HAB := Lib.hid hab
          have DO := deliver_ok HX.out.1.net hx0 (y := (x.N : Int)) rfl
          unfold LetV.val at DO
          rw [hxn] at DO
          have DO := Lib.hid DO
          have hed : (ls.drop j).eraseIdx 0 = ls.drop (j + 1) := by
            have h1 : (ls.drop j).eraseIdx 0 = (ls.drop j).tail := by cases ls.drop j <;> rfl
            rw [h1, List.tail_drop]
          have HED := Lib.hid hed
          have HXM := Lib.hid (And.intro hx0 (And.intro hbm (And.intro hxl hxn)))
          have zj0 : (0 : Int) ≤ j := by omega
          have zj1 : (j : Int) < m := by omega
          have zb0 : (0 : Int) ≤ (b : Int) := by omega
          have zb1 : (b : Int) < 256 := by omega
          clear hx hx0 hbm hxl hxn hxF hxT hab hcb hnj hed hlen
          subst hBW
          go_wp2_with fail
          refine DO.out.mono ?_
          rintro e0 w3 ⟨rfl, hNS, hfr⟩
          have hby := (HX.out.1.net.byt x (List.mem_of_getElem? HXM.out.1))
          have hRd := rd0 hfr hby.1 (fun h0 a ha e => by
            have h1 := hby.2.2.2 h0 a ha
            rcases e with e | e
            · exact h1.1 e
            · exact h1.2 e)
          rw [HXM.out.2.2.2, HXM.out.2.2.1] at hRd
          have JP := HX.out.1.pop hNS hfr
          have hBR := hfr.rd HX.out.2.2 (fun a ha e => by
            have h1 := HBW.out.1 a ha
            have h2 := HLT.out
            rcases e with e | e
            · have := h2.1; omega
            · obtain ⟨a2, ha2, e2⟩ := Option.map_eq_some_iff.1 e
              have := h2.2.2 a2 ha2
              omega)
          have XL := (Ext.refl w3).alloc (.cells #[.int .i64 (x.N : Int), .int .i64 x.F, .int .i64 x.T, .slice x.A 1 x.c] 37)
          have hbl := heap_alloc_new w3 (.cells #[.int .i64 (x.N : Int), .int .i64 x.F, .int .i64 x.T, .slice x.A 1 x.c] 37)
          have H4 := Lib.hid (And.intro (JP.ex XL) (And.intro hbl (And.intro (hRd.ext XL) (hBR.ext XL))))
          clear DO hNS hfr hby hRd JP hBR XL hbl cj
          go_upto_region 43 with (fail)
          generalize w3.alloc (.cells #[.int .i64 (x.N : Int), .int .i64 x.F, .int .i64 x.T, .slice x.A 1 x.c] 37) = w4 at *
          generalize w3.heap.size = l4 at *
          obtain ⟨ax, hax, _, hcx⟩ := H4.out.2.2.1.2 (by omega)
          have HCX := Lib.hid (hcx 0 _ (show (u8s [b])[0]? = some (.int .u8 (b : Int)) from rfl))
          have r3 : w4.cell? ⟨l4, 3, none⟩ = some (.slice (some ax) 1 x.c) := by rw [← hax]; exact block_cell H4.out.2.1 3
          have cx : w4.cell? ax = some (.int .u8 (b : Int)) := by
            have h1 := HCX.out
            have e0 : ax.add 0 = ax := by unfold Addr.add; rw [if_pos rfl]
            rwa [e0] at h1
          clear hcx hax
          obtain ⟨hc1, _, MP⟩ := HX.out.2.1.pop HXM.out.1 HXM.out.2.1
          obtain ⟨q0, hq0⟩ : ∃ q0 : Nat, cnt (ls.drop j) b = q0 := ⟨_, rfl⟩
          rw [hq0, HED.out] at MP
          rw [hq0] at hc1
          have hq4 : q0 ≤ 4096 := by have h1 := cnt_le (ls.drop j) b; have h2 := HX.out.1.net.few; have h3 := HX.out.1.net.len; omega
          have cl : w4.cell? ⟨lb, b, none⟩ = some (.int .i64 (q0 : Int)) := H4.out.1.lft.cellAt hb256 (by rw [← hq0]; simp only [ints, List.getElem?_map, HX.out.2.1.cn b hb256, Option.map_some])
          have fl : w4.frozen? ⟨lb, b, none⟩ = false := H4.out.1.lft.frozenAt b
          have wr1 : IntKind.i64.wrap ((q0 : Int) - 1) = (q0 : Int) - 1 := by rw [IntKind.wrap_i64]; omega
          have JL := H4.out.1.left b ((q0 : Int) - 1)
          rw [HED.out, show m - j - 1 = m - (j + 1) by omega] at JL
          have hBL := (Fr.store w4 ⟨lb, b, none⟩ (.int .i64 ((q0 : Int) - 1))).rd H4.out.2.2.2 (fun a ha e => by
            have h1 := HBW.out.1 a ha
            have h2 := HLT.out.2.1
            have e : a.block = lb := e
            omega)
          have JE := Lib.hid (And.intro JL (And.intro MP hBL))
          clear hq0 MP JL hBL
          go_wp2_with fail
          go_roundw
          case rel => exact ⟨j + 1, _, by go_num, by omega, JE.out⟩
          case measure => simp [intOf]; omega
        · obtain rfl : m = j := by omega
          have hlen : ls.length = m := HI2.out.1.net.len
          have hd : ls.drop m = [] := List.drop_eq_nil_of_le (by omega)
          have hML := HX.out.2.1
          rw [hd] at hML
          have hz0 := hML.done
          have hlo := HX.out.1.lft
          rw [hz0] at hlo
          have hra : W.rangeAt lb 0 zs256 := fun q v hv => by
            have hq : q < 256 := by have := (List.getElem?_eq_some_iff.1 hv).1; rw [zs256_len] at this; exact this
            rw [Nat.zero_add]
            exact hlo.cellAt hq hv
          have HX9 := Lib.hid HX.out.1.ext
          have hq9 := zero256
          have heq : ∀ W : World, (Op.equalIn 10000 43 (.agg zs256.toArray) (.agg zs256.toArray)).run Tryd.prog W = .ok true W := fun W => run_eq_ints (P := Tryd.prog) (n := 256) Tryd.underlying43 Tryd.underlying3 (by kernel_rfl) W 9998 (List.replicate 256 0) List.length_replicate
          clear hML hlo hz0 hd hlen HX
          go_upto_region 47 with (fail)
          go_wp2_with (refine wpList_load_mid rfl 43 _ rfl lb 0 rfl zs256 _ hra Tryd.underlying43 rfl (by kernel_rfl) ?_)
          go_returns
          exact ⟨rfl, HX9.out⟩
end Go.Proofs.YtjobehbaecgdpaaDoor
