/-
  The statement NetOrders, walked.
-/
import Derived.Test.YtjobehbaecgdpaaDoorNtOrdS
import Derived.Deep.Cut
namespace Go.Proofs.YtjobehbaecgdpaaDoor
set_option maxRecDepth 100000
open Go.RowKit
set_option linter.unusedVariables false
theorem add_lit (a : Addr) {k : Nat} (hk : k ≠ 0) : a.add k = ⟨a.block, a.off + k, none⟩ := by unfold Addr.add; rw [if_neg hk]
set_option maxHeartbeats 6400000 in
theorem orders_any (A0 : Option Addr) (n c0 : Nat) (os : List O6) (w : World) (hr : Rd w 6 A0 n (o6rows os).flatten) (hol : os.length = n) (hok : ∀ o ∈ os, o.ok w) (hn : n * 64 ≤ 140737488351232) {pg pf pn : Addr}
    (hG : Sen w 0 pg) (hF : Sen w 5 pf) (hN : Sen w 4 pn) :
    Calls Tryd.prog 3 #[.slice A0 n c0] w fun e w' => e = .returned (.bool true) ∧ Ext w w' := by
  have SG := Lib.hid (fun w' (hx : Ext w w') => hG.ext hx)
  have SF := Lib.hid (fun w' (hx : Ext w w') => hF.ext hx)
  have SN := Lib.hid (fun w' (hx : Ext w w') => hN.ext hx)
  have HO := Lib.hid (And.intro hol (And.intro hr hok))
  have AL := Lib.hid (nalive_any w hG)
  clear hr hol hok hG hF hN
  go_enter Tryd.func3, Tryd.ntmps3
  go_wp2_with fail
  refine AL.out.mono ?_
  rintro e u0 ⟨rfl, e0⟩
  have E0 := Lib.hid e0
  clear e0 AL
  go_wp2_with fail
  refine (nnew_any u0).mono ?_
  rintro e u1 ⟨rfl, h1, x1⟩
  generalize hg : u0.heap.size = g at *
  have hgl := h1.lt
  have J0 : NO w (u1.alloc (.cells #[] 3)) g none 0 0 [] 0 (some ⟨u1.heap.size, 0, none⟩) 0 :=
    ⟨h1.ex ((Ext.refl u1).alloc _), (World.ownsRow_lit (size := 1) u1 #[] 0 (by have := (E0.out.trans x1).size; omega) (by simp [maxLen]) rfl), (E0.out.trans x1).alloc _, by have := E0.out.size; omega, (fun b hb => by injection hb with hb; subst hb; show u1.heap.size ≠ g; omega), (fun a b ha => by cases ha), (fun x hx => by cases hx)⟩
  have HJ := Lib.hid J0
  clear J0 h1 x1 hgl hg
  have hnb : n ≤ 2199023255488 := by omega
  go_wp2_with fail
  generalize u1.alloc (.cells #[] 3) = U at *
  generalize u1.heap.size = q1 at *
  go_loopw [4, 5, 22] (fun v4 v5 v22 wr => ∃ (i : Nat) (A : Option Addr) (m c : Nat) (ls : List LetV) (last : Nat) (S : Nat) (d : Nat), v4 = .slice (some ⟨S, 0, none⟩) m d ∧ v5 = .int .i64 (last : Int) ∧ v22 = .int .i64 (i : Int) ∧ i ≤ n ∧ last ≤ i ∧ Hid (NO w wr g A m c ls last (some ⟨S, 0, none⟩) d)) (fun _ _ v22 _ => n - (intOf v22).toNat)
  case atStart => exact ⟨0, none, 0, 0, [], 0, q1, 0, rfl, by go_num, rfl, by omega, by omega, HJ.out⟩
  case round =>
    obtain ⟨i, A, m, c, ls, last, S, d, rfl, rfl, rfl, hi, hlast, HI⟩ := hrel
    obtain ⟨U2, hU2⟩ : ∃ U2, U2 = wr := ⟨_, rfl⟩
    subst hU2
    clear HJ
    by_cases hlt : i < n
    · obtain ⟨o, ho⟩ : ∃ o, os[i]? = some o := ⟨os[i]'(by rw [HO.out.1]; exact hlt), List.getElem?_eq_getElem _⟩
      have hok := HO.out.2.2 o (List.mem_of_getElem? ho)
      obtain ⟨i6, hi6⟩ : ∃ i6, i * 6 = i6 := ⟨_, rfl⟩
      obtain ⟨ad, rfl, _, _⟩ := HO.out.2.1.2 (show 0 < n by omega)
      have hrr := HO.out.2.1.ext HI.out.ext
      have k0 := hrr.rowAt (o6_even os) (o6_at ho) hi6 (i := 0) rfl
      have k1 := hrr.rowAt (o6_even os) (o6_at ho) hi6 (i := 1) rfl
      have k2 := hrr.rowAt (o6_even os) (o6_at ho) hi6 (i := 2) rfl
      have k3 := hrr.rowAt (o6_even os) (o6_at ho) hi6 (i := 3) rfl
      have k4 := hrr.rowAt (o6_even os) (o6_at ho) hi6 (i := 4) rfl
      have k5 := hrr.rowAt (o6_even os) (o6_at ho) hi6 (i := 5) rfl
      rw [Nat.add_zero] at k0
      rw [← add_add', add_lit _ (by omega)] at k1 k2 k3 k4 k5
      have z0 : (0 : Int) ≤ i := by omega
      have z1 : (i : Int) < n := by omega
      have XV := (Ext.refl U2).alloc (.cells #[.int .i64 o.K, .int .i64 o.Q, .int .i64 o.F, .int .i64 o.T, .int .i64 o.N, .slice o.A o.n o.c] 29)
      have hb := heap_alloc_new U2 (.cells #[.int .i64 o.K, .int .i64 o.Q, .int .i64 o.F, .int .i64 o.T, .int .i64 o.N, .slice o.A o.n o.c] 29)
      have HV := Lib.hid (And.intro (HI.out.ex XV) hb)
      clear XV hb hrr ho HI
      go_upto_region 11 with (fail)
      generalize U2.alloc (.cells #[.int .i64 o.K, .int .i64 o.Q, .int .i64 o.F, .int .i64 o.T, .int .i64 o.N, .slice o.A o.n o.c] 29) = V at *
      generalize U2.heap.size = ob at *
      have J := Lib.hid HV.out.1
      have HBX := Lib.hid HV.out.2
      have b1 : V.cell? ⟨ob, 0, none⟩ = some (.int .i64 o.K) := block_cell HV.out.2 0
      have b2 : V.cell? ⟨ob, 1, none⟩ = some (.int .i64 o.Q) := block_cell HV.out.2 1
      have b3 : V.cell? ⟨ob, 2, none⟩ = some (.int .i64 o.F) := block_cell HV.out.2 2
      have b4 : V.cell? ⟨ob, 3, none⟩ = some (.int .i64 o.T) := block_cell HV.out.2 3
      have b5 : V.cell? ⟨ob, 4, none⟩ = some (.int .i64 o.N) := block_cell HV.out.2 4
      have b6 : V.cell? ⟨ob, 5, none⟩ = some (.slice o.A o.n o.c) := block_cell HV.out.2 5
      clear HV k0 k1 k2 k3 k4 k5 hi6
      by_cases hK1 : o.K = 1
      · as_aux_lemma =>
          by_cases hFT : (0 ≤ o.F ∧ o.F ≤ 6) ∧ 0 ≤ o.T ∧ o.T ≤ 6
          · by_cases hm : m = 4096
            · have SC := Lib.hid (send_full J.out.net hm o.F o.T hFT.1 hFT.2 o.A o.n o.c (SF.out V J.out.ext))
              clear hm hFT
              go_wp2_with fail
              refine SC.out.mono ?_
              rintro e w1 ⟨rfl, x1⟩
              have X1 := Lib.hid x1
              clear x1 SC
              have JE := Lib.hid (J.out.ex X1.out)
              clear X1
              go_wp2_with fail
              refine (waiting_any JE.out.net).mono ?_
              rintro e vW ⟨BW, dW, rfl, oW, xW⟩
              have hmb := JE.out.net.few
              have SM := Lib.hid (same_ints BW (some ⟨S, 0, none⟩) m dW d (nums ls) vW oW.rd (JE.out.wts.ext xW).rd (by omega))
              have XW := Lib.hid xW
              clear oW xW hmb
              go_wp2_with fail
              refine SM.out.mono ?_
              rintro e vS ⟨rfl, xS⟩
              have JS := Lib.hid ((JE.out.ex XW.out).ex xS)
              clear xS SM XW JE
              go_wp2_with fail
              go_roundw
              case rel => exact ⟨i + 1, _, _, _, _, last, _, _, rfl, rfl, by go_num, by omega, by omega, JS.out⟩
              case measure => simp [intOf]; omega
            · have hm2 : m < 4096 := by have := J.out.net.few; omega
              have hrd := (hok.ext J.out.ext).rd
              have SC := send_ok J.out.net hm2 (by omega) o.F o.T hFT.1 hFT.2 o.A o.n o.c o.l hrd hok.byte (by have := hok.le; have := hok.small; omega) (fun h0 b hb => by
                obtain ⟨ad, e, hlt, _⟩ := hok.rd.2 h0
                rw [hb] at e
                injection e with e
                subst e
                have := J.out.hg
                omega)
              obtain ⟨L, hL⟩ : ∃ L, last + 1 = L := ⟨_, rfl⟩
              have hLi : (last : Int) + 1 = (L : Int) := by omega
              have HL := Lib.hid hLi
              have HLN := Lib.hid hL
              rw [hLi] at SC
              clear hL
              have SC := Lib.hid SC
              clear hm hm2 hFT hrd
              go_wp2_with fail
              refine SC.out.mono ?_
              rintro e w1 ⟨rfl, hp⟩
              have HP := Lib.hid hp
              clear hp SC b1 b2 b3 b4 b5 b6
              go_wp2_with (at_builtin; refine held ?_)
              have XA1 := (Ext.refl w1).alloc (.cells #[.int .i64 (L : Int)] 3)
              have ow1 : Own w1 w.heap.size 3 1 (some ⟨S, 0, none⟩) m d (ints (nums ls)) := HP.out.fr.own J.out.wts (fun b hb e => by
                rcases e with e | e
                · exact J.out.bg b hb e
                · obtain ⟨a, ha, hab⟩ := Option.map_eq_some_iff.1 e
                  exact J.out.ba a b ha hb hab)
              have hmb := J.out.net.few
              have hzz : w.heap.size ≤ (w1.alloc (.cells #[.int .i64 (L : Int)] 3)).heap.size := by
                have h1 := J.out.ext.size
                have h2 := HP.out.fr.size
                simp
                omega
              refine Held.go (wp_app (m := 1) (news := ints [(L : Int)]) eltIn (ow1.alloc _) (Rd.new w1 #[.int .i64 (L : Int)] 3 (0, 0)) (ints_one _) (by omega) (.inr ⟨by omega, by omega⟩) hzz _ _ rfl rfl rfl rfl ?_)
              intro B2 d2 w2 o2 g2 hB2 _
              obtain ⟨S2, rfl⟩ := o2.head (by omega)
              obtain ⟨A', c', ls', JN⟩ := J.out.push HP.out XA1 (by rw [HL.out]; exact o2) g2 hB2
              have JE := Lib.hid JN
              rw [HLN.out] at JE
              clear JN o2 g2 hB2 ow1 hzz XA1 HP hmb
              go_wp2_with fail
              refine (waiting_any JE.out.net).mono ?_
              rintro e vW ⟨BW, dW, rfl, oW, xW⟩
              have hmb := JE.out.net.few
              have SM := Lib.hid (same_ints BW (some ⟨S2, 0, none⟩) (m + 1) dW d2 (nums ls') vW oW.rd (JE.out.wts.ext xW).rd (by omega))
              have XW := Lib.hid xW
              clear oW xW hmb
              go_wp2_with fail
              refine SM.out.mono ?_
              rintro e vS ⟨rfl, xS⟩
              have JS := Lib.hid ((JE.out.ex XW.out).ex xS)
              clear xS SM XW JE
              go_wp2_with fail
              go_roundw
              case rel => exact ⟨i + 1, _, _, _, _, L, _, _, rfl, rfl, by go_num, by omega, by omega, JS.out⟩
              case measure => simp [intOf]; omega
          · have SC := Lib.hid (send_num J.out.net o.F o.T hFT o.A o.n o.c (SN.out V J.out.ext))
            clear hFT
            go_wp2_with fail
            refine SC.out.mono ?_
            rintro e w1 ⟨rfl, x1⟩
            have X1 := Lib.hid x1
            clear x1 SC
            have JE := Lib.hid (J.out.ex X1.out)
            clear X1
            go_wp2_with fail
            refine (waiting_any JE.out.net).mono ?_
            rintro e vW ⟨BW, dW, rfl, oW, xW⟩
            have hmb := JE.out.net.few
            have SM := Lib.hid (same_ints BW (some ⟨S, 0, none⟩) m dW d (nums ls) vW oW.rd (JE.out.wts.ext xW).rd (by omega))
            have XW := Lib.hid xW
            clear oW xW hmb
            go_wp2_with fail
            refine SM.out.mono ?_
            rintro e vS ⟨rfl, xS⟩
            have JS := Lib.hid ((JE.out.ex XW.out).ex xS)
            clear xS SM XW JE
            go_wp2_with fail
            go_roundw
            case rel => exact ⟨i + 1, _, _, _, _, last, _, _, rfl, rfl, by go_num, by omega, by omega, JS.out⟩
            case measure => simp [intOf]; omega
      · have hK1b : (o.K == 1) = false := by simp [hK1]
        by_cases hK4 : o.K = 4
        · as_aux_lemma =>
            by_cases hit : ∃ (k : Nat) (x : LetV), ls[k]? = some x ∧ (x.N : Int) = o.N
            · obtain ⟨k, x, hk, hxN⟩ := hit
              by_cases hm : m = 4096
              · have SC := Lib.hid (copy_full J.out.net hm hk hxN (SF.out V J.out.ext))
                clear hm hk hxN
                go_wp2_with fail
                refine SC.out.mono ?_
                rintro e w1 ⟨rfl, x1⟩
                have X1 := Lib.hid x1
                clear x1 SC
                have JE := Lib.hid (J.out.ex X1.out)
                clear X1
                go_wp2_with fail
                refine (waiting_any JE.out.net).mono ?_
                rintro e vW ⟨BW, dW, rfl, oW, xW⟩
                have hmb := JE.out.net.few
                have SM := Lib.hid (same_ints BW (some ⟨S, 0, none⟩) m dW d (nums ls) vW oW.rd (JE.out.wts.ext xW).rd (by omega))
                have XW := Lib.hid xW
                clear oW xW hmb
                go_wp2_with fail
                refine SM.out.mono ?_
                rintro e vS ⟨rfl, xS⟩
                have JS := Lib.hid ((JE.out.ex XW.out).ex xS)
                clear xS SM XW JE
                go_wp2_with fail
                go_roundw
                case rel => exact ⟨i + 1, _, _, _, _, last, _, _, rfl, rfl, by go_num, by omega, by omega, JS.out⟩
                case measure => simp [intOf]; omega
              · have hm2 : m < 4096 := by have := J.out.net.few; omega
                have SC := copy_ok J.out.net hm2 (by omega) hk hxN
                obtain ⟨L, hL⟩ : ∃ L, last + 1 = L := ⟨_, rfl⟩
                have hLi : (last : Int) + 1 = (L : Int) := by omega
                have HL := Lib.hid hLi
                have HLN := Lib.hid hL
                rw [hLi] at SC
                clear hL
                have SC := Lib.hid SC
                clear hm hm2 hk hxN
                go_wp2_with fail
                refine SC.out.mono ?_
                rintro e w1 ⟨rfl, hp⟩
                have HP := Lib.hid hp
                clear hp SC b1 b2 b3 b4 b5 b6
                go_wp2_with (at_builtin; refine held ?_)
                have XA1 := (Ext.refl w1).alloc (.cells #[.int .i64 (L : Int)] 3)
                have ow1 : Own w1 w.heap.size 3 1 (some ⟨S, 0, none⟩) m d (ints (nums ls)) := HP.out.fr.own J.out.wts (fun b hb e => by
                  rcases e with e | e
                  · exact J.out.bg b hb e
                  · obtain ⟨a, ha, hab⟩ := Option.map_eq_some_iff.1 e
                    exact J.out.ba a b ha hb hab)
                have hmb := J.out.net.few
                have hzz : w.heap.size ≤ (w1.alloc (.cells #[.int .i64 (L : Int)] 3)).heap.size := by
                  have h1 := J.out.ext.size
                  have h2 := HP.out.fr.size
                  simp
                  omega
                refine Held.go (wp_app (m := 1) (news := ints [(L : Int)]) eltIn (ow1.alloc _) (Rd.new w1 #[.int .i64 (L : Int)] 3 (0, 0)) (ints_one _) (by omega) (.inr ⟨by omega, by omega⟩) hzz _ _ rfl rfl rfl rfl ?_)
                intro B2 d2 w2 o2 g2 hB2 _
                obtain ⟨S2, rfl⟩ := o2.head (by omega)
                obtain ⟨A', c', ls', JN⟩ := J.out.push HP.out XA1 (by rw [HL.out]; exact o2) g2 hB2
                have JE := Lib.hid JN
                rw [HLN.out] at JE
                clear JN o2 g2 hB2 ow1 hzz XA1 HP hmb
                go_wp2_with fail
                refine (waiting_any JE.out.net).mono ?_
                rintro e vW ⟨BW, dW, rfl, oW, xW⟩
                have hmb := JE.out.net.few
                have SM := Lib.hid (same_ints BW (some ⟨S2, 0, none⟩) (m + 1) dW d2 (nums ls') vW oW.rd (JE.out.wts.ext xW).rd (by omega))
                have XW := Lib.hid xW
                clear oW xW hmb
                go_wp2_with fail
                refine SM.out.mono ?_
                rintro e vS ⟨rfl, xS⟩
                have JS := Lib.hid ((JE.out.ex XW.out).ex xS)
                clear xS SM XW JE
                go_wp2_with fail
                go_roundw
                case rel => exact ⟨i + 1, _, _, _, _, L, _, _, rfl, rfl, by go_num, by omega, by omega, JS.out⟩
                case measure => simp [intOf]; omega
            · have hno : ∀ x ∈ ls, (x.N : Int) ≠ o.N := fun x hx e => by
                obtain ⟨k, hk⟩ := List.getElem?_of_mem hx
                exact hit ⟨k, x, hk, e⟩
              have SC := Lib.hid (copy_gone J.out.net hno (SG.out V J.out.ext))
              clear hno hit
              go_wp2_with fail
              refine SC.out.mono ?_
              rintro e w1 ⟨rfl, x1⟩
              have X1 := Lib.hid x1
              clear x1 SC
              have JE := Lib.hid (J.out.ex X1.out)
              clear X1
              go_wp2_with fail
              refine (waiting_any JE.out.net).mono ?_
              rintro e vW ⟨BW, dW, rfl, oW, xW⟩
              have hmb := JE.out.net.few
              have SM := Lib.hid (same_ints BW (some ⟨S, 0, none⟩) m dW d (nums ls) vW oW.rd (JE.out.wts.ext xW).rd (by omega))
              have XW := Lib.hid xW
              clear oW xW hmb
              go_wp2_with fail
              refine SM.out.mono ?_
              rintro e vS ⟨rfl, xS⟩
              have JS := Lib.hid ((JE.out.ex XW.out).ex xS)
              clear xS SM XW JE
              go_wp2_with fail
              go_roundw
              case rel => exact ⟨i + 1, _, _, _, _, last, _, _, rfl, rfl, by go_num, by omega, by omega, JS.out⟩
              case measure => simp [intOf]; omega
        · have hK4b : (o.K == 4) = false := by simp [hK4]
          as_aux_lemma =>
            by_cases hK2 : o.K = 2
            · as_aux_lemma =>
                by_cases hit : ∃ (k : Nat) (x : LetV), ls[k]? = some x ∧ (x.N : Int) = o.N
                · obtain ⟨k, x, hk, hxN⟩ := hit
                  have hkm : k < m := by have := J.out.len; have := (List.getElem?_eq_some_iff.1 hk).1; omega
                  have HK := Lib.hid (And.intro hk hxN)
                  clear hk hxN
                  have hfw := J.out.net.few
                  have HGET := Lib.hid (show ∀ t, t < m → ∃ y, ls[t]? = some y from fun t ht => ⟨ls[t]'(by have := J.out.len; omega), List.getElem?_eq_getElem _⟩)
                  go_wp2_with fail
                  go_loop [10, 68] (fun v10 v68 => ∃ t : Nat, v68 = .int .i64 (t : Int) ∧ t ≤ m ∧ (t ≤ k ∧ v10 = .int .i64 (-1) ∨ k < t ∧ v10 = .int .i64 (k : Int))) (fun _ v68 => m - (intOf v68).toNat)
                  case atStart => exact ⟨0, rfl, by omega, .inl ⟨by omega, rfl⟩⟩
                  case round =>
                    obtain ⟨t, rfl, ht, hv10⟩ := hrel
                    by_cases htm : t < m
                    · obtain ⟨y, hy⟩ := HGET.out t htm
                      have cy := J.out.wts.cellAt (k := t) htm (ints_at (nums_at hy))
                      have t0 : (0 : Int) ≤ t := by omega
                      have t1 : (t : Int) < m := by omega
                      by_cases htk : t = k
                      · subst htk
                        have hyx : y = x := by have h := HK.out.1; rw [hy] at h; exact Option.some.inj h
                        have heq : ((y.N : Int) == o.N) = true := by rw [beq_iff_eq, hyx]; exact HK.out.2
                        clear hyx
                        have HY := Lib.hid hy
                        clear hy
                        go_wp2_with fail
                        go_round
                        case rel => exact ⟨t + 1, by go_num, by omega, .inr ⟨by omega, rfl⟩⟩
                        case measure => simp [intOf]; omega
                      · have hne : ((y.N : Int) == o.N) = false := by
                          rw [beq_eq_false_iff_ne]
                          intro e
                          exact htk (J.out.net.ris.inj hy HK.out.1 (by have := HK.out.2; omega))
                        rcases hv10 with ⟨h1, rfl⟩ | ⟨h1, rfl⟩
                        · have HY := Lib.hid hy
                          clear hy
                          go_wp2_with fail
                          go_round
                          case rel => exact ⟨t + 1, by go_num, by omega, .inl ⟨by omega, rfl⟩⟩
                          case measure => simp [intOf]; omega
                        · have HY := Lib.hid hy
                          clear hy
                          go_wp2_with fail
                          go_round
                          case rel => exact ⟨t + 1, by go_num, by omega, .inr ⟨by omega, rfl⟩⟩
                          case measure => simp [intOf]; omega
                    · obtain rfl : m = t := by omega
                      rcases hv10 with ⟨h1, _⟩ | ⟨h1, rfl⟩
                      · omega
                      · have SC := Lib.hid (deliver_ok J.out.net HK.out.1 HK.out.2)
                        have kk0 : (0 : Int) ≤ k := by omega
                        unfold LetV.val at SC
                        go_wp2_with fail
                        refine SC.out.mono ?_
                        rintro e w1 ⟨rfl, hn1, hf1⟩
                        have HP := Lib.hid (And.intro hn1 hf1)
                        clear hn1 hf1 SC b1 b2 b3 b4 b5 b6
                        have hB1 : ∀ b, (some (⟨S, 0, none⟩ : Addr)) = some b → ¬ (b.block = g ∨ A.map (·.block) = some b.block) := fun b hb e => by
                          rcases e with e | e
                          · exact J.out.bg b hb e
                          · obtain ⟨a, ha, hab⟩ := Option.map_eq_some_iff.1 e
                            exact J.out.ba a b ha hb hab
                        have ow1 : Own w1 w.heap.size 3 1 (some ⟨S, 0, none⟩) m d (ints (nums ls)) := HP.out.2.own J.out.wts hB1
                        have hmd := ow1.cap_le
                        have hfew := J.out.net.few
                        obtain ⟨j, hj⟩ : ∃ j, k + 1 = j := ⟨_, rfl⟩
                        have q0 : (0 : Int) ≤ k := by omega
                        have q1 : (k : Int) ≤ (d : Int) := by omega
                        have q2 : (j : Int) ≤ (m : Int) := by omega
                        have q3 : (m : Int) ≤ (d : Int) := by omega
                        have q4 : (0 : Int) ≤ j := by omega
                        have xV := (Ext.refl w1).alloc (.cells #[] 3)
                        have xD := xV.drew
                        have own0 : Own (w1.alloc (.cells #[] 3)).drew w1.heap.size 3 1 (some ⟨w1.heap.size, 0, none⟩) 0 0 [] := World.ownsRow_lit (size := 1) w1 #[] 0 (Nat.le_refl _) (by simp [maxLen]) rfl
                        have hz0 : w1.heap.size ≤ (w1.alloc (.cells #[] 3)).drew.heap.size := by simp
                        have R1 : Rd (w1.alloc (.cells #[] 3)).drew 1 (some ⟨S, 0, none⟩) k (ints ((nums ls).take k)) := by
                          have h := (ow1.rd.ext xD).take_ (k := k) (by omega)
                          rw [Nat.mul_one, ← ints_take] at h
                          exact h
                        have R2 : Hid (∀ w', Ext w1 w' → Rd w' 1 (if d = j then some ⟨S, 0, none⟩ else (some (⟨S, 0, none⟩ : Addr)).map (·.add j)) (m - j) (ints ((nums ls).drop j))) := Lib.hid (fun w' hx => by
                          have h := (ow1.rd.ext hx).cut (k := j) (cap := d) (by omega) hmd
                          rw [Nat.mul_one, ← ints_drop] at h
                          exact h)
                        have n1 : k + (m - j) = m - 1 := by omega
                        have HE := Lib.hid (show ints ((nums ls).take k) ++ ints ((nums ls).drop j) = ints (nums (ls.eraseIdx k)) by rw [nums_erase, ints_app, hj])
                        have HJ2 := Lib.hid hj
                        obtain ⟨X, hX⟩ : ∃ X, (if d = j then some (⟨S, 0, none⟩ : Addr) else (some (⟨S, 0, none⟩ : Addr)).map (·.add j)) = X := ⟨_, rfl⟩
                        have R2 := Lib.hid (fun w' hx => (show Rd w' 1 X (m - j) (ints ((nums ls).drop j)) by have h := R2.out w' hx; rwa [hX] at h))
                        have SL := run_slice_from eltIn (some ⟨S, 0, none⟩) m d .i64 j (by omega) hmd hX
                        have U1 := Lib.hid (show 0 + k ≤ 9223372036854775807 ∧ (0 + k ≤ 0 ∨ (0 + k) * 8 ≤ 225000000000000 ∧ 8 ≤ 100000) from ⟨by omega, .inr ⟨by omega, by omega⟩⟩)
                        have U2 := Lib.hid (show k + (m - j) ≤ 9223372036854775807 ∧ ∀ c, (k + (m - j) ≤ c ∨ (k + (m - j)) * 8 ≤ 225000000000000 ∧ 8 ≤ 100000) from ⟨by omega, fun _ => .inr ⟨by omega, by omega⟩⟩)
                        have n1 := Lib.hid n1
                        have wr1 : IntKind.i64.wrap ((k : Int) + 1) = (j : Int) := by rw [IntKind.wrap_i64]; omega
                        clear hX hj ow1 hB1
                        go_wp2_with fail
                        go_region_law
                          (first
                            | (refine step_app (m := k) (news := ints ((nums ls).take k)) eltIn own0 R1 (ints_one _) U1.out.1 U1.out.2 hz0 _ _ rfl rfl rfl rfl ?_
                               intro A3 c3 w3 o3 g3 hA3 _
                               rw [Nat.zero_add, List.nil_append] at o3
                               rw [Nat.zero_add]
                               have x3 : Ext w1 w3 := Grows.ext g3 xD (fun g hg => by injection hg with hg; rw [← hg]; exact Nat.le_refl _)
                               have hz3 : w1.heap.size ≤ w3.heap.size := x3.size
                               have R3 := R2.out w3 x3)
                            | (refine step_app (m := m - j) (news := ints ((nums ls).drop j)) eltIn o3 R3 (ints_one _) U2.out.1 (U2.out.2 _) hz3 _ _ rfl rfl rfl rfl ?_
                               intro A4 c4 w4 o4 g4 hA4 _
                               obtain ⟨S4, rfl⟩ : ∃ S4, A4 = some ⟨S4, 0, none⟩ := by
                                 rcases hA4 with e | e
                                 · rcases hA3 with e2 | e2 <;> exact ⟨_, e.trans e2⟩
                                 · exact ⟨_, e⟩
                               have x4 : Ext w1 w4 := Grows.ext g4 x3 (fun g hg => o3.base_le g hg)))
                        all_goals
                          have o5 : Own w4 w1.heap.size 3 1 (some ⟨S4, 0, none⟩) (m - 1) c4 (ints (nums (ls.eraseIdx k))) := by
                            rw [n1.out] at o4
                            rw [← HE.out]
                            exact o4
                          have JE := Lib.hid (J.out.pop HP.out.1 HP.out.2 x4 o5 (Nat.le_refl _))
                          clear o4 g4 hA4 o3 g3 hA3 x3 x4 o5 R3 hz3 R1 own0 hz0 xD xV
                          try clear wr1
                          try rw [n1.out]
                          clear n1 U1 U2 q0 q1 q2 q3 q4 hmd hfew
                          try clear r5
                          try clear r6
                          go_wp2_with fail
                          refine (waiting_any JE.out.net).mono ?_
                          rintro e vW ⟨BW, dW, rfl, oW, xW⟩
                          have hmb := JE.out.net.few
                          have SM := Lib.hid (same_ints BW (some ⟨S4, 0, none⟩) (m - 1) dW c4 (nums (ls.eraseIdx k)) vW oW.rd (JE.out.wts.ext xW).rd (by omega))
                          have XW := Lib.hid xW
                          clear oW xW hmb
                          go_wp2_with fail
                          refine SM.out.mono ?_
                          rintro e vS ⟨rfl, xS⟩
                          have JS := Lib.hid ((JE.out.ex XW.out).ex xS)
                          clear xS SM XW JE
                          go_wp2_with fail
                          go_roundw
                          case rel => exact ⟨i + 1, _, _, _, _, last, _, _, rfl, rfl, by go_num, by omega, by omega, JS.out⟩
                          case measure => simp [intOf]; omega
                · have hno : ∀ x ∈ ls, (x.N : Int) ≠ o.N := fun x hx e => by
                    obtain ⟨k, hk⟩ := List.getElem?_of_mem hx
                    exact hit ⟨k, x, hk, e⟩
                  have HNO := Lib.hid hno
                  clear hno hit
                  have hfw := J.out.net.few
                  have HGET := Lib.hid (show ∀ t, t < m → ∃ y, ls[t]? = some y from fun t ht => ⟨ls[t]'(by have := J.out.len; omega), List.getElem?_eq_getElem _⟩)
                  go_wp2_with fail
                  go_loop [10, 68] (fun v10 v68 => ∃ t : Nat, v68 = .int .i64 (t : Int) ∧ t ≤ m ∧ v10 = .int .i64 (-1)) (fun _ v68 => m - (intOf v68).toNat)
                  case atStart => exact ⟨0, rfl, by omega, rfl⟩
                  case round =>
                    obtain ⟨t, rfl, ht, rfl⟩ := hrel
                    by_cases htm : t < m
                    · obtain ⟨y, hy⟩ := HGET.out t htm
                      have cy := J.out.wts.cellAt (k := t) htm (ints_at (nums_at hy))
                      have t0 : (0 : Int) ≤ t := by omega
                      have t1 : (t : Int) < m := by omega
                      have hne : ((y.N : Int) == o.N) = false := by
                        rw [beq_eq_false_iff_ne]
                        exact HNO.out y (List.mem_of_getElem? hy)
                      have HY := Lib.hid hy
                      clear hy
                      go_wp2_with fail
                      go_round
                      case rel => exact ⟨t + 1, by go_num, by omega, rfl⟩
                      case measure => simp [intOf]; omega
                    · obtain rfl : m = t := by omega
                      have SC := Lib.hid (deliver_gone J.out.net HNO.out (SG.out V J.out.ext))
                      go_wp2_with fail
                      refine SC.out.mono ?_
                      rintro e w1 ⟨rfl, x1⟩
                      have X1 := Lib.hid x1
                      clear x1 SC b1 b2 b3 b4 b5 b6
                      have JE := Lib.hid (J.out.ex X1.out)
                      clear X1
                      go_wp2_with fail
                      refine (waiting_any JE.out.net).mono ?_
                      rintro e vW ⟨BW, dW, rfl, oW, xW⟩
                      have hmb := JE.out.net.few
                      have SM := Lib.hid (same_ints BW (some ⟨S, 0, none⟩) m dW d (nums ls) vW oW.rd (JE.out.wts.ext xW).rd (by omega))
                      have XW := Lib.hid xW
                      clear oW xW hmb
                      go_wp2_with fail
                      refine SM.out.mono ?_
                      rintro e vS ⟨rfl, xS⟩
                      have JS := Lib.hid ((JE.out.ex XW.out).ex xS)
                      clear xS SM XW JE
                      go_wp2_with fail
                      go_roundw
                      case rel => exact ⟨i + 1, _, _, _, _, last, _, _, rfl, rfl, by go_num, by omega, by omega, JS.out⟩
                      case measure => simp [intOf]; omega
            · have hK2b : (o.K == 2) = false := by simp [hK2]
              by_cases hK3 : o.K = 3
              · as_aux_lemma =>
                  by_cases hit : ∃ (k : Nat) (x : LetV), ls[k]? = some x ∧ (x.N : Int) = o.N
                  · obtain ⟨k, x, hk, hxN⟩ := hit
                    have hkm : k < m := by have := J.out.len; have := (List.getElem?_eq_some_iff.1 hk).1; omega
                    have HK := Lib.hid (And.intro hk hxN)
                    clear hk hxN
                    have hfw := J.out.net.few
                    have HGET := Lib.hid (show ∀ t, t < m → ∃ y, ls[t]? = some y from fun t ht => ⟨ls[t]'(by have := J.out.len; omega), List.getElem?_eq_getElem _⟩)
                    go_wp2_with fail
                    go_loop [10, 68] (fun v10 v68 => ∃ t : Nat, v68 = .int .i64 (t : Int) ∧ t ≤ m ∧ (t ≤ k ∧ v10 = .int .i64 (-1) ∨ k < t ∧ v10 = .int .i64 (k : Int))) (fun _ v68 => m - (intOf v68).toNat)
                    case atStart => exact ⟨0, rfl, by omega, .inl ⟨by omega, rfl⟩⟩
                    case round =>
                      obtain ⟨t, rfl, ht, hv10⟩ := hrel
                      by_cases htm : t < m
                      · obtain ⟨y, hy⟩ := HGET.out t htm
                        have cy := J.out.wts.cellAt (k := t) htm (ints_at (nums_at hy))
                        have t0 : (0 : Int) ≤ t := by omega
                        have t1 : (t : Int) < m := by omega
                        by_cases htk : t = k
                        · subst htk
                          have hyx : y = x := by have h := HK.out.1; rw [hy] at h; exact Option.some.inj h
                          have heq : ((y.N : Int) == o.N) = true := by rw [beq_iff_eq, hyx]; exact HK.out.2
                          clear hyx
                          have HY := Lib.hid hy
                          clear hy
                          go_wp2_with fail
                          go_round
                          case rel => exact ⟨t + 1, by go_num, by omega, .inr ⟨by omega, rfl⟩⟩
                          case measure => simp [intOf]; omega
                        · have hne : ((y.N : Int) == o.N) = false := by
                            rw [beq_eq_false_iff_ne]
                            intro e
                            exact htk (J.out.net.ris.inj hy HK.out.1 (by have := HK.out.2; omega))
                          rcases hv10 with ⟨h1, rfl⟩ | ⟨h1, rfl⟩
                          · have HY := Lib.hid hy
                            clear hy
                            go_wp2_with fail
                            go_round
                            case rel => exact ⟨t + 1, by go_num, by omega, .inl ⟨by omega, rfl⟩⟩
                            case measure => simp [intOf]; omega
                          · have HY := Lib.hid hy
                            clear hy
                            go_wp2_with fail
                            go_round
                            case rel => exact ⟨t + 1, by go_num, by omega, .inr ⟨by omega, rfl⟩⟩
                            case measure => simp [intOf]; omega
                      · obtain rfl : m = t := by omega
                        rcases hv10 with ⟨h1, _⟩ | ⟨h1, rfl⟩
                        · omega
                        · have SC := Lib.hid (drop_ok J.out.net HK.out.1 HK.out.2)
                          have kk0 : (0 : Int) ≤ k := by omega
                          go_wp2_with fail
                          refine SC.out.mono ?_
                          rintro e w1 ⟨rfl, hn1, hf1⟩
                          have HP := Lib.hid (And.intro hn1 hf1)
                          clear hn1 hf1 SC b1 b2 b3 b4 b5 b6
                          have hB1 : ∀ b, (some (⟨S, 0, none⟩ : Addr)) = some b → ¬ (b.block = g ∨ A.map (·.block) = some b.block) := fun b hb e => by
                            rcases e with e | e
                            · exact J.out.bg b hb e
                            · obtain ⟨a, ha, hab⟩ := Option.map_eq_some_iff.1 e
                              exact J.out.ba a b ha hb hab
                          have ow1 : Own w1 w.heap.size 3 1 (some ⟨S, 0, none⟩) m d (ints (nums ls)) := HP.out.2.own J.out.wts hB1
                          have hmd := ow1.cap_le
                          have hfew := J.out.net.few
                          obtain ⟨j, hj⟩ : ∃ j, k + 1 = j := ⟨_, rfl⟩
                          have q0 : (0 : Int) ≤ k := by omega
                          have q1 : (k : Int) ≤ (d : Int) := by omega
                          have q2 : (j : Int) ≤ (m : Int) := by omega
                          have q3 : (m : Int) ≤ (d : Int) := by omega
                          have q4 : (0 : Int) ≤ j := by omega
                          have xV := (Ext.refl w1).alloc (.cells #[] 3)
                          have xD := xV.drew
                          have own0 : Own (w1.alloc (.cells #[] 3)).drew w1.heap.size 3 1 (some ⟨w1.heap.size, 0, none⟩) 0 0 [] := World.ownsRow_lit (size := 1) w1 #[] 0 (Nat.le_refl _) (by simp [maxLen]) rfl
                          have hz0 : w1.heap.size ≤ (w1.alloc (.cells #[] 3)).drew.heap.size := by simp
                          have R1 : Rd (w1.alloc (.cells #[] 3)).drew 1 (some ⟨S, 0, none⟩) k (ints ((nums ls).take k)) := by
                            have h := (ow1.rd.ext xD).take_ (k := k) (by omega)
                            rw [Nat.mul_one, ← ints_take] at h
                            exact h
                          have R2 : Hid (∀ w', Ext w1 w' → Rd w' 1 (if d = j then some ⟨S, 0, none⟩ else (some (⟨S, 0, none⟩ : Addr)).map (·.add j)) (m - j) (ints ((nums ls).drop j))) := Lib.hid (fun w' hx => by
                            have h := (ow1.rd.ext hx).cut (k := j) (cap := d) (by omega) hmd
                            rw [Nat.mul_one, ← ints_drop] at h
                            exact h)
                          have n1 : k + (m - j) = m - 1 := by omega
                          have HE := Lib.hid (show ints ((nums ls).take k) ++ ints ((nums ls).drop j) = ints (nums (ls.eraseIdx k)) by rw [nums_erase, ints_app, hj])
                          have HJ2 := Lib.hid hj
                          obtain ⟨X, hX⟩ : ∃ X, (if d = j then some (⟨S, 0, none⟩ : Addr) else (some (⟨S, 0, none⟩ : Addr)).map (·.add j)) = X := ⟨_, rfl⟩
                          have R2 := Lib.hid (fun w' hx => (show Rd w' 1 X (m - j) (ints ((nums ls).drop j)) by have h := R2.out w' hx; rwa [hX] at h))
                          have SL := run_slice_from eltIn (some ⟨S, 0, none⟩) m d .i64 j (by omega) hmd hX
                          have U1 := Lib.hid (show 0 + k ≤ 9223372036854775807 ∧ (0 + k ≤ 0 ∨ (0 + k) * 8 ≤ 225000000000000 ∧ 8 ≤ 100000) from ⟨by omega, .inr ⟨by omega, by omega⟩⟩)
                          have U2 := Lib.hid (show k + (m - j) ≤ 9223372036854775807 ∧ ∀ c, (k + (m - j) ≤ c ∨ (k + (m - j)) * 8 ≤ 225000000000000 ∧ 8 ≤ 100000) from ⟨by omega, fun _ => .inr ⟨by omega, by omega⟩⟩)
                          have n1 := Lib.hid n1
                          have wr1 : IntKind.i64.wrap ((k : Int) + 1) = (j : Int) := by rw [IntKind.wrap_i64]; omega
                          clear hX hj ow1 hB1
                          go_wp2_with fail
                          go_region_law
                            (first
                              | (refine step_app (m := k) (news := ints ((nums ls).take k)) eltIn own0 R1 (ints_one _) U1.out.1 U1.out.2 hz0 _ _ rfl rfl rfl rfl ?_
                                 intro A3 c3 w3 o3 g3 hA3 _
                                 rw [Nat.zero_add, List.nil_append] at o3
                                 rw [Nat.zero_add]
                                 have x3 : Ext w1 w3 := Grows.ext g3 xD (fun g hg => by injection hg with hg; rw [← hg]; exact Nat.le_refl _)
                                 have hz3 : w1.heap.size ≤ w3.heap.size := x3.size
                                 have R3 := R2.out w3 x3)
                              | (refine step_app (m := m - j) (news := ints ((nums ls).drop j)) eltIn o3 R3 (ints_one _) U2.out.1 (U2.out.2 _) hz3 _ _ rfl rfl rfl rfl ?_
                                 intro A4 c4 w4 o4 g4 hA4 _
                                 obtain ⟨S4, rfl⟩ : ∃ S4, A4 = some ⟨S4, 0, none⟩ := by
                                   rcases hA4 with e | e
                                   · rcases hA3 with e2 | e2 <;> exact ⟨_, e.trans e2⟩
                                   · exact ⟨_, e⟩
                                 have x4 : Ext w1 w4 := Grows.ext g4 x3 (fun g hg => o3.base_le g hg)))
                          all_goals
                            have o5 : Own w4 w1.heap.size 3 1 (some ⟨S4, 0, none⟩) (m - 1) c4 (ints (nums (ls.eraseIdx k))) := by
                              rw [n1.out] at o4
                              rw [← HE.out]
                              exact o4
                            have JE := Lib.hid (J.out.pop HP.out.1 HP.out.2 x4 o5 (Nat.le_refl _))
                            clear o4 g4 hA4 o3 g3 hA3 x3 x4 o5 R3 hz3 R1 own0 hz0 xD xV
                            try clear wr1
                            try rw [n1.out]
                            clear n1 U1 U2 q0 q1 q2 q3 q4 hmd hfew
                            try clear r5
                            try clear r6
                            go_wp2_with fail
                            refine (waiting_any JE.out.net).mono ?_
                            rintro e vW ⟨BW, dW, rfl, oW, xW⟩
                            have hmb := JE.out.net.few
                            have SM := Lib.hid (same_ints BW (some ⟨S4, 0, none⟩) (m - 1) dW c4 (nums (ls.eraseIdx k)) vW oW.rd (JE.out.wts.ext xW).rd (by omega))
                            have XW := Lib.hid xW
                            clear oW xW hmb
                            go_wp2_with fail
                            refine SM.out.mono ?_
                            rintro e vS ⟨rfl, xS⟩
                            have JS := Lib.hid ((JE.out.ex XW.out).ex xS)
                            clear xS SM XW JE
                            go_wp2_with fail
                            go_roundw
                            case rel => exact ⟨i + 1, _, _, _, _, last, _, _, rfl, rfl, by go_num, by omega, by omega, JS.out⟩
                            case measure => simp [intOf]; omega
                  · have hno : ∀ x ∈ ls, (x.N : Int) ≠ o.N := fun x hx e => by
                      obtain ⟨k, hk⟩ := List.getElem?_of_mem hx
                      exact hit ⟨k, x, hk, e⟩
                    have HNO := Lib.hid hno
                    clear hno hit
                    have hfw := J.out.net.few
                    have HGET := Lib.hid (show ∀ t, t < m → ∃ y, ls[t]? = some y from fun t ht => ⟨ls[t]'(by have := J.out.len; omega), List.getElem?_eq_getElem _⟩)
                    go_wp2_with fail
                    go_loop [10, 68] (fun v10 v68 => ∃ t : Nat, v68 = .int .i64 (t : Int) ∧ t ≤ m ∧ v10 = .int .i64 (-1)) (fun _ v68 => m - (intOf v68).toNat)
                    case atStart => exact ⟨0, rfl, by omega, rfl⟩
                    case round =>
                      obtain ⟨t, rfl, ht, rfl⟩ := hrel
                      by_cases htm : t < m
                      · obtain ⟨y, hy⟩ := HGET.out t htm
                        have cy := J.out.wts.cellAt (k := t) htm (ints_at (nums_at hy))
                        have t0 : (0 : Int) ≤ t := by omega
                        have t1 : (t : Int) < m := by omega
                        have hne : ((y.N : Int) == o.N) = false := by
                          rw [beq_eq_false_iff_ne]
                          exact HNO.out y (List.mem_of_getElem? hy)
                        have HY := Lib.hid hy
                        clear hy
                        go_wp2_with fail
                        go_round
                        case rel => exact ⟨t + 1, by go_num, by omega, rfl⟩
                        case measure => simp [intOf]; omega
                      · obtain rfl : m = t := by omega
                        have SC := Lib.hid (drop_gone J.out.net HNO.out (SG.out V J.out.ext))
                        go_wp2_with fail
                        refine SC.out.mono ?_
                        rintro e w1 ⟨rfl, x1⟩
                        have X1 := Lib.hid x1
                        clear x1 SC b1 b2 b3 b4 b5 b6
                        have JE := Lib.hid (J.out.ex X1.out)
                        clear X1
                        go_wp2_with fail
                        refine (waiting_any JE.out.net).mono ?_
                        rintro e vW ⟨BW, dW, rfl, oW, xW⟩
                        have hmb := JE.out.net.few
                        have SM := Lib.hid (same_ints BW (some ⟨S, 0, none⟩) m dW d (nums ls) vW oW.rd (JE.out.wts.ext xW).rd (by omega))
                        have XW := Lib.hid xW
                        clear oW xW hmb
                        go_wp2_with fail
                        refine SM.out.mono ?_
                        rintro e vS ⟨rfl, xS⟩
                        have JS := Lib.hid ((JE.out.ex XW.out).ex xS)
                        clear xS SM XW JE
                        go_wp2_with fail
                        go_roundw
                        case rel => exact ⟨i + 1, _, _, _, _, last, _, _, rfl, rfl, by go_num, by omega, by omega, JS.out⟩
                        case measure => simp [intOf]; omega
              · have hK3b : (o.K == 3) = false := by simp [hK3]
                have JE := Lib.hid J.out
                go_wp2_with fail
                refine (waiting_any JE.out.net).mono ?_
                rintro e vW ⟨BW, dW, rfl, oW, xW⟩
                have hmb := JE.out.net.few
                have SM := Lib.hid (same_ints BW (some ⟨S, 0, none⟩) m dW d (nums ls) vW oW.rd (JE.out.wts.ext xW).rd (by omega))
                have XW := Lib.hid xW
                clear oW xW hmb
                go_wp2_with fail
                refine SM.out.mono ?_
                rintro e vS ⟨rfl, xS⟩
                have JS := Lib.hid ((JE.out.ex XW.out).ex xS)
                clear xS SM XW JE
                go_wp2_with fail
                go_roundw
                case rel => exact ⟨i + 1, _, _, _, _, last, _, _, rfl, rfl, by go_num, by omega, by omega, JS.out⟩
                case measure => simp [intOf]; omega
    · obtain rfl : i = n := by omega
      go_wp2_with fail
      go_returns
      exact ⟨rfl, HI.out.ext⟩
end Go.Proofs.YtjobehbaecgdpaaDoor
