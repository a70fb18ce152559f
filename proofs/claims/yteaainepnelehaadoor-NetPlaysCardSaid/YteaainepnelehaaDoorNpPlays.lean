/-
  The statement NetPlays, walked.
-/
import Derived.Test.YteaainepnelehaaDoorNpTwo
import Derived.Test.YteaainepnelehaaDoorNtScript
import Derived.Test.YteaainepnelehaaDoorNtAlive
import Derived.Test.YteaainepnelehaaDoorMask
import Derived.Test.YteaainepnelehaaDoorOrd
import Derived.BigRegion
import Derived.Lib.MinMax
namespace Go.Proofs.YteaainepnelehaaDoor
set_option maxRecDepth 100000
open Go.RowKit
set_option linter.unusedVariables false
theorem add_lit (a : Addr) {k : Nat} (hk : k ≠ 0) : a.add k = ⟨a.block, a.off + k, none⟩ := by unfold Addr.add; rw [if_neg hk]
set_option maxHeartbeats 12800000 in
theorem nplays_any (A0 : Option Addr) (n c0 : Nat) (os : List O6) (w : World) (hr : Rd w 6 A0 n (o6rows os).flatten) (hol : os.length = n) (hok : ∀ o ∈ os, o.ok w) (hn : n * 64 ≤ 140737488351232) {E : Nat → Addr} (hE : Errs w E) :
    Calls Tryd.prog 3 #[.slice A0 n c0] w fun e w' => e = .returned (.bool true) ∧ Ext w w' := by
  have HE := Lib.hid hE
  have HO := Lib.hid (And.intro hol (And.intro hr hok))
  have AL := Lib.hid (nalive_any w (hE.sen _ (by decide : 0 ∈ gsN)))
  clear hr hol hok hE
  go_enter Tryd.func3, Tryd.ntmps3
  go_wp2_with fail
  refine AL.out.mono ?_
  rintro e0 w1 ⟨rfl, x1⟩
  have N1 := Lib.hid (nnew_any w1)
  have X1 := Lib.hid x1
  clear AL x1
  go_wp2_with fail
  refine N1.out.mono ?_
  rintro e0 w2 ⟨rfl, n2, x2⟩
  have N2 := Lib.hid (nnew_any w2)
  have H2 := Lib.hid (And.intro n2 (And.intro (X1.out.trans x2) n2.lt))
  have HG0 := Lib.hid X1.out.size
  clear N1 n2 x2
  generalize w1.heap.size = g0 at *
  go_wp2_with fail
  refine N2.out.mono ?_
  rintro e0 w3 ⟨rfl, n3, x3⟩
  have H3 := Lib.hid (And.intro (H2.out.1.ex x3) (And.intro n3 (And.intro (H2.out.2.1.trans x3) n3.lt)))
  have HG1 := Lib.hid H2.out.2.2
  clear N2 n3 x3
  generalize w2.heap.size = g1 at *
  have k0 := heap_alloc_new w3 (.cells #[.pointer (some ⟨g0, 0, none⟩), .pointer (some ⟨g1, 0, none⟩)] 26)
  have e1 : (w3.alloc (.cells #[.pointer (some ⟨g0, 0, none⟩), .pointer (some ⟨g1, 0, none⟩)] 26)).heap.size = w3.heap.size + 1 := World.size_alloc _ _
  have k1 := heap_alloc_new (w3.alloc (.cells #[.pointer (some ⟨g0, 0, none⟩), .pointer (some ⟨g1, 0, none⟩)] 26)) (.cells #[.slice none 0 0, .int .i64 0] 30)
  have e2 : ((w3.alloc (.cells #[.pointer (some ⟨g0, 0, none⟩), .pointer (some ⟨g1, 0, none⟩)] 26)).alloc (.cells #[.slice none 0 0, .int .i64 0] 30)).heap.size = w3.heap.size + 1 + 1 := by rw [World.size_alloc, e1]
  have k2 := heap_alloc_new ((w3.alloc (.cells #[.pointer (some ⟨g0, 0, none⟩), .pointer (some ⟨g1, 0, none⟩)] 26)).alloc (.cells #[.slice none 0 0, .int .i64 0] 30)) (.cells #[.slice none 0 0, .int .i64 0] 30)
  have e3 : (((w3.alloc (.cells #[.pointer (some ⟨g0, 0, none⟩), .pointer (some ⟨g1, 0, none⟩)] 26)).alloc (.cells #[.slice none 0 0, .int .i64 0] 30)).alloc (.cells #[.slice none 0 0, .int .i64 0] 30)).heap.size = w3.heap.size + 1 + 1 + 1 := by rw [World.size_alloc, e2]
  have k3 := heap_alloc_new (((w3.alloc (.cells #[.pointer (some ⟨g0, 0, none⟩), .pointer (some ⟨g1, 0, none⟩)] 26)).alloc (.cells #[.slice none 0 0, .int .i64 0] 30)).alloc (.cells #[.slice none 0 0, .int .i64 0] 30)) (.cells #[.pointer (some ⟨w3.heap.size + 1, 0, none⟩), .pointer (some ⟨w3.heap.size + 1 + 1, 0, none⟩)] 31)
  rw [e1] at k1
  rw [e2] at k2
  rw [e3] at k3
  have y0 := (Ext.refl w3).alloc (.cells #[.pointer (some ⟨g0, 0, none⟩), .pointer (some ⟨g1, 0, none⟩)] 26)
  have y1 := (Ext.refl (w3.alloc (.cells #[.pointer (some ⟨g0, 0, none⟩), .pointer (some ⟨g1, 0, none⟩)] 26))).alloc (.cells #[.slice none 0 0, .int .i64 0] 30)
  have y2 := (Ext.refl ((w3.alloc (.cells #[.pointer (some ⟨g0, 0, none⟩), .pointer (some ⟨g1, 0, none⟩)] 26)).alloc (.cells #[.slice none 0 0, .int .i64 0] 30))).alloc (.cells #[.slice none 0 0, .int .i64 0] 30)
  have y3 := (Ext.refl (((w3.alloc (.cells #[.pointer (some ⟨g0, 0, none⟩), .pointer (some ⟨g1, 0, none⟩)] 26)).alloc (.cells #[.slice none 0 0, .int .i64 0] 30)).alloc (.cells #[.slice none 0 0, .int .i64 0] 30))).alloc (.cells #[.pointer (some ⟨w3.heap.size + 1, 0, none⟩), .pointer (some ⟨w3.heap.size + 1 + 1, 0, none⟩)] 31)
  have yy := y0.trans (y1.trans (y2.trans y3))
  have HPN := Lib.hid (PNB.new (H3.out.2.2.1.trans yy) (H3.out.1.ex yy) (H3.out.2.1.ex yy) (((y2.trans y3).block _ (block_lt k1)).trans k1) ((y3.block _ (block_lt k2)).trans k2) (((y1.trans (y2.trans y3)).block _ (block_lt k0)).trans k0) k3 ⟨HG0.out, HG1.out, H3.out.2.2.2, by omega, by omega, by omega⟩)
  have c0 := block_cell (((y1.trans (y2.trans y3)).block _ (block_lt k0)).trans k0) 0
  have c1 := block_cell (((y1.trans (y2.trans y3)).block _ (block_lt k0)).trans k0) 1
  clear k0 k1 k2 k3 e1 e2 e3 y0 y1 y2 y3 yy
  go_upto_region 5 with (fail)
  generalize (((w3.alloc (.cells #[.pointer (some ⟨g0, 0, none⟩), .pointer (some ⟨g1, 0, none⟩)] 26)).alloc (.cells #[.slice none 0 0, .int .i64 0] 30)).alloc (.cells #[.slice none 0 0, .int .i64 0] 30)).alloc (.cells #[.pointer (some ⟨w3.heap.size + 1, 0, none⟩), .pointer (some ⟨w3.heap.size + 1 + 1, 0, none⟩)] 31) = V0 at *
  generalize w3.heap.size + 1 + 1 + 1 = mb at *
  generalize w3.heap.size = nb at *
  obtain ⟨gg, qq, X, HP⟩ : ∃ gg qq X, PNB w V0 nb mb gg qq X 0 := by
    obtain ⟨gg, qq, h⟩ := HPN.out
    exact ⟨gg, qq, _, h⟩
  have HPB := Lib.hid HP
  clear HP HPN H2 H3 HG0 HG1
  go_wp2_with fail
  clear c0 c1
  go_loopw [5, 32] (fun v5 v32 wr => ∃ i mm : Nat, v32 = .int .i64 (i : Int) ∧ v5 = .int .i64 (mm : Int) ∧ mm ≤ i ∧ i ≤ n ∧ Hid (PNB w wr nb mb gg qq X (5000 * i))) (fun _ v32 _ => n - (intOf v32).toNat)
  case atStart => exact ⟨0, 0, rfl, rfl, by omega, by omega, HPB.out⟩
  case round =>
    obtain ⟨i, mm, rfl, rfl, hmi, hi, HI⟩ := hrel
    obtain ⟨U2, hU2⟩ : ∃ V : World, V = wr := ⟨_, rfl⟩
    subst hU2
    by_cases hlt : i < n
    · obtain ⟨o, ho⟩ : ∃ o, os[i]? = some o := ⟨os[i]'(by rw [HO.out.1]; exact hlt), List.getElem?_eq_getElem _⟩
      obtain ⟨k, hk2, hkQ⟩ : ∃ k : Nat, k < 2 ∧ o.Q % 2 = (k : Int) := ⟨(o.Q % 2).toNat, by omega, by omega⟩
      have hand : Go.bits .and .i64 o.Q 1 = (k : Int) := (mask_core o.Q 1 2 (by decide) (by decide)).trans hkQ
      obtain ⟨i6, hi6⟩ : ∃ i6, i * 6 = i6 := ⟨_, rfl⟩
      obtain ⟨ad, rfl, _, _⟩ := HO.out.2.1.2 (show 0 < n by omega)
      have hrr := HO.out.2.1.ext HI.out.wext
      have k0 := hrr.rowAt (o6_even os) (o6_at ho) hi6 (i := 0) rfl
      have k1 := hrr.rowAt (o6_even os) (o6_at ho) hi6 (i := 1) rfl
      have k2 := hrr.rowAt (o6_even os) (o6_at ho) hi6 (i := 2) rfl
      have k3 := hrr.rowAt (o6_even os) (o6_at ho) hi6 (i := 3) rfl
      have k4 := hrr.rowAt (o6_even os) (o6_at ho) hi6 (i := 4) rfl
      have k5 := hrr.rowAt (o6_even os) (o6_at ho) hi6 (i := 5) rfl
      rw [Nat.add_zero] at k0
      rw [← add_add', add_lit _ (by omega)] at k1 k2 k3 k4 k5
      have z0 : (0 : Int) ≤ i := by omega
      have z1 : (i : Int) < n := by omega
      have y0 : (0 : Int) ≤ k := by omega
      have y1 : (k : Int) < 2 := by omega
      have hok := HO.out.2.2 o (List.mem_of_getElem? ho)
      have HOK := Lib.hid hok
      have HV := Lib.hid (And.intro (HI.out.add (o := (.cells #[.int .i64 o.K, .int .i64 o.Q, .int .i64 o.F, .int .i64 o.T, .int .i64 o.N, .slice o.A o.n o.c] 34))) (heap_alloc_new U2 (.cells #[.int .i64 o.K, .int .i64 o.Q, .int .i64 o.F, .int .i64 o.T, .int .i64 o.N, .slice o.A o.n o.c] 34)))
      clear hrr ho hkQ hok
      go_upto_region 11 with (fail)
      generalize U2.alloc (.cells #[.int .i64 o.K, .int .i64 o.Q, .int .i64 o.F, .int .i64 o.T, .int .i64 o.N, .slice o.A o.n o.c] 34) = V at *
      generalize U2.heap.size = ob at *
      have J := Lib.hid HV.out.1
      have HOB := Lib.hid HV.out.2
      have b0 : V.cell? ⟨ob, 0, none⟩ = some (.int .i64 o.K) := block_cell HV.out.2 0
      have b1 : V.cell? ⟨ob, 1, none⟩ = some (.int .i64 o.Q) := block_cell HV.out.2 1
      clear HV k0 k1 k2 k3 k4 k5 hi6
      by_cases hK : o.K = 7
      · have hK1 : (o.K == 7) = true := by simp [hK]
        clear hK
        obtain ⟨L, hL, hL5⟩ : ∃ L, min (max o.N 0) 5000 = L ∧ L ≤ 5000 := ⟨_, rfl, by omega⟩
        have wm : IntKind.i64.wrap ((mm : Int) + 1) = (mm : Int) + 1 := by rw [IntKind.wrap_i64]; omega
        have hk0 : k < 2 := hk2
        go_wp2_with fail
        clear b0 b1 wm hK1
        go_loopw [9] (fun v9 wr => ∃ z : Nat, v9 = .int .i64 (z : Int) ∧ z ≤ 5000 ∧ Hid (PNB w wr nb mb gg qq (fun b => X b ∨ b = ob) (5000 * i + z) ∧ wr.heap[ob]? = some (.cells #[.int .i64 o.K, .int .i64 o.Q, .int .i64 o.F, .int .i64 o.T, .int .i64 o.N, .slice o.A o.n o.c] 34))) (fun v9 _ => 5000 - (intOf v9).toNat)
        case atStart => exact ⟨0, rfl, by omega, J.out, HOB.out⟩
        case round =>
          obtain ⟨z, rfl, hz, HZ⟩ := hrel
          obtain ⟨U3, hU3⟩ : ∃ V : World, V = wr := ⟨_, rfl⟩
          subst hU3
          have b4 : U3.cell? ⟨ob, 4, none⟩ = some (.int .i64 o.N) := block_cell HZ.out.2 4
          have HEND := Lib.hid (HZ.out.1.back HI.out |>.mono (show 5000 * i + z ≤ 5000 * (i + 1) from by omega))
          by_cases hzL : (z : Int) < L
          · by_cases hm3 : (mm : Int) + 1 < 3
            · have hand3 : Go.bits .and .i64 (z : Int) 3 = (z : Int) % 4 := mask_core (z : Int) 2 4 (by decide) (by decide)
              obtain ⟨T3, hT3⟩ : ∃ T3 : Int, (z : Int) % 4 = T3 := ⟨_, rfl⟩
              rw [hT3] at hand3
              obtain ⟨b, hb, hbN⟩ : ∃ b : Nat, b < 256 ∧ (z : Int) % 256 = (b : Int) := ⟨((z : Int) % 256).toNat, by omega, by omega⟩
              have hcv : IntKind.u8.wrap (z : Int) = (b : Int) := by rw [IntKind.wrap_u8]; omega
              clear hT3 hbN
              have hz5 : z < 5000 := by omega
              go_upto_region 17 with (fail)
              clear b4
              have HS1 : U3.drew.cell? ⟨nb, k, none⟩ = some (.pointer (some ⟨gg k, 0, none⟩)) ∧ U3.drew.cell? ⟨mb, k, none⟩ = some (.pointer (some ⟨qq k, 0, none⟩)) := ⟨(HZ.out.1.ext (Ext.refl U3).drew).gcell hk0, (HZ.out.1.ext (Ext.refl U3).drew).mcell hk0⟩
              refine d_region (fun W : World => W.cell? ⟨nb, k, none⟩ = some (.pointer (some ⟨gg k, 0, none⟩)) ∧ W.cell? ⟨mb, k, none⟩ = some (.pointer (some ⟨qq k, 0, none⟩))) [] (by kernel_rfl) ?_
              refine d_take (i := 0) (v := ?_) [] (some 56) rfl (by rfl) (by kernel_rfl) (by kernel_rfl) (by kernel_rfl) (by kernel_rfl) (by kernel_rfl) (by kernel_rfl) (fun _ _ _ h => h) (.inl ⟨by rfl, ?_⟩) HS1 ?_
              rotate_left 1
              · (intro W hW; (try dsimp only at hW); go_simp; try with_reducible rfl)
              try simp only [Act.put, List.setIfInBounds_toArray, List.set_cons_zero, List.set_cons_succ]
              refine d_take (i := 1) (v := ?_) [] (some 57) rfl (by rfl) (by kernel_rfl) (by kernel_rfl) (by kernel_rfl) (by kernel_rfl) (by kernel_rfl) (by kernel_rfl) (fun _ _ _ h => h) (.inl ⟨by rfl, ?_⟩) HS1 ?_
              rotate_left 1
              · (intro W hW; (try dsimp only at hW); go_simp; try with_reducible rfl)
              try simp only [Act.put, List.setIfInBounds_toArray, List.set_cons_zero, List.set_cons_succ]
              refine d_take (i := 2) (v := ?_) [] (some 58) rfl (by rfl) (by kernel_rfl) (by kernel_rfl) (by kernel_rfl) (by kernel_rfl) (by kernel_rfl) (by kernel_rfl) (fun _ _ _ h => h) (.inl ⟨by rfl, ?_⟩) HS1 ?_
              rotate_left 1
              · (intro W hW; (try dsimp only at hW); go_simp; try with_reducible rfl)
              try simp only [Act.put, List.setIfInBounds_toArray, List.set_cons_zero, List.set_cons_succ]
              refine d_take (i := 3) (v := ?_) [] (some 59) rfl (by rfl) (by kernel_rfl) (by kernel_rfl) (by kernel_rfl) (by kernel_rfl) (by kernel_rfl) (by kernel_rfl) (fun _ _ _ h => h) (.inl ⟨by rfl, ?_⟩) HS1 ?_
              rotate_left 1
              · (intro W hW; (try dsimp only at hW); go_simp; try with_reducible rfl)
              try simp only [Act.put, List.setIfInBounds_toArray, List.set_cons_zero, List.set_cons_succ]
              refine d_take (i := 4) (v := ?_) [] (some 60) rfl (by rfl) (by kernel_rfl) (by kernel_rfl) (by kernel_rfl) (by kernel_rfl) (by kernel_rfl) (by kernel_rfl) (fun _ _ _ h => h) (.inl ⟨by rfl, ?_⟩) HS1 ?_
              rotate_left 1
              · (intro W hW; (try dsimp only at hW); go_simp; try with_reducible rfl)
              try simp only [Act.put, List.setIfInBounds_toArray, List.set_cons_zero, List.set_cons_succ]
              refine d_take (i := 5) (v := ?_) [] (some 61) rfl (by rfl) (by kernel_rfl) (by kernel_rfl) (by kernel_rfl) (by kernel_rfl) (by kernel_rfl) (by kernel_rfl) (fun _ _ _ h => h) (.inl ⟨by rfl, ?_⟩) HS1 ?_
              rotate_left 1
              · (intro W hW; (try dsimp only at hW); go_simp; try with_reducible rfl)
              try simp only [Act.put, List.setIfInBounds_toArray, List.set_cons_zero, List.set_cons_succ]
              refine d_take (i := 6) (v := ?_) [] (some 62) rfl (by rfl) (by kernel_rfl) (by kernel_rfl) (by kernel_rfl) (by kernel_rfl) (by kernel_rfl) (by kernel_rfl) (fun _ _ _ h => h) (.inl ⟨by rfl, ?_⟩) HS1 ?_
              rotate_left 1
              · (intro W hW; (try dsimp only at hW); go_simp; try with_reducible rfl)
              try simp only [Act.put, List.setIfInBounds_toArray, List.set_cons_zero, List.set_cons_succ]
              refine d_take (i := 7) (v := ?_) [] (some 63) rfl (by rfl) (by kernel_rfl) (by kernel_rfl) (by kernel_rfl) (by kernel_rfl) (by kernel_rfl) (by kernel_rfl) (fun _ _ _ h => h) (.inl ⟨by rfl, ?_⟩) HS1 ?_
              rotate_left 1
              · (intro W hW; (try dsimp only at hW); go_simp; try with_reducible rfl)
              try simp only [Act.put, List.setIfInBounds_toArray, List.set_cons_zero, List.set_cons_succ]
              refine d_take (i := 8) (v := ?_) [] (some 64) rfl (by rfl) (by kernel_rfl) (by kernel_rfl) (by kernel_rfl) (by kernel_rfl) (by kernel_rfl) (by kernel_rfl) (fun _ _ _ h => h) (.inl ⟨by rfl, ?_⟩) HS1 ?_
              rotate_left 1
              · (intro W hW; (try dsimp only at hW); go_simp; try with_reducible rfl)
              try simp only [Act.put, List.setIfInBounds_toArray, List.set_cons_zero, List.set_cons_succ]
              refine d_take (i := 9) (v := ?_) [] (some 65) rfl (by rfl) (by kernel_rfl) (by kernel_rfl) (by kernel_rfl) (by kernel_rfl) (by kernel_rfl) (by kernel_rfl) (fun _ _ _ h => h) (.inl ⟨by rfl, ?_⟩) HS1 ?_
              rotate_left 1
              · (intro W hW; (try dsimp only at hW); go_simp; try with_reducible rfl)
              try simp only [Act.put, List.setIfInBounds_toArray, List.set_cons_zero, List.set_cons_succ]
              refine d_one (i := 10) (by kernel_rfl) rfl rfl (fun K hK => ?_)
              simp only [List.getElem_toArray, List.getElem_cons_succ, List.getElem_cons_zero]
              go_simp
              have XA : Ext U3 (U3.alloc (.cells #[.int .u8 (b : Int)] 5)).drew := ((Ext.refl U3).alloc _).drew
              have RN : Rd (U3.alloc (.cells #[.int .u8 (b : Int)] 5)).drew 1 (some ⟨U3.heap.size, 0, none⟩) 1 (u8s [b]) := Rd.new U3 #[.int .u8 (b : Int)] 5 (0, 0)
              have J4 := HZ.out.1.ext XA
              have HS2 : (U3.alloc (.cells #[.int .u8 (b : Int)] 5)).drew.cell? ⟨nb, k, none⟩ = some (.pointer (some ⟨gg k, 0, none⟩)) ∧ (U3.alloc (.cells #[.int .u8 (b : Int)] 5)).drew.cell? ⟨mb, k, none⟩ = some (.pointer (some ⟨qq k, 0, none⟩)) := ⟨J4.gcell hk0, J4.mcell hk0⟩
              obtain ⟨U, ls, last, TN⟩ := HZ.out.1.turn hk0
              have hle := TN.le
              have PL := Lib.hid (play_any E (TN.pr.ext XA) (by omega) J4.wext TN.lo HE.out 0 0 T3 0 (some ⟨U3.heap.size, 0, none⟩) 1 1 [b] RN (fun y hy => by simp at hy; omega) (by omega) (fun _ a ha e => by
                injection ha with ha
                subst ha
                have h1 := TN.pr.lt _ e
                have h2 : U3.heap.size < U3.heap.size := h1
                omega) 1 (Post := fun e w' => e = .returned (.bool true) ∧ PNB w w' nb mb gg qq (fun b => X b ∨ b = ob) (5000 * i + z + 1) ∧ w'.heap[ob]? = some (.cells #[.int .i64 o.K, .int .i64 o.Q, .int .i64 o.F, .int .i64 o.T, .int .i64 o.N, .slice o.A o.n o.c] 34)) (Lib.hid fun w' h => by
                obtain ⟨h1, h2⟩ := TN.next w' (h.pre XA)
                exact ⟨rfl, h1, (h2 ob (.inr rfl)).trans HZ.out.2⟩))
              refine hK.out _ _ (fun _ => HS2) ?_
              clear hK K TN hle J4
              generalize (U3.alloc (.cells #[.int .u8 (b : Int)] 5)).drew = V4 at *
              generalize U3.heap.size = sb at *
              try simp only [Act.put, List.setIfInBounds_toArray, List.set_cons_zero, List.set_cons_succ]
              refine d_take (i := 11) (v := ?_) [] (some 67) rfl (by rfl) (by kernel_rfl) (by kernel_rfl) (by kernel_rfl) (by kernel_rfl) (by kernel_rfl) (by kernel_rfl) (fun _ _ _ h => h) (.inl ⟨by rfl, ?_⟩) HS2 ?_
              rotate_left 1
              · (intro W hW; (try dsimp only at hW); go_simp; try with_reducible rfl)
              try simp only [Act.put, List.setIfInBounds_toArray, List.set_cons_zero, List.set_cons_succ]
              refine d_call (i := 12) (by kernel_rfl) rfl (by rfl) (fun K hK => ?_)
              simp only [List.getElem_toArray, List.getElem_cons_succ, List.getElem_cons_zero]
              go_simp
              refine PL.out.mono ?_
              rintro e0 w5 ⟨rfl, J5, ob5⟩
              have HS3 : w5.cell? ⟨nb, k, none⟩ = some (.pointer (some ⟨gg k, 0, none⟩)) ∧ w5.cell? ⟨mb, k, none⟩ = some (.pointer (some ⟨qq k, 0, none⟩)) := ⟨J5.gcell hk0, J5.mcell hk0⟩
              have H5 := Lib.hid (And.intro J5 ob5)
              clear PL J5 ob5
              go_simp
              refine hK.out _ _ (fun _ => HS3) ?_
              clear hK K
              try simp only [Act.put, List.setIfInBounds_toArray, List.set_cons_zero, List.set_cons_succ]
              refine d_take (i := 13) (v := ?_) [] (some 69) rfl (by rfl) (by kernel_rfl) (by kernel_rfl) (by kernel_rfl) (by kernel_rfl) (by kernel_rfl) (by kernel_rfl) (fun _ _ _ h => h) (.inl ⟨by rfl, ?_⟩) HS3 ?_
              rotate_left 1
              · (intro W hW; (try dsimp only at hW); go_simp; try with_reducible rfl)
              try simp only [Act.put, List.setIfInBounds_toArray, List.set_cons_zero, List.set_cons_succ]
              refine d_done (by kernel_rfl) ?_ _
              clear HS1 HS2 HS3 hand3 hcv
              go_wp2_with fail
              go_roundw
              case rel => exact ⟨z + 1, by go_num, by omega, H5.out⟩
              case measure => simp [intOf]; omega
            · go_wp2_with fail
              go_roundw
              case rel => exact ⟨i + 1, mm + 1, by go_num, by go_num, by omega, by omega, HEND.out⟩
              case measure => simp [intOf]; omega
          · go_wp2_with fail
            go_roundw
            case rel => exact ⟨i + 1, mm + 1, by go_num, by go_num, by omega, by omega, HEND.out⟩
            case measure => simp [intOf]; omega
      · have hK1 : (o.K == 7) = false := by simp [hK]
        go_upto_region 19 with (fail)
        clear b0 b1
        obtain ⟨U, ls, last, TN⟩ := J.out.turn hk2
        have XA := (Ext.refl V).drew
        have hle := TN.le
        have HS1 : V.drew.cell? ⟨nb, k, none⟩ = some (.pointer (some ⟨gg k, 0, none⟩)) ∧ V.drew.cell? ⟨mb, k, none⟩ = some (.pointer (some ⟨qq k, 0, none⟩)) ∧ V.drew.cell? ⟨ob, 0, none⟩ = some (.int .i64 o.K) ∧ V.drew.cell? ⟨ob, 1, none⟩ = some (.int .i64 o.Q) ∧ V.drew.cell? ⟨ob, 2, none⟩ = some (.int .i64 o.F) ∧ V.drew.cell? ⟨ob, 3, none⟩ = some (.int .i64 o.T) ∧ V.drew.cell? ⟨ob, 4, none⟩ = some (.int .i64 o.N) ∧ V.drew.cell? ⟨ob, 5, none⟩ = some (.slice o.A o.n o.c) := ⟨(J.out.ext XA).gcell hk2, (J.out.ext XA).mcell hk2, block_cell (w := V.drew) HOB.out 0, block_cell (w := V.drew) HOB.out 1, block_cell (w := V.drew) HOB.out 2, block_cell (w := V.drew) HOB.out 3, block_cell (w := V.drew) HOB.out 4, block_cell (w := V.drew) HOB.out 5⟩
        have PL := Lib.hid (play_any E (TN.pr.ext XA) (by omega) (J.out.wext.trans XA) TN.lo HE.out o.Q o.F o.T o.N o.A o.n o.c o.l (HOK.out.rd.ext (J.out.wext.trans XA)) HOK.out.byte (by have h1 := HOK.out.le; have h2 := HOK.out.small; omega) (fun h0 a ha e => by
          obtain ⟨ad, e1, hlt, _⟩ := HOK.out.rd.2 h0
          rw [ha] at e1
          injection e1 with e1
          subst e1
          have := TN.lo _ e
          omega) o.K (Post := fun e w' => e = .returned (.bool true) ∧ PNB w w' nb mb gg qq (fun b => X b ∨ b = ob) (5000 * i + 1) ∧ w'.heap[ob]? = some (.cells #[.int .i64 o.K, .int .i64 o.Q, .int .i64 o.F, .int .i64 o.T, .int .i64 o.N, .slice o.A o.n o.c] 34)) (Lib.hid fun w' h => by
          obtain ⟨h1, h2⟩ := TN.next w' (h.pre XA)
          exact ⟨rfl, h1, (h2 ob (.inr rfl)).trans HOB.out⟩))
        clear TN hle XA
        refine d_region (fun W : World => W.cell? ⟨nb, k, none⟩ = some (.pointer (some ⟨gg k, 0, none⟩)) ∧ W.cell? ⟨mb, k, none⟩ = some (.pointer (some ⟨qq k, 0, none⟩)) ∧ W.cell? ⟨ob, 0, none⟩ = some (.int .i64 o.K) ∧ W.cell? ⟨ob, 1, none⟩ = some (.int .i64 o.Q) ∧ W.cell? ⟨ob, 2, none⟩ = some (.int .i64 o.F) ∧ W.cell? ⟨ob, 3, none⟩ = some (.int .i64 o.T) ∧ W.cell? ⟨ob, 4, none⟩ = some (.int .i64 o.N) ∧ W.cell? ⟨ob, 5, none⟩ = some (.slice o.A o.n o.c)) [] (by kernel_rfl) ?_
        refine d_take (i := 0) (v := ?_) [] (some 70) rfl (by rfl) (by kernel_rfl) (by kernel_rfl) (by kernel_rfl) (by kernel_rfl) (by kernel_rfl) (by kernel_rfl) (fun _ _ _ h => h) (.inl ⟨by rfl, ?_⟩) HS1 ?_
        rotate_left 1
        · (intro W hW; (try dsimp only at hW); go_simp; try with_reducible rfl)
        try simp only [Act.put, List.setIfInBounds_toArray, List.set_cons_zero, List.set_cons_succ]
        refine d_take (i := 1) (v := ?_) [] (some 71) rfl (by rfl) (by kernel_rfl) (by kernel_rfl) (by kernel_rfl) (by kernel_rfl) (by kernel_rfl) (by kernel_rfl) (fun _ _ _ h => h) (.inl ⟨by rfl, ?_⟩) HS1 ?_
        rotate_left 1
        · (intro W hW; (try dsimp only at hW); go_simp; try with_reducible rfl)
        try simp only [Act.put, List.setIfInBounds_toArray, List.set_cons_zero, List.set_cons_succ]
        refine d_take (i := 2) (v := ?_) [] (some 72) rfl (by rfl) (by kernel_rfl) (by kernel_rfl) (by kernel_rfl) (by kernel_rfl) (by kernel_rfl) (by kernel_rfl) (fun _ _ _ h => h) (.inl ⟨by rfl, ?_⟩) HS1 ?_
        rotate_left 1
        · (intro W hW; (try dsimp only at hW); go_simp; try with_reducible rfl)
        try simp only [Act.put, List.setIfInBounds_toArray, List.set_cons_zero, List.set_cons_succ]
        refine d_take (i := 3) (v := ?_) [] (some 73) rfl (by rfl) (by kernel_rfl) (by kernel_rfl) (by kernel_rfl) (by kernel_rfl) (by kernel_rfl) (by kernel_rfl) (fun _ _ _ h => h) (.inl ⟨by rfl, ?_⟩) HS1 ?_
        rotate_left 1
        · (intro W hW; (try dsimp only at hW); go_simp; try with_reducible rfl)
        try simp only [Act.put, List.setIfInBounds_toArray, List.set_cons_zero, List.set_cons_succ]
        refine d_take (i := 4) (v := ?_) [] (some 74) rfl (by rfl) (by kernel_rfl) (by kernel_rfl) (by kernel_rfl) (by kernel_rfl) (by kernel_rfl) (by kernel_rfl) (fun _ _ _ h => h) (.inl ⟨by rfl, ?_⟩) HS1 ?_
        rotate_left 1
        · (intro W hW; (try dsimp only at hW); go_simp; try with_reducible rfl)
        try simp only [Act.put, List.setIfInBounds_toArray, List.set_cons_zero, List.set_cons_succ]
        refine d_take (i := 5) (v := ?_) [] (some 75) rfl (by rfl) (by kernel_rfl) (by kernel_rfl) (by kernel_rfl) (by kernel_rfl) (by kernel_rfl) (by kernel_rfl) (fun _ _ _ h => h) (.inl ⟨by rfl, ?_⟩) HS1 ?_
        rotate_left 1
        · (intro W hW; (try dsimp only at hW); go_simp; try with_reducible rfl)
        try simp only [Act.put, List.setIfInBounds_toArray, List.set_cons_zero, List.set_cons_succ]
        refine d_take (i := 6) (v := ?_) [] (some 76) rfl (by rfl) (by kernel_rfl) (by kernel_rfl) (by kernel_rfl) (by kernel_rfl) (by kernel_rfl) (by kernel_rfl) (fun _ _ _ h => h) (.inl ⟨by rfl, ?_⟩) HS1 ?_
        rotate_left 1
        · (intro W hW; (try dsimp only at hW); go_simp; try with_reducible rfl)
        try simp only [Act.put, List.setIfInBounds_toArray, List.set_cons_zero, List.set_cons_succ]
        refine d_call (i := 7) (by kernel_rfl) rfl (by rfl) (fun K hK => ?_)
        simp only [List.getElem_toArray, List.getElem_cons_succ, List.getElem_cons_zero]
        go_simp
        refine PL.out.mono ?_
        rintro e0 w5 ⟨rfl, J5, ob5⟩
        have HS2 : w5.cell? ⟨nb, k, none⟩ = some (.pointer (some ⟨gg k, 0, none⟩)) ∧ w5.cell? ⟨mb, k, none⟩ = some (.pointer (some ⟨qq k, 0, none⟩)) ∧ w5.cell? ⟨ob, 0, none⟩ = some (.int .i64 o.K) ∧ w5.cell? ⟨ob, 1, none⟩ = some (.int .i64 o.Q) ∧ w5.cell? ⟨ob, 2, none⟩ = some (.int .i64 o.F) ∧ w5.cell? ⟨ob, 3, none⟩ = some (.int .i64 o.T) ∧ w5.cell? ⟨ob, 4, none⟩ = some (.int .i64 o.N) ∧ w5.cell? ⟨ob, 5, none⟩ = some (.slice o.A o.n o.c) := ⟨J5.gcell hk2, J5.mcell hk2, block_cell ob5 0, block_cell ob5 1, block_cell ob5 2, block_cell ob5 3, block_cell ob5 4, block_cell ob5 5⟩
        have H5 := Lib.hid (J5.back HI.out |>.mono (show 5000 * i + 1 ≤ 5000 * (i + 1) from by omega))
        clear PL J5 ob5
        go_simp
        refine hK.out _ _ (fun _ => HS2) ?_
        clear hK K
        try simp only [Act.put, List.setIfInBounds_toArray, List.set_cons_zero, List.set_cons_succ]
        refine d_take (i := 8) (v := ?_) [] (some 78) rfl (by rfl) (by kernel_rfl) (by kernel_rfl) (by kernel_rfl) (by kernel_rfl) (by kernel_rfl) (by kernel_rfl) (fun _ _ _ h => h) (.inl ⟨by rfl, ?_⟩) HS2 ?_
        rotate_left 1
        · (intro W hW; (try dsimp only at hW); go_simp; try with_reducible rfl)
        try simp only [Act.put, List.setIfInBounds_toArray, List.set_cons_zero, List.set_cons_succ]
        refine d_done (by kernel_rfl) ?_ _
        clear HS1 HS2 hand
        go_wp2_with fail
        go_roundw
        case rel => exact ⟨i + 1, mm, by go_num, rfl, by omega, by omega, H5.out⟩
        case measure => simp [intOf]; omega
    · obtain rfl : n = i := by omega
      go_wp2_with fail
      go_loopw [80] (fun v80 wr => ∃ k : Nat, v80 = .int .i64 (k : Int) ∧ k ≤ 2 ∧ Hid (PNB w wr nb mb gg qq X (5000 * n + 50 * k))) (fun v80 _ => 2 - (intOf v80).toNat)
      case atStart => exact ⟨0, rfl, by omega, HI.out⟩
      case round =>
        obtain ⟨k, rfl, hk, HX⟩ := hrel
        obtain ⟨U3, hU3⟩ : ∃ V : World, V = wr := ⟨_, rfl⟩
        subst hU3
        by_cases hk2 : k < 2
        · have y0 : (0 : Int) ≤ k := by omega
          have y1 : (k : Int) < 2 := by omega
          have XA := (Ext.refl U3).drew
          have HS1 : U3.drew.cell? ⟨nb, k, none⟩ = some (.pointer (some ⟨gg k, 0, none⟩)) ∧ U3.drew.cell? ⟨mb, k, none⟩ = some (.pointer (some ⟨qq k, 0, none⟩)) := ⟨(HX.out.ext XA).gcell hk2, (HX.out.ext XA).mcell hk2⟩
          obtain ⟨U, ls, last, TN⟩ := HX.out.turn hk2
          have WT := Lib.hid (waits_any (TN.pr.ext XA))
          clear TN
          go_upto_region 25 with (fail)
          refine d_region (fun W : World => W.cell? ⟨nb, k, none⟩ = some (.pointer (some ⟨gg k, 0, none⟩)) ∧ W.cell? ⟨mb, k, none⟩ = some (.pointer (some ⟨qq k, 0, none⟩))) [] (by kernel_rfl) ?_
          refine d_take (i := 0) (v := ?_) [] (some 83) rfl (by rfl) (by kernel_rfl) (by kernel_rfl) (by kernel_rfl) (by kernel_rfl) (by kernel_rfl) (by kernel_rfl) (fun _ _ _ h => h) (.inl ⟨by rfl, ?_⟩) HS1 ?_
          rotate_left 1
          · (intro W hW; (try dsimp only at hW); go_simp; try with_reducible rfl)
          try simp only [Act.put, List.setIfInBounds_toArray, List.set_cons_zero, List.set_cons_succ]
          refine d_take (i := 1) (v := ?_) [] (some 84) rfl (by rfl) (by kernel_rfl) (by kernel_rfl) (by kernel_rfl) (by kernel_rfl) (by kernel_rfl) (by kernel_rfl) (fun _ _ _ h => h) (.inl ⟨by rfl, ?_⟩) HS1 ?_
          rotate_left 1
          · (intro W hW; (try dsimp only at hW); go_simp; try with_reducible rfl)
          try simp only [Act.put, List.setIfInBounds_toArray, List.set_cons_zero, List.set_cons_succ]
          refine d_take (i := 2) (v := ?_) [] (some 85) rfl (by rfl) (by kernel_rfl) (by kernel_rfl) (by kernel_rfl) (by kernel_rfl) (by kernel_rfl) (by kernel_rfl) (fun _ _ _ h => h) (.inl ⟨by rfl, ?_⟩) HS1 ?_
          rotate_left 1
          · (intro W hW; (try dsimp only at hW); go_simp; try with_reducible rfl)
          try simp only [Act.put, List.setIfInBounds_toArray, List.set_cons_zero, List.set_cons_succ]
          refine d_take (i := 3) (v := ?_) [] (some 86) rfl (by rfl) (by kernel_rfl) (by kernel_rfl) (by kernel_rfl) (by kernel_rfl) (by kernel_rfl) (by kernel_rfl) (fun _ _ _ h => h) (.inl ⟨by rfl, ?_⟩) HS1 ?_
          rotate_left 1
          · (intro W hW; (try dsimp only at hW); go_simp; try with_reducible rfl)
          try simp only [Act.put, List.setIfInBounds_toArray, List.set_cons_zero, List.set_cons_succ]
          refine d_take (i := 4) (v := ?_) [] (some 87) rfl (by rfl) (by kernel_rfl) (by kernel_rfl) (by kernel_rfl) (by kernel_rfl) (by kernel_rfl) (by kernel_rfl) (fun _ _ _ h => h) (.inl ⟨by rfl, ?_⟩) HS1 ?_
          rotate_left 1
          · (intro W hW; (try dsimp only at hW); go_simp; try with_reducible rfl)
          try simp only [Act.put, List.setIfInBounds_toArray, List.set_cons_zero, List.set_cons_succ]
          refine d_take (i := 5) (v := ?_) [] (some 88) rfl (by rfl) (by kernel_rfl) (by kernel_rfl) (by kernel_rfl) (by kernel_rfl) (by kernel_rfl) (by kernel_rfl) (fun _ _ _ h => h) (.inl ⟨by rfl, ?_⟩) HS1 ?_
          rotate_left 1
          · (intro W hW; (try dsimp only at hW); go_simp; try with_reducible rfl)
          try simp only [Act.put, List.setIfInBounds_toArray, List.set_cons_zero, List.set_cons_succ]
          refine d_call (i := 6) (by kernel_rfl) rfl (by rfl) (fun K hK => ?_)
          simp only [List.getElem_toArray, List.getElem_cons_succ, List.getElem_cons_zero]
          go_simp
          refine WT.out.mono ?_
          rintro e0 w4 ⟨rfl, x4⟩
          have J4 := HX.out.ext (XA.trans x4)
          have HS2 : w4.cell? ⟨nb, k, none⟩ = some (.pointer (some ⟨gg k, 0, none⟩)) ∧ w4.cell? ⟨mb, k, none⟩ = some (.pointer (some ⟨qq k, 0, none⟩)) := ⟨J4.gcell hk2, J4.mcell hk2⟩
          have H4 := Lib.hid J4
          clear WT x4 J4 XA
          go_simp
          refine hK.out _ _ (fun _ => HS2) ?_
          clear hK K
          try simp only [Act.put, List.setIfInBounds_toArray, List.set_cons_zero, List.set_cons_succ]
          refine d_take (i := 7) (v := ?_) [] (some 90) rfl (by rfl) (by kernel_rfl) (by kernel_rfl) (by kernel_rfl) (by kernel_rfl) (by kernel_rfl) (by kernel_rfl) (fun _ _ _ h => h) (.inl ⟨by rfl, ?_⟩) HS2 ?_
          rotate_left 1
          · (intro W hW; (try dsimp only at hW); go_simp; try with_reducible rfl)
          try simp only [Act.put, List.setIfInBounds_toArray, List.set_cons_zero, List.set_cons_succ]
          refine d_done (by kernel_rfl) ?_ _
          clear HS1 HS2
          go_wp2_with fail
          go_loopw [11] (fun v11 wr => ∃ z : Nat, v11 = .int .i64 (z : Int) ∧ z ≤ 50 ∧ Hid (PNB w wr nb mb gg qq X (5000 * n + 50 * k + z))) (fun v11 _ => 50 - (intOf v11).toNat)
          case atStart => exact ⟨0, rfl, by omega, H4.out⟩
          case round =>
            obtain ⟨z, rfl, hz, HZ⟩ := hrel
            obtain ⟨U5, hU5⟩ : ∃ V : World, V = wr := ⟨_, rfl⟩
            subst hU5
            obtain ⟨U, ls, last, TN⟩ := HZ.out.turn hk2
            obtain ⟨A, m, c, c0, hm, hlen, hx⟩ := TN.pr.mlist
            have cg := HZ.out.gcell hk2
            have cm := HZ.out.mcell hk2
            have HEND := Lib.hid (HZ.out.mono (show 5000 * n + 50 * k + z ≤ 5000 * n + 50 * (k + 1) from by omega))
            have HTN := Lib.hid TN
            clear TN
            by_cases hz5 : z < 50
            · have hz6 : (z : Int) < 50 := by omega
              by_cases hm0 : 0 < m
              · obtain ⟨S, x, rfl, hx0, cS⟩ := hx hm0
                have hm1 : (0 : Int) < m := by omega
                have XA := (Ext.refl U5).drew
                have HS1 : U5.drew.cell? ⟨nb, k, none⟩ = some (.pointer (some ⟨gg k, 0, none⟩)) ∧ U5.drew.cell? ⟨mb, k, none⟩ = some (.pointer (some ⟨qq k, 0, none⟩)) ∧ U5.drew.cell? ⟨qq k, 0, none⟩ = some (.slice (some ⟨S, 0, none⟩) m c) ∧ U5.drew.cell? ⟨S, 0, none⟩ = some (.int .i64 (x.N : Int)) := ⟨cg, cm, c0, cS⟩
                have hle := HTN.out.le
                have PL := Lib.hid (play_any E (HTN.out.pr.ext XA) (by omega) (HZ.out.wext.trans XA) HTN.out.lo HE.out 0 0 0 (x.N : Int) none 0 0 [] Rd.nil_ (fun y hy => by cases hy) (by omega) (fun h0 => absurd h0 (by omega)) 2 (Post := fun e w' => e = .returned (.bool true) ∧ PNB w w' nb mb gg qq X (5000 * n + 50 * k + z + 1)) (Lib.hid fun w' h => by
                  obtain ⟨h1, h2⟩ := HTN.out.next w' (h.pre XA)
                  exact ⟨rfl, h1⟩))
                clear hle
                go_upto_region 30 with (fail)
                refine d_region (fun W : World => W.cell? ⟨nb, k, none⟩ = some (.pointer (some ⟨gg k, 0, none⟩)) ∧ W.cell? ⟨mb, k, none⟩ = some (.pointer (some ⟨qq k, 0, none⟩)) ∧ W.cell? ⟨qq k, 0, none⟩ = some (.slice (some ⟨S, 0, none⟩) m c) ∧ W.cell? ⟨S, 0, none⟩ = some (.int .i64 (x.N : Int))) [16, 17] (by kernel_rfl) ?_
                refine d_take (i := 0) (v := ?_) [1, 2, 16, 17] (some 105) rfl (by rfl) (by kernel_rfl) (by kernel_rfl) (by kernel_rfl) (by kernel_rfl) (by kernel_rfl) (by kernel_rfl) (fun _ _ _ h => h) (.inl ⟨by rfl, ?_⟩) HS1 ?_
                rotate_left 1
                · (intro W hW; (try dsimp only at hW); go_simp; try with_reducible rfl)
                try simp only [Act.put, List.setIfInBounds_toArray, List.set_cons_zero, List.set_cons_succ]
                refine d_take (i := 1) (v := ?_) [2, 16, 17] (some 106) rfl (by rfl) (by kernel_rfl) (by kernel_rfl) (by kernel_rfl) (by kernel_rfl) (by kernel_rfl) (by kernel_rfl) (fun _ _ _ h => h) (.inl ⟨by rfl, ?_⟩) HS1 ?_
                rotate_left 1
                · (intro W hW; (try dsimp only at hW); go_simp; try with_reducible rfl)
                try simp only [Act.put, List.setIfInBounds_toArray, List.set_cons_zero, List.set_cons_succ]
                refine d_take (i := 2) (v := ?_) [16, 17] (some 107) rfl (by rfl) (by kernel_rfl) (by kernel_rfl) (by kernel_rfl) (by kernel_rfl) (by kernel_rfl) (by kernel_rfl) (fun _ _ _ h => h) (.inl ⟨by rfl, ?_⟩) HS1 ?_
                rotate_left 1
                · (intro W hW; (try dsimp only at hW); go_simp; try with_reducible rfl)
                try simp only [Act.put, List.setIfInBounds_toArray, List.set_cons_zero, List.set_cons_succ]
                refine d_take (i := 3) (v := ?_) [4, 5, 16, 17] (some 108) rfl (by rfl) (by kernel_rfl) (by kernel_rfl) (by kernel_rfl) (by kernel_rfl) (by kernel_rfl) (by kernel_rfl) (fun _ _ _ h => h) (.inl ⟨by rfl, ?_⟩) HS1 ?_
                rotate_left 1
                · (intro W hW; (try dsimp only at hW); go_simp; try with_reducible rfl)
                try simp only [Act.put, List.setIfInBounds_toArray, List.set_cons_zero, List.set_cons_succ]
                refine d_take (i := 4) (v := ?_) [5, 16, 17] (some 109) rfl (by rfl) (by kernel_rfl) (by kernel_rfl) (by kernel_rfl) (by kernel_rfl) (by kernel_rfl) (by kernel_rfl) (fun _ _ _ h => h) (.inl ⟨by rfl, ?_⟩) HS1 ?_
                rotate_left 1
                · (intro W hW; (try dsimp only at hW); go_simp; try with_reducible rfl)
                try simp only [Act.put, List.setIfInBounds_toArray, List.set_cons_zero, List.set_cons_succ]
                refine d_take (i := 5) (v := ?_) [16, 17] (some 110) rfl (by rfl) (by kernel_rfl) (by kernel_rfl) (by kernel_rfl) (by kernel_rfl) (by kernel_rfl) (by kernel_rfl) (fun _ _ _ h => h) (.inl ⟨by rfl, ?_⟩) HS1 ?_
                rotate_left 1
                · (intro W hW; (try dsimp only at hW); go_simp; try with_reducible rfl)
                try simp only [Act.put, List.setIfInBounds_toArray, List.set_cons_zero, List.set_cons_succ]
                refine d_take (i := 6) (v := ?_) [7, 8, 9, 10, 11, 12, 13, 14, 15, 16, 17] (some 111) rfl (by rfl) (by kernel_rfl) (by kernel_rfl) (by kernel_rfl) (by kernel_rfl) (by kernel_rfl) (by kernel_rfl) (fun _ _ _ h => h) (.inl ⟨by rfl, ?_⟩) HS1 ?_
                rotate_left 1
                · (intro W hW; (try dsimp only at hW); go_simp; try with_reducible rfl)
                try simp only [Act.put, List.setIfInBounds_toArray, List.set_cons_zero, List.set_cons_succ]
                refine d_take (i := 7) (v := ?_) [8, 9, 10, 11, 12, 13, 14, 15, 16, 17] (some 112) rfl (by rfl) (by kernel_rfl) (by kernel_rfl) (by kernel_rfl) (by kernel_rfl) (by kernel_rfl) (by kernel_rfl) (fun _ _ _ h => h) (.inl ⟨by rfl, ?_⟩) HS1 ?_
                rotate_left 1
                · (intro W hW; (try dsimp only at hW); go_simp; try with_reducible rfl)
                try simp only [Act.put, List.setIfInBounds_toArray, List.set_cons_zero, List.set_cons_succ]
                refine d_take (i := 8) (v := ?_) [9, 10, 11, 12, 13, 14, 15, 16, 17] (some 113) rfl (by rfl) (by kernel_rfl) (by kernel_rfl) (by kernel_rfl) (by kernel_rfl) (by kernel_rfl) (by kernel_rfl) (fun _ _ _ h => h) (.inl ⟨by rfl, ?_⟩) HS1 ?_
                rotate_left 1
                · (intro W hW; (try dsimp only at hW); go_simp; try with_reducible rfl)
                try simp only [Act.put, List.setIfInBounds_toArray, List.set_cons_zero, List.set_cons_succ]
                refine d_take (i := 9) (v := ?_) [10, 11, 12, 13, 14, 15, 16, 17] (some 114) rfl (by rfl) (by kernel_rfl) (by kernel_rfl) (by kernel_rfl) (by kernel_rfl) (by kernel_rfl) (by kernel_rfl) (fun _ _ _ h => h) (.inl ⟨by rfl, ?_⟩) HS1 ?_
                rotate_left 1
                · (intro W hW; (try dsimp only at hW); go_simp; try with_reducible rfl)
                try simp only [Act.put, List.setIfInBounds_toArray, List.set_cons_zero, List.set_cons_succ]
                refine d_take (i := 10) (v := ?_) [11, 12, 13, 14, 15, 16, 17] (some 115) rfl (by rfl) (by kernel_rfl) (by kernel_rfl) (by kernel_rfl) (by kernel_rfl) (by kernel_rfl) (by kernel_rfl) (fun _ _ _ h => h) (.inl ⟨by rfl, ?_⟩) HS1 ?_
                rotate_left 1
                · (intro W hW; (try dsimp only at hW); go_simp; try with_reducible rfl)
                try simp only [Act.put, List.setIfInBounds_toArray, List.set_cons_zero, List.set_cons_succ]
                refine d_take (i := 11) (v := ?_) [12, 13, 14, 15, 16, 17] (some 116) rfl (by rfl) (by kernel_rfl) (by kernel_rfl) (by kernel_rfl) (by kernel_rfl) (by kernel_rfl) (by kernel_rfl) (fun _ _ _ h => h) (.inl ⟨by rfl, ?_⟩) HS1 ?_
                rotate_left 1
                · (intro W hW; (try dsimp only at hW); go_simp; try with_reducible rfl)
                try simp only [Act.put, List.setIfInBounds_toArray, List.set_cons_zero, List.set_cons_succ]
                refine d_take (i := 12) (v := ?_) [13, 14, 15, 16, 17] (some 117) rfl (by rfl) (by kernel_rfl) (by kernel_rfl) (by kernel_rfl) (by kernel_rfl) (by kernel_rfl) (by kernel_rfl) (fun _ _ _ h => h) (.inl ⟨by rfl, ?_⟩) HS1 ?_
                rotate_left 1
                · (intro W hW; (try dsimp only at hW); go_simp; try with_reducible rfl)
                try simp only [Act.put, List.setIfInBounds_toArray, List.set_cons_zero, List.set_cons_succ]
                refine d_take (i := 13) (v := ?_) [14, 15, 16, 17] (some 118) rfl (by rfl) (by kernel_rfl) (by kernel_rfl) (by kernel_rfl) (by kernel_rfl) (by kernel_rfl) (by kernel_rfl) (fun _ _ _ h => h) (.inl ⟨by rfl, ?_⟩) HS1 ?_
                rotate_left 1
                · (intro W hW; (try dsimp only at hW); go_simp; try with_reducible rfl)
                try simp only [Act.put, List.setIfInBounds_toArray, List.set_cons_zero, List.set_cons_succ]
                refine d_take (i := 14) (v := ?_) [15, 16, 17] (some 119) rfl (by rfl) (by kernel_rfl) (by kernel_rfl) (by kernel_rfl) (by kernel_rfl) (by kernel_rfl) (by kernel_rfl) (fun _ _ _ h => h) (.inl ⟨by rfl, ?_⟩) HS1 ?_
                rotate_left 1
                · (intro W hW; (try dsimp only at hW); go_simp; try with_reducible rfl)
                try simp only [Act.put, List.setIfInBounds_toArray, List.set_cons_zero, List.set_cons_succ]
                refine d_take (i := 15) (v := ?_) [16, 17] (some 120) rfl (by rfl) (by kernel_rfl) (by kernel_rfl) (by kernel_rfl) (by kernel_rfl) (by kernel_rfl) (by kernel_rfl) (fun _ _ _ h => h) (.inl ⟨by rfl, ?_⟩) HS1 ?_
                rotate_left 1
                · (intro W hW; (try dsimp only at hW); go_simp; try with_reducible rfl)
                try simp only [Act.put, List.setIfInBounds_toArray, List.set_cons_zero, List.set_cons_succ]
                refine d_call (i := 16) (by kernel_rfl) rfl (by rfl) (fun K hK => ?_)
                simp only [List.getElem_toArray, List.getElem_cons_succ, List.getElem_cons_zero]
                go_simp
                refine PL.out.mono ?_
                rintro e0 w6 ⟨rfl, J6⟩
                have H6 := Lib.hid J6
                clear PL J6
                go_simp
                refine hK.out _ _ (fun h => absurd h (by decide)) ?_
                clear hK K
                try simp only [Act.put, List.setIfInBounds_toArray, List.set_cons_zero, List.set_cons_succ]
                refine d_pure (i := 17) (v := ?_) (some 122) rfl (by rfl) (by kernel_rfl) (by kernel_rfl) (by kernel_rfl) (by kernel_rfl) (fun _ _ _ h => h) (.inl ⟨by rfl, ?_⟩) ?_
                rotate_left 1
                · (intro W hW; go_simp; try with_reducible rfl)
                try simp only [Act.put, List.setIfInBounds_toArray, List.set_cons_zero, List.set_cons_succ]
                refine d_done (by kernel_rfl) ?_ _
                clear HS1
                go_wp2_with fail
                go_roundw
                case rel => exact ⟨z + 1, by go_num, by omega, H6.out⟩
                case measure => simp [intOf]; omega
              · obtain rfl : m = 0 := by omega
                go_wp2_with fail
                go_roundw
                case rel => exact ⟨k + 1, by go_num, by omega, HEND.out⟩
                case measure => simp [intOf]; omega
            · have hz6 : ¬ (z : Int) < 50 := by omega
              go_wp2_with fail
              go_roundw
              case rel => exact ⟨k + 1, by go_num, by omega, HEND.out⟩
              case measure => simp [intOf]; omega
        · obtain rfl : k = 2 := by omega
          go_wp2_with fail
          go_returns
          exact ⟨rfl, HX.out.wext⟩
end Go.Proofs.YteaainepnelehaaDoor
