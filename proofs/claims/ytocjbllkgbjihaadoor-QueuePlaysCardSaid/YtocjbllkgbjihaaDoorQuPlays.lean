/-
  QueuePlays, walked.
-/
import Derived.Test.YtocjbllkgbjihaaDoorQuTwo
import Derived.Test.YtocjbllkgbjihaaDoorMask
import Derived.Lib.MinMax
namespace Go.Proofs.YtocjbllkgbjihaaDoor
set_option maxRecDepth 100000
open Go.RowKit Go.Maps
set_option linter.unusedVariables false
/-- A call of the script. -/
structure O4 where
  K : Int
  Q : Int
  I : Int
  R : Int
def o4row (o : O4) : List Value := [.int .i64 o.K, .int .i64 o.Q, .int .i64 o.I, .int .i64 o.R]
def o4rows (os : List O4) : List (List Value) := os.map o4row
theorem o4_even (os : List O4) : Even 4 (o4rows os) := by
  intro r hr
  obtain ⟨x, _, rfl⟩ := List.mem_map.1 hr
  rfl
theorem o4_at {os : List O4} {k : Nat} {x : O4} (h : os[k]? = some x) : (o4rows os)[k]? = some (o4row x) := by simp [o4rows, h]
theorem o4_len (os : List O4) : (o4rows os).length = os.length := by simp [o4rows]
theorem add_lit (a : Addr) {k : Nat} (hk : k ≠ 0) : a.add k = ⟨a.block, a.off + k, none⟩ := by unfold Addr.add; rw [if_neg hk]
set_option maxHeartbeats 12800000 in
theorem plays_any (A0 : Option Addr) (n c0 : Nat) (os : List O4) (w : World) (hr : Rd w 4 A0 n (o4rows os).flatten) (hol : os.length = n) (hok : ∀ o ∈ os, i64 o.I ∧ i64 o.R) (hn : n * 32 ≤ 140737488355328) {E : Nat → Addr} (hE : Errs w E) :
    Calls Tryd.prog 7 #[.slice A0 n c0] w fun e w' => e = .returned (.bool true) ∧ Ext w w' := by
  have HE := Lib.hid hE
  have HO := Lib.hid (And.intro hol (And.intro hr hok))
  have AL := Lib.hid (alive_any w)
  clear hr hol hok hE
  go_enter Tryd.func7, Tryd.ntmps7
  go_upto_region 3 with (go_at_call 8; refine AL.out.mono ?_; rintro e0 w1 ⟨rfl, x1⟩)
  have N1 := Lib.hid (qnew_any w1)
  have X1 := Lib.hid x1
  clear AL x1
  go_wp2_with fail
  refine N1.out.mono ?_
  rintro e0 w2 ⟨g0, F0, rfl, n2, f2, x2⟩
  have N2 := Lib.hid (qnew_any w2)
  have H2 : Hid (QP w2 g0 F0 [] 0 ∧ Ext w w2 ∧ ∀ b, F0 b → w.heap.size ≤ b ∧ b < w2.heap.size) := Lib.hid ⟨n2, X1.out.trans x2, fun b hb => ⟨Nat.le_trans X1.out.size (f2 b hb), n2.lt b hb⟩⟩
  clear N1 n2 f2 x2 X1
  go_wp2_with fail
  refine N2.out.mono ?_
  rintro e0 w3 ⟨g1, F1, rfl, n3, f3, x3⟩
  have H3 : Hid (QP w3 g0 F0 [] 0 ∧ QP w3 g1 F1 [] 0 ∧ Ext w w3 ∧ (∀ b, F0 b → w.heap.size ≤ b ∧ b < w2.heap.size) ∧ (∀ b, F1 b → w2.heap.size ≤ b ∧ b < w3.heap.size) ∧ w.heap.size ≤ w2.heap.size ∧ w2.heap.size ≤ w3.heap.size) := Lib.hid ⟨H2.out.1.ext x3, n3, H2.out.2.1.trans x3, H2.out.2.2, fun b hb => ⟨f3 b hb, n3.lt b hb⟩, H2.out.2.1.size, x3.size⟩
  clear N2 n3 f3 x3 H2
  generalize w2.heap.size = s1 at *
  have k0 := heap_alloc_new w3 (.cells #[.pointer (some ⟨g0, 0, none⟩), .pointer (some ⟨g1, 0, none⟩)] 52)
  have e1 : (w3.alloc (.cells #[.pointer (some ⟨g0, 0, none⟩), .pointer (some ⟨g1, 0, none⟩)] 52)).heap.size = w3.heap.size + 1 := World.size_alloc _ _
  have k1 := heap_alloc_new (w3.alloc (.cells #[.pointer (some ⟨g0, 0, none⟩), .pointer (some ⟨g1, 0, none⟩)] 52)) (.cells #[.slice none 0 0] 55)
  have e2 : ((w3.alloc (.cells #[.pointer (some ⟨g0, 0, none⟩), .pointer (some ⟨g1, 0, none⟩)] 52)).alloc (.cells #[.slice none 0 0] 55)).heap.size = w3.heap.size + 1 + 1 := by rw [World.size_alloc, e1]
  have k2 := heap_alloc_new ((w3.alloc (.cells #[.pointer (some ⟨g0, 0, none⟩), .pointer (some ⟨g1, 0, none⟩)] 52)).alloc (.cells #[.slice none 0 0] 55)) (.cells #[.slice none 0 0] 55)
  have e3 : (((w3.alloc (.cells #[.pointer (some ⟨g0, 0, none⟩), .pointer (some ⟨g1, 0, none⟩)] 52)).alloc (.cells #[.slice none 0 0] 55)).alloc (.cells #[.slice none 0 0] 55)).heap.size = w3.heap.size + 1 + 1 + 1 := by rw [World.size_alloc, e2]
  have k3 := heap_alloc_new (((w3.alloc (.cells #[.pointer (some ⟨g0, 0, none⟩), .pointer (some ⟨g1, 0, none⟩)] 52)).alloc (.cells #[.slice none 0 0] 55)).alloc (.cells #[.slice none 0 0] 55)) (.cells #[.pointer (some ⟨w3.heap.size + 1, 0, none⟩), .pointer (some ⟨w3.heap.size + 1 + 1, 0, none⟩)] 56)
  rw [e1] at k1
  rw [e2] at k2
  rw [e3] at k3
  have y0 := (Ext.refl w3).alloc (.cells #[.pointer (some ⟨g0, 0, none⟩), .pointer (some ⟨g1, 0, none⟩)] 52)
  have y1 := (Ext.refl (w3.alloc (.cells #[.pointer (some ⟨g0, 0, none⟩), .pointer (some ⟨g1, 0, none⟩)] 52))).alloc (.cells #[.slice none 0 0] 55)
  have y2 := (Ext.refl ((w3.alloc (.cells #[.pointer (some ⟨g0, 0, none⟩), .pointer (some ⟨g1, 0, none⟩)] 52)).alloc (.cells #[.slice none 0 0] 55))).alloc (.cells #[.slice none 0 0] 55)
  have y3 := (Ext.refl (((w3.alloc (.cells #[.pointer (some ⟨g0, 0, none⟩), .pointer (some ⟨g1, 0, none⟩)] 52)).alloc (.cells #[.slice none 0 0] 55)).alloc (.cells #[.slice none 0 0] 55))).alloc (.cells #[.pointer (some ⟨w3.heap.size + 1, 0, none⟩), .pointer (some ⟨w3.heap.size + 1 + 1, 0, none⟩)] 56)
  have yy := y0.trans (y1.trans (y2.trans y3))
  have HPN := Lib.hid (PQB.new (H3.out.2.2.1.trans yy) (H3.out.1.ext yy) (H3.out.2.1.ext yy) (((y2.trans y3).block _ (block_lt k1)).trans k1) ((y3.block _ (block_lt k2)).trans k2) (((y1.trans (y2.trans y3)).block _ (block_lt k0)).trans k0) k3 H3.out.2.2.2.1 H3.out.2.2.2.2.1 ⟨H3.out.2.2.2.2.2.1, H3.out.2.2.2.2.2.2, by omega, by omega, by omega⟩)
  have c0 := block_cell (((y1.trans (y2.trans y3)).block _ (block_lt k0)).trans k0) 0
  have c1 := block_cell (((y1.trans (y2.trans y3)).block _ (block_lt k0)).trans k0) 1
  clear k0 k1 k2 k3 e1 e2 e3 y0 y1 y2 y3 yy
  go_upto_region 5 with (fail)
  generalize (((w3.alloc (.cells #[.pointer (some ⟨g0, 0, none⟩), .pointer (some ⟨g1, 0, none⟩)] 52)).alloc (.cells #[.slice none 0 0] 55)).alloc (.cells #[.slice none 0 0] 55)).alloc (.cells #[.pointer (some ⟨w3.heap.size + 1, 0, none⟩), .pointer (some ⟨w3.heap.size + 1 + 1, 0, none⟩)] 56) = V0 at *
  generalize w3.heap.size + 1 + 1 + 1 = mb at *
  generalize w3.heap.size = nb at *
  obtain ⟨gg, qq, X, HP⟩ : ∃ gg qq X, PQB w V0 nb mb gg qq X 0 := by
    obtain ⟨gg, qq, h⟩ := HPN.out
    exact ⟨gg, qq, _, h⟩
  have HPB := Lib.hid HP
  clear HP HPN H3
  go_wp2_with fail
  clear c0 c1
  go_loopw [5, 34] (fun v5 v34 wr => ∃ i fl : Nat, v34 = .int .i64 (i : Int) ∧ v5 = .int .i64 (fl : Int) ∧ fl ≤ 5000 ∧ i ≤ n ∧ Hid (PQB w wr nb mb gg qq X (20000 * (i + fl)))) (fun _ v34 _ => n - (intOf v34).toNat)
  case atStart => exact ⟨0, 0, rfl, rfl, by omega, by omega, HPB.out⟩
  case round =>
    obtain ⟨i, fl, rfl, rfl, hfl, hi, HI⟩ := hrel
    obtain ⟨U2, hU2⟩ : ∃ V : World, V = wr := ⟨_, rfl⟩
    subst hU2
    by_cases hlt : i < n
    · obtain ⟨o, ho⟩ : ∃ o, os[i]? = some o := ⟨os[i]'(by rw [HO.out.1]; exact hlt), List.getElem?_eq_getElem _⟩
      obtain ⟨k, hk2, hkQ⟩ : ∃ k : Nat, k < 2 ∧ o.Q % 2 = (k : Int) := ⟨(o.Q % 2).toNat, by omega, by omega⟩
      have hand : Go.bits .and .i64 o.Q 1 = (k : Int) := (mask_core o.Q 1 2 (by decide) (by decide)).trans hkQ
      obtain ⟨i4, hi4⟩ : ∃ i4, i * 4 = i4 := ⟨_, rfl⟩
      obtain ⟨ad, rfl, _, _⟩ := HO.out.2.1.2 (show 0 < n by omega)
      have hrr := HO.out.2.1.ext HI.out.wext
      have k0 := hrr.rowAt (o4_even os) (o4_at ho) hi4 (i := 0) rfl
      have k1 := hrr.rowAt (o4_even os) (o4_at ho) hi4 (i := 1) rfl
      have k2 := hrr.rowAt (o4_even os) (o4_at ho) hi4 (i := 2) rfl
      have k3 := hrr.rowAt (o4_even os) (o4_at ho) hi4 (i := 3) rfl
      rw [Nat.add_zero] at k0
      rw [← add_add', add_lit _ (by omega)] at k1 k2 k3
      have z0 : (0 : Int) ≤ i := by omega
      have z1 : (i : Int) < n := by omega
      have y0 : (0 : Int) ≤ k := by omega
      have y1 : (k : Int) < 2 := by omega
      have HOK := Lib.hid (HO.out.2.2 o (List.mem_of_getElem? ho))
      have HV := Lib.hid (And.intro (HI.out.add (o := (.cells #[.int .i64 o.K, .int .i64 o.Q, .int .i64 o.I, .int .i64 o.R] 58))) (heap_alloc_new U2 (.cells #[.int .i64 o.K, .int .i64 o.Q, .int .i64 o.I, .int .i64 o.R] 58)))
      clear hrr ho hkQ
      go_upto_region 11 with (fail)
      generalize U2.alloc (.cells #[.int .i64 o.K, .int .i64 o.Q, .int .i64 o.I, .int .i64 o.R] 58) = V at *
      generalize U2.heap.size = ob at *
      have J := Lib.hid HV.out.1
      have b0 : V.cell? ⟨ob, 0, none⟩ = some (.int .i64 o.K) := block_cell HV.out.2 0
      have b1 : V.cell? ⟨ob, 1, none⟩ = some (.int .i64 o.Q) := block_cell HV.out.2 1
      have b2 : V.cell? ⟨ob, 2, none⟩ = some (.int .i64 o.I) := block_cell HV.out.2 2
      have b3 : V.cell? ⟨ob, 3, none⟩ = some (.int .i64 o.R) := block_cell HV.out.2 3
      clear HV k0 k1 k2 k3 hi4
      by_cases hK : o.K = 7
      · have hK1 : (o.K == 7) = true := by simp [hK]
        clear hK
        obtain ⟨L, hL, hL4⟩ : ∃ L : Nat, min (max o.R 0) 4200 = (L : Int) ∧ L ≤ 4200 := ⟨(min (max o.R 0) 4200).toNat, by omega, by omega⟩
        have HL := Lib.hid hL4
        by_cases hbig : 5000 < fl + L
        · have g1 : (5000 : Int) < (fl : Int) + L := by omega
          have HW := Lib.hid J.out.wext
          go_wp2_with fail
          go_returns
          exact ⟨rfl, HW.out⟩
        · have g1 : ¬ (5000 : Int) < (fl : Int) + L := by omega
          obtain ⟨fr, hfr, hfr1, hfr2⟩ : ∃ fr : Int, o.I.tmod 1099511627776 = fr ∧ -1099511627776 < fr ∧ fr < 1099511627776 := by
            have h1 := Int.tmod_lt_of_pos o.I (show (0 : Int) < 1099511627776 by decide)
            have h2 := Int.lt_tmod_of_pos o.I (show (0 : Int) < 1099511627776 by decide)
            exact ⟨_, rfl, h2, h1⟩
          go_upto_region 20 with (fail)
          clear b0 b1 b2 b3 hK1 hL hfr
          have hk0 : k < 2 := hk2
          go_wp2_with fail
          go_loopw [11] (fun v11 wr => ∃ z : Nat, v11 = .int .i64 (z : Int) ∧ z ≤ L ∧ Hid (PQB w wr nb mb gg qq (fun b => X b ∨ b = ob) (20000 * (i + fl + z)))) (fun v11 _ => L - (intOf v11).toNat)
          case atStart => exact ⟨0, rfl, by omega, J.out⟩
          case round =>
            obtain ⟨z, rfl, hz, HZ⟩ := hrel
            obtain ⟨U3, hU3⟩ : ∃ V : World, V = wr := ⟨_, rfl⟩
            subst hU3
            by_cases hzL : z < L
            · have hzL1 : (z : Int) < L := by omega
              have wz : IntKind.i64.wrap (fr + (z : Int)) = fr + (z : Int) := by rw [IntKind.wrap_i64]; omega
              have hz0 : (0 : Int) ≤ z := by omega
              obtain ⟨U, TN⟩ := HZ.out.turn hk0
              have XA := (Ext.refl U3).drew
              have HS1 : U3.drew.cell? ⟨nb, k, none⟩ = some (.pointer (some ⟨gg k, 0, none⟩)) ∧ U3.drew.cell? ⟨mb, k, none⟩ = some (.pointer (some ⟨qq k, 0, none⟩)) := ⟨(HZ.out.ext XA).gcell hk0, (HZ.out.ext XA).mcell hk0⟩
              have PL := Lib.hid (fun (I R : Int) (hI : i64 I) => play_any E (TN.pr.ext XA) (by omega) (HZ.out.wext.trans XA) TN.lo HE.out 1 0 I R hI (Post := fun e w' => e = .returned (.bool true) ∧ PQB w w' nb mb gg qq (fun b => X b ∨ b = ob) (20000 * (i + fl + (z + 1)))) (Lib.hid fun w' h => by
                obtain ⟨h1, h2⟩ := TN.next w' (h.pre XA)
                exact ⟨rfl, h1.mono (by omega)⟩))
              clear TN
              go_upto_region 23 with (fail)
              refine d_region (fun W : World => W.cell? ⟨nb, k, none⟩ = some (.pointer (some ⟨gg k, 0, none⟩)) ∧ W.cell? ⟨mb, k, none⟩ = some (.pointer (some ⟨qq k, 0, none⟩))) [12, 13] (by kernel_rfl) ?_
              refine d_take (i := 0) (v := ?_) [1, 2, 12, 13] (some 70) rfl (by rfl) (by kernel_rfl) (by kernel_rfl) (by kernel_rfl) (by kernel_rfl) (by kernel_rfl) (by kernel_rfl) (fun _ _ _ h => h) (.inl ⟨by rfl, ?_⟩) HS1 ?_
              rotate_left 1
              · (intro W hW; (try dsimp only at hW); go_simp; try with_reducible rfl)
              try simp only [Act.put, List.setIfInBounds_toArray, List.set_cons_zero, List.set_cons_succ]
              refine d_take (i := 1) (v := ?_) [2, 12, 13] (some 71) rfl (by rfl) (by kernel_rfl) (by kernel_rfl) (by kernel_rfl) (by kernel_rfl) (by kernel_rfl) (by kernel_rfl) (fun _ _ _ h => h) (.inl ⟨by rfl, ?_⟩) HS1 ?_
              rotate_left 1
              · (intro W hW; (try dsimp only at hW); go_simp; try with_reducible rfl)
              try simp only [Act.put, List.setIfInBounds_toArray, List.set_cons_zero, List.set_cons_succ]
              refine d_take (i := 2) (v := ?_) [12, 13] (some 72) rfl (by rfl) (by kernel_rfl) (by kernel_rfl) (by kernel_rfl) (by kernel_rfl) (by kernel_rfl) (by kernel_rfl) (fun _ _ _ h => h) (.inl ⟨by rfl, ?_⟩) HS1 ?_
              rotate_left 1
              · (intro W hW; (try dsimp only at hW); go_simp; try with_reducible rfl)
              try simp only [Act.put, List.setIfInBounds_toArray, List.set_cons_zero, List.set_cons_succ]
              refine d_take (i := 3) (v := ?_) [4, 5, 12, 13] (some 73) rfl (by rfl) (by kernel_rfl) (by kernel_rfl) (by kernel_rfl) (by kernel_rfl) (by kernel_rfl) (by kernel_rfl) (fun _ _ _ h => h) (.inl ⟨by rfl, ?_⟩) HS1 ?_
              rotate_left 1
              · (intro W hW; (try dsimp only at hW); go_simp; try with_reducible rfl)
              try simp only [Act.put, List.setIfInBounds_toArray, List.set_cons_zero, List.set_cons_succ]
              refine d_take (i := 4) (v := ?_) [5, 12, 13] (some 74) rfl (by rfl) (by kernel_rfl) (by kernel_rfl) (by kernel_rfl) (by kernel_rfl) (by kernel_rfl) (by kernel_rfl) (fun _ _ _ h => h) (.inl ⟨by rfl, ?_⟩) HS1 ?_
              rotate_left 1
              · (intro W hW; (try dsimp only at hW); go_simp; try with_reducible rfl)
              try simp only [Act.put, List.setIfInBounds_toArray, List.set_cons_zero, List.set_cons_succ]
              refine d_take (i := 5) (v := ?_) [12, 13] (some 75) rfl (by rfl) (by kernel_rfl) (by kernel_rfl) (by kernel_rfl) (by kernel_rfl) (by kernel_rfl) (by kernel_rfl) (fun _ _ _ h => h) (.inl ⟨by rfl, ?_⟩) HS1 ?_
              rotate_left 1
              · (intro W hW; (try dsimp only at hW); go_simp; try with_reducible rfl)
              try simp only [Act.put, List.setIfInBounds_toArray, List.set_cons_zero, List.set_cons_succ]
              refine d_take (i := 6) (v := ?_) [8, 11, 12, 13] (some 76) rfl (by rfl) (by kernel_rfl) (by kernel_rfl) (by kernel_rfl) (by kernel_rfl) (by kernel_rfl) (by kernel_rfl) (fun _ _ _ h => h) (.inl ⟨by rfl, ?_⟩) HS1 ?_
              rotate_left 1
              · (intro W hW; (try dsimp only at hW); go_simp; try with_reducible rfl)
              try simp only [Act.put, List.setIfInBounds_toArray, List.set_cons_zero, List.set_cons_succ]
              refine d_take (i := 7) (v := ?_) [8, 11, 12, 13] (some 77) rfl (by rfl) (by kernel_rfl) (by kernel_rfl) (by kernel_rfl) (by kernel_rfl) (by kernel_rfl) (by kernel_rfl) (fun _ _ _ h => h) (.inl ⟨by rfl, ?_⟩) HS1 ?_
              rotate_left 1
              · (intro W hW; (try dsimp only at hW); go_simp; try with_reducible rfl)
              try simp only [Act.put, List.setIfInBounds_toArray, List.set_cons_zero, List.set_cons_succ]
              refine d_take (i := 8) (v := ?_) [11, 12, 13] (some 78) rfl (by rfl) (by kernel_rfl) (by kernel_rfl) (by kernel_rfl) (by kernel_rfl) (by kernel_rfl) (by kernel_rfl) (fun _ _ _ h => h) (.inl ⟨by rfl, ?_⟩) HS1 ?_
              rotate_left 1
              · (intro W hW; (try dsimp only at hW); go_simp; try with_reducible rfl)
              try simp only [Act.put, List.setIfInBounds_toArray, List.set_cons_zero, List.set_cons_succ]
              refine d_take (i := 9) (v := ?_) [10, 11, 12, 13] (some 79) rfl (by rfl) (by kernel_rfl) (by kernel_rfl) (by kernel_rfl) (by kernel_rfl) (by kernel_rfl) (by kernel_rfl) (fun _ _ _ h => h) (.inl ⟨by rfl, ?_⟩) HS1 ?_
              rotate_left 1
              · (intro W hW; (try dsimp only at hW); go_simp; try with_reducible rfl)
              try simp only [Act.put, List.setIfInBounds_toArray, List.set_cons_zero, List.set_cons_succ]
              refine d_take (i := 10) (v := ?_) [11, 12, 13] (some 80) rfl (by rfl) (by kernel_rfl) (by kernel_rfl) (by kernel_rfl) (by kernel_rfl) (by kernel_rfl) (by kernel_rfl) (fun _ _ _ h => h) (.inl ⟨by rfl, ?_⟩) HS1 ?_
              rotate_left 1
              · (intro W hW; (try dsimp only at hW); go_simp; try with_reducible rfl)
              try simp only [Act.put, List.setIfInBounds_toArray, List.set_cons_zero, List.set_cons_succ]
              refine d_take (i := 11) (v := ?_) [12, 13] (some 81) rfl (by rfl) (by kernel_rfl) (by kernel_rfl) (by kernel_rfl) (by kernel_rfl) (by kernel_rfl) (by kernel_rfl) (fun _ _ _ h => h) (.inl ⟨by rfl, ?_⟩) HS1 ?_
              rotate_left 1
              · (intro W hW; (try dsimp only at hW); go_simp; try with_reducible rfl)
              try simp only [Act.put, List.setIfInBounds_toArray, List.set_cons_zero, List.set_cons_succ]
              refine d_call (i := 12) (by kernel_rfl) rfl (by rfl) (fun K hK => ?_)
              simp only [List.getElem_toArray, List.getElem_cons_succ, List.getElem_cons_zero]
              go_simp
              refine (PL.out _ _ ⟨by omega, by omega⟩).mono ?_
              rintro e0 w6 ⟨rfl, J6⟩
              have H6 := Lib.hid J6
              clear PL J6
              go_simp
              refine hK.out _ _ (fun h => absurd h (by decide)) ?_
              clear hK K HS1 wz
              try simp only [Act.put, List.setIfInBounds_toArray, List.set_cons_zero, List.set_cons_succ]
              refine d_call (i := 13) (by kernel_rfl) rfl (by rfl) (fun K hK => ?_)
              simp only [List.getElem_toArray, List.getElem_cons_succ, List.getElem_cons_zero]
              go_simp
              refine hK.out _ _ (fun h => absurd h (by decide)) ?_
              clear hK K 
              try simp only [Act.put, List.setIfInBounds_toArray, List.set_cons_zero, List.set_cons_succ]
              refine d_done (by kernel_rfl) ?_ _
              go_wp2_with fail
              go_roundw
              case rel => exact ⟨z + 1, by go_num, by omega, H6.out⟩
              case measure => simp [intOf]; omega
            · obtain rfl : L = z := by omega
              have HEND := Lib.hid ((HZ.out.back HI.out).mono (show 20000 * (i + fl + L) ≤ 20000 * (i + 1 + (fl + L)) from by omega))
              go_wp2_with fail
              go_roundw
              case rel => exact ⟨i + 1, fl + L, by go_num, by go_num, by omega, by omega, HEND.out⟩
              case measure => simp [intOf]; omega
      · have hK1 : (o.K == 7) = false := by simp [hK]
        clear hK
        obtain ⟨U, TN⟩ := J.out.turn hk2
        have XA := (Ext.refl V).drew
        have HS1 : V.drew.cell? ⟨nb, k, none⟩ = some (.pointer (some ⟨gg k, 0, none⟩)) ∧ V.drew.cell? ⟨mb, k, none⟩ = some (.pointer (some ⟨qq k, 0, none⟩)) ∧ V.drew.cell? ⟨ob, 0, none⟩ = some (.int .i64 o.K) ∧ V.drew.cell? ⟨ob, 1, none⟩ = some (.int .i64 o.Q) ∧ V.drew.cell? ⟨ob, 2, none⟩ = some (.int .i64 o.I) ∧ V.drew.cell? ⟨ob, 3, none⟩ = some (.int .i64 o.R) := ⟨(J.out.ext XA).gcell hk2, (J.out.ext XA).mcell hk2, b0, b1, b2, b3⟩
        have PL := Lib.hid (play_any E (TN.pr.ext XA) (by omega) (J.out.wext.trans XA) TN.lo HE.out o.K o.Q o.I o.R HOK.out.1 (Post := fun e w' => e = .returned (.bool true) ∧ PQB w w' nb mb gg qq X (20000 * (i + 1 + fl))) (Lib.hid fun w' h => by
          obtain ⟨h1, h2⟩ := TN.next w' (h.pre XA)
          exact ⟨rfl, (h1.back HI.out).mono (by omega)⟩))
        clear TN J
        go_upto_region 13 with (fail)
        refine d_region (fun W : World => W.cell? ⟨nb, k, none⟩ = some (.pointer (some ⟨gg k, 0, none⟩)) ∧ W.cell? ⟨mb, k, none⟩ = some (.pointer (some ⟨qq k, 0, none⟩)) ∧ W.cell? ⟨ob, 0, none⟩ = some (.int .i64 o.K) ∧ W.cell? ⟨ob, 1, none⟩ = some (.int .i64 o.Q) ∧ W.cell? ⟨ob, 2, none⟩ = some (.int .i64 o.I) ∧ W.cell? ⟨ob, 3, none⟩ = some (.int .i64 o.R)) [7, 8] (by kernel_rfl) ?_
        refine d_take (i := 0) (v := ?_) [1, 2, 7, 8] (some 44) rfl (by rfl) (by kernel_rfl) (by kernel_rfl) (by kernel_rfl) (by kernel_rfl) (by kernel_rfl) (by kernel_rfl) (fun _ _ _ h => h) (.inl ⟨by rfl, ?_⟩) HS1 ?_
        rotate_left 1
        · (intro W hW; (try dsimp only at hW); go_simp; try with_reducible rfl)
        try simp only [Act.put, List.setIfInBounds_toArray, List.set_cons_zero, List.set_cons_succ]
        refine d_take (i := 1) (v := ?_) [2, 7, 8] (some 45) rfl (by rfl) (by kernel_rfl) (by kernel_rfl) (by kernel_rfl) (by kernel_rfl) (by kernel_rfl) (by kernel_rfl) (fun _ _ _ h => h) (.inl ⟨by rfl, ?_⟩) HS1 ?_
        rotate_left 1
        · (intro W hW; (try dsimp only at hW); go_simp; try with_reducible rfl)
        try simp only [Act.put, List.setIfInBounds_toArray, List.set_cons_zero, List.set_cons_succ]
        refine d_take (i := 2) (v := ?_) [7, 8] (some 46) rfl (by rfl) (by kernel_rfl) (by kernel_rfl) (by kernel_rfl) (by kernel_rfl) (by kernel_rfl) (by kernel_rfl) (fun _ _ _ h => h) (.inl ⟨by rfl, ?_⟩) HS1 ?_
        rotate_left 1
        · (intro W hW; (try dsimp only at hW); go_simp; try with_reducible rfl)
        try simp only [Act.put, List.setIfInBounds_toArray, List.set_cons_zero, List.set_cons_succ]
        refine d_take (i := 3) (v := ?_) [4, 5, 7, 8] (some 47) rfl (by rfl) (by kernel_rfl) (by kernel_rfl) (by kernel_rfl) (by kernel_rfl) (by kernel_rfl) (by kernel_rfl) (fun _ _ _ h => h) (.inl ⟨by rfl, ?_⟩) HS1 ?_
        rotate_left 1
        · (intro W hW; (try dsimp only at hW); go_simp; try with_reducible rfl)
        try simp only [Act.put, List.setIfInBounds_toArray, List.set_cons_zero, List.set_cons_succ]
        refine d_take (i := 4) (v := ?_) [5, 7, 8] (some 48) rfl (by rfl) (by kernel_rfl) (by kernel_rfl) (by kernel_rfl) (by kernel_rfl) (by kernel_rfl) (by kernel_rfl) (fun _ _ _ h => h) (.inl ⟨by rfl, ?_⟩) HS1 ?_
        rotate_left 1
        · (intro W hW; (try dsimp only at hW); go_simp; try with_reducible rfl)
        try simp only [Act.put, List.setIfInBounds_toArray, List.set_cons_zero, List.set_cons_succ]
        refine d_take (i := 5) (v := ?_) [7, 8] (some 49) rfl (by rfl) (by kernel_rfl) (by kernel_rfl) (by kernel_rfl) (by kernel_rfl) (by kernel_rfl) (by kernel_rfl) (fun _ _ _ h => h) (.inl ⟨by rfl, ?_⟩) HS1 ?_
        rotate_left 1
        · (intro W hW; (try dsimp only at hW); go_simp; try with_reducible rfl)
        try simp only [Act.put, List.setIfInBounds_toArray, List.set_cons_zero, List.set_cons_succ]
        refine d_take (i := 6) (v := ?_) [7, 8] (some 50) rfl (by rfl) (by kernel_rfl) (by kernel_rfl) (by kernel_rfl) (by kernel_rfl) (by kernel_rfl) (by kernel_rfl) (fun _ _ _ h => h) (.inl ⟨by rfl, ?_⟩) HS1 ?_
        rotate_left 1
        · (intro W hW; (try dsimp only at hW); go_simp; try with_reducible rfl)
        try simp only [Act.put, List.setIfInBounds_toArray, List.set_cons_zero, List.set_cons_succ]
        refine d_call (i := 7) (by kernel_rfl) rfl (by rfl) (fun K hK => ?_)
        simp only [List.getElem_toArray, List.getElem_cons_succ, List.getElem_cons_zero]
        go_simp
        refine PL.out.mono ?_
        rintro e0 w6 ⟨rfl, J6⟩
        have H6 := Lib.hid J6
        clear PL J6
        go_simp
        refine hK.out _ _ (fun h => absurd h (by decide)) ?_
        clear hK K HS1 b0 b1 b2 b3
        try simp only [Act.put, List.setIfInBounds_toArray, List.set_cons_zero, List.set_cons_succ]
        refine d_call (i := 8) (by kernel_rfl) rfl (by rfl) (fun K hK => ?_)
        simp only [List.getElem_toArray, List.getElem_cons_succ, List.getElem_cons_zero]
        go_simp
        refine hK.out _ _ (fun h => absurd h (by decide)) ?_
        clear hK K 
        try simp only [Act.put, List.setIfInBounds_toArray, List.set_cons_zero, List.set_cons_succ]
        refine d_done (by kernel_rfl) ?_ _
        go_wp2_with fail
        go_roundw
        case rel => exact ⟨i + 1, fl, by go_num, rfl, hfl, by omega, H6.out⟩
        case measure => simp [intOf]; omega
    · obtain rfl : n = i := by omega
      have HEND := Lib.hid (HI.out.mono (show 20000 * (n + fl) ≤ 20000 * (n + 5000 + 201 * 0) from by omega))
      clear HI HPB
      go_wp2_with fail
      go_loopw [85] (fun v85 wr => ∃ k : Nat, v85 = .int .i64 (k : Int) ∧ k ≤ 2 ∧ Hid (PQB w wr nb mb gg qq X (20000 * (n + 5000 + 201 * k)))) (fun v85 _ => 2 - (intOf v85).toNat)
      case atStart => exact ⟨0, rfl, by omega, HEND.out⟩
      case round =>
        obtain ⟨k, rfl, hk, HX⟩ := hrel
        obtain ⟨U4, hU4⟩ : ∃ V : World, V = wr := ⟨_, rfl⟩
        subst hU4
        by_cases hk2 : k < 2
        · have y0 : (0 : Int) ≤ k := by omega
          have y1 : (k : Int) < 2 := by omega
          obtain ⟨U, TN⟩ := HX.out.turn hk2
          have XA := (Ext.refl U4).drew
          have HS1 : U4.drew.cell? ⟨nb, k, none⟩ = some (.pointer (some ⟨gg k, 0, none⟩)) ∧ U4.drew.cell? ⟨mb, k, none⟩ = some (.pointer (some ⟨qq k, 0, none⟩)) := ⟨(HX.out.ext XA).gcell hk2, (HX.out.ext XA).mcell hk2⟩
          have PL := Lib.hid (play_any E (TN.pr.ext XA) (by omega) (HX.out.wext.trans XA) TN.lo HE.out 6 0 0 0 ⟨by omega, by omega⟩ (Post := fun e w' => e = .returned (.bool true) ∧ PQB w w' nb mb gg qq X (20000 * (n + 5000 + 201 * k + 1 + 0))) (Lib.hid fun w' h => by
            obtain ⟨h1, h2⟩ := TN.next w' (h.pre XA)
            exact ⟨rfl, h1.mono (by omega)⟩))
          clear TN
          go_upto_region 29 with (fail)
          refine d_region (fun W : World => W.cell? ⟨nb, k, none⟩ = some (.pointer (some ⟨gg k, 0, none⟩)) ∧ W.cell? ⟨mb, k, none⟩ = some (.pointer (some ⟨qq k, 0, none⟩))) [7, 8] (by kernel_rfl) ?_
          refine d_take (i := 0) (v := ?_) [1, 2, 7, 8] (some 88) rfl (by rfl) (by kernel_rfl) (by kernel_rfl) (by kernel_rfl) (by kernel_rfl) (by kernel_rfl) (by kernel_rfl) (fun _ _ _ h => h) (.inl ⟨by rfl, ?_⟩) HS1 ?_
          rotate_left 1
          · (intro W hW; (try dsimp only at hW); go_simp; try with_reducible rfl)
          try simp only [Act.put, List.setIfInBounds_toArray, List.set_cons_zero, List.set_cons_succ]
          refine d_take (i := 1) (v := ?_) [2, 7, 8] (some 89) rfl (by rfl) (by kernel_rfl) (by kernel_rfl) (by kernel_rfl) (by kernel_rfl) (by kernel_rfl) (by kernel_rfl) (fun _ _ _ h => h) (.inl ⟨by rfl, ?_⟩) HS1 ?_
          rotate_left 1
          · (intro W hW; (try dsimp only at hW); go_simp; try with_reducible rfl)
          try simp only [Act.put, List.setIfInBounds_toArray, List.set_cons_zero, List.set_cons_succ]
          refine d_take (i := 2) (v := ?_) [7, 8] (some 90) rfl (by rfl) (by kernel_rfl) (by kernel_rfl) (by kernel_rfl) (by kernel_rfl) (by kernel_rfl) (by kernel_rfl) (fun _ _ _ h => h) (.inl ⟨by rfl, ?_⟩) HS1 ?_
          rotate_left 1
          · (intro W hW; (try dsimp only at hW); go_simp; try with_reducible rfl)
          try simp only [Act.put, List.setIfInBounds_toArray, List.set_cons_zero, List.set_cons_succ]
          refine d_take (i := 3) (v := ?_) [4, 5, 7, 8] (some 91) rfl (by rfl) (by kernel_rfl) (by kernel_rfl) (by kernel_rfl) (by kernel_rfl) (by kernel_rfl) (by kernel_rfl) (fun _ _ _ h => h) (.inl ⟨by rfl, ?_⟩) HS1 ?_
          rotate_left 1
          · (intro W hW; (try dsimp only at hW); go_simp; try with_reducible rfl)
          try simp only [Act.put, List.setIfInBounds_toArray, List.set_cons_zero, List.set_cons_succ]
          refine d_take (i := 4) (v := ?_) [5, 7, 8] (some 92) rfl (by rfl) (by kernel_rfl) (by kernel_rfl) (by kernel_rfl) (by kernel_rfl) (by kernel_rfl) (by kernel_rfl) (fun _ _ _ h => h) (.inl ⟨by rfl, ?_⟩) HS1 ?_
          rotate_left 1
          · (intro W hW; (try dsimp only at hW); go_simp; try with_reducible rfl)
          try simp only [Act.put, List.setIfInBounds_toArray, List.set_cons_zero, List.set_cons_succ]
          refine d_take (i := 5) (v := ?_) [7, 8] (some 93) rfl (by rfl) (by kernel_rfl) (by kernel_rfl) (by kernel_rfl) (by kernel_rfl) (by kernel_rfl) (by kernel_rfl) (fun _ _ _ h => h) (.inl ⟨by rfl, ?_⟩) HS1 ?_
          rotate_left 1
          · (intro W hW; (try dsimp only at hW); go_simp; try with_reducible rfl)
          try simp only [Act.put, List.setIfInBounds_toArray, List.set_cons_zero, List.set_cons_succ]
          refine d_take (i := 6) (v := ?_) [7, 8] (some 94) rfl (by rfl) (by kernel_rfl) (by kernel_rfl) (by kernel_rfl) (by kernel_rfl) (by kernel_rfl) (by kernel_rfl) (fun _ _ _ h => h) (.inl ⟨by rfl, ?_⟩) HS1 ?_
          rotate_left 1
          · (intro W hW; (try dsimp only at hW); go_simp; try with_reducible rfl)
          try simp only [Act.put, List.setIfInBounds_toArray, List.set_cons_zero, List.set_cons_succ]
          refine d_call (i := 7) (by kernel_rfl) rfl (by rfl) (fun K hK => ?_)
          simp only [List.getElem_toArray, List.getElem_cons_succ, List.getElem_cons_zero]
          go_simp
          refine PL.out.mono ?_
          rintro e0 w6 ⟨rfl, J6⟩
          have H6 := Lib.hid J6
          clear PL J6
          go_simp
          refine hK.out _ _ (fun h => absurd h (by decide)) ?_
          clear hK K HS1
          try simp only [Act.put, List.setIfInBounds_toArray, List.set_cons_zero, List.set_cons_succ]
          refine d_call (i := 8) (by kernel_rfl) rfl (by rfl) (fun K hK => ?_)
          simp only [List.getElem_toArray, List.getElem_cons_succ, List.getElem_cons_zero]
          go_simp
          refine hK.out _ _ (fun h => absurd h (by decide)) ?_
          clear hK K 
          try simp only [Act.put, List.setIfInBounds_toArray, List.set_cons_zero, List.set_cons_succ]
          refine d_done (by kernel_rfl) ?_ _
          go_wp2_with fail
          go_loopw [13] (fun v13 wr => ∃ z : Nat, v13 = .int .i64 (z : Int) ∧ z ≤ 200 ∧ Hid (PQB w wr nb mb gg qq X (20000 * (n + 5000 + 201 * k + 1 + z)))) (fun v13 _ => 200 - (intOf v13).toNat)
          case atStart => exact ⟨0, rfl, by omega, H6.out⟩
          case round =>
            obtain ⟨z, rfl, hz, HZ⟩ := hrel
            obtain ⟨U5, hU5⟩ : ∃ V : World, V = wr := ⟨_, rfl⟩
            subst hU5
            have HEND2 := Lib.hid (HZ.out.mono (show 20000 * (n + 5000 + 201 * k + 1 + z) ≤ 20000 * (n + 5000 + 201 * (k + 1)) from by omega))
            by_cases hz5 : z < 200
            · have hz6 : (z : Int) < 200 := by omega
              obtain ⟨U, TN⟩ := HZ.out.turn hk2
              obtain ⟨A, m, c, cm0, hm⟩ := TN.pr.mlist
              have cm := HZ.out.mcell hk2
              by_cases hm0 : 0 < m
              · have hm1 : (0 : Int) < m := by omega
                have XA := (Ext.refl U5).drew
                have HS1 : U5.drew.cell? ⟨nb, k, none⟩ = some (.pointer (some ⟨gg k, 0, none⟩)) ∧ U5.drew.cell? ⟨mb, k, none⟩ = some (.pointer (some ⟨qq k, 0, none⟩)) := ⟨(HZ.out.ext XA).gcell hk2, (HZ.out.ext XA).mcell hk2⟩
                have PL := Lib.hid (play_any E (TN.pr.ext XA) (by omega) (HZ.out.wext.trans XA) TN.lo HE.out 2 0 0 0 ⟨by omega, by omega⟩ (Post := fun e w' => e = .returned (.bool true) ∧ PQB w w' nb mb gg qq X (20000 * (n + 5000 + 201 * k + 1 + (z + 1)))) (Lib.hid fun w' h => by
                  obtain ⟨h1, h2⟩ := TN.next w' (h.pre XA)
                  exact ⟨rfl, h1.mono (by omega)⟩))
                clear TN
                go_upto_region 34 with (fail)
                refine d_region (fun W : World => W.cell? ⟨nb, k, none⟩ = some (.pointer (some ⟨gg k, 0, none⟩)) ∧ W.cell? ⟨mb, k, none⟩ = some (.pointer (some ⟨qq k, 0, none⟩))) [7, 8] (by kernel_rfl) ?_
                refine d_take (i := 0) (v := ?_) [1, 2, 7, 8] (some 111) rfl (by rfl) (by kernel_rfl) (by kernel_rfl) (by kernel_rfl) (by kernel_rfl) (by kernel_rfl) (by kernel_rfl) (fun _ _ _ h => h) (.inl ⟨by rfl, ?_⟩) HS1 ?_
                rotate_left 1
                · (intro W hW; (try dsimp only at hW); go_simp; try with_reducible rfl)
                try simp only [Act.put, List.setIfInBounds_toArray, List.set_cons_zero, List.set_cons_succ]
                refine d_take (i := 1) (v := ?_) [2, 7, 8] (some 112) rfl (by rfl) (by kernel_rfl) (by kernel_rfl) (by kernel_rfl) (by kernel_rfl) (by kernel_rfl) (by kernel_rfl) (fun _ _ _ h => h) (.inl ⟨by rfl, ?_⟩) HS1 ?_
                rotate_left 1
                · (intro W hW; (try dsimp only at hW); go_simp; try with_reducible rfl)
                try simp only [Act.put, List.setIfInBounds_toArray, List.set_cons_zero, List.set_cons_succ]
                refine d_take (i := 2) (v := ?_) [7, 8] (some 113) rfl (by rfl) (by kernel_rfl) (by kernel_rfl) (by kernel_rfl) (by kernel_rfl) (by kernel_rfl) (by kernel_rfl) (fun _ _ _ h => h) (.inl ⟨by rfl, ?_⟩) HS1 ?_
                rotate_left 1
                · (intro W hW; (try dsimp only at hW); go_simp; try with_reducible rfl)
                try simp only [Act.put, List.setIfInBounds_toArray, List.set_cons_zero, List.set_cons_succ]
                refine d_take (i := 3) (v := ?_) [4, 5, 7, 8] (some 114) rfl (by rfl) (by kernel_rfl) (by kernel_rfl) (by kernel_rfl) (by kernel_rfl) (by kernel_rfl) (by kernel_rfl) (fun _ _ _ h => h) (.inl ⟨by rfl, ?_⟩) HS1 ?_
                rotate_left 1
                · (intro W hW; (try dsimp only at hW); go_simp; try with_reducible rfl)
                try simp only [Act.put, List.setIfInBounds_toArray, List.set_cons_zero, List.set_cons_succ]
                refine d_take (i := 4) (v := ?_) [5, 7, 8] (some 115) rfl (by rfl) (by kernel_rfl) (by kernel_rfl) (by kernel_rfl) (by kernel_rfl) (by kernel_rfl) (by kernel_rfl) (fun _ _ _ h => h) (.inl ⟨by rfl, ?_⟩) HS1 ?_
                rotate_left 1
                · (intro W hW; (try dsimp only at hW); go_simp; try with_reducible rfl)
                try simp only [Act.put, List.setIfInBounds_toArray, List.set_cons_zero, List.set_cons_succ]
                refine d_take (i := 5) (v := ?_) [7, 8] (some 116) rfl (by rfl) (by kernel_rfl) (by kernel_rfl) (by kernel_rfl) (by kernel_rfl) (by kernel_rfl) (by kernel_rfl) (fun _ _ _ h => h) (.inl ⟨by rfl, ?_⟩) HS1 ?_
                rotate_left 1
                · (intro W hW; (try dsimp only at hW); go_simp; try with_reducible rfl)
                try simp only [Act.put, List.setIfInBounds_toArray, List.set_cons_zero, List.set_cons_succ]
                refine d_take (i := 6) (v := ?_) [7, 8] (some 117) rfl (by rfl) (by kernel_rfl) (by kernel_rfl) (by kernel_rfl) (by kernel_rfl) (by kernel_rfl) (by kernel_rfl) (fun _ _ _ h => h) (.inl ⟨by rfl, ?_⟩) HS1 ?_
                rotate_left 1
                · (intro W hW; (try dsimp only at hW); go_simp; try with_reducible rfl)
                try simp only [Act.put, List.setIfInBounds_toArray, List.set_cons_zero, List.set_cons_succ]
                refine d_call (i := 7) (by kernel_rfl) rfl (by rfl) (fun K hK => ?_)
                simp only [List.getElem_toArray, List.getElem_cons_succ, List.getElem_cons_zero]
                go_simp
                refine PL.out.mono ?_
                rintro e0 w6 ⟨rfl, J6⟩
                have H6 := Lib.hid J6
                clear PL J6
                go_simp
                refine hK.out _ _ (fun h => absurd h (by decide)) ?_
                clear hK K HS1
                try simp only [Act.put, List.setIfInBounds_toArray, List.set_cons_zero, List.set_cons_succ]
                refine d_call (i := 8) (by kernel_rfl) rfl (by rfl) (fun K hK => ?_)
                simp only [List.getElem_toArray, List.getElem_cons_succ, List.getElem_cons_zero]
                go_simp
                refine hK.out _ _ (fun h => absurd h (by decide)) ?_
                clear hK K 
                try simp only [Act.put, List.setIfInBounds_toArray, List.set_cons_zero, List.set_cons_succ]
                refine d_done (by kernel_rfl) ?_ _
                clear cm0 cm
                go_wp2_with fail
                go_roundw
                case rel => exact ⟨z + 1, by go_num, by omega, H6.out⟩
                case measure => simp [intOf]; omega
              · obtain rfl : m = 0 := by omega
                go_wp2_with fail
                go_roundw
                case rel => exact ⟨k + 1, by go_num, by omega, HEND2.out⟩
                case measure => simp [intOf]; omega
            · have hz6 : ¬ (z : Int) < 200 := by omega
              go_wp2_with fail
              go_roundw
              case rel => exact ⟨k + 1, by go_num, by omega, HEND2.out⟩
              case measure => simp [intOf]; omega
        · obtain rfl : k = 2 := by omega
          have HW := Lib.hid HX.out.wext
          go_wp2_with fail
          go_returns
          exact ⟨rfl, HW.out⟩
end Go.Proofs.YtocjbllkgbjihaaDoor
