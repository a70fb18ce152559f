/-
  QueueLeast, walked.
-/
import Derived.Test.YtocjbllkgbjihaaDoorQuList
import Derived.Test.YtocjbllkgbjihaaDoorQuSorts
import Derived.Test.YtocjbllkgbjihaaDoorQuLeast2
import Derived.Test.YtocjbllkgbjihaaDoorSameInts
namespace Go.Proofs.YtocjbllkgbjihaaDoor
set_option maxRecDepth 100000
open Go.RowKit Go.Maps
set_option linter.unusedVariables false
theorem leastL_cut2 (out : List Int) {q n : Nat} (h : q ≤ n) : ints (leastL out q) = (ints (leastL out n)).take q := by
  unfold leastL ints
  rw [← List.map_take, ← List.map_take, List.take_take, Nat.min_eq_left h]
theorem sorted_head {L : List Th} (h0 : 0 < L.length) (hp : HeapN L L.length) : (sortT L)[0]? = some (at_ L 0) := by
  have h9 := heap_least hp
  cases L with
  | nil => simp at h0
  | cons x R =>
    rw [sortT_cons (List.Perm.refl (x :: R)) (fun y hy => h9 y (List.mem_cons_of_mem _ hy))]
    rfl
theorem sorted_next {L L6 S : List Th} {x : Th} {i : Nat} (hp : HeapN L L.length) (hx : x = at_ L 0) (p : (x :: L6).Perm L) (h : sortT L = S.drop i) : sortT L6 = S.drop (i + 1) := by
  have h9 := heap_least hp
  rw [← hx] at h9
  have h10 := sortT_cons p (fun y hy => h9 y (p.mem_iff.1 (List.mem_cons_of_mem _ hy)))
  rw [h] at h10
  rw [← List.drop_drop, h10]
  rfl
set_option maxHeartbeats 6400000 in
theorem leasts_any (A : Option Addr) (n c : Nat) (ranks : List Int) (N : Int) (w : World) (hr : Rd w 1 A n (ints ranks)) (hrl : ranks.length = n) {pg : Addr} (hG : Sen w 0 pg) :
    Calls Tryd.prog 6 #[.slice A n c, .int .i64 N] w fun e w' => e = .returned (.bool true) ∧ Ext w w' := by
  have CA := Lib.hid (alive_any w)
  by_cases hbig : 4096 < n
  · have k0 : (4096 : Int) < n := by omega
    clear hr
    go_enter Tryd.func6, Tryd.ntmps6
    go_wp2_with (refine CA.out.mono ?_; rintro e w1 ⟨rfl, x1⟩)
    go_returns
    exact ⟨rfl, x1⟩
  · have k0 : ¬ (4096 : Int) < n := by omega
    have HA := Lib.hid (And.intro hr (And.intro hrl hG))
    clear hr hG
    go_enter Tryd.func6, Tryd.ntmps6
    go_wp2_with (go_at_call 8; refine CA.out.mono ?_; rintro e w1 ⟨rfl, x1⟩)
    have C0 := Lib.hid (qnew_any w1)
    have X1 := Lib.hid x1
    clear CA x1
    refine C0.out.mono ?_
    rintro e w2 ⟨g, F, rfl, q2, hF, x2⟩
    have H2 : Hid (QP w2 g F [] 0 ∧ (∀ b, F b → w.heap.size ≤ b) ∧ Ext w w2) := Lib.hid (And.intro q2 (And.intro (fun b hb => Nat.le_trans X1.out.size (hF b hb)) (X1.out.trans x2)))
    clear C0 X1 q2 hF x2
    go_wp2_with fail
    go_loopw [26] (fun v26 wr => ∃ k : Nat, v26 = .int .i64 (k : Int) ∧ k ≤ n ∧ Hid (∃ F L, QP wr g F L (20000 * k) ∧ L.Perm ((thingsOf ranks).take k) ∧ Ext w wr ∧ ∀ b, F b → w.heap.size ≤ b)) (fun v26 _ => n - (intOf v26).toNat)
    case atStart => exact ⟨0, rfl, by omega, F, [], H2.out.1, List.Perm.refl _, H2.out.2.2, H2.out.2.1⟩
    case round =>
      obtain ⟨k, rfl, hk, HI⟩ := hrel
      by_cases hlt : k < n
      · obtain ⟨F1, L1, h1, h2, h3, h4⟩ := HI.out
        obtain ⟨r, hrk⟩ : ∃ r, ranks[k]? = some r := ⟨ranks[k]'(by omega), List.getElem?_eq_getElem _⟩
        obtain ⟨ad, rfl, _, z1⟩ := (HA.out.1.ext h3).at_ hlt
        have y1 := z1 k _ (ints_at' hrk)
        have hll : L1.length = k := by rw [h2.length_eq, List.length_take, thingsOf_len]; omega
        have C1 := Lib.hid (qpush_ok h1 ⟨(k : Int), r⟩ ⟨by show (_ : Int) ≤ (k : Int); omega, by show (k : Int) ≤ _; omega⟩ (fun y hy => thingsOf_new y (h2.mem_iff.1 hy)) (by omega) (by omega))
        have H1 := Lib.hid (And.intro h1 (And.intro h2 (And.intro h3 (And.intro h4 (And.intro hrk hll)))))
        have k1 : (0 : Int) ≤ k := by omega
        have k2 : (k : Int) < n := by omega
        clear h1 h2 h3 h4 z1 hrk hll HI
        go_upto_region 11 with (fail)
        go_wp2_with (go_at_call 10; refine C1.out.mono ?_; rintro e w5 ⟨rfl, F5, L5, n5, p5⟩)
        have hl5 : L5.length = k + 1 := by rw [p5.length_eq, List.length_cons, H1.out.2.2.2.2.2]
        have C2 := Lib.hid (qlen_any n5.qp)
        rw [hl5, show ((k + 1 : Nat) : Int) = (k : Int) + 1 by omega] at C2
        have e5 := n5.from_ H1.out.2.2.1 H1.out.2.2.2.1
        have HE : Hid (∃ F L, QP w5 g F L (20000 * (k + 1)) ∧ L.Perm ((thingsOf ranks).take (k + 1)) ∧ Ext w w5 ∧ ∀ b, F b → w.heap.size ≤ b) := Lib.hid ⟨F5, L5, by have := n5.qp; rwa [show 20000 * k + 20000 = 20000 * (k + 1) by omega] at this, by
          rw [take_succ' (thingsOf_at H1.out.2.2.2.2.1)]
          exact p5.trans ((H1.out.2.1.cons _).trans (List.perm_append_singleton _ _).symm), e5.1, e5.2⟩
        clear C1 n5 p5 e5 hl5 y1
        go_wp2_with (refine C2.out.mono ?_; rintro e w6 ⟨rfl, rfl⟩)
        go_roundw
        case rel => exact ⟨k + 1, by go_num, by omega, HE.out⟩
        case measure => simp [intOf]; omega
      · obtain rfl : n = k := by omega
        obtain ⟨F1, L1, h1, h2, h3, h4⟩ := HI.out
        rw [List.take_of_length_le (by rw [thingsOf_len]; omega)] at h2
        have hS := sortT_congr h2
        obtain ⟨S, hSd⟩ : ∃ S, sortT (thingsOf ranks) = S := ⟨_, rfl⟩
        have hSl : S.length = n := by rw [← hSd, sortT_len, thingsOf_len]; omega
        have hl1 : L1.length = n := by rw [h2.length_eq, thingsOf_len]; omega
        have CL := Lib.hid (list_any h1 hl1)
        rw [hS, hSd] at CL
        obtain ⟨K, hK⟩ : ∃ K : Nat, (K : Int) = max 0 (min N n) := ⟨(max 0 (min N n)).toNat, by omega⟩
        have hKn : K ≤ n := by omega
        have CM := Lib.hid (fun (W : World) (hx : Ext wr W) => least_any A n c ranks n n W (HA.out.1.ext (h3.trans hx)) hrl (by omega) (Lib.hid (by omega)))
        have CK := Lib.hid (fun (W : World) (hx : Ext wr W) => least_any A n c ranks N K W (HA.out.1.ext (h3.trans hx)) hrl (by omega) (Lib.hid hK))
        have H3 := Lib.hid (And.intro h1 (And.intro (hS.trans hSd) (And.intro h3 (And.intro h4 (And.intro hSd hSl)))))
        clear h1 h2 h3 h4 hS hSd HI H2 hl1
        generalize wr = W0 at *
        go_upto_region 15 with (go_at_call 23; refine CL.out.mono ?_; rintro e w6 ⟨B, d, rfl, o6, x6⟩)
        go_upto_region 16 with (go_at_call 17; refine (CM.out _ x6).mono ?_; rintro e w7 ⟨B2, d2, rfl, o7, x7⟩)
        go_upto_region 17 with (go_at_call 17; refine (CK.out _ (x6.trans x7)).mono ?_; rintro e w8 ⟨B3, d3, rfl, o8, x8⟩)
        have H6s : Hid (W0.heap.size ≤ w6.heap.size) := Lib.hid x6.size
        have hd7 := o7.cap_le
        have rs := run_slice_hi (P := Tryd.prog) eltI B2 n d2 .i64 K (by omega)
        have hmin : min (max N 0) (n : Int) = (K : Int) := by omega
        have CS := Lib.hid (same_ints B3 B2 K d3 d2 (leastL ranks K) w8 o8.rd (by
          have h := (o7.ext x8).rd.take_ (k := K) (by omega)
          rw [Nat.mul_one] at h
          rw [leastL_cut2 ranks hKn]
          exact h) (by omega))
        have H8 := Lib.hid (And.intro (o6.ext (x7.trans x8)) (And.intro (o7.ext x8) (x6.trans (x7.trans x8))))
        clear CL CM CK o6 x6 o7 x7 o8 x8
        clear hK
        go_upto_region 19 with (go_at_call 18; refine CS.out.mono ?_; rintro e w9 ⟨rfl, x9⟩)
        have H9 : Hid (∃ F L, QP w9 g F L (20000 * (n + 0)) ∧ sortT L = S.drop 0 ∧ Own w9 w.heap.size 34 2 B n d (trows S).flatten ∧ (∀ a, B = some a → ¬ F a.block) ∧ Own w9 w.heap.size 3 1 B2 n d2 (ints (leastL ranks n)) ∧ (∀ a, B2 = some a → ¬ F a.block) ∧ Ext w w9 ∧ ∀ b, F b → w.heap.size ≤ b) := Lib.hid (by
          have hx := H8.out.2.2.trans x9
          refine ⟨F1, L1, H3.out.1.ext hx, H3.out.2.1, (H8.out.1.ext x9).base_mono H3.out.2.2.1.size, fun a ha e => ?_, (H8.out.2.1.ext x9).base_mono ?_, fun a ha e => ?_, H3.out.2.2.1.trans hx, H3.out.2.2.2.1⟩
          · have h1 := H8.out.1.base_le a.block (by rw [ha]; rfl)
            have h2 := H3.out.1.lt _ e
            omega
          · exact Nat.le_trans H3.out.2.2.1.size H6s.out
          · have h1 := H8.out.2.1.base_le a.block (by rw [ha]; rfl)
            have h2 := H3.out.1.lt _ e
            have h3 := H6s.out
            omega)
        have HS := Lib.hid (And.intro H3.out.2.2.2.2.1 H3.out.2.2.2.2.2)
        clear H3 H8 CS x9 rs hmin hd7 H6s
        go_wp2_with fail
        go_loopw [86] (fun v86 wr => ∃ i : Nat, v86 = .int .i64 (i : Int) ∧ i ≤ n ∧ Hid (∃ F L, QP wr g F L (20000 * (n + i)) ∧ sortT L = S.drop i ∧ Own wr w.heap.size 34 2 B n d (trows S).flatten ∧ (∀ a, B = some a → ¬ F a.block) ∧ Own wr w.heap.size 3 1 B2 n d2 (ints (leastL ranks n)) ∧ (∀ a, B2 = some a → ¬ F a.block) ∧ Ext w wr ∧ ∀ b, F b → w.heap.size ≤ b)) (fun v86 _ => n - (intOf v86).toNat)
        case atStart => exact ⟨0, rfl, by omega, H9.out⟩
        case round =>
          obtain ⟨i, rfl, hi, HI⟩ := hrel
          by_cases hlt2 : i < n
          · obtain ⟨F5, L5, h1, h2, h3, h4, h5, h6, h7, h8⟩ := HI.out
            have hl5 : L5.length = n - i := by rw [← sortT_len, h2, List.length_drop, HS.out.2]
            obtain ⟨x, hx⟩ : ∃ x, x = at_ L5 0 := ⟨_, rfl⟩
            have hSi : S[i]? = some x := by
              have h11 := sorted_head (L := L5) (by omega) h1.hp
              rw [h2, ← hx, List.getElem?_drop] at h11
              exact h11
            obtain ⟨p, hp, hpid⟩ := thingsOf_mem (ranks := ranks) (x := x) (by
              have h9 : x ∈ S := List.mem_of_getElem? hSi
              rw [← HS.out.1] at h9
              exact (sortT_perm _).mem_iff.1 h9)
            have hli : (leastL ranks n)[i]? = some (p : Int) := by
              unfold leastL
              rw [HS.out.1, List.take_of_length_le (by rw [HS.out.2]; exact Nat.le_refl _), List.getElem?_map, hSi, ← hpid]
              rfl
            obtain ⟨xi, xr⟩ := x
            dsimp only at hp hpid
            subst hpid
            have hpn : p < n := by have := (List.getElem?_eq_some_iff.1 hp).1; omega
            have C1 := Lib.hid (qpop_ok h1 (m := n - i - 1) (by omega) (by omega) (Lib.hid hx))
            have H5 := Lib.hid (And.intro h1 (And.intro h2 (And.intro h3 (And.intro h4 (And.intro h5 (And.intro h6 (And.intro h7 (And.intro h8 (And.intro hx (And.intro hSi (And.intro hp hli)))))))))))
            have i1 : (i : Int) < n := by omega
            have i2 : (0 : Int) ≤ i := by omega
            have p1 : (p : Int) < n := by omega
            have p2 : (0 : Int) ≤ p := by omega
            clear h1 h2 h3 h4 h5 h6 h7 h8 hx hSi hp hli hl5 HI
            go_upto_region 22 with (fail)
            go_upto_region 23 with (go_at_call 13; refine C1.out.mono ?_; rintro e w6 ⟨rfl, F6, L6, n6, p6⟩)
            have X8 := (Ext.refl w6).alloc (.cells #[.int .i64 (p : Int), .int .i64 xr] 34)
            have hb8 := heap_alloc_new w6 (.cells #[.int .i64 (p : Int), .int .i64 xr] 34)
            have e6 := n6.from_ H5.out.2.2.2.2.2.2.1 H5.out.2.2.2.2.2.2.2.1
            have o1 := (n6.fr.own H5.out.2.2.1 H5.out.2.2.2.1).ext X8
            have o2 := (n6.fr.own H5.out.2.2.2.2.1 H5.out.2.2.2.2.2.1).ext X8
            have hS6 := sorted_next H5.out.1.hp H5.out.2.2.2.2.2.2.2.2.1 p6 H5.out.2.1
            have q8 := n6.qp.ext X8
            have HE : Hid (∃ F L, QP (w6.alloc (.cells #[.int .i64 (p : Int), .int .i64 xr] 34)) g F L (20000 * (n + (i + 1))) ∧ sortT L = S.drop (i + 1) ∧ Own (w6.alloc (.cells #[.int .i64 (p : Int), .int .i64 xr] 34)) w.heap.size 34 2 B n d (trows S).flatten ∧ (∀ a, B = some a → ¬ F a.block) ∧ Own (w6.alloc (.cells #[.int .i64 (p : Int), .int .i64 xr] 34)) w.heap.size 3 1 B2 n d2 (ints (leastL ranks n)) ∧ (∀ a, B2 = some a → ¬ F a.block) ∧ Ext w (w6.alloc (.cells #[.int .i64 (p : Int), .int .i64 xr] 34)) ∧ ∀ b, F b → w.heap.size ≤ b) := Lib.hid
              ⟨F6, L6, q8.mono (by omega), hS6, o1, fun a ha => n6.out (H5.out.2.2.1.lt_at ha) (H5.out.2.2.2.1 a ha), o2, fun a ha => n6.out (H5.out.2.2.2.2.1.lt_at ha) (H5.out.2.2.2.2.2.1 a ha), e6.1.trans X8, e6.2⟩
            obtain ⟨T, rfl⟩ := o1.head (by omega)
            obtain ⟨T2, rfl⟩ := o2.head (by omega)
            obtain ⟨i2, hi2⟩ : ∃ i2, i * 2 = i2 := ⟨_, rfl⟩
            have l0 : (w6.alloc (.cells #[.int .i64 (p : Int), .int .i64 xr] 34)).cell? ⟨T, i2, none⟩ = some (.int .i64 (p : Int)) := o1.rowAt (trows_even S) (trows_at H5.out.2.2.2.2.2.2.2.2.2.1) hi2 (i := 0) rfl
            have l1 : (w6.alloc (.cells #[.int .i64 (p : Int), .int .i64 xr] 34)).cell? ⟨T, i2 + 1, none⟩ = some (.int .i64 xr) := o1.rowAt (trows_even S) (trows_at H5.out.2.2.2.2.2.2.2.2.2.1) hi2 (i := 1) rfl
            have m0 := o2.cellAt hlt2 (ints_at' H5.out.2.2.2.2.2.2.2.2.2.2.2)
            obtain ⟨ad, rfl, _, z1⟩ := (HA.out.1.ext (e6.1.trans X8)).at_ hpn
            have r0 := z1 p _ (ints_at' H5.out.2.2.2.2.2.2.2.2.2.2.1)
            have b0 := block_cell hb8 0
            have b1 := block_cell hb8 1
            clear n6 p6 X8 hb8 e6 o1 o2 hS6 q8 z1 C1
            generalize w6.alloc (.cells #[.int .i64 (p : Int), .int .i64 xr] 34) = V6 at *
            generalize w6.heap.size = xb at *
            go_quiet (fail)
            have HE2 : Hid (∃ F L, QP (V6.drewN nq) g F L (20000 * (n + (i + 1))) ∧ sortT L = S.drop (i + 1) ∧ Own (V6.drewN nq) w.heap.size 34 2 (some ⟨T, 0, none⟩) n d (trows S).flatten ∧ (∀ a, some (⟨T, 0, none⟩ : Addr) = some a → ¬ F a.block) ∧ Own (V6.drewN nq) w.heap.size 3 1 (some ⟨T2, 0, none⟩) n d2 (ints (leastL ranks n)) ∧ (∀ a, some (⟨T2, 0, none⟩ : Addr) = some a → ¬ F a.block) ∧ Ext w (V6.drewN nq) ∧ ∀ b, F b → w.heap.size ≤ b) := Lib.hid (by
              obtain ⟨F, L, a1, a2, a3, a4, a5, a6, a7, a8⟩ := HE.out
              exact ⟨F, L, a1.ext ((Ext.refl V6).drewN nq), a2, a3.drewN nq, a4, a5.drewN nq, a6, a7.drewN nq, a8⟩)
            clear l0 l1 m0 r0 b0 b1 HE
            go_wp2_with fail
            go_roundw
            case rel => exact ⟨i + 1, by go_num, by omega, HE2.out⟩
            case measure => simp [intOf]; omega
          · obtain rfl : n = i := by omega
            obtain ⟨F5, L5, h1, h2, h3, h4, h5, h6, h7, h8⟩ := HI.out
            obtain rfl : L5 = [] := List.eq_nil_of_length_eq_zero (by rw [← sortT_len, h2, List.length_drop, HS.out.2]; omega)
            have C1 := Lib.hid (qpeek_gone h1 (HA.out.2.2.ext h7))
            have H5 := Lib.hid h7
            clear h1 h2 h3 h4 h5 h6 h7 h8 HI
            go_wp2_with fail
            refine C1.out.mono ?_
            rintro e w6 ⟨rfl, x6⟩
            have X7 := H5.out.trans (x6.trans ((Ext.refl w6).alloc (.cells #[.int .i64 0, .int .i64 0] 34)))
            have eg := (HA.out.2.2.ext X7).2.1
            have HXX := Lib.hid X7
            have hes := err_same
            clear C1 X7 x6
            go_wp2_with fail
            go_returns
            exact ⟨rfl, HXX.out⟩
end Go.Proofs.YtocjbllkgbjihaaDoor
