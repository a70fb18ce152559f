/-
  play, walked: List; any call.
-/
import Derived.Test.YtocjbllkgbjihaaDoorQuPlayB
namespace Go.Proofs.YtocjbllkgbjihaaDoor
set_option maxRecDepth 100000
open Go.RowKit Go.Maps
set_option linter.unusedVariables false
section
variable {W w : World} {g q Z : Nat} {U : Nat → Prop} {E : Nat → Addr}
set_option maxHeartbeats 6400000 in
theorem play_list (E : Nat → Addr) (h : QPair w g q U Z) (hZ : Z < 4611686018427000000) (hW : Ext W w) (hU : ∀ b, U b → W.heap.size ≤ b) (hE : Errs W E) (Wh I R : Int)
    {Post : Ending → World → Prop} (hPost : Hid (∀ w', QNxt w w' g q U (Z + 20000) → Post (.returned (.bool true)) w')) :
    Calls Tryd.prog 25 #[.pointer (some ⟨g, 0, none⟩), .pointer (some ⟨q, 0, none⟩), .agg #[.int .i64 6, .int .i64 Wh, .int .i64 I, .int .i64 R]] w Post := by
  obtain ⟨F, M, L, N, J, hp⟩ := h.start
  have HE := Lib.hid (fun w' (hf : Fr w w' U) => (show Errs w' E from hE.ext (Fr.ext hW hf hU)))
  have X0 := (Ext.refl w).alloc (.cells #[.int .i64 6, .int .i64 Wh, .int .i64 I, .int .i64 R] 58)
  have hob := heap_alloc_new w (.cells #[.int .i64 6, .int .i64 Wh, .int .i64 I, .int .i64 R] 58)
  have HB := Lib.hid (And.intro (fun b (hb : F b) => J.qp.lt b hb) (fun b (hb : M b) => J.rq.lt b hb))
  have J0 := J.ex X0
  have hlen := hp.length_eq
  have hfew := J.qp.few
  obtain ⟨n, hn⟩ : ∃ n, L.length = n := ⟨_, rfl⟩
  have HP := Lib.hid (And.intro hp (And.intro (show N.length = n by omega) (And.intro (show n ≤ 4096 by omega) hn)))
  have HV := Lib.hid J0
  have hn4 : n ≤ 4096 := by omega
  have C1 := Lib.hid (list_any J0.qp hn)
  clear h J X0 hob J0 hW hU hE hp hlen hfew hn
  go_enter Tryd.func25, Tryd.ntmps25
  go_upto_region 22 with (fail)
  generalize w.alloc (.cells #[.int .i64 6, .int .i64 Wh, .int .i64 I, .int .i64 R] 58) = V at *
  generalize hobn : w.heap.size = ob at *
  have HOB := Lib.hid hobn
  clear hobn
  go_upto_region 23 with (go_at_call 23; refine C1.out.mono ?_; rintro e w1 ⟨B, d, rfl, o1, x1⟩)
  have J1 := HV.out.ex x1
  have HB1 : Hid (∀ b, B.map (·.block) = some b → ¬ F b ∧ ¬ M b ∧ w.heap.size ≤ b) := Lib.hid (fun b hb => by
    have h1 := o1.base_le b hb
    exact ⟨fun e => by have := HV.out.qp.lt b e; omega, fun e => by have := HV.out.rq.lt b e; omega, Nat.le_trans HV.out.fr.size h1⟩)
  obtain ⟨A, n2, c, q1, q2, q3⟩ := J1.rq.ex
  have hl2 := rlen_eq q2
  obtain rfl : n = n2 := by have := HP.out.2.1; omega
  have y2 : w1.cell? ⟨q, 0, none⟩ = some (.slice A n c) := block_cell q1 0
  have HS := Lib.hid ((sortT_congr HP.out.1).symm)
  have C2 := Lib.hid (rsorted_any J1.rq HP.out.2.1 (by omega))
  have H1 := Lib.hid (And.intro J1 (And.intro o1 HB1.out))
  clear C1 J1 q1 q2 q3 hl2 o1 x1
  have key : Hid (∀ wr, Ext w1 wr → ∃ S, S.length = n ∧ Own wr 0 34 2 B n d (trows S).flatten ∧ QG w wr g q U F M L N Z) := Lib.hid (fun wr x => ⟨sortT L, by rw [sortT_len]; exact HP.out.2.2.2, (H1.out.2.1.ext x).base_mono (Nat.zero_le _), H1.out.1.ex x⟩)
  by_cases hbig : 200 < n
  · have g1 : (200 : Int) < n := by omega
    have HK := Lib.hid (key.out w1 (Ext.refl _))
    clear C2
    go_upto_region 25 with (fail)
    clear y2
    go_loopw [140] (fun v140 wr => ∃ i : Nat, v140 = .int .i64 (i : Int) ∧ i ≤ n ∧ Hid (∃ S, S.length = n ∧ Own wr 0 34 2 B n d (trows S).flatten ∧ QG w wr g q U F M L N Z)) (fun v140 _ => n - (intOf v140).toNat)
    case atStart => exact ⟨0, rfl, by omega, HK.out⟩
    case round =>
      obtain ⟨i, rfl, hi, HI⟩ := hrel
      obtain ⟨S, h1, h2, h3⟩ := HI.out
      by_cases hlt : i < n
      · obtain ⟨T, rfl⟩ := h2.head (by omega)
        obtain ⟨i2, hi2⟩ : ∃ i2, i * 2 = i2 := ⟨_, rfl⟩
        have hx := at_some (L := S) (k := i) (by omega)
        obtain ⟨y0, y1, z0, z1⟩ := own_at h2 hx hi2
        have o3 := own_set h2 (show i < S.length by omega) hi2 ⟨-1, -1⟩
        have f3 := Fr.store2 wr T i2 (i2 + 1) (.int .i64 (-1)) (.int .i64 (-1))
        have HE2 : Hid (∃ S, S.length = n ∧ Own ((wr.setCell ⟨T, i2, none⟩ (.int .i64 (-1))).setCell ⟨T, i2 + 1, none⟩ (.int .i64 (-1))) 0 34 2 (some ⟨T, 0, none⟩) n d (trows S).flatten ∧ QG w ((wr.setCell ⟨T, i2, none⟩ (.int .i64 (-1))).setCell ⟨T, i2 + 1, none⟩ (.int .i64 (-1))) g q U F M L N Z) := Lib.hid
          ⟨S.set i ⟨-1, -1⟩, by rw [List.length_set]; exact h1, o3, h3.wr f3 (fun b e => by subst e; exact HB1.out _ rfl)⟩
        have i0 : (0 : Int) ≤ i := by omega
        have i1 : (i : Int) < n := by omega
        clear h1 h2 h3 hx o3 f3 HI
        go_wp2_with fail
        go_roundw
        case rel => exact ⟨i + 1, by go_num, by omega, HE2.out⟩
        case measure => simp [intOf]; omega
      · obtain rfl : n = i := by omega
        obtain ⟨A2, n3, c3, q1, q2, q3⟩ := h3.rq.ex
        have hl3 := rlen_eq q2
        obtain rfl : n = n3 := by have := HP.out.2.1; omega
        have y3 : wr.cell? ⟨q, 0, none⟩ = some (.slice A2 n c3) := block_cell q1 0
        have CL := Lib.hid (fun k => (qlen_any (h3.ex ((Ext.refl wr).drewN k)).qp))
        rw [HP.out.2.2.2] at CL
        have HF := Lib.hid (fun k => ((h3.ex ((Ext.refl wr).drewN k)).done HP.out.1).mono (show Z ≤ Z + 20000 by omega))
        clear h1 h2 h3 q1 q2 q3 hl3 HI
        go_upto_region 29 with (fail)
        go_quiet ((go_at_call 15; exact Calls.quiet_of_same ((CL.out _).mono fun e w' h => ⟨h.1, h.2.symm⟩)))
        go_wp2_with fail
        exact hPost.out _ (HF.out _)
  · have g1 : ¬ (200 : Int) < n := by omega
    go_upto_region 24 with (first | (go_at_call 45; refine C2.out.mono ?_; rintro e w5 ⟨B5, d5, rfl, o5, x5⟩) | (go_at_call 44; refine (same_things B B5 n d d5 (sortT L) w5 _ _ (H1.out.2.1.ext x5) (by rw [← HS.out]; exact o5) (by rw [sortT_len]; exact HP.out.2.2.2) (by omega)).mono ?_; rintro e w6 ⟨rfl, x6⟩))
    have HK := Lib.hid (key.out w6 (x5.trans x6))
    clear C2 o5 x5 x6 y2
    go_upto_region 25 with (fail)
    go_loopw [140] (fun v140 wr => ∃ i : Nat, v140 = .int .i64 (i : Int) ∧ i ≤ n ∧ Hid (∃ S, S.length = n ∧ Own wr 0 34 2 B n d (trows S).flatten ∧ QG w wr g q U F M L N Z)) (fun v140 _ => n - (intOf v140).toNat)
    case atStart => exact ⟨0, rfl, by omega, HK.out⟩
    case round =>
      obtain ⟨i, rfl, hi, HI⟩ := hrel
      obtain ⟨S, h1, h2, h3⟩ := HI.out
      by_cases hlt : i < n
      · obtain ⟨T, rfl⟩ := h2.head (by omega)
        obtain ⟨i2, hi2⟩ : ∃ i2, i * 2 = i2 := ⟨_, rfl⟩
        have hx := at_some (L := S) (k := i) (by omega)
        obtain ⟨y0, y1, z0, z1⟩ := own_at h2 hx hi2
        have o3 := own_set h2 (show i < S.length by omega) hi2 ⟨-1, -1⟩
        have f3 := Fr.store2 wr T i2 (i2 + 1) (.int .i64 (-1)) (.int .i64 (-1))
        have HE2 : Hid (∃ S, S.length = n ∧ Own ((wr.setCell ⟨T, i2, none⟩ (.int .i64 (-1))).setCell ⟨T, i2 + 1, none⟩ (.int .i64 (-1))) 0 34 2 (some ⟨T, 0, none⟩) n d (trows S).flatten ∧ QG w ((wr.setCell ⟨T, i2, none⟩ (.int .i64 (-1))).setCell ⟨T, i2 + 1, none⟩ (.int .i64 (-1))) g q U F M L N Z) := Lib.hid
          ⟨S.set i ⟨-1, -1⟩, by rw [List.length_set]; exact h1, o3, h3.wr f3 (fun b e => by subst e; exact HB1.out _ rfl)⟩
        have i0 : (0 : Int) ≤ i := by omega
        have i1 : (i : Int) < n := by omega
        clear h1 h2 h3 hx o3 f3 HI
        go_wp2_with fail
        go_roundw
        case rel => exact ⟨i + 1, by go_num, by omega, HE2.out⟩
        case measure => simp [intOf]; omega
      · obtain rfl : n = i := by omega
        obtain ⟨A2, n3, c3, q1, q2, q3⟩ := h3.rq.ex
        have hl3 := rlen_eq q2
        obtain rfl : n = n3 := by have := HP.out.2.1; omega
        have y3 : wr.cell? ⟨q, 0, none⟩ = some (.slice A2 n c3) := block_cell q1 0
        have CL := Lib.hid (fun k => (qlen_any (h3.ex ((Ext.refl wr).drewN k)).qp))
        rw [HP.out.2.2.2] at CL
        have HF := Lib.hid (fun k => ((h3.ex ((Ext.refl wr).drewN k)).done HP.out.1).mono (show Z ≤ Z + 20000 by omega))
        clear h1 h2 h3 q1 q2 q3 hl3 HI
        go_upto_region 29 with (fail)
        go_quiet ((go_at_call 15; exact Calls.quiet_of_same ((CL.out _).mono fun e w' h => ⟨h.1, h.2.symm⟩)))
        go_wp2_with fail
        exact hPost.out _ (HF.out _)
set_option maxHeartbeats 1600000 in
theorem play_any (E : Nat → Addr) (h : QPair w g q U Z) (hZ : Z < 4611686018427000000) (hW : Ext W w) (hU : ∀ b, U b → W.heap.size ≤ b) (hE : Errs W E) (K Wh I R : Int) (hI : i64 I)
    {Post : Ending → World → Prop} (hPost : Hid (∀ w', QNxt w w' g q U (Z + 20000) → Post (.returned (.bool true)) w')) :
    Calls Tryd.prog 25 #[.pointer (some ⟨g, 0, none⟩), .pointer (some ⟨q, 0, none⟩), .agg #[.int .i64 K, .int .i64 Wh, .int .i64 I, .int .i64 R]] w Post := by
  by_cases h1 : K = 1
  · subst h1; exact play_push E h hZ hW hU hE Wh I R hI hPost
  by_cases h2 : K = 2
  · subst h2; exact play_pop E h hZ hW hU hE Wh I R hPost
  by_cases h3 : K = 3
  · subst h3; exact play_peek E h hZ hW hU hE Wh I R hPost
  by_cases h4 : K = 4
  · subst h4; exact play_turn E h hZ hW hU hE Wh I R hI hPost
  by_cases h5 : K = 5
  · subst h5; exact play_drop E h hZ hW hU hE Wh I R hI hPost
  by_cases h6 : K = 6
  · subst h6; exact play_list E h hZ hW hU hE Wh I R hPost
  exact play_else E h hZ hW hU hE Wh I R K h1 h2 h3 h4 h5 h6 hPost
end
end Go.Proofs.YtocjbllkgbjihaaDoor
