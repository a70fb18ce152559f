/-
  play, walked: Pop, Peek, List, any other.
-/
import Derived.Test.YtocjbllkgbjihaaDoorQuPlayA
namespace Go.Proofs.YtocjbllkgbjihaaDoor
set_option maxRecDepth 100000
open Go.RowKit Go.Maps
set_option linter.unusedVariables false
structure BPop (E : Nat → Addr) (w : World) (g q Z : Nat) (F : Nat → Prop) (N : List Th) (x : Th) (r : Value) (n : Int) : Prop where
  g : Calls Tryd.prog 13 #[.pointer (some ⟨g, 0, none⟩)] w fun e w' => e = .returned (.tuple #[.agg #[.int .i64 x.id, .int .i64 x.rank], r]) ∧ ∃ F' L', QN w w' g F F' L' (Z + 20000) ∧ ∀ w2 M, RQ w2 q M N → Calls Tryd.prog 33 #[.pointer (some ⟨q, 0, none⟩)] w2 fun e w3 => e = .returned (.tuple #[.agg #[.int .i64 x.id, .int .i64 x.rank], .int .i64 n]) ∧ ∃ M' N', RN w2 w3 q M M' N' ∧ L'.Perm N'
  num : ∀ w2, Errs w2 E → Calls Tryd.prog 39 #[r] w2 fun e w3 => e = .returned (.int .i64 n) ∧ Ext w2 w3
section
variable {W w : World} {g q Z : Nat} {U F : Nat → Prop} {L N : List Th} {E : Nat → Addr}
theorem both_pop (h : QP w g F L Z) (hp : L.Perm N) (hE : Errs w E) (hZ : Z < 4611686018427000000) : ∃ x r n, BPop E w g q Z F N x r n := by
  have hlen := hp.length_eq
  have hfew := h.few
  rcases Nat.eq_zero_or_pos L.length with h0 | h0
  · obtain rfl : L = [] := List.eq_nil_of_length_eq_zero h0
    obtain rfl : N = [] := List.eq_nil_of_length_eq_zero (by rw [← hlen]; rfl)
    refine ⟨⟨0, 0⟩, _, 5, (qpop_gone h (hE.sen _ (by decide))).mono ?_, fun w2 h2 => num_gone E w2 h2⟩
    rintro e w' ⟨rfl, x⟩
    exact ⟨rfl, F, [], (QN.same h x).mono (by omega), fun w2 M hM => (rpop_gone hM).mono (by rintro e w3 ⟨rfl, x3⟩; exact ⟨rfl, M, [], RN.same hM x3, List.Perm.refl _⟩)⟩
  · have hxm := at_mem h0
    have hxl := heap_least h.hp
    refine ⟨at_ L 0, _, 0, (qpop_ok h (m := L.length - 1) (by omega) hZ (Lib.hid rfl)).mono ?_, fun w2 h2 => num_nil w2⟩
    rintro e w' ⟨rfl, F', L', n1, p1⟩
    refine ⟨rfl, F', L', n1, fun w2 M hM => (rpop_ok hM (by omega) (hp.mem_iff.1 hxm) (fun z hz => hxl z (hp.mem_iff.2 hz))).mono ?_⟩
    rintro e w3 ⟨rfl, M', N', n3, p3⟩
    exact ⟨rfl, M', N', n3, (List.perm_cons (at_ L 0)).1 (p1.trans (hp.trans p3.symm))⟩
theorem QNxt.mono {w w' : World} (h : QNxt w w' g q U Z) {Z' : Nat} (hz : Z ≤ Z') : QNxt w w' g q U Z' := by
  obtain ⟨U', h1, h2⟩ := h.ex
  exact ⟨⟨U', h1.mono hz, h2⟩, h.fr⟩
set_option maxHeartbeats 6400000 in
theorem play_pop (E : Nat → Addr) (h : QPair w g q U Z) (hZ : Z < 4611686018427000000) (hW : Ext W w) (hU : ∀ b, U b → W.heap.size ≤ b) (hE : Errs W E) (Wh I R : Int)
    {Post : Ending → World → Prop} (hPost : Hid (∀ w', QNxt w w' g q U (Z + 20000) → Post (.returned (.bool true)) w')) :
    Calls Tryd.prog 25 #[.pointer (some ⟨g, 0, none⟩), .pointer (some ⟨q, 0, none⟩), .agg #[.int .i64 2, .int .i64 Wh, .int .i64 I, .int .i64 R]] w Post := by
  obtain ⟨F, M, L, N, J, hp⟩ := h.start
  have HE := Lib.hid (fun w' (hf : Fr w w' U) => (show Errs w' E from hE.ext (Fr.ext hW hf hU)))
  have X0 := (Ext.refl w).alloc (.cells #[.int .i64 2, .int .i64 Wh, .int .i64 I, .int .i64 R] 58)
  have hob := heap_alloc_new w (.cells #[.int .i64 2, .int .i64 Wh, .int .i64 I, .int .i64 R] 58)
  have HB := Lib.hid (And.intro (fun b (hb : F b) => J.qp.lt b hb) (fun b (hb : M b) => J.rq.lt b hb))
  have J0 := J.ex X0
  obtain ⟨x, r, n, BS⟩ := both_pop (E := E) (q := q) J0.qp hp (HE.out _ J0.fr) hZ
  have HV := Lib.hid (And.intro J0 BS.num)
  have C1 := Lib.hid BS.g
  clear BS h hp J X0 hob J0 hW hU hE
  go_enter Tryd.func25, Tryd.ntmps25
  go_upto_region 6 with (fail)
  generalize w.alloc (.cells #[.int .i64 2, .int .i64 Wh, .int .i64 I, .int .i64 R] 58) = V at *
  generalize hobn : w.heap.size = ob at *
  have HOB := Lib.hid hobn
  clear hobn
  go_upto_region 7 with (go_at_call 13; refine C1.out.mono ?_; rintro e w1 ⟨rfl, F1, L1, n1, HM⟩)
  have X1 := (Ext.refl w1).alloc (.cells #[.int .i64 x.id, .int .i64 x.rank] 34)
  have J1 := (HV.out.1.step_g n1).ex X1
  have hb1 := heap_alloc_new w1 (.cells #[.int .i64 x.id, .int .i64 x.rank] 34)
  have C2 := Lib.hid (HM _ _ J1.rq)
  have H1 := Lib.hid (And.intro J1 (And.intro hb1 (And.intro (show ¬ M w1.heap.size from fun e => by
    have h2 := (HV.out.1.step_g n1).rq.lt _ e
    omega) (show w.heap.size ≤ w1.heap.size from (HV.out.1.step_g n1).fr.size))))
  clear C1 n1 HM X1 J1 hb1
  go_upto_region 8 with (go_at_call 33; refine C2.out.mono ?_; rintro e w2 ⟨rfl, M2, N2, n2, p2⟩)
  generalize w1.alloc (.cells #[.int .i64 x.id, .int .i64 x.rank] 34) = V1 at *
  generalize w1.heap.size = xb at *
  have X2 := (Ext.refl w2).alloc (.cells #[.int .i64 x.id, .int .i64 x.rank] 34)
  have J2 := (H1.out.1.step_m n2).ex X2
  have hb2 := heap_alloc_new w2 (.cells #[.int .i64 x.id, .int .i64 x.rank] 34)
  have hx2 := (X2.block xb (Nat.lt_of_lt_of_le (block_lt H1.out.2.1) n2.fr.size)).trans ((n2.fr.block xb (block_lt H1.out.2.1) H1.out.2.2.1).trans H1.out.2.1)
  have NU := Lib.hid (fun w3 (hf : Ext (w2.alloc (.cells #[.int .i64 x.id, .int .i64 x.rank] 34)) w3) => HV.out.2 w3 (HE.out _ (J2.ex hf).fr))
  have H2 := Lib.hid (And.intro J2 p2)
  have c0 := block_cell hx2 0
  have c1 := block_cell hx2 1
  have d0 := block_cell hb2 0
  have d1 := block_cell hb2 1
  clear C2 n2 p2 X2 J2 hb2 hx2
  generalize w2.alloc (.cells #[.int .i64 x.id, .int .i64 x.rank] 34) = V2 at *
  generalize w2.heap.size = yb at *
  have C3 := Lib.hid (NU.out V2 (Ext.refl _))
  clear NU
  go_wp2_with (go_at_call 39; refine C3.out.mono ?_; rintro e w3 ⟨rfl, x3⟩)
  have HF := Lib.hid ((H2.out.1.ex x3).done H2.out.2)
  clear c0 c1 d0 d1 C3 x3
  go_wp2_with fail
  exact hPost.out _ HF.out
set_option maxHeartbeats 6400000 in
theorem play_peek (E : Nat → Addr) (h : QPair w g q U Z) (hZ : Z < 4611686018427000000) (hW : Ext W w) (hU : ∀ b, U b → W.heap.size ≤ b) (hE : Errs W E) (Wh I R : Int)
    {Post : Ending → World → Prop} (hPost : Hid (∀ w', QNxt w w' g q U (Z + 20000) → Post (.returned (.bool true)) w')) :
    Calls Tryd.prog 25 #[.pointer (some ⟨g, 0, none⟩), .pointer (some ⟨q, 0, none⟩), .agg #[.int .i64 3, .int .i64 Wh, .int .i64 I, .int .i64 R]] w Post := by
  obtain ⟨F, M, L, N, J, hp⟩ := h.start
  have HE := Lib.hid (fun w' (hf : Fr w w' U) => (show Errs w' E from hE.ext (Fr.ext hW hf hU)))
  have X0 := (Ext.refl w).alloc (.cells #[.int .i64 3, .int .i64 Wh, .int .i64 I, .int .i64 R] 58)
  have hob := heap_alloc_new w (.cells #[.int .i64 3, .int .i64 Wh, .int .i64 I, .int .i64 R] 58)
  have HB := Lib.hid (And.intro (fun b (hb : F b) => J.qp.lt b hb) (fun b (hb : M b) => J.rq.lt b hb))
  have J0 := J.ex X0
  have hlen := hp.length_eq
  have hfew := J.qp.few
  have HP := Lib.hid (And.intro hp (And.intro hlen hfew))
  have HV := Lib.hid J0
  rcases Nat.eq_zero_or_pos L.length with h0 | h0
  · obtain rfl : L = [] := List.eq_nil_of_length_eq_zero h0
    obtain rfl : N = [] := List.eq_nil_of_length_eq_zero (by rw [← hlen]; rfl)
    have C1 := Lib.hid (qpeek_gone J0.qp ((HE.out _ J0.fr).sen 0 (by decide)))
    clear h J X0 hob J0 hW hU hE hp h0 hlen hfew
    go_enter Tryd.func25, Tryd.ntmps25
    go_upto_region 10 with (fail)
    generalize w.alloc (.cells #[.int .i64 3, .int .i64 Wh, .int .i64 I, .int .i64 R] 58) = V at *
    generalize hobn : w.heap.size = ob at *
    have HOB := Lib.hid hobn
    clear hobn
    go_upto_region 11 with (go_at_call 24; refine C1.out.mono ?_; rintro e w1 ⟨rfl, x1⟩)
    have X1 := (Ext.refl w1).alloc (.cells #[.int .i64 0, .int .i64 0] 34)
    have hb1 := heap_alloc_new w1 (.cells #[.int .i64 0, .int .i64 0] 34)
    have J1 := HV.out.ex (x1.trans X1)
    have C2 := Lib.hid ((rfirst_any J1.rq (by simp)).mono (R' := fun e w' => e = .returned (.int .i64 (-1)) ∧ Ext (w1.alloc (.cells #[.int .i64 0, .int .i64 0] 34)) w') (by
      rintro e w' ⟨x, ⟨_, rfl⟩ | ⟨i, hi, _⟩⟩
      · exact ⟨rfl, x⟩
      · simp at hi))
    have H1 := Lib.hid (And.intro J1 hb1)
    clear C1 x1 X1 hb1 J1
    go_upto_region 13 with (go_at_call 41; refine C2.out.mono ?_; rintro e w2 ⟨rfl, x2⟩)
    have J2 := H1.out.1.ex x2
    have hb2 := (x2.block _ (block_lt H1.out.2)).trans H1.out.2
    have eg := ((HE.out _ J2.fr).sen 0 (by decide)).2.1
    have es := fun W => err_same W (E 0)
    have c0 := block_cell hb2 0
    have c1 := block_cell hb2 1
    have HF := Lib.hid ((J2.done HP.out.1).mono (show Z ≤ Z + 20000 by omega))
    clear C2 J2 hb2 x2
    go_wp2_with fail
    exact hPost.out _ HF.out
  · obtain ⟨x, hx⟩ : ∃ x, x = at_ L 0 := ⟨_, rfl⟩
    have hxm : x ∈ L := by rw [hx]; exact at_mem h0
    have hxl := heap_least J.qp.hp
    rw [← hx] at hxl
    have C1 := Lib.hid (qpeek_ok J0.qp (m := L.length - 1) (by omega) (Lib.hid hx))
    have HX := Lib.hid (And.intro hxm hxl)
    clear h J X0 hob J0 hW hU hE hp h0 hlen hfew hx hxm hxl
    go_enter Tryd.func25, Tryd.ntmps25
    go_upto_region 10 with (fail)
    generalize w.alloc (.cells #[.int .i64 3, .int .i64 Wh, .int .i64 I, .int .i64 R] 58) = V at *
    generalize hobn : w.heap.size = ob at *
    have HOB := Lib.hid hobn
    clear hobn
    go_upto_region 11 with (go_at_call 24; refine C1.out.mono ?_; rintro e w1 ⟨rfl, x1⟩)
    have X1 := (Ext.refl w1).alloc (.cells #[.int .i64 x.id, .int .i64 x.rank] 34)
    have hb1 := heap_alloc_new w1 (.cells #[.int .i64 x.id, .int .i64 x.rank] 34)
    have J1 := HV.out.ex (x1.trans X1)
    have C2 := Lib.hid ((rfirst_any J1.rq (by have := HP.out; omega)).mono (R' := fun e w' => ∃ i : Nat, e = .returned (.int .i64 (i : Int)) ∧ i < N.length ∧ at_ N i = x ∧ Ext (w1.alloc (.cells #[.int .i64 x.id, .int .i64 x.rank] 34)) w') (by
      rintro e w' ⟨x2, ⟨h1, rfl⟩ | ⟨i, hi, rfl, h2⟩⟩
      · have := List.length_pos_of_mem HX.out.1
        have h9 := HP.out.2.1
        rw [h1, List.length_nil] at h9
        omega
      · exact ⟨i, rfl, hi, least_eq (at_mem hi) (HP.out.1.mem_iff.1 HX.out.1) h2 (fun z hz => HX.out.2 z (HP.out.1.mem_iff.2 hz)), x2⟩))
    have H1 := Lib.hid (And.intro J1 hb1)
    clear C1 x1 X1 hb1 J1
    go_upto_region 12 with (go_at_call 41; refine C2.out.mono ?_; rintro e w2 ⟨i, rfl, hi, hix, x2⟩)
    have J2 := H1.out.1.ex x2
    have hb2 := (x2.block _ (block_lt H1.out.2)).trans H1.out.2
    obtain ⟨A, n, c, q1, q2, q3⟩ := J2.rq.ex
    have hl2 := rlen_eq q2
    obtain ⟨T, rfl⟩ := q2.head (by omega)
    obtain ⟨i2, hi2⟩ : ∃ i2, i * 2 = i2 := ⟨_, rfl⟩
    have hiN := at_some hi
    rw [hix] at hiN
    obtain ⟨y0, y1, _, _⟩ := own_at q2 hiN hi2
    have y2 : w2.cell? ⟨q, 0, none⟩ = some (.slice (some ⟨T, 0, none⟩) n c) := block_cell q1 0
    have c0 := block_cell hb2 0
    have c1 := block_cell hb2 1
    have i0 : (0 : Int) ≤ i := by omega
    have i1 : (i : Int) < n := by omega
    have i3 : ¬ (i : Int) < 0 := by omega
    have HF := Lib.hid (fun k => (((J2.ex ((Ext.refl w2).drewN k)).done HP.out.1).mono (show Z ≤ Z + 20000 by omega)))
    clear C2 J2 hb2 q1 q2 q3 hl2 hiN hix hi x2
    go_upto_region 14 with (fail)
    go_quiet (fail)
    go_wp2_with fail
    exact hPost.out _ (HF.out _)
set_option maxHeartbeats 6400000 in
theorem play_else (E : Nat → Addr) (h : QPair w g q U Z) (hZ : Z < 4611686018427000000) (hW : Ext W w) (hU : ∀ b, U b → W.heap.size ≤ b) (hE : Errs W E) (Wh I R : Int) (K : Int) (h1 : K ≠ 1) (h2 : K ≠ 2) (h3 : K ≠ 3) (h4 : K ≠ 4) (h5 : K ≠ 5) (h6 : K ≠ 6)
    {Post : Ending → World → Prop} (hPost : Hid (∀ w', QNxt w w' g q U (Z + 20000) → Post (.returned (.bool true)) w')) :
    Calls Tryd.prog 25 #[.pointer (some ⟨g, 0, none⟩), .pointer (some ⟨q, 0, none⟩), .agg #[.int .i64 K, .int .i64 Wh, .int .i64 I, .int .i64 R]] w Post := by
  obtain ⟨F, M, L, N, J, hp⟩ := h.start
  have HE := Lib.hid (fun w' (hf : Fr w w' U) => (show Errs w' E from hE.ext (Fr.ext hW hf hU)))
  have X0 := (Ext.refl w).alloc (.cells #[.int .i64 K, .int .i64 Wh, .int .i64 I, .int .i64 R] 58)
  have hob := heap_alloc_new w (.cells #[.int .i64 K, .int .i64 Wh, .int .i64 I, .int .i64 R] 58)
  have HB := Lib.hid (And.intro (fun b (hb : F b) => J.qp.lt b hb) (fun b (hb : M b) => J.rq.lt b hb))
  have e1 : (K == 1) = false := by simpa using h1
  have e2 : (K == 2) = false := by simpa using h2
  have e3 : (K == 3) = false := by simpa using h3
  have e4 : (K == 4) = false := by simpa using h4
  have e5 : (K == 5) = false := by simpa using h5
  have e6 : (K == 6) = false := by simpa using h6
  have HF := Lib.hid (((J.ex X0).done hp).mono (show Z ≤ Z + 20000 by omega))
  clear h hp J X0 h1 h2 h3 h4 h5 h6 hob hW hU hE
  go_enter Tryd.func25, Tryd.ntmps25
  go_wp2_with fail
  exact hPost.out _ HF.out
end
end Go.Proofs.YtocjbllkgbjihaaDoor
