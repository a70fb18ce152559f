/-
  play, walked: Deliver.
-/
import Derived.Test.YteaainepnelehaaDoorNpBytes
import Derived.BigRegion
namespace Go.Proofs.YteaainepnelehaaDoor
set_option maxRecDepth 100000
open Go.RowKit
set_option linter.unusedVariables false
section
variable {W w : World} {g q last : Nat} {U : Nat → Prop} {ls : List LetV}
set_option maxHeartbeats 6400000 in
theorem play_dlv (E : Nat → Addr) (h : Pair w g q U ls last) (hlast : last < 4611686018427387904) (hW : Ext W w) (hU : ∀ b, U b → W.heap.size ≤ b) (hE : Errs W E) (Q F T N : Int) (B : Option Addr) (k d : Nat) (l : List Nat) (hr : Rd w 1 B k (u8s l)) (hb : ∀ y ∈ l, y < 256) (hk : k ≤ 140737488351232) (hB : 0 < k → ∀ b, B = some b → ¬ U b.block) {i : Nat} {x : LetV} (hi : ls[i]? = some x) (hy : (x.N : Int) = N)
    {Post : Ending → World → Prop} (hPost : Hid (∀ w', PNxt w w' g q U (last + 1) → Post (.returned (.bool true)) w')) :
    Calls Tryd.prog 6 #[.pointer (some ⟨g, 0, none⟩), .pointer (some ⟨q, 0, none⟩), .agg #[.int .i64 2, .int .i64 Q, .int .i64 F, .int .i64 T, .int .i64 N, .slice B k d]] w Post := by
  obtain ⟨F0, M0, J⟩ := h.start
  have HE := Lib.hid (fun w' (hf : Fr w w' U) => (show Errs w' E from hE.ext (Fr.ext hW hf hU)))
  have X0 := (Ext.refl w).alloc (.cells #[.int .i64 2, .int .i64 Q, .int .i64 F, .int .i64 T, .int .i64 N, .slice B k d] 34)
  have hob := heap_alloc_new w (.cells #[.int .i64 2, .int .i64 Q, .int .i64 F, .int .i64 T, .int .i64 N, .slice B k d] 34)
  have HFN := Lib.hid (fun (b : Nat) (hb : w.heap.size ≤ b) => J.new hb)
  have HV := Lib.hid (And.intro (J.ex X0) (And.intro hob X0))
  clear hob hW hU hE
  have HK := Lib.hid (And.intro hi hy)
  have HD := Lib.hid J.dj
  have HC := Lib.hid (fun b (hb : F0 b) => J.cov b (.inl hb))
  have HL := Lib.hid (fun b (hb : F0 b) => J.gn.lt b hb)
  have HRS := Lib.hid J.ris
  have h64 : x.n ≤ 140737488351232 := by
    obtain ⟨_, _, _, h1, _⟩ := J.gn.ex
    exact (h1.byt x (List.mem_of_getElem? hi)).2.2.1
  clear h hr hb hB J X0 hi hy
  go_enter Tryd.func6, Tryd.ntmps6
  go_upto_region 14 with (fail)
  generalize w.alloc (.cells #[.int .i64 2, .int .i64 Q, .int .i64 F, .int .i64 T, .int .i64 N, .slice B k d] 34) = V at *
  generalize hobn : w.heap.size = ob at *
  have HOB := Lib.hid hobn
  clear hobn
  have c4 : V.cell? ⟨ob, 4, none⟩ = some (.int .i64 N) := block_cell HV.out.2.1 4
  have D1 := Lib.hid (del_hit HV.out.1.gn HK.out.1 HK.out.2)
  unfold LetV.val at D1
  have NO := Lib.hid (HFN.out ob (Nat.le_refl _))
  go_wp2_with fail
  refine D1.out.mono ?_
  rintro e w1 ⟨rfl, n1, r1, hs1⟩
  have J1 := HV.out.1.step_g n1
  have b1 := n1.blk HV.out.2.1 NO.out.1
  have XL := (Ext.refl w1).alloc (.cells #[.int .i64 (x.N : Int), .int .i64 x.F, .int .i64 x.T, .slice x.A x.n x.c] 46)
  have hlb := heap_alloc_new w1 (.cells #[.int .i64 (x.N : Int), .int .i64 x.F, .int .i64 x.T, .slice x.A x.n x.c] 46)
  have hlbo : ob < w1.heap.size := block_lt b1
  have H1 := Lib.hid (And.intro (J1.ex XL) (And.intro ((XL.block ob hlbo).trans b1) (And.intro hlb (And.intro (r1.ext XL) (And.intro (fun (h0 : 0 < x.n) => (show ∃ S, x.A = some ⟨S, 0, none⟩ ∧ F0 S ∧ U8B (w1.alloc (.cells #[.int .i64 (x.N : Int), .int .i64 x.F, .int .i64 x.T, .slice x.A x.n x.c] 46)) S x.n from by
    obtain ⟨ad, e, _, _⟩ := r1.2 h0
    obtain ⟨hF, S, e2, hu⟩ := hs1 ad h0 e
    subst e2
    exact ⟨S, e, hF, hu.ext XL⟩)) hlbo)))))
  clear c4 D1 n1 r1 hs1 J1 b1 XL hlb hlbo
  go_upto_region 15 with (fail)
  generalize w1.alloc (.cells #[.int .i64 (x.N : Int), .int .i64 x.F, .int .i64 x.T, .slice x.A x.n x.c] 46) = V1 at *
  generalize w1.heap.size = lb at *
  have c4 : V1.cell? ⟨ob, 4, none⟩ = some (.int .i64 N) := block_cell H1.out.2.1 4
  have D2 := Lib.hid (mdel_hit H1.out.1.mn HRS.out HK.out.1 HK.out.2)
  have NL := Lib.hid (HFN.out lb (by have := H1.out.2.2.2.2.2; omega))
  go_wp2_with fail
  refine D2.out.mono ?_
  rintro e w2 ⟨rfl, M1, n2⟩
  have J2 := H1.out.1.step_m n2
  have l2 := n2.blk H1.out.2.2.1 NL.out.2
  have XL := (Ext.refl w2).alloc (.cells #[.int .i64 (x.N : Int), .int .i64 x.F, .int .i64 x.T, .string (str x.l)] 38)
  have hmb := heap_alloc_new w2 (.cells #[.int .i64 (x.N : Int), .int .i64 x.F, .int .i64 x.T, .string (str x.l)] 38)
  have hM1 : ∀ b, F0 b → ¬ M1 b := fun b hb e => by
    rcases n2.fo b e with h1 | h1
    · exact HD.out b hb h1
    · have h2 := HL.out b hb
      have h3 := H1.out.2.2.2.2.2
      have h4 := block_lt H1.out.2.1
      have h5 := HOB.out
      omega
  have H2 := Lib.hid (And.intro (J2.ex XL) (And.intro ((XL.block lb (block_lt l2)).trans l2) (And.intro hmb (And.intro ((rd0 n2.fr H1.out.2.2.2.1 (fun h0 a ha e => by
    obtain ⟨S, e1, hF, _⟩ := H1.out.2.2.2.2.1 h0
    rw [ha] at e1
    injection e1 with e1
    subst e1
    exact HD.out _ hF e)).ext XL) (And.intro (fun (h0 : 0 < x.n) => (show ∃ S, x.A = some ⟨S, 0, none⟩ ∧ F0 S ∧ U8B (w2.alloc (.cells #[.int .i64 (x.N : Int), .int .i64 x.F, .int .i64 x.T, .string (str x.l)] 38)) S x.n from by
    obtain ⟨S, e, hF, hu⟩ := H1.out.2.2.2.2.1 h0
    exact ⟨S, e, hF, (hu.fr n2.fr (HD.out S hF)).ext XL⟩)) hM1)))))
  clear c4 D2 n2 J2 l2 XL hmb hM1
  go_upto_region 16 with (fail)
  generalize w2.alloc (.cells #[.int .i64 (x.N : Int), .int .i64 x.F, .int .i64 x.T, .string (str x.l)] 38) = V2 at *
  generalize w2.heap.size = mb at *
  have t0 : V2.cell? ⟨lb, 0, none⟩ = some (.int .i64 (x.N : Int)) := block_cell H2.out.2.1 0
  have t1 : V2.cell? ⟨lb, 1, none⟩ = some (.int .i64 x.F) := block_cell H2.out.2.1 1
  have t2 : V2.cell? ⟨lb, 2, none⟩ = some (.int .i64 x.T) := block_cell H2.out.2.1 2
  have t3 : V2.cell? ⟨lb, 3, none⟩ = some (.slice x.A x.n x.c) := block_cell H2.out.2.1 3
  have s0 : V2.cell? ⟨mb, 0, none⟩ = some (.int .i64 (x.N : Int)) := block_cell H2.out.2.2.1 0
  have s1 : V2.cell? ⟨mb, 1, none⟩ = some (.int .i64 x.F) := block_cell H2.out.2.2.1 1
  have s2 : V2.cell? ⟨mb, 2, none⟩ = some (.int .i64 x.T) := block_cell H2.out.2.2.1 2
  have s3 : V2.cell? ⟨mb, 3, none⟩ = some (.string (str x.l)) := block_cell H2.out.2.2.1 3
  have cv := run_str (P := Tryd.prog) (s := 9) Tryd.underlying32 Tryd.underlying5 Tryd.underlying9 x.c H2.out.2.2.2.1
  have NU := Lib.hid (num_nil V2)
  go_wp2_with fail
  refine NU.out.mono ?_
  rintro e w3 ⟨rfl, x3⟩
  have H3 := Lib.hid (And.intro (H2.out.1.ex x3) (And.intro ((x3.block lb (block_lt H2.out.2.1)).trans H2.out.2.1) (fun (h0 : 0 < x.n) => (show ∃ S, x.A = some ⟨S, 0, none⟩ ∧ F0 S ∧ U8B w3 S x.n from by
    obtain ⟨S, e, hF, hu⟩ := H2.out.2.2.2.2.1 h0
    exact ⟨S, e, hF, hu.ext x3⟩))))
  clear t0 t1 t2 t3 s0 s1 s2 s3 cv NU x3
  have t3 : w3.cell? ⟨lb, 3, none⟩ = some (.slice x.A x.n x.c) := block_cell H3.out.2.1 3
  obtain ⟨m, hm⟩ : ∃ m, x.n = m := ⟨_, rfl⟩
  rw [hm] at t3 h64
  go_wp2_with fail
  clear t3
  go_loopw [137] (fun v137 wr => ∃ j : Nat, v137 = .int .i64 (j : Int) ∧ j ≤ m ∧ Hid (Fr w3 wr (fun b => 0 < x.n ∧ x.A.map (·.block) = some b) ∧ (0 < x.n → ∃ S, x.A = some ⟨S, 0, none⟩ ∧ F0 S ∧ U8B wr S x.n))) (fun v137 _ => m - (intOf v137).toNat)
  case atStart => exact ⟨0, rfl, by omega, Fr.refl _ _, H3.out.2.2⟩
  case round =>
    obtain ⟨j, rfl, hj, HX⟩ := hrel
    by_cases hjk : j < m
    · obtain ⟨S, eS, hFS, hu⟩ := HX.out.2 (by omega)
      have cl : wr.cell? ⟨lb, 3, none⟩ = some (.slice (some ⟨S, 0, none⟩) m x.c) := by
        rw [← eS, ← hm]
        exact block_cell ((HX.out.1.block lb (block_lt H3.out.2.1) (fun e => by
          have e2 := e.2
          rw [eS] at e2
          injection e2 with e2
          have e2 : S = lb := e2
          exact NL.out.1 (e2 ▸ hFS))).trans H3.out.2.1) 3
      obtain ⟨y, cy⟩ := hu.cell (j := j) (by omega)
      have fy := hu.fz j
      have z0 : (0 : Int) ≤ j := by omega
      have z1 : (j : Int) < m := by omega
      have HN := Lib.hid (fun (v : Int) => (show Fr w3 (wr.setCell ⟨S, j, none⟩ (.int .u8 v)) (fun b => 0 < x.n ∧ x.A.map (·.block) = some b) ∧ (0 < x.n → ∃ S', x.A = some ⟨S', 0, none⟩ ∧ F0 S' ∧ U8B (wr.setCell ⟨S, j, none⟩ (.int .u8 v)) S' x.n) from ⟨HX.out.1.trans (Fr.store wr ⟨S, j, none⟩ _) (fun i _ e => ⟨by omega, by rw [eS, e]; rfl⟩), fun _ => ⟨S, eS, hFS, hu.set j v⟩⟩))
      clear hu hFS eS
      go_wp2_with fail
      go_roundw
      case rel => exact ⟨j + 1, by go_num, by omega, HN.out _⟩
      case measure => simp [intOf]; omega
    · obtain rfl : m = j := by omega
      have HZ := Lib.hid (H3.out.1.wrs HX.out.1 (fun b e => by
        obtain ⟨S, eS, hF, _⟩ := H3.out.2.2 e.1
        have e2 := e.2
        rw [eS] at e2
        injection e2 with e2
        have e2 : S = b := e2
        subst e2
        exact ⟨fun h1 => h1.2 e, H2.out.2.2.2.2.2 S hF, by rw [HOB.out]; exact HC.out S hF⟩))
      go_wp2_with fail
      exact hPost.out _ (HZ.out.done (Nat.le_succ _))
set_option maxHeartbeats 6400000 in
theorem play_dlv_gone (E : Nat → Addr) (h : Pair w g q U ls last) (hlast : last < 4611686018427387904) (hW : Ext W w) (hU : ∀ b, U b → W.heap.size ≤ b) (hE : Errs W E) (Q F T N : Int) (B : Option Addr) (k d : Nat) (l : List Nat) (hr : Rd w 1 B k (u8s l)) (hb : ∀ y ∈ l, y < 256) (hk : k ≤ 140737488351232) (hB : 0 < k → ∀ b, B = some b → ¬ U b.block) (hy : ∀ x ∈ ls, (x.N : Int) ≠ N)
    {Post : Ending → World → Prop} (hPost : Hid (∀ w', PNxt w w' g q U (last + 1) → Post (.returned (.bool true)) w')) :
    Calls Tryd.prog 6 #[.pointer (some ⟨g, 0, none⟩), .pointer (some ⟨q, 0, none⟩), .agg #[.int .i64 2, .int .i64 Q, .int .i64 F, .int .i64 T, .int .i64 N, .slice B k d]] w Post := by
  obtain ⟨F0, M0, J⟩ := h.start
  have HE := Lib.hid (fun w' (hf : Fr w w' U) => (show Errs w' E from hE.ext (Fr.ext hW hf hU)))
  have X0 := (Ext.refl w).alloc (.cells #[.int .i64 2, .int .i64 Q, .int .i64 F, .int .i64 T, .int .i64 N, .slice B k d] 34)
  have hob := heap_alloc_new w (.cells #[.int .i64 2, .int .i64 Q, .int .i64 F, .int .i64 T, .int .i64 N, .slice B k d] 34)
  have HFN := Lib.hid (fun (b : Nat) (hb : w.heap.size ≤ b) => J.new hb)
  have HV := Lib.hid (And.intro (J.ex X0) (And.intro hob X0))
  clear hob hW hU hE
  have HK := Lib.hid hy
  clear h hr hb hB J X0 hy
  go_enter Tryd.func6, Tryd.ntmps6
  go_upto_region 14 with (fail)
  generalize w.alloc (.cells #[.int .i64 2, .int .i64 Q, .int .i64 F, .int .i64 T, .int .i64 N, .slice B k d] 34) = V at *
  generalize hobn : w.heap.size = ob at *
  clear hobn
  have c4 : V.cell? ⟨ob, 4, none⟩ = some (.int .i64 N) := block_cell HV.out.2.1 4
  obtain ⟨A, mm, cc, hN, _⟩ := HV.out.1.gn.ex
  have D1 := Lib.hid (deliver_gone hN HK.out ((HE.out V HV.out.1.fr).sen _ (by decide : 0 ∈ gsN)))
  clear hN
  go_wp2_with fail
  refine D1.out.mono ?_
  rintro e w1 ⟨rfl, x1⟩
  have XL := x1.trans ((Ext.refl w1).alloc (.cells #[.int .i64 0, .int .i64 0, .int .i64 0, .slice none 0 0] 46))
  have hlb := heap_alloc_new w1 (.cells #[.int .i64 0, .int .i64 0, .int .i64 0, .slice none 0 0] 46)
  have H1 := Lib.hid (And.intro (HV.out.1.ex XL) (And.intro ((XL.block ob (block_lt HV.out.2.1)).trans HV.out.2.1) hlb))
  clear c4 D1 x1 XL hlb
  go_upto_region 15 with (fail)
  generalize w1.alloc (.cells #[.int .i64 0, .int .i64 0, .int .i64 0, .slice none 0 0] 46) = V1 at *
  generalize w1.heap.size = lb at *
  have c4 : V1.cell? ⟨ob, 4, none⟩ = some (.int .i64 N) := block_cell H1.out.2.1 4
  obtain ⟨B2, A2, mm2, cc2, hM, _⟩ := H1.out.1.mn.ex
  have D2 := Lib.hid (mdel_gone hM HK.out)
  clear hM
  go_wp2_with fail
  refine D2.out.mono ?_
  rintro e w2 ⟨rfl, x2⟩
  have XL := x2.trans ((Ext.refl w2).alloc (.cells #[.int .i64 0, .int .i64 0, .int .i64 0, .string ⟨#[]⟩] 38))
  have hmb := heap_alloc_new w2 (.cells #[.int .i64 0, .int .i64 0, .int .i64 0, .string ⟨#[]⟩] 38)
  have H2 := Lib.hid (And.intro (H1.out.1.ex XL) (And.intro ((XL.block lb (block_lt H1.out.2.2)).trans H1.out.2.2) hmb))
  clear c4 D2 x2 XL hmb
  go_upto_region 16 with (fail)
  generalize w2.alloc (.cells #[.int .i64 0, .int .i64 0, .int .i64 0, .string ⟨#[]⟩] 38) = V2 at *
  generalize w2.heap.size = mb at *
  have t0 : V2.cell? ⟨lb, 0, none⟩ = some (.int .i64 0) := block_cell H2.out.2.1 0
  have t1 : V2.cell? ⟨lb, 1, none⟩ = some (.int .i64 0) := block_cell H2.out.2.1 1
  have t2 : V2.cell? ⟨lb, 2, none⟩ = some (.int .i64 0) := block_cell H2.out.2.1 2
  have t3 : V2.cell? ⟨lb, 3, none⟩ = some (.slice none 0 0) := block_cell H2.out.2.1 3
  have s0 : V2.cell? ⟨mb, 0, none⟩ = some (.int .i64 0) := block_cell H2.out.2.2 0
  have s1 : V2.cell? ⟨mb, 1, none⟩ = some (.int .i64 0) := block_cell H2.out.2.2 1
  have s2 : V2.cell? ⟨mb, 2, none⟩ = some (.int .i64 0) := block_cell H2.out.2.2 2
  have s3 : V2.cell? ⟨mb, 3, none⟩ = some (.string ⟨#[]⟩) := block_cell H2.out.2.2 3
  have cv := run_str (P := Tryd.prog) (w := V2) (s := 9) Tryd.underlying32 Tryd.underlying5 Tryd.underlying9 0 (A := none) (n := 0) (l := []) Rd.nil_
  rw [show str [] = ⟨#[]⟩ from rfl] at cv
  have NU := Lib.hid (num_of E 4 _ 5 rfl rfl V2 (HE.out V2 H2.out.1.fr))
  go_wp2_with fail
  refine NU.out.mono ?_
  rintro e w3 ⟨rfl, x3⟩
  have H3 := Lib.hid (And.intro (H2.out.1.ex x3) ((x3.block lb (block_lt H2.out.2.1)).trans H2.out.2.1))
  clear t0 t1 t2 t3 s0 s1 s2 s3 cv NU x3
  have t3 : w3.cell? ⟨lb, 3, none⟩ = some (.slice none 0 0) := block_cell H3.out.2 3
  go_wp2_with fail
  go_loopw [137] (fun v137 wr => v137 = .int .i64 0 ∧ w3 = wr) (fun v137 _ => 0)
  case atStart => exact ⟨rfl, rfl⟩
  case round =>
    obtain ⟨rfl, rfl⟩ := hrel
    go_wp2_with fail
    exact hPost.out _ (H3.out.1.done (Nat.le_succ _))
end
end Go.Proofs.YteaainepnelehaaDoor
