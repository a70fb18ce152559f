/-
  play, walked: Drop, Copy, Nth, Lose.
-/
import Derived.Test.YteaainepnelehaaDoorNpBytes
import Derived.Test.YteaainepnelehaaDoorOrd
import Derived.BigRegion
namespace Go.Proofs.YteaainepnelehaaDoor
set_option maxRecDepth 100000
open Go.RowKit
set_option linter.unusedVariables false
section
variable {W w : World} {g q last : Nat} {U : Nat → Prop} {ls : List LetV}
set_option maxHeartbeats 6400000 in
theorem play_drop (E : Nat → Addr) (h : Pair w g q U ls last) (hlast : last < 4611686018427387904) (hW : Ext W w) (hU : ∀ b, U b → W.heap.size ≤ b) (hE : Errs W E) (Q F T N : Int) (B : Option Addr) (k d : Nat) (l : List Nat) (hr : Rd w 1 B k (u8s l)) (hb : ∀ y ∈ l, y < 256) (hk : k ≤ 140737488351232) (hB : 0 < k → ∀ b, B = some b → ¬ U b.block) {i : Nat} {x : LetV} (hi : ls[i]? = some x) (hy : (x.N : Int) = N)
    {Post : Ending → World → Prop} (hPost : Hid (∀ w', PNxt w w' g q U (last + 1) → Post (.returned (.bool true)) w')) :
    Calls Tryd.prog 6 #[.pointer (some ⟨g, 0, none⟩), .pointer (some ⟨q, 0, none⟩), .agg #[.int .i64 3, .int .i64 Q, .int .i64 F, .int .i64 T, .int .i64 N, .slice B k d]] w Post := by
  obtain ⟨F0, M0, J⟩ := h.start
  have HE := Lib.hid (fun w' (hf : Fr w w' U) => (show Errs w' E from hE.ext (Fr.ext hW hf hU)))
  have X0 := (Ext.refl w).alloc (.cells #[.int .i64 3, .int .i64 Q, .int .i64 F, .int .i64 T, .int .i64 N, .slice B k d] 34)
  have hob := heap_alloc_new w (.cells #[.int .i64 3, .int .i64 Q, .int .i64 F, .int .i64 T, .int .i64 N, .slice B k d] 34)
  have HFN := Lib.hid (fun (b : Nat) (hb : w.heap.size ≤ b) => J.new hb)
  have HV := Lib.hid (And.intro (J.ex X0) (And.intro hob X0))
  clear hob hW hU hE
  have HK := Lib.hid (And.intro hi hy)
  clear h hr hb hB J X0 hi hy
  go_enter Tryd.func6, Tryd.ntmps6
  go_upto_region 24 with (fail)
  generalize w.alloc (.cells #[.int .i64 3, .int .i64 Q, .int .i64 F, .int .i64 T, .int .i64 N, .slice B k d] 34) = V at *
  generalize hobn : w.heap.size = ob at *
  clear hobn
  have c4 : V.cell? ⟨ob, 4, none⟩ = some (.int .i64 N) := block_cell HV.out.2.1 4
  have D1 := Lib.hid (mdel_hit HV.out.1.mn HV.out.1.ris HK.out.1 HK.out.2)
  have NO := Lib.hid (HFN.out ob (Nat.le_refl _))
  go_wp2_with fail
  refine D1.out.mono ?_
  rintro e w1 ⟨rfl, M1, n1⟩
  have J1 := HV.out.1.step_m n1
  have b1 := n1.blk HV.out.2.1 NO.out.2
  have XL := (Ext.refl w1).alloc (.cells #[.int .i64 (x.N : Int), .int .i64 x.F, .int .i64 x.T, .string (str x.l)] 38)
  have H1 := Lib.hid (And.intro (J1.ex XL) ((XL.block ob (block_lt b1)).trans b1))
  clear c4 D1 n1 J1 b1 XL
  go_upto_region 25 with (fail)
  generalize w1.alloc (.cells #[.int .i64 (x.N : Int), .int .i64 x.F, .int .i64 x.T, .string (str x.l)] 38) = V1 at *
  have c4 : V1.cell? ⟨ob, 4, none⟩ = some (.int .i64 N) := block_cell H1.out.2 4
  have D2 := Lib.hid (drop_hit H1.out.1.gn HK.out.1 HK.out.2)
  go_wp2_with fail
  refine D2.out.mono ?_
  rintro e w2 ⟨rfl, n2⟩
  have H2 := Lib.hid (H1.out.1.step_g n2)
  have NU := Lib.hid (num_nil w2)
  clear c4 D2 n2
  go_wp2_with fail
  refine NU.out.mono ?_
  rintro e w3 ⟨rfl, x3⟩
  have H3 := Lib.hid (H2.out.ex x3)
  clear NU x3
  go_wp2_with fail
  exact hPost.out _ (H3.out.done (Nat.le_succ _))
set_option maxHeartbeats 6400000 in
theorem play_drop_gone (E : Nat → Addr) (h : Pair w g q U ls last) (hlast : last < 4611686018427387904) (hW : Ext W w) (hU : ∀ b, U b → W.heap.size ≤ b) (hE : Errs W E) (Q F T N : Int) (B : Option Addr) (k d : Nat) (l : List Nat) (hr : Rd w 1 B k (u8s l)) (hb : ∀ y ∈ l, y < 256) (hk : k ≤ 140737488351232) (hB : 0 < k → ∀ b, B = some b → ¬ U b.block) (hy : ∀ x ∈ ls, (x.N : Int) ≠ N)
    {Post : Ending → World → Prop} (hPost : Hid (∀ w', PNxt w w' g q U (last + 1) → Post (.returned (.bool true)) w')) :
    Calls Tryd.prog 6 #[.pointer (some ⟨g, 0, none⟩), .pointer (some ⟨q, 0, none⟩), .agg #[.int .i64 3, .int .i64 Q, .int .i64 F, .int .i64 T, .int .i64 N, .slice B k d]] w Post := by
  obtain ⟨F0, M0, J⟩ := h.start
  have HE := Lib.hid (fun w' (hf : Fr w w' U) => (show Errs w' E from hE.ext (Fr.ext hW hf hU)))
  have X0 := (Ext.refl w).alloc (.cells #[.int .i64 3, .int .i64 Q, .int .i64 F, .int .i64 T, .int .i64 N, .slice B k d] 34)
  have hob := heap_alloc_new w (.cells #[.int .i64 3, .int .i64 Q, .int .i64 F, .int .i64 T, .int .i64 N, .slice B k d] 34)
  have HFN := Lib.hid (fun (b : Nat) (hb : w.heap.size ≤ b) => J.new hb)
  have HV := Lib.hid (And.intro (J.ex X0) (And.intro hob X0))
  clear hob hW hU hE
  have HK := Lib.hid hy
  clear h hr hb hB J X0 hy
  go_enter Tryd.func6, Tryd.ntmps6
  go_upto_region 24 with (fail)
  generalize w.alloc (.cells #[.int .i64 3, .int .i64 Q, .int .i64 F, .int .i64 T, .int .i64 N, .slice B k d] 34) = V at *
  generalize hobn : w.heap.size = ob at *
  clear hobn
  have c4 : V.cell? ⟨ob, 4, none⟩ = some (.int .i64 N) := block_cell HV.out.2.1 4
  obtain ⟨B2, A2, mm2, cc2, hM, _⟩ := HV.out.1.mn.ex
  have D1 := Lib.hid (mdel_gone hM HK.out)
  clear hM
  go_wp2_with fail
  refine D1.out.mono ?_
  rintro e w1 ⟨rfl, x1⟩
  have XL := x1.trans ((Ext.refl w1).alloc (.cells #[.int .i64 0, .int .i64 0, .int .i64 0, .string ⟨#[]⟩] 38))
  have H1 := Lib.hid (And.intro (HV.out.1.ex XL) ((XL.block ob (block_lt HV.out.2.1)).trans HV.out.2.1))
  clear c4 D1 x1 XL
  go_upto_region 25 with (fail)
  generalize w1.alloc (.cells #[.int .i64 0, .int .i64 0, .int .i64 0, .string ⟨#[]⟩] 38) = V1 at *
  have c4 : V1.cell? ⟨ob, 4, none⟩ = some (.int .i64 N) := block_cell H1.out.2 4
  obtain ⟨A, mm, cc, hN, _⟩ := H1.out.1.gn.ex
  have D2 := Lib.hid (drop_gone hN HK.out ((HE.out V1 H1.out.1.fr).sen _ (by decide : 0 ∈ gsN)))
  clear hN
  go_wp2_with fail
  refine D2.out.mono ?_
  rintro e w2 ⟨rfl, x2⟩
  have H2 := Lib.hid (H1.out.1.ex x2)
  have NU := Lib.hid (num_of E 4 _ 5 rfl rfl w2 (HE.out w2 H2.out.fr))
  clear c4 D2 x2
  go_wp2_with fail
  refine NU.out.mono ?_
  rintro e w3 ⟨rfl, x3⟩
  have H3 := Lib.hid (H2.out.ex x3)
  clear NU x3
  go_wp2_with fail
  exact hPost.out _ (H3.out.done (Nat.le_succ _))
set_option maxHeartbeats 6400000 in
theorem play_copy (E : Nat → Addr) (h : Pair w g q U ls last) (hlast : last < 4611686018427387904) (hW : Ext W w) (hU : ∀ b, U b → W.heap.size ≤ b) (hE : Errs W E) (Q F T N : Int) (B : Option Addr) (k d : Nat) (l : List Nat) (hr : Rd w 1 B k (u8s l)) (hb : ∀ y ∈ l, y < 256) (hk : k ≤ 140737488351232) (hB : 0 < k → ∀ b, B = some b → ¬ U b.block)
    {Post : Ending → World → Prop} (hPost : Hid (∀ w', PNxt w w' g q U (last + 1) → Post (.returned (.bool true)) w')) :
    Calls Tryd.prog 6 #[.pointer (some ⟨g, 0, none⟩), .pointer (some ⟨q, 0, none⟩), .agg #[.int .i64 4, .int .i64 Q, .int .i64 F, .int .i64 T, .int .i64 N, .slice B k d]] w Post := by
  obtain ⟨F0, M0, J⟩ := h.start
  have HE := Lib.hid (fun w' (hf : Fr w w' U) => (show Errs w' E from hE.ext (Fr.ext hW hf hU)))
  have X0 := (Ext.refl w).alloc (.cells #[.int .i64 4, .int .i64 Q, .int .i64 F, .int .i64 T, .int .i64 N, .slice B k d] 34)
  have hob := heap_alloc_new w (.cells #[.int .i64 4, .int .i64 Q, .int .i64 F, .int .i64 T, .int .i64 N, .slice B k d] 34)
  have HFN := Lib.hid (fun (b : Nat) (hb : w.heap.size ≤ b) => J.new hb)
  have HV := Lib.hid (And.intro (J.ex X0) (And.intro hob X0))
  clear hob hW hU hE
  obtain ⟨r, n, v, BS⟩ := both_copy E ls last hlast N
  have HBS := Lib.hid BS
  clear BS h hr hb hB J X0
  go_enter Tryd.func6, Tryd.ntmps6
  go_upto_region 27 with (fail)
  generalize w.alloc (.cells #[.int .i64 4, .int .i64 Q, .int .i64 F, .int .i64 T, .int .i64 N, .slice B k d] 34) = V at *
  generalize hobn : w.heap.size = ob at *
  clear hobn
  have c4 : V.cell? ⟨ob, 4, none⟩ = some (.int .i64 N) := block_cell HV.out.2.1 4
  have D1 := Lib.hid (HBS.out.g V g F0 HV.out.1.gn (HE.out V HV.out.1.fr))
  have NO := Lib.hid (HFN.out ob (Nat.le_refl _))
  go_wp2_with fail
  refine D1.out.mono ?_
  rintro e w1 ⟨rfl, F1, ls1, last1, hl1, n1, HM⟩
  have J1 := HV.out.1.step_g n1
  have b1 := n1.blk HV.out.2.1 NO.out.1
  have D2 := Lib.hid (HM w1 q M0 J1.mn)
  have H1 := Lib.hid (And.intro J1 hl1)
  clear c4 D1 n1 J1 HM hl1
  have c4 : w1.cell? ⟨ob, 4, none⟩ = some (.int .i64 N) := block_cell b1 4
  clear b1
  go_wp2_with fail
  refine D2.out.mono ?_
  rintro e w2 ⟨rfl, M1, n2⟩
  have H2 := Lib.hid (H1.out.1.step_m n2)
  have NU := Lib.hid (HBS.out.num w2 (HE.out w2 H2.out.fr))
  clear c4 D2 n2
  go_wp2_with fail
  refine NU.out.mono ?_
  rintro e w3 ⟨rfl, x3⟩
  have H3 := Lib.hid (H2.out.ex x3)
  clear NU x3
  go_wp2_with fail
  exact hPost.out _ (H3.out.done H1.out.2)
set_option maxHeartbeats 6400000 in
theorem play_nth0 (E : Nat → Addr) (h : Pair w g q U ls last) (hlast : last < 4611686018427387904) (hW : Ext W w) (hU : ∀ b, U b → W.heap.size ≤ b) (hE : Errs W E) (Q F T N : Int) (B : Option Addr) (k d : Nat) (l : List Nat) (hr : Rd w 1 B k (u8s l)) (hb : ∀ y ∈ l, y < 256) (hk : k ≤ 140737488351232) (hB : 0 < k → ∀ b, B = some b → ¬ U b.block) (hls : ls = [])
    {Post : Ending → World → Prop} (hPost : Hid (∀ w', PNxt w w' g q U (last + 1) → Post (.returned (.bool true)) w')) :
    Calls Tryd.prog 6 #[.pointer (some ⟨g, 0, none⟩), .pointer (some ⟨q, 0, none⟩), .agg #[.int .i64 5, .int .i64 Q, .int .i64 F, .int .i64 T, .int .i64 N, .slice B k d]] w Post := by
  obtain ⟨F0, M0, J⟩ := h.start
  have HE := Lib.hid (fun w' (hf : Fr w w' U) => (show Errs w' E from hE.ext (Fr.ext hW hf hU)))
  have X0 := (Ext.refl w).alloc (.cells #[.int .i64 5, .int .i64 Q, .int .i64 F, .int .i64 T, .int .i64 N, .slice B k d] 34)
  have hob := heap_alloc_new w (.cells #[.int .i64 5, .int .i64 Q, .int .i64 F, .int .i64 T, .int .i64 N, .slice B k d] 34)
  have HFN := Lib.hid (fun (b : Nat) (hb : w.heap.size ≤ b) => J.new hb)
  have HV := Lib.hid (And.intro (J.ex X0) (And.intro hob X0))
  clear hob hW hU hE
  subst hls
  clear h hr hb hB J X0
  go_enter Tryd.func6, Tryd.ntmps6
  go_upto_region 31 with (fail)
  generalize w.alloc (.cells #[.int .i64 5, .int .i64 Q, .int .i64 F, .int .i64 T, .int .i64 N, .slice B k d] 34) = V at *
  generalize hobn : w.heap.size = ob at *
  clear hobn
  have c4 : V.cell? ⟨ob, 4, none⟩ = some (.int .i64 N) := block_cell HV.out.2.1 4
  obtain ⟨A, mm, cc, hN, _⟩ := HV.out.1.gn.ex
  have D1 := Lib.hid (nth_none hN (by have := hN.len; simpa using this.symm) N)
  clear hN
  go_wp2_with fail
  refine D1.out.mono ?_
  rintro e w1 ⟨rfl, x1⟩
  have H1 := Lib.hid (HV.out.1.ex x1)
  obtain ⟨B2, A2, mm2, cc2, hM, _⟩ := H1.out.mn.ex
  have h0 : mm2 = 0 := by have := hM.len; simpa using this.symm
  subst h0
  have d0 := hM.c0
  clear c4 D1 x1 hM
  go_wp2_with fail
  exact hPost.out _ (H1.out.done (Nat.le_succ _))
set_option maxHeartbeats 6400000 in
theorem play_nth (E : Nat → Addr) (h : Pair w g q U ls last) (hlast : last < 4611686018427387904) (hW : Ext W w) (hU : ∀ b, U b → W.heap.size ≤ b) (hE : Errs W E) (Q F T N : Int) (B : Option Addr) (k d : Nat) (l : List Nat) (hr : Rd w 1 B k (u8s l)) (hb : ∀ y ∈ l, y < 256) (hk : k ≤ 140737488351232) (hB : 0 < k → ∀ b, B = some b → ¬ U b.block) (hls : 0 < ls.length)
    {Post : Ending → World → Prop} (hPost : Hid (∀ w', PNxt w w' g q U (last + 1) → Post (.returned (.bool true)) w')) :
    Calls Tryd.prog 6 #[.pointer (some ⟨g, 0, none⟩), .pointer (some ⟨q, 0, none⟩), .agg #[.int .i64 5, .int .i64 Q, .int .i64 F, .int .i64 T, .int .i64 N, .slice B k d]] w Post := by
  obtain ⟨F0, M0, J⟩ := h.start
  have HE := Lib.hid (fun w' (hf : Fr w w' U) => (show Errs w' E from hE.ext (Fr.ext hW hf hU)))
  have X0 := (Ext.refl w).alloc (.cells #[.int .i64 5, .int .i64 Q, .int .i64 F, .int .i64 T, .int .i64 N, .slice B k d] 34)
  have hob := heap_alloc_new w (.cells #[.int .i64 5, .int .i64 Q, .int .i64 F, .int .i64 T, .int .i64 N, .slice B k d] 34)
  have HFN := Lib.hid (fun (b : Nat) (hb : w.heap.size ≤ b) => J.new hb)
  have HV := Lib.hid (And.intro (J.ex X0) (And.intro hob X0))
  clear hob hW hU hE
  obtain ⟨m, hm⟩ : ∃ m, ls.length = m := ⟨_, rfl⟩
  rw [hm] at hls
  obtain ⟨r, h1, h2, h3, h4, h5⟩ := nthJ_spec N hls
  obtain ⟨j, hj⟩ : ∃ j, nthJ N m = j := ⟨_, rfl⟩
  rw [hj] at h4 h5
  obtain ⟨j4, hj4⟩ : ∃ j4, j * 4 = j4 := ⟨_, rfl⟩
  obtain ⟨x, hx⟩ : ∃ x, ls[j]? = some x := ⟨ls[j]'(by omega), List.getElem?_eq_getElem _⟩
  have m0 : ((m : Int) == 0) = false := by rw [beq_eq_false_iff_ne]; omega
  have z0 : (0 : Int) ≤ j := by omega
  have z1 : (j : Int) < m := by omega
  have HK := Lib.hid (And.intro hx (And.intro hj hm))
  clear h hr hb hB J X0 hx hj hm
  go_enter Tryd.func6, Tryd.ntmps6
  go_upto_region 31 with (fail)
  generalize w.alloc (.cells #[.int .i64 5, .int .i64 Q, .int .i64 F, .int .i64 T, .int .i64 N, .slice B k d] 34) = V at *
  generalize hobn : w.heap.size = ob at *
  clear hobn
  have c4 : V.cell? ⟨ob, 4, none⟩ = some (.int .i64 N) := block_cell HV.out.2.1 4
  obtain ⟨A, mm, cc, hN, _⟩ := HV.out.1.gn.ex
  have hmm : mm = m := by have := hN.len; have := HK.out.2.2; omega
  subst hmm
  have D1 := Lib.hid (nth_some hN hls N (by rw [HK.out.2.1]; exact HK.out.1))
  have hfew := hN.few
  clear hN
  go_wp2_with fail
  refine D1.out.mono ?_
  rintro e w1 ⟨rfl, x1⟩
  have H1 := Lib.hid (And.intro (HV.out.1.ex x1) ((x1.block ob (block_lt HV.out.2.1)).trans HV.out.2.1))
  obtain ⟨B2, A2, mm2, cc2, hM, _⟩ := H1.out.1.mn.ex
  have hmm : mm2 = mm := by have := hM.len; have := HK.out.2.2; omega
  subst hmm
  have d0 := hM.c0
  obtain ⟨S, rfl, _, _, e0, e1, e2, e3⟩ := hM.lcell HK.out.1 hj4
  clear c4 D1 x1 hM e1 e2 e3
  have c4 : w1.cell? ⟨ob, 4, none⟩ = some (.int .i64 N) := block_cell H1.out.2 4
  go_wp2_with fail
  go_quiet (fail)
  have HZ := Lib.hid (fun nq => H1.out.1.ex ((Ext.refl w1).drewN nq))
  go_wp2_with fail
  exact hPost.out _ ((HZ.out _).done (Nat.le_succ _))
set_option maxHeartbeats 6400000 in
theorem play_lose (E : Nat → Addr) (h : Pair w g q U ls last) (hlast : last < 4611686018427387904) (hW : Ext W w) (hU : ∀ b, U b → W.heap.size ≤ b) (hE : Errs W E) (Q F T N : Int) (B : Option Addr) (k d : Nat) (l : List Nat) (hr : Rd w 1 B k (u8s l)) (hb : ∀ y ∈ l, y < 256) (hk : k ≤ 140737488351232) (hB : 0 < k → ∀ b, B = some b → ¬ U b.block)
    {Post : Ending → World → Prop} (hPost : Hid (∀ w', PNxt w w' g q U (last + 1) → Post (.returned (.bool true)) w')) :
    Calls Tryd.prog 6 #[.pointer (some ⟨g, 0, none⟩), .pointer (some ⟨q, 0, none⟩), .agg #[.int .i64 6, .int .i64 Q, .int .i64 F, .int .i64 T, .int .i64 N, .slice B k d]] w Post := by
  obtain ⟨F0, M0, J⟩ := h.start
  have HE := Lib.hid (fun w' (hf : Fr w w' U) => (show Errs w' E from hE.ext (Fr.ext hW hf hU)))
  have X0 := (Ext.refl w).alloc (.cells #[.int .i64 6, .int .i64 Q, .int .i64 F, .int .i64 T, .int .i64 N, .slice B k d] 34)
  have hob := heap_alloc_new w (.cells #[.int .i64 6, .int .i64 Q, .int .i64 F, .int .i64 T, .int .i64 N, .slice B k d] 34)
  have HFN := Lib.hid (fun (b : Nat) (hb : w.heap.size ≤ b) => J.new hb)
  have HV := Lib.hid (And.intro (J.ex X0) (And.intro hob X0))
  clear hob hW hU hE
  obtain ⟨L, hL⟩ : ∃ L, (ls.length : Int) - ((keepL ls T).length : Int) = L := ⟨_, rfl⟩
  have HL := Lib.hid hL
  clear h hr hb hB J X0 hL
  go_enter Tryd.func6, Tryd.ntmps6
  go_upto_region 37 with (fail)
  generalize w.alloc (.cells #[.int .i64 6, .int .i64 Q, .int .i64 F, .int .i64 T, .int .i64 N, .slice B k d] 34) = V at *
  generalize hobn : w.heap.size = ob at *
  clear hobn
  have HVD := Lib.hid (HV.out.1.ex ((Ext.refl V).drew))
  have HS1 : V.drew.cell? ⟨ob, 3, none⟩ = some (.int .i64 T) := block_cell (w := V.drew) (show V.drew.heap[ob]? = _ from HV.out.2.1) 3
  have D1 := Lib.hid (both_lose_g HVD.out.gn T)
  rw [HL.out] at D1
  have NO := Lib.hid (HFN.out ob (Nat.le_refl _))
  refine d_region (fun W : World => W.cell? ⟨ob, 3, none⟩ = some (.int .i64 T)) [] (by kernel_rfl) ?_
  refine d_take (i := 0) (v := ?_) [] (some 238) rfl (by rfl) (by kernel_rfl) (by kernel_rfl) (by kernel_rfl) (by kernel_rfl) (by kernel_rfl) (by kernel_rfl) (fun _ _ _ h => h) (.inl ⟨by rfl, ?_⟩) HS1 ?_
  rotate_left 1
  · (intro W hW; (try dsimp only at hW); go_simp; try with_reducible rfl)
  try simp only [Act.put, List.setIfInBounds_toArray, List.set_cons_zero, List.set_cons_succ]
  refine d_take (i := 1) (v := ?_) [] (some 239) rfl (by rfl) (by kernel_rfl) (by kernel_rfl) (by kernel_rfl) (by kernel_rfl) (by kernel_rfl) (by kernel_rfl) (fun _ _ _ h => h) (.inl ⟨by rfl, ?_⟩) HS1 ?_
  rotate_left 1
  · (intro W hW; (try dsimp only at hW); go_simp; try with_reducible rfl)
  try simp only [Act.put, List.setIfInBounds_toArray, List.set_cons_zero, List.set_cons_succ]
  refine d_take (i := 2) (v := ?_) [] (some 240) rfl (by rfl) (by kernel_rfl) (by kernel_rfl) (by kernel_rfl) (by kernel_rfl) (by kernel_rfl) (by kernel_rfl) (fun _ _ _ h => h) (.inl ⟨by rfl, ?_⟩) HS1 ?_
  rotate_left 1
  · (intro W hW; (try dsimp only at hW); go_simp; try with_reducible rfl)
  try simp only [Act.put, List.setIfInBounds_toArray, List.set_cons_zero, List.set_cons_succ]
  refine d_take (i := 4) (v := ?_) [] (some 242) rfl (by rfl) (by kernel_rfl) (by kernel_rfl) (by kernel_rfl) (by kernel_rfl) (by kernel_rfl) (by kernel_rfl) (fun _ _ _ h => h) (.inl ⟨by rfl, ?_⟩) HS1 ?_
  rotate_left 1
  · (intro W hW; (try dsimp only at hW); go_simp; try with_reducible rfl)
  try simp only [Act.put, List.setIfInBounds_toArray, List.set_cons_zero, List.set_cons_succ]
  refine d_take (i := 5) (v := ?_) [] (some 243) rfl (by rfl) (by kernel_rfl) (by kernel_rfl) (by kernel_rfl) (by kernel_rfl) (by kernel_rfl) (by kernel_rfl) (fun _ _ _ h => h) (.inl ⟨by rfl, ?_⟩) HS1 ?_
  rotate_left 1
  · (intro W hW; (try dsimp only at hW); go_simp; try with_reducible rfl)
  try simp only [Act.put, List.setIfInBounds_toArray, List.set_cons_zero, List.set_cons_succ]
  refine d_take (i := 6) (v := ?_) [] (some 244) rfl (by rfl) (by kernel_rfl) (by kernel_rfl) (by kernel_rfl) (by kernel_rfl) (by kernel_rfl) (by kernel_rfl) (fun _ _ _ h => h) (.inl ⟨by rfl, ?_⟩) HS1 ?_
  rotate_left 1
  · (intro W hW; (try dsimp only at hW); go_simp; try with_reducible rfl)
  try simp only [Act.put, List.setIfInBounds_toArray, List.set_cons_zero, List.set_cons_succ]
  refine d_call (i := 3) (by kernel_rfl) rfl (by rfl) (fun K hK => ?_)
  simp only [List.getElem_toArray, List.getElem_cons_succ, List.getElem_cons_zero]
  go_simp
  refine D1.out.mono ?_
  rintro e0 w1 ⟨rfl, n1⟩
  have H1 := Lib.hid (HVD.out.step_g n1)
  have b1 := Lib.hid (n1.blk (show V.drew.heap[ob]? = _ from HV.out.2.1) NO.out.1)
  have HS2 : w1.cell? ⟨ob, 3, none⟩ = some (.int .i64 T) := block_cell b1.out 3
  have D2 := Lib.hid (both_lose_m H1.out.mn T)
  rw [HL.out] at D2
  clear D1 n1
  go_simp
  refine hK.out _ _ (fun _ => HS2) ?_
  clear hK K
  try simp only [Act.put, List.setIfInBounds_toArray, List.set_cons_zero, List.set_cons_succ]
  refine d_call (i := 7) (by kernel_rfl) rfl (by rfl) (fun K hK => ?_)
  simp only [List.getElem_toArray, List.getElem_cons_succ, List.getElem_cons_zero]
  go_simp
  refine D2.out.mono ?_
  rintro e0 w2 ⟨rfl, M1, n2⟩
  have H2 := Lib.hid (H1.out.step_m n2)
  have HS3 : w2.cell? ⟨ob, 3, none⟩ = some (.int .i64 T) := block_cell (n2.blk b1.out NO.out.2) 3
  clear D2 n2
  go_simp
  refine hK.out _ _ (fun _ => HS3) ?_
  clear hK K
  try simp only [Act.put, List.setIfInBounds_toArray, List.set_cons_zero, List.set_cons_succ]
  refine d_take (i := 8) (v := ?_) [] (some 246) rfl (by rfl) (by kernel_rfl) (by kernel_rfl) (by kernel_rfl) (by kernel_rfl) (by kernel_rfl) (by kernel_rfl) (fun _ _ _ h => h) (.inl ⟨by rfl, ?_⟩) HS3 ?_
  rotate_left 1
  · (intro W hW; (try dsimp only at hW); go_simp; try with_reducible rfl)
  try simp only [Act.put, List.setIfInBounds_toArray, List.set_cons_zero, List.set_cons_succ]
  refine d_take (i := 9) (v := ?_) [] (some 6) rfl (by rfl) (by kernel_rfl) (by kernel_rfl) (by kernel_rfl) (by kernel_rfl) (by kernel_rfl) (by kernel_rfl) (fun _ _ _ h => h) (.inl ⟨by rfl, ?_⟩) HS3 ?_
  rotate_left 1
  · (intro W hW; (try dsimp only at hW); go_simp; try with_reducible rfl)
  try simp only [Act.put, List.setIfInBounds_toArray, List.set_cons_zero, List.set_cons_succ]
  refine d_done (by kernel_rfl) ?_ _
  clear HS1 HS2 HS3
  go_wp2_with fail
  exact hPost.out _ (H2.out.done (Nat.le_succ _))
set_option maxHeartbeats 6400000 in
theorem play_else (E : Nat → Addr) (h : Pair w g q U ls last) (hlast : last < 4611686018427387904) (hW : Ext W w) (hU : ∀ b, U b → W.heap.size ≤ b) (hE : Errs W E) (Q F T N : Int) (B : Option Addr) (k d : Nat) (l : List Nat) (hr : Rd w 1 B k (u8s l)) (hb : ∀ y ∈ l, y < 256) (hk : k ≤ 140737488351232) (hB : 0 < k → ∀ b, B = some b → ¬ U b.block) (K : Int) (h1 : K ≠ 1) (h2 : K ≠ 2) (h3 : K ≠ 3) (h4 : K ≠ 4) (h5 : K ≠ 5) (h6 : K ≠ 6)
    {Post : Ending → World → Prop} (hPost : Hid (∀ w', PNxt w w' g q U (last + 1) → Post (.returned (.bool true)) w')) :
    Calls Tryd.prog 6 #[.pointer (some ⟨g, 0, none⟩), .pointer (some ⟨q, 0, none⟩), .agg #[.int .i64 K, .int .i64 Q, .int .i64 F, .int .i64 T, .int .i64 N, .slice B k d]] w Post := by
  obtain ⟨F0, M0, J⟩ := h.start
  have HE := Lib.hid (fun w' (hf : Fr w w' U) => (show Errs w' E from hE.ext (Fr.ext hW hf hU)))
  have X0 := (Ext.refl w).alloc (.cells #[.int .i64 K, .int .i64 Q, .int .i64 F, .int .i64 T, .int .i64 N, .slice B k d] 34)
  have hob := heap_alloc_new w (.cells #[.int .i64 K, .int .i64 Q, .int .i64 F, .int .i64 T, .int .i64 N, .slice B k d] 34)
  have HFN := Lib.hid (fun (b : Nat) (hb : w.heap.size ≤ b) => J.new hb)
  have HV := Lib.hid (And.intro (J.ex X0) (And.intro hob X0))
  clear hob hW hU hE
  have e1 : (K == 1) = false := by simpa using h1
  have e2 : (K == 2) = false := by simpa using h2
  have e3 : (K == 3) = false := by simpa using h3
  have e4 : (K == 4) = false := by simpa using h4
  have e5 : (K == 5) = false := by simpa using h5
  have e6 : (K == 6) = false := by simpa using h6
  clear h hr hb hB J X0 h1 h2 h3 h4 h5 h6
  go_enter Tryd.func6, Tryd.ntmps6
  go_wp2_with fail
  exact hPost.out _ (HV.out.1.done (Nat.le_succ _))
end
end Go.Proofs.YteaainepnelehaaDoor
