/-
  play, walked: Send.
-/
import Derived.Test.YteaainepnelehaaDoorNpBytes
import Derived.BigRegion
namespace Go.Proofs.YteaainepnelehaaDoor
set_option maxRecDepth 100000
open Go.RowKit
set_option linter.unusedVariables false
section
variable {W w : World} {g q last : Nat} {U : Nat → Prop} {ls : List LetV}
set_option maxHeartbeats 6400000 in
theorem play_send (E : Nat → Addr) (h : Pair w g q U ls last) (hlast : last < 4611686018427387904) (hW : Ext W w) (hU : ∀ b, U b → W.heap.size ≤ b) (hE : Errs W E) (Q F T N : Int) (B : Option Addr) (k d : Nat) (l : List Nat) (hr : Rd w 1 B k (u8s l)) (hb : ∀ y ∈ l, y < 256) (hk : k ≤ 140737488351232) (hB : 0 < k → ∀ b, B = some b → ¬ U b.block)
    {Post : Ending → World → Prop} (hPost : Hid (∀ w', PNxt w w' g q U (last + 1) → Post (.returned (.bool true)) w')) :
    Calls Tryd.prog 6 #[.pointer (some ⟨g, 0, none⟩), .pointer (some ⟨q, 0, none⟩), .agg #[.int .i64 1, .int .i64 Q, .int .i64 F, .int .i64 T, .int .i64 N, .slice B k d]] w Post := by
  obtain ⟨F0, M0, J⟩ := h.start
  have HE := Lib.hid (fun w' (hf : Fr w w' U) => (show Errs w' E from hE.ext (Fr.ext hW hf hU)))
  have X0 := (Ext.refl w).alloc (.cells #[.int .i64 1, .int .i64 Q, .int .i64 F, .int .i64 T, .int .i64 N, .slice B k d] 34)
  have hob := heap_alloc_new w (.cells #[.int .i64 1, .int .i64 Q, .int .i64 F, .int .i64 T, .int .i64 N, .slice B k d] 34)
  have HFN := Lib.hid (fun (b : Nat) (hb : w.heap.size ≤ b) => J.new hb)
  have HV := Lib.hid (And.intro (J.ex X0) (And.intro hob X0))
  clear hob hW hU hE
  have HR := Lib.hid (And.intro hr (And.intro hb hB))
  obtain ⟨r, n, v, BS⟩ := both_send E ls last hlast F T l
  have HBS := Lib.hid BS
  clear BS h hr hb hB J X0
  go_enter Tryd.func6, Tryd.ntmps6
  go_upto_region 3 with (fail)
  generalize w.alloc (.cells #[.int .i64 1, .int .i64 Q, .int .i64 F, .int .i64 T, .int .i64 N, .slice B k d] 34) = V at *
  generalize hobn : w.heap.size = ob at *
  have c5 : V.cell? ⟨ob, 5, none⟩ = some (.slice B k d) := block_cell HV.out.2.1 5
  have BY := Lib.hid (bytes_own B k d l V hk (HR.out.1.ext HV.out.2.2))
  have HOB := Lib.hid hobn
  clear hobn
  go_wp2_with fail
  refine BY.out.mono ?_
  rintro e w1 ⟨rfl, o1, x1⟩
  generalize hgb : V.heap.size = gb at *
  have J1 := HV.out.1.ex x1
  have b1 := (x1.block ob (block_lt HV.out.2.1)).trans HV.out.2.1
  obtain ⟨_, e1, u1⟩ := o1.u8b (by omega)
  injection e1 with e1
  injection e1 with e1
  subst e1
  have hg1 : gb < w1.heap.size := u1.lt
  have hwg : ob ≤ gb := by have := HV.out.2.2.size; have := HOB.out; omega
  have C1 := Lib.hid (HBS.out.g w1 g F0 (some ⟨gb, 0, none⟩) k (k + 6) J1.gn (HE.out w1 J1.fr) (o1.rd.unmark) HR.out.2.1 hk (fun _ b hb e => by
    injection hb with hb
    subst hb
    exact (HFN.out gb hwg).1 (by have e : gb = g := e; rw [e]; exact J1.gn.fg)))
  have H1 := Lib.hid (And.intro J1 (And.intro b1 (And.intro o1 (And.intro u1 (And.intro hg1 hwg)))))
  have NO := Lib.hid (HFN.out ob (Nat.le_refl _))
  have NB := Lib.hid (HFN.out gb hwg)
  have c2 : w1.cell? ⟨ob, 2, none⟩ = some (.int .i64 F) := block_cell b1 2
  have c3 : w1.cell? ⟨ob, 3, none⟩ = some (.int .i64 T) := block_cell b1 3
  have HGB := Lib.hid hgb
  clear c5 BY J1 b1 o1 u1 x1 hg1 hwg hgb
  go_wp2_with fail
  refine C1.out.mono ?_
  rintro e w2 ⟨rfl, F1, ls1, last1, hl1, n1, HM⟩
  have J2 := H1.out.1.step_g n1
  have b2 := n1.blk H1.out.2.1 NO.out.1
  have u2 := H1.out.2.2.2.1.fr n1.fr NB.out.1
  have r2 := rd0 n1.fr (H1.out.2.2.1.rd) (fun _ a ha e => by injection ha with ha; subst ha; exact NB.out.1 e)
  have nf : ¬ F1 gb := n1.not H1.out.2.2.2.2.1 NB.out.1
  have rB := rd0 J2.fr HR.out.1 HR.out.2.2
  have C2 := Lib.hid (HM w2 q M0 B k d J2.mn rB)
  have H2 := Lib.hid (And.intro J2 (And.intro b2 (And.intro u2 (And.intro r2 (And.intro nf hl1)))))
  clear c2 c3
  have c2 : w2.cell? ⟨ob, 2, none⟩ = some (.int .i64 F) := block_cell b2 2
  have c3 : w2.cell? ⟨ob, 3, none⟩ = some (.int .i64 T) := block_cell b2 3
  have c5 : w2.cell? ⟨ob, 5, none⟩ = some (.slice B k d) := block_cell b2 5
  clear C1 HM n1 J2 b2 u2 r2 nf rB hl1
  go_wp2_with fail
  refine C2.out.mono ?_
  rintro e w3 ⟨rfl, M1, n2⟩
  have J3 := H2.out.1.step_m n2
  have b3 := n2.blk H2.out.2.1 NO.out.2
  have u3 := H2.out.2.2.1.fr n2.fr NB.out.2
  have r3 := rd0 n2.fr H2.out.2.2.2.1 (fun _ a ha e => by injection ha with ha; subst ha; exact NB.out.2 e)
  have nm : ¬ M1 gb := n2.not H2.out.2.2.1.lt NB.out.2
  have NU := Lib.hid (HBS.out.num w3 (HE.out w3 J3.fr))
  have H3 := Lib.hid (And.intro J3 (And.intro b3 (And.intro u3 (And.intro r3 nm))))
  clear C2 n2 J3 b3 u3 r3 nm c2 c3 c5
  go_wp2_with fail
  refine NU.out.mono ?_
  rintro e w4 ⟨rfl, x4⟩
  have J4 := H3.out.1.ex x4
  have b4 := (x4.block ob (block_lt H3.out.2.1)).trans H3.out.2.1
  have c5 : w4.cell? ⟨ob, 5, none⟩ = some (.slice B k d) := block_cell b4 5
  have KP := Lib.hid (kept_any gb k d B l w4 hk (H3.out.2.2.2.1.ext x4) (rd0 J4.fr HR.out.1 HR.out.2.2))
  have H4 := Lib.hid (And.intro J4 (H3.out.2.2.1.ext x4))
  clear NU x4 J4 b4
  go_wp2_with fail
  refine KP.out.mono ?_
  rintro e _ ⟨rfl, kk, rfl⟩
  have x5 := (Ext.refl w4).drewN kk
  have H5 := Lib.hid (And.intro (H4.out.1.ex x5) (H4.out.2.ext x5))
  generalize w4.drewN kk = w5 at *
  clear KP c5 x5
  go_wp2_with fail
  go_loopw [74] (fun v74 wr => ∃ j : Nat, v74 = .int .i64 (j : Int) ∧ j ≤ k ∧ Hid (Fr w5 wr (· = gb) ∧ U8B wr gb (k + 6))) (fun v74 _ => k - (intOf v74).toNat)
  case atStart => exact ⟨0, rfl, by omega, Fr.refl _ _, H5.out.2⟩
  case round =>
    obtain ⟨j, rfl, hj, HX⟩ := hrel
    by_cases hjk : j < k
    · obtain ⟨y, cy⟩ := HX.out.2.cell (j := j) (by omega)
      have fy := HX.out.2.fz j
      have z0 : (0 : Int) ≤ j := by omega
      have z1 : (j : Int) < k := by omega
      have z2 : j < k + 6 := by omega
      have HN := Lib.hid (fun (v : Int) => (show Fr w5 (wr.setCell ⟨gb, j, none⟩ (.int .u8 v)) (· = gb) ∧ U8B (wr.setCell ⟨gb, j, none⟩ (.int .u8 v)) gb (k + 6) from ⟨HX.out.1.trans (Fr.store wr ⟨gb, j, none⟩ _) (fun _ _ h => h), HX.out.2.set j v⟩))
      go_wp2_with fail
      go_roundw
      case rel => exact ⟨j + 1, by go_num, by omega, HN.out _⟩
      case measure => simp [intOf]; omega
    · obtain rfl : k = j := by omega
      have HZ := Lib.hid (H5.out.1.wrs HX.out.1 (fun b e => by
        subst e
        exact ⟨H2.out.2.2.2.2.1, H3.out.2.2.2.2, .inr (by rw [HOB.out]; exact H1.out.2.2.2.2.2)⟩))
      go_wp2_with fail
      exact hPost.out _ (HZ.out.done H2.out.2.2.2.2.2)
end
end Go.Proofs.YteaainepnelehaaDoor
