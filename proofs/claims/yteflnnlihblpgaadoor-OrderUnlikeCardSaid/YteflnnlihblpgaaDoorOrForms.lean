/-
  Package almonerlaw09: alive; OrderForms; walked.
-/
import Derived.Test.YteflnnlihblpgaaDoorOrForm
import Derived.Test.YteflnnlihblpgaaDoorOrSame2
import Derived.Test.YteflnnlihblpgaaDoorOrSame3
import Derived.Test.YteflnnlihblpgaaDoorOrGet
import Derived.Test.YteflnnlihblpgaaDoorOrPut2
import Derived.Test.YteflnnlihblpgaaDoorOrCopy
namespace Go.Proofs.YteflnnlihblpgaaDoor
set_option maxRecDepth 100000
open Go.RowKit
set_option linter.unusedVariables false
def en0 : En := ⟨1, 2, 3, 5, 0, 0, 0, 0, 7, []⟩
theorem en0_put : en0.put = [1, 2, 3, 7, 5, 0, 0, 0, 0, 0] := by
  show putN [1, 2, 3, 7, 5, 0, 0, 0, 0, 0] = _
  have h : ∀ x : Int, x < 128 → Wr.num x.toNat = [x.toNat] := fun x hx => Wr.num_small (by omega)
  simp only [putN, List.flatMap_cons, List.flatMap_nil]
  rw [h 1 (by decide), h 2 (by decide), h 3 (by decide), h 7 (by decide), h 5 (by decide), h 0 (by decide)]
  rfl
theorem en0_form : en0.form = true := by decide
set_option maxHeartbeats 1600000 in
theorem alive_any (w : World) : Calls Tryd.prog 12 #[] w fun x w' => x = .returned (.bool true) ∧ Ext w w' := by
  have CP : Hid (Calls Tryd.prog 26 #[.agg #[.int .i64 1, .int .i64 2, .int .i64 3, .int .i64 5, .int .i64 0, .int .i64 0, .int .i64 0, .int .i64 0, .slice none 0 0, .int .i64 7]] w fun x w' => ∃ B m d, x = .returned (.tuple #[.slice B m d, .nilIface]) ∧ Own w' w.heap.size 5 1 B m d (u8s en0.put) ∧ Ext w w') := Lib.hid (put_ok (e := en0) (A := none) (n := 0) (c := 0) Rd.nil_ en0_form)
  rw [en0_put] at CP
  go_enter Tryd.func12, Tryd.ntmps12
  go_upto_region 2 with (go_at_call 26; refine CP.out.mono ?_; rintro x w1 ⟨B, m, d, rfl, o1, x1⟩)
  have r1 := run_str (P := Tryd.prog) (w := w1) (s := 9) Tryd.underlying54 Tryd.underlying5 Tryd.underlying9 d o1.rd
  rw [show str [1, 2, 3, 7, 5, 0, 0, 0, 0, 0] = ⟨#[1, 2, 3, 7, 5, 0, 0, 0, 0, 0]⟩ from rfl] at r1
  have HX := Lib.hid x1
  clear o1 x1 CP
  go_wp2_with fail
  go_returns
  exact ⟨rfl, HX.out⟩
theorem get_one {e : En} (he : e.form = true) {base : Nat} {bad good : Value} {x : Ending} {w' : World} (h : GetOut e.put base bad good x w') : ∃ A n c, x = .returned (.tuple #[.agg #[.int .i64 e.cl, .int .i64 e.nu, .int .i64 e.kd, .int .i64 e.id, .int .i64 e.sk, .int .i64 e.sq, .int .i64 e.st, .int .i64 e.pol, .slice A n c, .int .i64 e.at_], good]) ∧ EnS.Lies ⟨e, A, n, c⟩ w' := by
  rcases h with ⟨⟨d, A, n, c⟩, h1, h2, h3, h4, _⟩ | ⟨h1, _⟩
  · obtain rfl := put_inj he h1 h2
    exact ⟨A, n, c, h3, h4⟩
  · exact absurd rfl (h1 e he)
theorem one_ent {tt : List EnS} {e : En} (h : ents tt = [e]) : ∃ A n c, tt = [⟨e, A, n, c⟩] := by
  match tt, h with
  | [⟨e', A, n, c⟩], h => exact ⟨A, n, c, by simp [ents] at h; rw [h]⟩
set_option maxHeartbeats 6400000 in
theorem forms_any (e : En) (A : Option Addr) (n c : Nat) (w : World) (hs : EnS.Lies ⟨e, A, n, c⟩ w) {pb ps : Addr} (hB : Sen w 2 pb) (hS : Sen w 1 ps) : Calls Tryd.prog 5 #[.agg #[.int .i64 e.cl, .int .i64 e.nu, .int .i64 e.kd, .int .i64 e.id, .int .i64 e.sk, .int .i64 e.sq, .int .i64 e.st, .int .i64 e.pol, .slice A n c, .int .i64 e.at_]] w fun x w' => x = .returned (.bool true) ∧ Ext w w' := by
  have HS := Lib.hid (fun W (hx : Ext w W) => And.intro (hs.ext hx) (And.intro (hB.ext hx) (hS.ext hx)))
  have X1 := (Ext.refl w).alloc (.cells #[.int .i64 e.cl, .int .i64 e.nu, .int .i64 e.kd, .int .i64 e.id, .int .i64 e.sk, .int .i64 e.sq, .int .i64 e.st, .int .i64 e.pol, .slice A n c, .int .i64 e.at_] 29)
  have b1 := heap_alloc_new w (.cells #[.int .i64 e.cl, .int .i64 e.nu, .int .i64 e.kd, .int .i64 e.id, .int .i64 e.sk, .int .i64 e.sq, .int .i64 e.st, .int .i64 e.pol, .slice A n c, .int .i64 e.at_] 29)
  have HV := Lib.hid (And.intro b1 X1)
  clear X1 b1
  clear hs hB hS
  go_enter Tryd.func5, Tryd.ntmps5
  go_upto_region 1 with (fail)
  generalize w.alloc (.cells #[.int .i64 e.cl, .int .i64 e.nu, .int .i64 e.kd, .int .i64 e.id, .int .i64 e.sk, .int .i64 e.sq, .int .i64 e.st, .int .i64 e.pol, .slice A n c, .int .i64 e.at_] 29) = V at *
  generalize w.heap.size = ob at *
  have CA := Lib.hid (alive_any V)
  go_upto_region 3 with (go_at_call 12; refine CA.out.mono ?_; rintro x w1 ⟨rfl, x1⟩)
  have H1 := Lib.hid (And.intro ((x1.block _ (block_lt HV.out.1)).trans HV.out.1) (HV.out.2.trans x1))
  clear CA x1
  have g0 : w1.cell? ⟨ob, 0, none⟩ = some (.int .i64 e.cl) := block_cell (H1.out.1) 0
  have g1 : w1.cell? ⟨ob, 1, none⟩ = some (.int .i64 e.nu) := block_cell (H1.out.1) 1
  have g2 : w1.cell? ⟨ob, 2, none⟩ = some (.int .i64 e.kd) := block_cell (H1.out.1) 2
  have g3 : w1.cell? ⟨ob, 3, none⟩ = some (.int .i64 e.id) := block_cell (H1.out.1) 3
  have g4 : w1.cell? ⟨ob, 4, none⟩ = some (.int .i64 e.sk) := block_cell (H1.out.1) 4
  have g5 : w1.cell? ⟨ob, 5, none⟩ = some (.int .i64 e.sq) := block_cell (H1.out.1) 5
  have g6 : w1.cell? ⟨ob, 6, none⟩ = some (.int .i64 e.st) := block_cell (H1.out.1) 6
  have g7 : w1.cell? ⟨ob, 7, none⟩ = some (.int .i64 e.pol) := block_cell (H1.out.1) 7
  have g8 : w1.cell? ⟨ob, 8, none⟩ = some (.slice A n c) := block_cell (H1.out.1) 8
  have g9 : w1.cell? ⟨ob, 9, none⟩ = some (.int .i64 e.at_) := block_cell (H1.out.1) 9
  have XB := (Ext.refl w1).alloc (.cells #[.int .i64 e.cl, .int .i64 e.nu, .int .i64 e.kd, .int .i64 e.id, .int .i64 e.sk, .int .i64 e.sq, .int .i64 e.st, .int .i64 e.pol, .slice A n c, .int .i64 e.at_] 29)
  have CC := Lib.hid (rcopy_any (some ⟨w1.heap.size, 0, none⟩) 1 1 [⟨e, A, n, c⟩] (w1.alloc (.cells #[.int .i64 e.cl, .int .i64 e.nu, .int .i64 e.kd, .int .i64 e.id, .int .i64 e.sk, .int .i64 e.sq, .int .i64 e.st, .int .i64 e.pol, .slice A n c, .int .i64 e.at_] 29)) ⟨by simpa [erows] using rd_entry ⟨e, A, n, c⟩ w1, fun q hq => by
    obtain rfl := List.mem_singleton.1 hq
    exact (HS.out _ (H1.out.2.trans XB)).1⟩ (by omega))
  have HXB := Lib.hid XB
  clear XB
  go_wp2_with (go_at_call 13; refine held ?_)
  refine Held.go (CC.out.mono ?_)
  rintro x w2 ⟨B, d, tt, rfl, htt, ho, x2⟩
  obtain ⟨A1, n1, c1, rfl⟩ := one_ent htt
  obtain ⟨ad, rfl, y0, y1, y2, y3, y4, y5, y6, y7, y8, y9⟩ := ho.led.entry (k := 0) (k10 := 0) rfl rfl
  rw [show ad.add 0 = ad by unfold Addr.add; rw [if_pos rfl]] at y0 y1 y2 y3 y4 y5 y6 y7 y8 y9
  have HL := Lib.hid (And.intro (ho.all _ (List.mem_singleton.2 rfl)).1 (HXB.out.trans x2))
  clear ho x2 htt CC
  have XB := (Ext.refl w2).alloc (.cells #[.int .i64 e.cl, .int .i64 e.nu, .int .i64 e.kd, .int .i64 e.id, .int .i64 e.sk, .int .i64 e.sq, .int .i64 e.st, .int .i64 e.pol, .slice A1 n1 c1, .int .i64 e.at_] 29)
  have H2 := Lib.hid (And.intro (heap_alloc_new w2 (.cells #[.int .i64 e.cl, .int .i64 e.nu, .int .i64 e.kd, .int .i64 e.id, .int .i64 e.sk, .int .i64 e.sq, .int .i64 e.st, .int .i64 e.pol, .slice A1 n1 c1, .int .i64 e.at_] 29)) (And.intro (((HL.out.2.trans XB).block _ (block_lt H1.out.1)).trans H1.out.1) (And.intro (HL.out.1.ext XB) (H1.out.2.trans (HL.out.2.trans XB)))))
  clear XB
  go_upto_region 4 with (fail)
  clear y0 y1 y2 y3 y4 y5 y6 y7 y8 y9 g0 g1 g2 g3 g4 g5 g6 g7 g8 g9
  generalize w2.alloc (.cells #[.int .i64 e.cl, .int .i64 e.nu, .int .i64 e.kd, .int .i64 e.id, .int .i64 e.sk, .int .i64 e.sq, .int .i64 e.st, .int .i64 e.pol, .slice A1 n1 c1, .int .i64 e.at_] 29) = V3 at *
  generalize w2.heap.size = tb at *
  have p0 : ∀ W, Ext V3 W → W.cell? ⟨tb, 0, none⟩ = some (.int .i64 e.cl) := fun W hx => block_cell ((hx.block _ (block_lt (H2.out.1))).trans (H2.out.1)) 0
  have p1 : ∀ W, Ext V3 W → W.cell? ⟨tb, 1, none⟩ = some (.int .i64 e.nu) := fun W hx => block_cell ((hx.block _ (block_lt (H2.out.1))).trans (H2.out.1)) 1
  have p2 : ∀ W, Ext V3 W → W.cell? ⟨tb, 2, none⟩ = some (.int .i64 e.kd) := fun W hx => block_cell ((hx.block _ (block_lt (H2.out.1))).trans (H2.out.1)) 2
  have p3 : ∀ W, Ext V3 W → W.cell? ⟨tb, 3, none⟩ = some (.int .i64 e.id) := fun W hx => block_cell ((hx.block _ (block_lt (H2.out.1))).trans (H2.out.1)) 3
  have p4 : ∀ W, Ext V3 W → W.cell? ⟨tb, 4, none⟩ = some (.int .i64 e.sk) := fun W hx => block_cell ((hx.block _ (block_lt (H2.out.1))).trans (H2.out.1)) 4
  have p5 : ∀ W, Ext V3 W → W.cell? ⟨tb, 5, none⟩ = some (.int .i64 e.sq) := fun W hx => block_cell ((hx.block _ (block_lt (H2.out.1))).trans (H2.out.1)) 5
  have p6 : ∀ W, Ext V3 W → W.cell? ⟨tb, 6, none⟩ = some (.int .i64 e.st) := fun W hx => block_cell ((hx.block _ (block_lt (H2.out.1))).trans (H2.out.1)) 6
  have p7 : ∀ W, Ext V3 W → W.cell? ⟨tb, 7, none⟩ = some (.int .i64 e.pol) := fun W hx => block_cell ((hx.block _ (block_lt (H2.out.1))).trans (H2.out.1)) 7
  have p8 : ∀ W, Ext V3 W → W.cell? ⟨tb, 8, none⟩ = some (.slice A1 n1 c1) := fun W hx => block_cell ((hx.block _ (block_lt (H2.out.1))).trans (H2.out.1)) 8
  have p9 : ∀ W, Ext V3 W → W.cell? ⟨tb, 9, none⟩ = some (.int .i64 e.at_) := fun W hx => block_cell ((hx.block _ (block_lt (H2.out.1))).trans (H2.out.1)) 9
  have q0 : ∀ W, Ext V3 W → W.cell? ⟨ob, 0, none⟩ = some (.int .i64 e.cl) := fun W hx => block_cell ((hx.block _ (block_lt (H2.out.2.1))).trans (H2.out.2.1)) 0
  have q1 : ∀ W, Ext V3 W → W.cell? ⟨ob, 1, none⟩ = some (.int .i64 e.nu) := fun W hx => block_cell ((hx.block _ (block_lt (H2.out.2.1))).trans (H2.out.2.1)) 1
  have q2 : ∀ W, Ext V3 W → W.cell? ⟨ob, 2, none⟩ = some (.int .i64 e.kd) := fun W hx => block_cell ((hx.block _ (block_lt (H2.out.2.1))).trans (H2.out.2.1)) 2
  have q3 : ∀ W, Ext V3 W → W.cell? ⟨ob, 3, none⟩ = some (.int .i64 e.id) := fun W hx => block_cell ((hx.block _ (block_lt (H2.out.2.1))).trans (H2.out.2.1)) 3
  have q4 : ∀ W, Ext V3 W → W.cell? ⟨ob, 4, none⟩ = some (.int .i64 e.sk) := fun W hx => block_cell ((hx.block _ (block_lt (H2.out.2.1))).trans (H2.out.2.1)) 4
  have q5 : ∀ W, Ext V3 W → W.cell? ⟨ob, 5, none⟩ = some (.int .i64 e.sq) := fun W hx => block_cell ((hx.block _ (block_lt (H2.out.2.1))).trans (H2.out.2.1)) 5
  have q6 : ∀ W, Ext V3 W → W.cell? ⟨ob, 6, none⟩ = some (.int .i64 e.st) := fun W hx => block_cell ((hx.block _ (block_lt (H2.out.2.1))).trans (H2.out.2.1)) 6
  have q7 : ∀ W, Ext V3 W → W.cell? ⟨ob, 7, none⟩ = some (.int .i64 e.pol) := fun W hx => block_cell ((hx.block _ (block_lt (H2.out.2.1))).trans (H2.out.2.1)) 7
  have q8 : ∀ W, Ext V3 W → W.cell? ⟨ob, 8, none⟩ = some (.slice A n c) := fun W hx => block_cell ((hx.block _ (block_lt (H2.out.2.1))).trans (H2.out.2.1)) 8
  have q9 : ∀ W, Ext V3 W → W.cell? ⟨ob, 9, none⟩ = some (.int .i64 e.at_) := fun W hx => block_cell ((hx.block _ (block_lt (H2.out.2.1))).trans (H2.out.2.1)) 9
  have H3 := Lib.hid (And.intro H2.out.2.2.1 H2.out.2.2.2)
  have HW := Lib.hid (fun W (hx : Ext V3 W) => (show EnS.Lies ⟨e, A, n, c⟩ W ∧ EnS.Lies ⟨e, A1, n1, c1⟩ W ∧ Sen W 2 pb ∧ Sen W 1 ps from by
    have h := HS.out W (H3.out.2.trans hx)
    exact ⟨h.1, H3.out.1.ext hx, h.2.1, h.2.2⟩))
  skip
  have X0 : Ext V3 V3 := Ext.refl V3
  have CS := Lib.hid (fun W (hx : Ext V3 W) => rsame_any ⟨e, A1, n1, c1⟩ ⟨e, A, n, c⟩ W (HW.out W hx).2.1 (HW.out W hx).1 true (Lib.hid (decide_eq_true rfl)))
  have ES := err_same
  by_cases hf : e.form = true
  · have CK := Lib.hid (fun W (hx : Ext V3 W) => check_ok (e := e) (c := c1) (HW.out W hx).2.1.rd (Nat.le_trans (HW.out W hx).2.1.le (by decide)) hf)
    have CP := Lib.hid (fun W (hx : Ext V3 W) => put_ok (e := e) (c := c1) (HW.out W hx).2.1.rd hf)
    have CF := Lib.hid (fun W (hx : Ext V3 W) => rform_any e A n c W (HW.out W hx).1 true (Lib.hid hf))
    have CG := Lib.hid (fun W (hx : Ext V3 W) (B : Option Addr) (m d : Nat) (hr : Rd W 1 B m (u8s e.put)) => get_any B m d e.put W hr e.put_byte (by have h1 := put_len hf; have h2 := hr.len; rw [u8s_len] at h2; omega) (HW.out W hx).2.2.1 (HW.out W hx).2.2.2)
    have CR := Lib.hid (fun W (hx : Ext V3 W) => rput_any e A n c W (HW.out W hx).1 hf)
    have HF := Lib.hid hf
    clear hf
    go_upto_region 10 with (first | (go_at_call 25; refine (CK.out _ X0).mono ?_; rintro x w3 ⟨rfl, x3⟩; have X3 := X0.trans x3; clear x3) | (go_at_call 26; refine (CP.out _ X3).mono ?_; rintro x w4 ⟨B2, m2, d2, rfl, o4, x4⟩; have X4 := X3.trans x4; clear x4) | (go_at_call 24; refine (CS.out _ X4).mono ?_; rintro x w5 ⟨rfl, x5⟩; have X5 := X4.trans x5) | (go_at_call 27; refine (CF.out _ X5).mono ?_; rintro x w6 ⟨rfl, x6⟩; have X6 := X5.trans x6))
    have R6 := o4.rd.ext (x5.trans x6)
    go_upto_region 11 with (go_at_call 28; refine (CG.out _ X6 B2 m2 d2 R6).mono ?_; rintro x w7 ⟨hg, x7⟩; obtain ⟨A7, n7, c7, rfl, l7⟩ := get_one HF.out hg)
    clear hg CK CG
    have X8 := (Ext.refl w7).alloc (.cells #[.int .i64 e.cl, .int .i64 e.nu, .int .i64 e.kd, .int .i64 e.id, .int .i64 e.sk, .int .i64 e.sq, .int .i64 e.st, .int .i64 e.pol, .slice A7 n7 c7, .int .i64 e.at_] 29)
    have H8 := Lib.hid (And.intro (heap_alloc_new w7 (.cells #[.int .i64 e.cl, .int .i64 e.nu, .int .i64 e.kd, .int .i64 e.id, .int .i64 e.sk, .int .i64 e.sq, .int .i64 e.st, .int .i64 e.pol, .slice A7 n7 c7, .int .i64 e.at_] 29)) (And.intro ((((X6.trans x7).trans X8).block _ (block_lt H2.out.2.1)).trans H2.out.2.1) (And.intro (l7.ext X8) (And.intro ((X6.trans x7).trans X8) ((R6.ext x7).ext X8)))))
    skip
    generalize w7.alloc (.cells #[.int .i64 e.cl, .int .i64 e.nu, .int .i64 e.kd, .int .i64 e.id, .int .i64 e.sk, .int .i64 e.sq, .int .i64 e.st, .int .i64 e.pol, .slice A7 n7 c7, .int .i64 e.at_] 29) = V8 at *
    generalize w7.heap.size = t8 at *
    clear X8 l7 R6 x7 o4 x5 x6 X3 X4 X5 X6 X0 p0 p1 p2 p3 p4 p5 p6 p7 p8 p9 q0 q1 q2 q3 q4 q5 q6 q7 q8 q9
    have p0 : ∀ W, Ext V8 W → W.cell? ⟨t8, 0, none⟩ = some (.int .i64 e.cl) := fun W hx => block_cell ((hx.block _ (block_lt (H8.out.1))).trans (H8.out.1)) 0
    have p1 : ∀ W, Ext V8 W → W.cell? ⟨t8, 1, none⟩ = some (.int .i64 e.nu) := fun W hx => block_cell ((hx.block _ (block_lt (H8.out.1))).trans (H8.out.1)) 1
    have p2 : ∀ W, Ext V8 W → W.cell? ⟨t8, 2, none⟩ = some (.int .i64 e.kd) := fun W hx => block_cell ((hx.block _ (block_lt (H8.out.1))).trans (H8.out.1)) 2
    have p3 : ∀ W, Ext V8 W → W.cell? ⟨t8, 3, none⟩ = some (.int .i64 e.id) := fun W hx => block_cell ((hx.block _ (block_lt (H8.out.1))).trans (H8.out.1)) 3
    have p4 : ∀ W, Ext V8 W → W.cell? ⟨t8, 4, none⟩ = some (.int .i64 e.sk) := fun W hx => block_cell ((hx.block _ (block_lt (H8.out.1))).trans (H8.out.1)) 4
    have p5 : ∀ W, Ext V8 W → W.cell? ⟨t8, 5, none⟩ = some (.int .i64 e.sq) := fun W hx => block_cell ((hx.block _ (block_lt (H8.out.1))).trans (H8.out.1)) 5
    have p6 : ∀ W, Ext V8 W → W.cell? ⟨t8, 6, none⟩ = some (.int .i64 e.st) := fun W hx => block_cell ((hx.block _ (block_lt (H8.out.1))).trans (H8.out.1)) 6
    have p7 : ∀ W, Ext V8 W → W.cell? ⟨t8, 7, none⟩ = some (.int .i64 e.pol) := fun W hx => block_cell ((hx.block _ (block_lt (H8.out.1))).trans (H8.out.1)) 7
    have p8 : ∀ W, Ext V8 W → W.cell? ⟨t8, 8, none⟩ = some (.slice A7 n7 c7) := fun W hx => block_cell ((hx.block _ (block_lt (H8.out.1))).trans (H8.out.1)) 8
    have p9 : ∀ W, Ext V8 W → W.cell? ⟨t8, 9, none⟩ = some (.int .i64 e.at_) := fun W hx => block_cell ((hx.block _ (block_lt (H8.out.1))).trans (H8.out.1)) 9
    have q0 : ∀ W, Ext V8 W → W.cell? ⟨ob, 0, none⟩ = some (.int .i64 e.cl) := fun W hx => block_cell ((hx.block _ (block_lt (H8.out.2.1))).trans (H8.out.2.1)) 0
    have q1 : ∀ W, Ext V8 W → W.cell? ⟨ob, 1, none⟩ = some (.int .i64 e.nu) := fun W hx => block_cell ((hx.block _ (block_lt (H8.out.2.1))).trans (H8.out.2.1)) 1
    have q2 : ∀ W, Ext V8 W → W.cell? ⟨ob, 2, none⟩ = some (.int .i64 e.kd) := fun W hx => block_cell ((hx.block _ (block_lt (H8.out.2.1))).trans (H8.out.2.1)) 2
    have q3 : ∀ W, Ext V8 W → W.cell? ⟨ob, 3, none⟩ = some (.int .i64 e.id) := fun W hx => block_cell ((hx.block _ (block_lt (H8.out.2.1))).trans (H8.out.2.1)) 3
    have q4 : ∀ W, Ext V8 W → W.cell? ⟨ob, 4, none⟩ = some (.int .i64 e.sk) := fun W hx => block_cell ((hx.block _ (block_lt (H8.out.2.1))).trans (H8.out.2.1)) 4
    have q5 : ∀ W, Ext V8 W → W.cell? ⟨ob, 5, none⟩ = some (.int .i64 e.sq) := fun W hx => block_cell ((hx.block _ (block_lt (H8.out.2.1))).trans (H8.out.2.1)) 5
    have q6 : ∀ W, Ext V8 W → W.cell? ⟨ob, 6, none⟩ = some (.int .i64 e.st) := fun W hx => block_cell ((hx.block _ (block_lt (H8.out.2.1))).trans (H8.out.2.1)) 6
    have q7 : ∀ W, Ext V8 W → W.cell? ⟨ob, 7, none⟩ = some (.int .i64 e.pol) := fun W hx => block_cell ((hx.block _ (block_lt (H8.out.2.1))).trans (H8.out.2.1)) 7
    have q8 : ∀ W, Ext V8 W → W.cell? ⟨ob, 8, none⟩ = some (.slice A n c) := fun W hx => block_cell ((hx.block _ (block_lt (H8.out.2.1))).trans (H8.out.2.1)) 8
    have q9 : ∀ W, Ext V8 W → W.cell? ⟨ob, 9, none⟩ = some (.int .i64 e.at_) := fun W hx => block_cell ((hx.block _ (block_lt (H8.out.2.1))).trans (H8.out.2.1)) 9
    have rs := fun W (hx : Ext V8 W) => run_str (P := Tryd.prog) (w := W) (s := 9) Tryd.underlying54 Tryd.underlying5 Tryd.underlying9 d2 (H8.out.2.2.2.2.ext hx)
    have CR8 := Lib.hid (fun W (hx : Ext V8 W) => CR.out W (H8.out.2.2.2.1.trans hx))
    have CS1 := Lib.hid (fun W (hx : Ext V8 W) => rsame_any ⟨e, A7, n7, c7⟩ ⟨e, A, n, c⟩ W (H8.out.2.2.1.ext hx) (HW.out W (H8.out.2.2.2.1.trans hx)).1 true (Lib.hid (decide_eq_true rfl)))
    have CS2 := Lib.hid (fun W (hx : Ext V8 W) => same_any ⟨e, A7, n7, c7⟩ ⟨e, A, n, c⟩ W (H8.out.2.2.1.ext hx) (HW.out W (H8.out.2.2.2.1.trans hx)).1 true (Lib.hid (decide_eq_true rfl)))
    clear CP CF CS CR ES
    have HY : Ext V8 V8.drew := (Ext.refl V8).drew
    refine d_region (fun W => Ext V8 W) [] (by kernel_rfl) ?_
    refine d_take (i := 0) (v := ?_) [] (some 48) rfl (by rfl) (by kernel_rfl) (by kernel_rfl) (by kernel_rfl) (by kernel_rfl) (by kernel_rfl) (by kernel_rfl) (fun _ _ _ h => h) (.inl ⟨by rfl, ?_⟩) HY ?_
    rotate_left 1
    · (intro W hW; (try dsimp only at hW); go_simp; try with_reducible rfl)
    try simp only [Act.put, List.setIfInBounds_toArray, List.set_cons_zero, List.set_cons_succ]
    refine d_take (i := 1) (v := ?_) [] (some 49) rfl (by rfl) (by kernel_rfl) (by kernel_rfl) (by kernel_rfl) (by kernel_rfl) (by kernel_rfl) (by kernel_rfl) (fun _ _ _ h => h) (.inl ⟨by rfl, ?_⟩) HY ?_
    rotate_left 1
    · (intro W hW; (try dsimp only at hW); go_simp; try with_reducible rfl)
    try simp only [Act.put, List.setIfInBounds_toArray, List.set_cons_zero, List.set_cons_succ]
    refine d_take (i := 2) (v := ?_) [] (some 50) rfl (by rfl) (by kernel_rfl) (by kernel_rfl) (by kernel_rfl) (by kernel_rfl) (by kernel_rfl) (by kernel_rfl) (fun _ _ _ h => h) (.inl ⟨by rfl, ?_⟩) HY ?_
    rotate_left 1
    · (intro W hW; (try dsimp only at hW); go_simp; try with_reducible rfl)
    try simp only [Act.put, List.setIfInBounds_toArray, List.set_cons_zero, List.set_cons_succ]
    refine d_take (i := 3) (v := ?_) [] (some 51) rfl (by rfl) (by kernel_rfl) (by kernel_rfl) (by kernel_rfl) (by kernel_rfl) (by kernel_rfl) (by kernel_rfl) (fun _ _ _ h => h) (.inl ⟨by rfl, ?_⟩) HY ?_
    rotate_left 1
    · (intro W hW; (try dsimp only at hW); go_simp; try with_reducible rfl)
    try simp only [Act.put, List.setIfInBounds_toArray, List.set_cons_zero, List.set_cons_succ]
    refine d_take (i := 4) (v := ?_) [] (some 52) rfl (by rfl) (by kernel_rfl) (by kernel_rfl) (by kernel_rfl) (by kernel_rfl) (by kernel_rfl) (by kernel_rfl) (fun _ _ _ h => h) (.inl ⟨by rfl, ?_⟩) HY ?_
    rotate_left 1
    · (intro W hW; (try dsimp only at hW); go_simp; try with_reducible rfl)
    try simp only [Act.put, List.setIfInBounds_toArray, List.set_cons_zero, List.set_cons_succ]
    refine d_take (i := 5) (v := ?_) [] (some 53) rfl (by rfl) (by kernel_rfl) (by kernel_rfl) (by kernel_rfl) (by kernel_rfl) (by kernel_rfl) (by kernel_rfl) (fun _ _ _ h => h) (.inl ⟨by rfl, ?_⟩) HY ?_
    rotate_left 1
    · (intro W hW; (try dsimp only at hW); go_simp; try with_reducible rfl)
    try simp only [Act.put, List.setIfInBounds_toArray, List.set_cons_zero, List.set_cons_succ]
    refine d_take (i := 6) (v := ?_) [] (some 54) rfl (by rfl) (by kernel_rfl) (by kernel_rfl) (by kernel_rfl) (by kernel_rfl) (by kernel_rfl) (by kernel_rfl) (fun _ _ _ h => h) (.inl ⟨by rfl, ?_⟩) HY ?_
    rotate_left 1
    · (intro W hW; (try dsimp only at hW); go_simp; try with_reducible rfl)
    try simp only [Act.put, List.setIfInBounds_toArray, List.set_cons_zero, List.set_cons_succ]
    refine d_take (i := 7) (v := ?_) [] (some 55) rfl (by rfl) (by kernel_rfl) (by kernel_rfl) (by kernel_rfl) (by kernel_rfl) (by kernel_rfl) (by kernel_rfl) (fun _ _ _ h => h) (.inl ⟨by rfl, ?_⟩) HY ?_
    rotate_left 1
    · (intro W hW; (try dsimp only at hW); go_simp; try with_reducible rfl)
    try simp only [Act.put, List.setIfInBounds_toArray, List.set_cons_zero, List.set_cons_succ]
    refine d_take (i := 8) (v := ?_) [] (some 56) rfl (by rfl) (by kernel_rfl) (by kernel_rfl) (by kernel_rfl) (by kernel_rfl) (by kernel_rfl) (by kernel_rfl) (fun _ _ _ h => h) (.inl ⟨by rfl, ?_⟩) HY ?_
    rotate_left 1
    · (intro W hW; (try dsimp only at hW); go_simp; try with_reducible rfl)
    try simp only [Act.put, List.setIfInBounds_toArray, List.set_cons_zero, List.set_cons_succ]
    refine d_take (i := 9) (v := ?_) [] (some 57) rfl (by rfl) (by kernel_rfl) (by kernel_rfl) (by kernel_rfl) (by kernel_rfl) (by kernel_rfl) (by kernel_rfl) (fun _ _ _ h => h) (.inl ⟨by rfl, ?_⟩) HY ?_
    rotate_left 1
    · (intro W hW; (try dsimp only at hW); go_simp; try with_reducible rfl)
    try simp only [Act.put, List.setIfInBounds_toArray, List.set_cons_zero, List.set_cons_succ]
    refine d_call (i := 10) (by kernel_rfl) rfl (by rfl) (fun K hK => ?_)
    simp only [List.getElem_toArray, List.getElem_cons_succ, List.getElem_cons_zero]
    go_simp
    refine (CR8.out _ HY).mono ?_
    rintro x w9 ⟨B9, m9, d9, rfl, o9, x9⟩
    have X9 := HY.trans x9
    refine hK.out _ _ (fun _ => X9) ?_
    clear hK K 
    try simp only [Act.put, List.setIfInBounds_toArray, List.set_cons_zero, List.set_cons_succ]
    have r9 := run_str (P := Tryd.prog) (w := w9) (s := 9) Tryd.underlying54 Tryd.underlying5 Tryd.underlying9 d9 o9.rd
    refine d_call (i := 11) (by kernel_rfl) rfl (by rfl) (fun K hK => ?_)
    simp only [List.getElem_toArray, List.getElem_cons_succ, List.getElem_cons_zero]
    go_simp
    refine hK.out _ _ (fun _ => X9) ?_
    clear hK K 
    try simp only [Act.put, List.setIfInBounds_toArray, List.set_cons_zero, List.set_cons_succ]
    clear r9 o9 x9
    refine d_take (i := 12) (v := ?_) [] (some 60) rfl (by rfl) (by kernel_rfl) (by kernel_rfl) (by kernel_rfl) (by kernel_rfl) (by kernel_rfl) (by kernel_rfl) (fun _ _ _ h => h) (.inl ⟨by rfl, ?_⟩) X9 ?_
    rotate_left 1
    · (intro W hW; (try dsimp only at hW); go_simp; try with_reducible rfl)
    try simp only [Act.put, List.setIfInBounds_toArray, List.set_cons_zero, List.set_cons_succ]
    refine d_take (i := 13) (v := ?_) [] (some 61) rfl (by rfl) (by kernel_rfl) (by kernel_rfl) (by kernel_rfl) (by kernel_rfl) (by kernel_rfl) (by kernel_rfl) (fun _ _ _ h => h) (.inl ⟨by rfl, ?_⟩) X9 ?_
    rotate_left 1
    · (intro W hW; (try dsimp only at hW); go_simp; try with_reducible rfl)
    try simp only [Act.put, List.setIfInBounds_toArray, List.set_cons_zero, List.set_cons_succ]
    refine d_take (i := 14) (v := ?_) [] (some 62) rfl (by rfl) (by kernel_rfl) (by kernel_rfl) (by kernel_rfl) (by kernel_rfl) (by kernel_rfl) (by kernel_rfl) (fun _ _ _ h => h) (.inl ⟨by rfl, ?_⟩) X9 ?_
    rotate_left 1
    · (intro W hW; (try dsimp only at hW); go_simp; try with_reducible rfl)
    try simp only [Act.put, List.setIfInBounds_toArray, List.set_cons_zero, List.set_cons_succ]
    refine d_take (i := 15) (v := ?_) [] (some 63) rfl (by rfl) (by kernel_rfl) (by kernel_rfl) (by kernel_rfl) (by kernel_rfl) (by kernel_rfl) (by kernel_rfl) (fun _ _ _ h => h) (.inl ⟨by rfl, ?_⟩) X9 ?_
    rotate_left 1
    · (intro W hW; (try dsimp only at hW); go_simp; try with_reducible rfl)
    try simp only [Act.put, List.setIfInBounds_toArray, List.set_cons_zero, List.set_cons_succ]
    refine d_take (i := 16) (v := ?_) [] (some 64) rfl (by rfl) (by kernel_rfl) (by kernel_rfl) (by kernel_rfl) (by kernel_rfl) (by kernel_rfl) (by kernel_rfl) (fun _ _ _ h => h) (.inl ⟨by rfl, ?_⟩) X9 ?_
    rotate_left 1
    · (intro W hW; (try dsimp only at hW); go_simp; try with_reducible rfl)
    try simp only [Act.put, List.setIfInBounds_toArray, List.set_cons_zero, List.set_cons_succ]
    refine d_take (i := 17) (v := ?_) [] (some 65) rfl (by rfl) (by kernel_rfl) (by kernel_rfl) (by kernel_rfl) (by kernel_rfl) (by kernel_rfl) (by kernel_rfl) (fun _ _ _ h => h) (.inl ⟨by rfl, ?_⟩) X9 ?_
    rotate_left 1
    · (intro W hW; (try dsimp only at hW); go_simp; try with_reducible rfl)
    try simp only [Act.put, List.setIfInBounds_toArray, List.set_cons_zero, List.set_cons_succ]
    refine d_take (i := 18) (v := ?_) [] (some 66) rfl (by rfl) (by kernel_rfl) (by kernel_rfl) (by kernel_rfl) (by kernel_rfl) (by kernel_rfl) (by kernel_rfl) (fun _ _ _ h => h) (.inl ⟨by rfl, ?_⟩) X9 ?_
    rotate_left 1
    · (intro W hW; (try dsimp only at hW); go_simp; try with_reducible rfl)
    try simp only [Act.put, List.setIfInBounds_toArray, List.set_cons_zero, List.set_cons_succ]
    refine d_take (i := 19) (v := ?_) [] (some 67) rfl (by rfl) (by kernel_rfl) (by kernel_rfl) (by kernel_rfl) (by kernel_rfl) (by kernel_rfl) (by kernel_rfl) (fun _ _ _ h => h) (.inl ⟨by rfl, ?_⟩) X9 ?_
    rotate_left 1
    · (intro W hW; (try dsimp only at hW); go_simp; try with_reducible rfl)
    try simp only [Act.put, List.setIfInBounds_toArray, List.set_cons_zero, List.set_cons_succ]
    refine d_take (i := 20) (v := ?_) [] (some 68) rfl (by rfl) (by kernel_rfl) (by kernel_rfl) (by kernel_rfl) (by kernel_rfl) (by kernel_rfl) (by kernel_rfl) (fun _ _ _ h => h) (.inl ⟨by rfl, ?_⟩) X9 ?_
    rotate_left 1
    · (intro W hW; (try dsimp only at hW); go_simp; try with_reducible rfl)
    try simp only [Act.put, List.setIfInBounds_toArray, List.set_cons_zero, List.set_cons_succ]
    refine d_call (i := 21) (by kernel_rfl) rfl (by rfl) (fun K hK => ?_)
    simp only [List.getElem_toArray, List.getElem_cons_succ, List.getElem_cons_zero]
    go_simp
    refine (CS1.out _ X9).mono ?_
    rintro x w10 ⟨rfl, x10⟩
    have X10 := X9.trans x10
    refine hK.out _ _ (fun _ => X10) ?_
    clear hK K 
    try simp only [Act.put, List.setIfInBounds_toArray, List.set_cons_zero, List.set_cons_succ]
    refine d_take (i := 22) (v := ?_) [] (some 70) rfl (by rfl) (by kernel_rfl) (by kernel_rfl) (by kernel_rfl) (by kernel_rfl) (by kernel_rfl) (by kernel_rfl) (fun _ _ _ h => h) (.inl ⟨by rfl, ?_⟩) X10 ?_
    rotate_left 1
    · (intro W hW; (try dsimp only at hW); go_simp; try with_reducible rfl)
    try simp only [Act.put, List.setIfInBounds_toArray, List.set_cons_zero, List.set_cons_succ]
    refine d_take (i := 23) (v := ?_) [] (some 71) rfl (by rfl) (by kernel_rfl) (by kernel_rfl) (by kernel_rfl) (by kernel_rfl) (by kernel_rfl) (by kernel_rfl) (fun _ _ _ h => h) (.inl ⟨by rfl, ?_⟩) X10 ?_
    rotate_left 1
    · (intro W hW; (try dsimp only at hW); go_simp; try with_reducible rfl)
    try simp only [Act.put, List.setIfInBounds_toArray, List.set_cons_zero, List.set_cons_succ]
    refine d_take (i := 24) (v := ?_) [] (some 72) rfl (by rfl) (by kernel_rfl) (by kernel_rfl) (by kernel_rfl) (by kernel_rfl) (by kernel_rfl) (by kernel_rfl) (fun _ _ _ h => h) (.inl ⟨by rfl, ?_⟩) X10 ?_
    rotate_left 1
    · (intro W hW; (try dsimp only at hW); go_simp; try with_reducible rfl)
    try simp only [Act.put, List.setIfInBounds_toArray, List.set_cons_zero, List.set_cons_succ]
    refine d_take (i := 25) (v := ?_) [] (some 73) rfl (by rfl) (by kernel_rfl) (by kernel_rfl) (by kernel_rfl) (by kernel_rfl) (by kernel_rfl) (by kernel_rfl) (fun _ _ _ h => h) (.inl ⟨by rfl, ?_⟩) X10 ?_
    rotate_left 1
    · (intro W hW; (try dsimp only at hW); go_simp; try with_reducible rfl)
    try simp only [Act.put, List.setIfInBounds_toArray, List.set_cons_zero, List.set_cons_succ]
    refine d_call (i := 26) (by kernel_rfl) rfl (by rfl) (fun K hK => ?_)
    simp only [List.getElem_toArray, List.getElem_cons_succ, List.getElem_cons_zero]
    go_simp
    refine (CS2.out _ X10).mono ?_
    rintro x w11 ⟨rfl, x11⟩
    have X11 := X10.trans x11
    refine hK.out _ _ (fun _ => X11) ?_
    clear hK K 
    try simp only [Act.put, List.setIfInBounds_toArray, List.set_cons_zero, List.set_cons_succ]
    refine d_take (i := 27) (v := ?_) [] (some 75) rfl (by rfl) (by kernel_rfl) (by kernel_rfl) (by kernel_rfl) (by kernel_rfl) (by kernel_rfl) (by kernel_rfl) (fun _ _ _ h => h) (.inl ⟨by rfl, ?_⟩) X11 ?_
    rotate_left 1
    · (intro W hW; (try dsimp only at hW); go_simp; try with_reducible rfl)
    try simp only [Act.put, List.setIfInBounds_toArray, List.set_cons_zero, List.set_cons_succ]
    refine d_one (i := 28) (by kernel_rfl) rfl rfl (fun K hK => ?_)
    simp only [List.getElem_toArray, List.getElem_cons_succ, List.getElem_cons_zero]
    go_simp
    refine hK.out _ _ (fun _ => X11) ?_
    clear hK K 
    try simp only [Act.put, List.setIfInBounds_toArray, List.set_cons_zero, List.set_cons_succ]
    refine d_done (by kernel_rfl) ?_ _
    go_wp2_with fail
    go_returns
    exact ⟨rfl, H3.out.2.trans (H8.out.2.2.2.1.trans X11)⟩
  · have hf2 : e.form = false := by simpa using hf
    clear hf
    have CK := Lib.hid (fun W (hx : Ext V3 W) => check_no (e := e) (c := c1) (HW.out W hx).2.1.rd (Nat.le_trans (HW.out W hx).2.1.le (by decide)) hf2 (HW.out W hx).2.2.2)
    have CP := Lib.hid (fun W (hx : Ext V3 W) => put_no ⟨e, A1, n1, c1⟩ W (HW.out W hx).2.1 hf2 (HW.out W hx).2.2.2)
    have CF := Lib.hid (fun W (hx : Ext V3 W) => rform_any e A n c W (HW.out W hx).1 false (Lib.hid hf2))
    have HE := Lib.hid (fun W (hx : Ext V3 W) => (HW.out W hx).2.2.2.2.1)
    clear hf2
    go_upto_region 9 with (first | (go_at_call 25; refine (CK.out _ X0).mono ?_; rintro x w3 ⟨rfl, x3⟩; have X3 := X0.trans x3; clear x3) | (go_at_call 26; refine (CP.out _ X3).mono ?_; rintro x w4 ⟨rfl, x4⟩; have X4 := X3.trans x4; clear x4) | (go_at_call 24; refine (CS.out _ X4).mono ?_; rintro x w5 ⟨rfl, x5⟩; have X5 := X4.trans x5) | (go_at_call 27; refine (CF.out _ X5).mono ?_; rintro x w6 ⟨rfl, x6⟩; have X6 := X5.trans x6))
    have s6 := HE.out w6 X6
    go_wp2_with fail
    go_returns
    exact ⟨rfl, H3.out.2.trans X6⟩
end Go.Proofs.YteflnnlihblpgaaDoor
