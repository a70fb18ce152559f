/-
  Package net: Check of a message, walked.
-/
import Derived.Test.YteflnnlihblpgaaDoorMgNetPutsProof12
namespace Go.Proofs.YteflnnlihblpgaaDoor
set_option maxRecDepth 100000
open Go.RowKit
set_option linter.unusedVariables false
set_option maxHeartbeats 24000000 in
theorem mcheck_any (m : Ms) (A : Option Addr) (n c : Nat) (ss : List EnS) (w : World) (hs : Led w A n ss) (hn : n ≤ 2000000000000) (b : Bool) (hb : Hid (m.form (ents ss) = b)) {ps : Addr} (hS : Sen w 1 ps) : Calls Tryd.prog 38 #[.agg #[.int .i64 m.kd, .int .i64 m.fr, .int .i64 m.tw, .int .i64 m.jb, .int .i64 m.br, .int .i64 m.bn, .int .i64 m.ar, .int .i64 m.an, .slice A n c]] w fun x w' => x = .returned (if b = true then .nilIface else .iface 149 (.pointer (some ps))) ∧ Ext w w' := by
  have hsl := hs.len
  have HS := Lib.hid (fun W (hx : Ext w W) => And.intro (hs.ext hx) (hS.ext hx))
  obtain ⟨⟨fa, fm, fl, th⟩, hF⟩ : ∃ p, kindF m.kd = p := ⟨_, rfl⟩
  obtain ⟨nf, hnf⟩ : ∃ b, nodB m.fr = b := ⟨_, rfl⟩
  obtain ⟨nt, hnt⟩ : ∃ b, nodB m.tw = b := ⟨_, rfl⟩
  obtain ⟨lb, hlb⟩ : ∃ b, legB m.br m.bn = b := ⟨_, rfl⟩
  obtain ⟨no, hno⟩ : ∃ b, decide (m.ar = 0 ∧ m.an = 0) = b := ⟨_, rfl⟩
  obtain ⟨la, hla⟩ : ∃ b, legB m.ar m.an = b := ⟨_, rfl⟩
  obtain ⟨gd, hgd⟩ : ∃ b, goodLB (ents ss) = b := ⟨_, rfl⟩
  obtain ⟨j0, hj0⟩ : ∃ b, decide (0 ≤ m.jb) = b := ⟨_, rfl⟩
  obtain ⟨j1, hj1⟩ : ∃ b, decide (m.jb ≤ 1099511627776) = b := ⟨_, rfl⟩
  obtain ⟨em, hem⟩ : ∃ b, decide (n = 0) = b := ⟨_, rfl⟩
  obtain ⟨k2, hk2⟩ : ∃ b, decide (m.kd = 2) = b := ⟨_, rfl⟩
  have HC : Hid (((th && nf && nt && j0 && j1 && lb && (no || (fa && la)) && (!fm || !no) && (fl || em) && gd) && !(k2 && no && !em)) = b) := Lib.hid (by
    rw [← hb.out, ← chk_form]
    unfold Ms.chk Ms.non empB
    rw [hF, hnf, hnt, hlb, hno, hla, hgd, hj0, hj1, hk2, ents_len, hsl, hem])
  have CK := Lib.hid (kind_any m.kd (w.alloc (.cells #[.int .i64 m.kd, .int .i64 m.fr, .int .i64 m.tw, .int .i64 m.jb, .int .i64 m.br, .int .i64 m.bn, .int .i64 m.ar, .int .i64 m.an, .slice A n c] 76)))
  rw [hF] at CK
  dsimp only at CK
  have XB := (Ext.refl w).alloc (.cells #[.int .i64 m.kd, .int .i64 m.fr, .int .i64 m.tw, .int .i64 m.jb, .int .i64 m.br, .int .i64 m.bn, .int .i64 m.ar, .int .i64 m.an, .slice A n c] 76)
  have HV := Lib.hid (And.intro (heap_alloc_new w (.cells #[.int .i64 m.kd, .int .i64 m.fr, .int .i64 m.tw, .int .i64 m.jb, .int .i64 m.br, .int .i64 m.bn, .int .i64 m.ar, .int .i64 m.an, .slice A n c] 76)) XB)
  have HJ0 := Lib.hid hj0
  have HJ1 := Lib.hid hj1
  have HEM := Lib.hid hem
  have HK2 := Lib.hid hk2
  have H1 := Lib.hid hnf
  have H2 := Lib.hid hnt
  have H3 := Lib.hid hlb
  have H4 := Lib.hid hno
  have H5 := Lib.hid hla
  have H6 := Lib.hid hgd
  clear hs hS hb hnf hnt hlb hno hla hgd hj0 hj1 hem hk2 hF XB
  go_enter Tryd.func38, Tryd.ntmps38
  go_upto_region 1 with (fail)
  generalize w.alloc (.cells #[.int .i64 m.kd, .int .i64 m.fr, .int .i64 m.tw, .int .i64 m.jb, .int .i64 m.br, .int .i64 m.bn, .int .i64 m.ar, .int .i64 m.an, .slice A n c] 76) = V0 at *
  generalize w.heap.size = ob at *
  have a0 : V0.cell? ⟨ob, 0, none⟩ = some (.int .i64 m.kd) := block_cell (HV.out.1) 0
  have a1 : V0.cell? ⟨ob, 1, none⟩ = some (.int .i64 m.fr) := block_cell (HV.out.1) 1
  have a2 : V0.cell? ⟨ob, 2, none⟩ = some (.int .i64 m.tw) := block_cell (HV.out.1) 2
  have a3 : V0.cell? ⟨ob, 3, none⟩ = some (.int .i64 m.jb) := block_cell (HV.out.1) 3
  have a4 : V0.cell? ⟨ob, 4, none⟩ = some (.int .i64 m.br) := block_cell (HV.out.1) 4
  have a5 : V0.cell? ⟨ob, 5, none⟩ = some (.int .i64 m.bn) := block_cell (HV.out.1) 5
  have a6 : V0.cell? ⟨ob, 6, none⟩ = some (.int .i64 m.ar) := block_cell (HV.out.1) 6
  have a7 : V0.cell? ⟨ob, 7, none⟩ = some (.int .i64 m.an) := block_cell (HV.out.1) 7
  have a8 : V0.cell? ⟨ob, 8, none⟩ = some (.slice A n c) := block_cell (HV.out.1) 8
  go_upto_region 2 with (go_at_call 66; refine CK.out.mono ?_; rintro _ w1 ⟨rfl, x1⟩; have XB := (Ext.refl w1).alloc (.cells #[.bool fa, .bool fm, .bool fl] 122); have HB := Lib.hid (And.intro (heap_alloc_new w1 (.cells #[.bool fa, .bool fm, .bool fl] 122)) (x1.trans XB)); clear XB x1)
  generalize w1.alloc (.cells #[.bool fa, .bool fm, .bool fl] 122) = V at *
  generalize w1.heap.size = fb at *
  have c0 : ∀ W, Ext V W → W.cell? ⟨ob, 0, none⟩ = some (.int .i64 m.kd) := fun W hx => block_cell ((hx.block _ (block_lt (((HB.out.2.block _ (block_lt HV.out.1)).trans HV.out.1)))).trans (((HB.out.2.block _ (block_lt HV.out.1)).trans HV.out.1))) 0
  have c1 : ∀ W, Ext V W → W.cell? ⟨ob, 1, none⟩ = some (.int .i64 m.fr) := fun W hx => block_cell ((hx.block _ (block_lt (((HB.out.2.block _ (block_lt HV.out.1)).trans HV.out.1)))).trans (((HB.out.2.block _ (block_lt HV.out.1)).trans HV.out.1))) 1
  have c2 : ∀ W, Ext V W → W.cell? ⟨ob, 2, none⟩ = some (.int .i64 m.tw) := fun W hx => block_cell ((hx.block _ (block_lt (((HB.out.2.block _ (block_lt HV.out.1)).trans HV.out.1)))).trans (((HB.out.2.block _ (block_lt HV.out.1)).trans HV.out.1))) 2
  have c3 : ∀ W, Ext V W → W.cell? ⟨ob, 3, none⟩ = some (.int .i64 m.jb) := fun W hx => block_cell ((hx.block _ (block_lt (((HB.out.2.block _ (block_lt HV.out.1)).trans HV.out.1)))).trans (((HB.out.2.block _ (block_lt HV.out.1)).trans HV.out.1))) 3
  have c4 : ∀ W, Ext V W → W.cell? ⟨ob, 4, none⟩ = some (.int .i64 m.br) := fun W hx => block_cell ((hx.block _ (block_lt (((HB.out.2.block _ (block_lt HV.out.1)).trans HV.out.1)))).trans (((HB.out.2.block _ (block_lt HV.out.1)).trans HV.out.1))) 4
  have c5 : ∀ W, Ext V W → W.cell? ⟨ob, 5, none⟩ = some (.int .i64 m.bn) := fun W hx => block_cell ((hx.block _ (block_lt (((HB.out.2.block _ (block_lt HV.out.1)).trans HV.out.1)))).trans (((HB.out.2.block _ (block_lt HV.out.1)).trans HV.out.1))) 5
  have c6 : ∀ W, Ext V W → W.cell? ⟨ob, 6, none⟩ = some (.int .i64 m.ar) := fun W hx => block_cell ((hx.block _ (block_lt (((HB.out.2.block _ (block_lt HV.out.1)).trans HV.out.1)))).trans (((HB.out.2.block _ (block_lt HV.out.1)).trans HV.out.1))) 6
  have c7 : ∀ W, Ext V W → W.cell? ⟨ob, 7, none⟩ = some (.int .i64 m.an) := fun W hx => block_cell ((hx.block _ (block_lt (((HB.out.2.block _ (block_lt HV.out.1)).trans HV.out.1)))).trans (((HB.out.2.block _ (block_lt HV.out.1)).trans HV.out.1))) 7
  have c8 : ∀ W, Ext V W → W.cell? ⟨ob, 8, none⟩ = some (.slice A n c) := fun W hx => block_cell ((hx.block _ (block_lt (((HB.out.2.block _ (block_lt HV.out.1)).trans HV.out.1)))).trans (((HB.out.2.block _ (block_lt HV.out.1)).trans HV.out.1))) 8
  have f0 : ∀ W, Ext V W → W.cell? ⟨fb, 0, none⟩ = some (.bool fa) := fun W hx => block_cell ((hx.block _ (block_lt (HB.out.1))).trans (HB.out.1)) 0
  have f1 : ∀ W, Ext V W → W.cell? ⟨fb, 1, none⟩ = some (.bool fm) := fun W hx => block_cell ((hx.block _ (block_lt (HB.out.1))).trans (HB.out.1)) 1
  have f2 : ∀ W, Ext V W → W.cell? ⟨fb, 2, none⟩ = some (.bool fl) := fun W hx => block_cell ((hx.block _ (block_lt (HB.out.1))).trans (HB.out.1)) 2
  clear a0 a1 a2 a3 a4 a5 a6 a7 a8 CK
  have HW := Lib.hid (fun W (hx : Ext V W) => HS.out W (HV.out.2.trans (HB.out.2.trans hx)))
  have CNf := Lib.hid (fun W (hx : Ext V W) => (node_any m.fr W nf H1).mono fun x w' (h : _ ∧ _) => And.intro h.1 (h.2 ▸ hx))
  have CNt := Lib.hid (fun W (hx : Ext V W) => (node_any m.tw W nt H2).mono fun x w' (h : _ ∧ _) => And.intro h.1 (h.2 ▸ hx))
  have CLb := Lib.hid (fun W (hx : Ext V W) => (legal_any m.br m.bn W lb H3).mono fun x w' (h : _ ∧ _) => And.intro h.1 (hx.trans h.2))
  have CNo := Lib.hid (fun W (hx : Ext V W) => (none_any m.ar m.an W no H4).mono fun x w' (h : _ ∧ _) => And.intro h.1 (hx.trans h.2))
  have CLa := Lib.hid (fun W (hx : Ext V W) => (legal_any m.ar m.an W la H5).mono fun x w' (h : _ ∧ _) => And.intro h.1 (hx.trans h.2))
  have CG := Lib.hid (fun W (hx : Ext V W) => (goodl_any A n c ss W (HW.out W hx).1 hn gd H6 (HW.out W hx).2).mono fun x w' (h : _ ∧ _) => And.intro h.1 (hx.trans h.2))
  have hg2 := fun W (hx : Ext V W) => (HW.out W hx).2.2.1
  clear H1 H2 H3 H4 H5 H6
  have XV := Ext.refl V
  simp only [List.append_eq, List.cons_append, List.nil_append]
  cases th
  · obtain rfl : b = false := by rw [← HC.out]; simp
    clear HC
    go_wp2_with (first | (go_at_call 67; first | (with_reducible refine (CNf.out _ (by assumption)).mono ?_; rintro _ wn ⟨rfl, xn⟩) | (with_reducible refine (CNt.out _ (by assumption)).mono ?_; rintro _ wn ⟨rfl, xn⟩)) | (go_at_call 68; first | (with_reducible refine (CLb.out _ (by assumption)).mono ?_; rintro _ wn ⟨rfl, xn⟩) | (with_reducible refine (CLa.out _ (by assumption)).mono ?_; rintro _ wn ⟨rfl, xn⟩)) | (go_at_call 69; first | (with_reducible refine (CNo.out _ (by assumption)).mono ?_; rintro _ wn ⟨rfl, xn⟩)) | (go_at_call 70; first | (with_reducible refine (CG.out _ (by assumption)).mono ?_; rintro _ wn ⟨rfl, xn⟩)))
    go_returns
    exact ⟨rfl, HV.out.2.trans (HB.out.2.trans (by assumption))⟩
  · cases nf
    · obtain rfl : b = false := by rw [← HC.out]; simp
      clear HC
      go_wp2_with (first | (go_at_call 67; first | (with_reducible refine (CNf.out _ (by assumption)).mono ?_; rintro _ wn ⟨rfl, xn⟩) | (with_reducible refine (CNt.out _ (by assumption)).mono ?_; rintro _ wn ⟨rfl, xn⟩)) | (go_at_call 68; first | (with_reducible refine (CLb.out _ (by assumption)).mono ?_; rintro _ wn ⟨rfl, xn⟩) | (with_reducible refine (CLa.out _ (by assumption)).mono ?_; rintro _ wn ⟨rfl, xn⟩)) | (go_at_call 69; first | (with_reducible refine (CNo.out _ (by assumption)).mono ?_; rintro _ wn ⟨rfl, xn⟩)) | (go_at_call 70; first | (with_reducible refine (CG.out _ (by assumption)).mono ?_; rintro _ wn ⟨rfl, xn⟩)))
      go_returns
      exact ⟨rfl, HV.out.2.trans (HB.out.2.trans (by assumption))⟩
    · cases nt
      · obtain rfl : b = false := by rw [← HC.out]; simp
        clear HC
        go_wp2_with (first | (go_at_call 67; first | (with_reducible refine (CNf.out _ (by assumption)).mono ?_; rintro _ wn ⟨rfl, xn⟩) | (with_reducible refine (CNt.out _ (by assumption)).mono ?_; rintro _ wn ⟨rfl, xn⟩)) | (go_at_call 68; first | (with_reducible refine (CLb.out _ (by assumption)).mono ?_; rintro _ wn ⟨rfl, xn⟩) | (with_reducible refine (CLa.out _ (by assumption)).mono ?_; rintro _ wn ⟨rfl, xn⟩)) | (go_at_call 69; first | (with_reducible refine (CNo.out _ (by assumption)).mono ?_; rintro _ wn ⟨rfl, xn⟩)) | (go_at_call 70; first | (with_reducible refine (CG.out _ (by assumption)).mono ?_; rintro _ wn ⟨rfl, xn⟩)))
        go_returns
        exact ⟨rfl, HV.out.2.trans (HB.out.2.trans (by assumption))⟩
      · cases j0
        · have hj0 : ¬ 0 ≤ m.jb := of_decide_eq_false HJ0.out
          obtain rfl : b = false := by rw [← HC.out]; simp
          clear HC
          go_wp2_with (first | (go_at_call 67; first | (with_reducible refine (CNf.out _ (by assumption)).mono ?_; rintro _ wn ⟨rfl, xn⟩) | (with_reducible refine (CNt.out _ (by assumption)).mono ?_; rintro _ wn ⟨rfl, xn⟩)) | (go_at_call 68; first | (with_reducible refine (CLb.out _ (by assumption)).mono ?_; rintro _ wn ⟨rfl, xn⟩) | (with_reducible refine (CLa.out _ (by assumption)).mono ?_; rintro _ wn ⟨rfl, xn⟩)) | (go_at_call 69; first | (with_reducible refine (CNo.out _ (by assumption)).mono ?_; rintro _ wn ⟨rfl, xn⟩)) | (go_at_call 70; first | (with_reducible refine (CG.out _ (by assumption)).mono ?_; rintro _ wn ⟨rfl, xn⟩)))
          go_returns
          exact ⟨rfl, HV.out.2.trans (HB.out.2.trans (by assumption))⟩
        · have hj0 : 0 ≤ m.jb := of_decide_eq_true HJ0.out
          cases j1
          · have hj1 : ¬ m.jb ≤ 1099511627776 := of_decide_eq_false HJ1.out
            obtain rfl : b = false := by rw [← HC.out]; simp
            clear HC
            go_wp2_with (first | (go_at_call 67; first | (with_reducible refine (CNf.out _ (by assumption)).mono ?_; rintro _ wn ⟨rfl, xn⟩) | (with_reducible refine (CNt.out _ (by assumption)).mono ?_; rintro _ wn ⟨rfl, xn⟩)) | (go_at_call 68; first | (with_reducible refine (CLb.out _ (by assumption)).mono ?_; rintro _ wn ⟨rfl, xn⟩) | (with_reducible refine (CLa.out _ (by assumption)).mono ?_; rintro _ wn ⟨rfl, xn⟩)) | (go_at_call 69; first | (with_reducible refine (CNo.out _ (by assumption)).mono ?_; rintro _ wn ⟨rfl, xn⟩)) | (go_at_call 70; first | (with_reducible refine (CG.out _ (by assumption)).mono ?_; rintro _ wn ⟨rfl, xn⟩)))
            go_returns
            exact ⟨rfl, HV.out.2.trans (HB.out.2.trans (by assumption))⟩
          · have hj1 : m.jb ≤ 1099511627776 := of_decide_eq_true HJ1.out
            cases lb
            · obtain rfl : b = false := by rw [← HC.out]; simp
              clear HC
              go_wp2_with (first | (go_at_call 67; first | (with_reducible refine (CNf.out _ (by assumption)).mono ?_; rintro _ wn ⟨rfl, xn⟩) | (with_reducible refine (CNt.out _ (by assumption)).mono ?_; rintro _ wn ⟨rfl, xn⟩)) | (go_at_call 68; first | (with_reducible refine (CLb.out _ (by assumption)).mono ?_; rintro _ wn ⟨rfl, xn⟩) | (with_reducible refine (CLa.out _ (by assumption)).mono ?_; rintro _ wn ⟨rfl, xn⟩)) | (go_at_call 69; first | (with_reducible refine (CNo.out _ (by assumption)).mono ?_; rintro _ wn ⟨rfl, xn⟩)) | (go_at_call 70; first | (with_reducible refine (CG.out _ (by assumption)).mono ?_; rintro _ wn ⟨rfl, xn⟩)))
              go_returns
              exact ⟨rfl, HV.out.2.trans (HB.out.2.trans (by assumption))⟩
            · cases no
              · cases fa
                · obtain rfl : b = false := by rw [← HC.out]; simp
                  clear HC
                  go_wp2_with (first | (go_at_call 67; first | (with_reducible refine (CNf.out _ (by assumption)).mono ?_; rintro _ wn ⟨rfl, xn⟩) | (with_reducible refine (CNt.out _ (by assumption)).mono ?_; rintro _ wn ⟨rfl, xn⟩)) | (go_at_call 68; first | (with_reducible refine (CLb.out _ (by assumption)).mono ?_; rintro _ wn ⟨rfl, xn⟩) | (with_reducible refine (CLa.out _ (by assumption)).mono ?_; rintro _ wn ⟨rfl, xn⟩)) | (go_at_call 69; first | (with_reducible refine (CNo.out _ (by assumption)).mono ?_; rintro _ wn ⟨rfl, xn⟩)) | (go_at_call 70; first | (with_reducible refine (CG.out _ (by assumption)).mono ?_; rintro _ wn ⟨rfl, xn⟩)))
                  go_returns
                  exact ⟨rfl, HV.out.2.trans (HB.out.2.trans (by assumption))⟩
                · cases la
                  · obtain rfl : b = false := by rw [← HC.out]; simp
                    clear HC
                    go_wp2_with (first | (go_at_call 67; first | (with_reducible refine (CNf.out _ (by assumption)).mono ?_; rintro _ wn ⟨rfl, xn⟩) | (with_reducible refine (CNt.out _ (by assumption)).mono ?_; rintro _ wn ⟨rfl, xn⟩)) | (go_at_call 68; first | (with_reducible refine (CLb.out _ (by assumption)).mono ?_; rintro _ wn ⟨rfl, xn⟩) | (with_reducible refine (CLa.out _ (by assumption)).mono ?_; rintro _ wn ⟨rfl, xn⟩)) | (go_at_call 69; first | (with_reducible refine (CNo.out _ (by assumption)).mono ?_; rintro _ wn ⟨rfl, xn⟩)) | (go_at_call 70; first | (with_reducible refine (CG.out _ (by assumption)).mono ?_; rintro _ wn ⟨rfl, xn⟩)))
                    go_returns
                    exact ⟨rfl, HV.out.2.trans (HB.out.2.trans (by assumption))⟩
                  · cases fm
                    · cases fl
                      · cases em
                        · have hem : ¬ (n : Int) = 0 := by have := of_decide_eq_false HEM.out; omega
                          have hem2 : 0 < (n : Int) := by omega
                          have hem3 : 0 < n := by omega
                          obtain rfl : b = false := by rw [← HC.out]; simp
                          clear HC
                          go_wp2_with (first | (go_at_call 67; first | (with_reducible refine (CNf.out _ (by assumption)).mono ?_; rintro _ wn ⟨rfl, xn⟩) | (with_reducible refine (CNt.out _ (by assumption)).mono ?_; rintro _ wn ⟨rfl, xn⟩)) | (go_at_call 68; first | (with_reducible refine (CLb.out _ (by assumption)).mono ?_; rintro _ wn ⟨rfl, xn⟩) | (with_reducible refine (CLa.out _ (by assumption)).mono ?_; rintro _ wn ⟨rfl, xn⟩)) | (go_at_call 69; first | (with_reducible refine (CNo.out _ (by assumption)).mono ?_; rintro _ wn ⟨rfl, xn⟩)) | (go_at_call 70; first | (with_reducible refine (CG.out _ (by assumption)).mono ?_; rintro _ wn ⟨rfl, xn⟩)))
                          go_returns
                          exact ⟨rfl, HV.out.2.trans (HB.out.2.trans (by assumption))⟩
                        · have hem : (n : Int) = 0 := by have := of_decide_eq_true HEM.out; omega
                          have hem2 : ¬ 0 < (n : Int) := by omega
                          cases gd
                          · obtain rfl : b = false := by rw [← HC.out]; simp
                            clear HC
                            go_wp2_with (first | (go_at_call 67; first | (with_reducible refine (CNf.out _ (by assumption)).mono ?_; rintro _ wn ⟨rfl, xn⟩) | (with_reducible refine (CNt.out _ (by assumption)).mono ?_; rintro _ wn ⟨rfl, xn⟩)) | (go_at_call 68; first | (with_reducible refine (CLb.out _ (by assumption)).mono ?_; rintro _ wn ⟨rfl, xn⟩) | (with_reducible refine (CLa.out _ (by assumption)).mono ?_; rintro _ wn ⟨rfl, xn⟩)) | (go_at_call 69; first | (with_reducible refine (CNo.out _ (by assumption)).mono ?_; rintro _ wn ⟨rfl, xn⟩)) | (go_at_call 70; first | (with_reducible refine (CG.out _ (by assumption)).mono ?_; rintro _ wn ⟨rfl, xn⟩)))
                            go_returns
                            exact ⟨rfl, HV.out.2.trans (HB.out.2.trans (by assumption))⟩
                          · cases k2
                            · have hk2 : ¬ m.kd = 2 := of_decide_eq_false HK2.out
                              obtain rfl : b = true := by rw [← HC.out]; simp
                              clear HC
                              go_wp2_with (first | (go_at_call 67; first | (with_reducible refine (CNf.out _ (by assumption)).mono ?_; rintro _ wn ⟨rfl, xn⟩) | (with_reducible refine (CNt.out _ (by assumption)).mono ?_; rintro _ wn ⟨rfl, xn⟩)) | (go_at_call 68; first | (with_reducible refine (CLb.out _ (by assumption)).mono ?_; rintro _ wn ⟨rfl, xn⟩) | (with_reducible refine (CLa.out _ (by assumption)).mono ?_; rintro _ wn ⟨rfl, xn⟩)) | (go_at_call 69; first | (with_reducible refine (CNo.out _ (by assumption)).mono ?_; rintro _ wn ⟨rfl, xn⟩)) | (go_at_call 70; first | (with_reducible refine (CG.out _ (by assumption)).mono ?_; rintro _ wn ⟨rfl, xn⟩)))
                              go_returns
                              exact ⟨rfl, HV.out.2.trans (HB.out.2.trans (by assumption))⟩
                            · have hk2 : m.kd = 2 := of_decide_eq_true HK2.out
                              obtain rfl : b = true := by rw [← HC.out]; simp
                              clear HC
                              go_wp2_with (first | (go_at_call 67; first | (with_reducible refine (CNf.out _ (by assumption)).mono ?_; rintro _ wn ⟨rfl, xn⟩) | (with_reducible refine (CNt.out _ (by assumption)).mono ?_; rintro _ wn ⟨rfl, xn⟩)) | (go_at_call 68; first | (with_reducible refine (CLb.out _ (by assumption)).mono ?_; rintro _ wn ⟨rfl, xn⟩) | (with_reducible refine (CLa.out _ (by assumption)).mono ?_; rintro _ wn ⟨rfl, xn⟩)) | (go_at_call 69; first | (with_reducible refine (CNo.out _ (by assumption)).mono ?_; rintro _ wn ⟨rfl, xn⟩)) | (go_at_call 70; first | (with_reducible refine (CG.out _ (by assumption)).mono ?_; rintro _ wn ⟨rfl, xn⟩)))
                              go_returns
                              exact ⟨rfl, HV.out.2.trans (HB.out.2.trans (by assumption))⟩
                      · cases gd
                        · obtain rfl : b = false := by rw [← HC.out]; simp
                          clear HC
                          go_wp2_with (first | (go_at_call 67; first | (with_reducible refine (CNf.out _ (by assumption)).mono ?_; rintro _ wn ⟨rfl, xn⟩) | (with_reducible refine (CNt.out _ (by assumption)).mono ?_; rintro _ wn ⟨rfl, xn⟩)) | (go_at_call 68; first | (with_reducible refine (CLb.out _ (by assumption)).mono ?_; rintro _ wn ⟨rfl, xn⟩) | (with_reducible refine (CLa.out _ (by assumption)).mono ?_; rintro _ wn ⟨rfl, xn⟩)) | (go_at_call 69; first | (with_reducible refine (CNo.out _ (by assumption)).mono ?_; rintro _ wn ⟨rfl, xn⟩)) | (go_at_call 70; first | (with_reducible refine (CG.out _ (by assumption)).mono ?_; rintro _ wn ⟨rfl, xn⟩)))
                          go_returns
                          exact ⟨rfl, HV.out.2.trans (HB.out.2.trans (by assumption))⟩
                        · cases k2
                          · have hk2 : ¬ m.kd = 2 := of_decide_eq_false HK2.out
                            obtain rfl : b = true := by rw [← HC.out]; simp
                            clear HC
                            go_wp2_with (first | (go_at_call 67; first | (with_reducible refine (CNf.out _ (by assumption)).mono ?_; rintro _ wn ⟨rfl, xn⟩) | (with_reducible refine (CNt.out _ (by assumption)).mono ?_; rintro _ wn ⟨rfl, xn⟩)) | (go_at_call 68; first | (with_reducible refine (CLb.out _ (by assumption)).mono ?_; rintro _ wn ⟨rfl, xn⟩) | (with_reducible refine (CLa.out _ (by assumption)).mono ?_; rintro _ wn ⟨rfl, xn⟩)) | (go_at_call 69; first | (with_reducible refine (CNo.out _ (by assumption)).mono ?_; rintro _ wn ⟨rfl, xn⟩)) | (go_at_call 70; first | (with_reducible refine (CG.out _ (by assumption)).mono ?_; rintro _ wn ⟨rfl, xn⟩)))
                            go_returns
                            exact ⟨rfl, HV.out.2.trans (HB.out.2.trans (by assumption))⟩
                          · have hk2 : m.kd = 2 := of_decide_eq_true HK2.out
                            obtain rfl : b = true := by rw [← HC.out]; simp
                            clear HC
                            go_wp2_with (first | (go_at_call 67; first | (with_reducible refine (CNf.out _ (by assumption)).mono ?_; rintro _ wn ⟨rfl, xn⟩) | (with_reducible refine (CNt.out _ (by assumption)).mono ?_; rintro _ wn ⟨rfl, xn⟩)) | (go_at_call 68; first | (with_reducible refine (CLb.out _ (by assumption)).mono ?_; rintro _ wn ⟨rfl, xn⟩) | (with_reducible refine (CLa.out _ (by assumption)).mono ?_; rintro _ wn ⟨rfl, xn⟩)) | (go_at_call 69; first | (with_reducible refine (CNo.out _ (by assumption)).mono ?_; rintro _ wn ⟨rfl, xn⟩)) | (go_at_call 70; first | (with_reducible refine (CG.out _ (by assumption)).mono ?_; rintro _ wn ⟨rfl, xn⟩)))
                            go_returns
                            exact ⟨rfl, HV.out.2.trans (HB.out.2.trans (by assumption))⟩
                    · cases fl
                      · cases em
                        · have hem : ¬ (n : Int) = 0 := by have := of_decide_eq_false HEM.out; omega
                          have hem2 : 0 < (n : Int) := by omega
                          have hem3 : 0 < n := by omega
                          obtain rfl : b = false := by rw [← HC.out]; simp
                          clear HC
                          go_wp2_with (first | (go_at_call 67; first | (with_reducible refine (CNf.out _ (by assumption)).mono ?_; rintro _ wn ⟨rfl, xn⟩) | (with_reducible refine (CNt.out _ (by assumption)).mono ?_; rintro _ wn ⟨rfl, xn⟩)) | (go_at_call 68; first | (with_reducible refine (CLb.out _ (by assumption)).mono ?_; rintro _ wn ⟨rfl, xn⟩) | (with_reducible refine (CLa.out _ (by assumption)).mono ?_; rintro _ wn ⟨rfl, xn⟩)) | (go_at_call 69; first | (with_reducible refine (CNo.out _ (by assumption)).mono ?_; rintro _ wn ⟨rfl, xn⟩)) | (go_at_call 70; first | (with_reducible refine (CG.out _ (by assumption)).mono ?_; rintro _ wn ⟨rfl, xn⟩)))
                          go_returns
                          exact ⟨rfl, HV.out.2.trans (HB.out.2.trans (by assumption))⟩
                        · have hem : (n : Int) = 0 := by have := of_decide_eq_true HEM.out; omega
                          have hem2 : ¬ 0 < (n : Int) := by omega
                          cases gd
                          · obtain rfl : b = false := by rw [← HC.out]; simp
                            clear HC
                            go_wp2_with (first | (go_at_call 67; first | (with_reducible refine (CNf.out _ (by assumption)).mono ?_; rintro _ wn ⟨rfl, xn⟩) | (with_reducible refine (CNt.out _ (by assumption)).mono ?_; rintro _ wn ⟨rfl, xn⟩)) | (go_at_call 68; first | (with_reducible refine (CLb.out _ (by assumption)).mono ?_; rintro _ wn ⟨rfl, xn⟩) | (with_reducible refine (CLa.out _ (by assumption)).mono ?_; rintro _ wn ⟨rfl, xn⟩)) | (go_at_call 69; first | (with_reducible refine (CNo.out _ (by assumption)).mono ?_; rintro _ wn ⟨rfl, xn⟩)) | (go_at_call 70; first | (with_reducible refine (CG.out _ (by assumption)).mono ?_; rintro _ wn ⟨rfl, xn⟩)))
                            go_returns
                            exact ⟨rfl, HV.out.2.trans (HB.out.2.trans (by assumption))⟩
                          · cases k2
                            · have hk2 : ¬ m.kd = 2 := of_decide_eq_false HK2.out
                              obtain rfl : b = true := by rw [← HC.out]; simp
                              clear HC
                              go_wp2_with (first | (go_at_call 67; first | (with_reducible refine (CNf.out _ (by assumption)).mono ?_; rintro _ wn ⟨rfl, xn⟩) | (with_reducible refine (CNt.out _ (by assumption)).mono ?_; rintro _ wn ⟨rfl, xn⟩)) | (go_at_call 68; first | (with_reducible refine (CLb.out _ (by assumption)).mono ?_; rintro _ wn ⟨rfl, xn⟩) | (with_reducible refine (CLa.out _ (by assumption)).mono ?_; rintro _ wn ⟨rfl, xn⟩)) | (go_at_call 69; first | (with_reducible refine (CNo.out _ (by assumption)).mono ?_; rintro _ wn ⟨rfl, xn⟩)) | (go_at_call 70; first | (with_reducible refine (CG.out _ (by assumption)).mono ?_; rintro _ wn ⟨rfl, xn⟩)))
                              go_returns
                              exact ⟨rfl, HV.out.2.trans (HB.out.2.trans (by assumption))⟩
                            · have hk2 : m.kd = 2 := of_decide_eq_true HK2.out
                              obtain rfl : b = true := by rw [← HC.out]; simp
                              clear HC
                              go_wp2_with (first | (go_at_call 67; first | (with_reducible refine (CNf.out _ (by assumption)).mono ?_; rintro _ wn ⟨rfl, xn⟩) | (with_reducible refine (CNt.out _ (by assumption)).mono ?_; rintro _ wn ⟨rfl, xn⟩)) | (go_at_call 68; first | (with_reducible refine (CLb.out _ (by assumption)).mono ?_; rintro _ wn ⟨rfl, xn⟩) | (with_reducible refine (CLa.out _ (by assumption)).mono ?_; rintro _ wn ⟨rfl, xn⟩)) | (go_at_call 69; first | (with_reducible refine (CNo.out _ (by assumption)).mono ?_; rintro _ wn ⟨rfl, xn⟩)) | (go_at_call 70; first | (with_reducible refine (CG.out _ (by assumption)).mono ?_; rintro _ wn ⟨rfl, xn⟩)))
                              go_returns
                              exact ⟨rfl, HV.out.2.trans (HB.out.2.trans (by assumption))⟩
                      · cases gd
                        · obtain rfl : b = false := by rw [← HC.out]; simp
                          clear HC
                          go_wp2_with (first | (go_at_call 67; first | (with_reducible refine (CNf.out _ (by assumption)).mono ?_; rintro _ wn ⟨rfl, xn⟩) | (with_reducible refine (CNt.out _ (by assumption)).mono ?_; rintro _ wn ⟨rfl, xn⟩)) | (go_at_call 68; first | (with_reducible refine (CLb.out _ (by assumption)).mono ?_; rintro _ wn ⟨rfl, xn⟩) | (with_reducible refine (CLa.out _ (by assumption)).mono ?_; rintro _ wn ⟨rfl, xn⟩)) | (go_at_call 69; first | (with_reducible refine (CNo.out _ (by assumption)).mono ?_; rintro _ wn ⟨rfl, xn⟩)) | (go_at_call 70; first | (with_reducible refine (CG.out _ (by assumption)).mono ?_; rintro _ wn ⟨rfl, xn⟩)))
                          go_returns
                          exact ⟨rfl, HV.out.2.trans (HB.out.2.trans (by assumption))⟩
                        · cases k2
                          · have hk2 : ¬ m.kd = 2 := of_decide_eq_false HK2.out
                            obtain rfl : b = true := by rw [← HC.out]; simp
                            clear HC
                            go_wp2_with (first | (go_at_call 67; first | (with_reducible refine (CNf.out _ (by assumption)).mono ?_; rintro _ wn ⟨rfl, xn⟩) | (with_reducible refine (CNt.out _ (by assumption)).mono ?_; rintro _ wn ⟨rfl, xn⟩)) | (go_at_call 68; first | (with_reducible refine (CLb.out _ (by assumption)).mono ?_; rintro _ wn ⟨rfl, xn⟩) | (with_reducible refine (CLa.out _ (by assumption)).mono ?_; rintro _ wn ⟨rfl, xn⟩)) | (go_at_call 69; first | (with_reducible refine (CNo.out _ (by assumption)).mono ?_; rintro _ wn ⟨rfl, xn⟩)) | (go_at_call 70; first | (with_reducible refine (CG.out _ (by assumption)).mono ?_; rintro _ wn ⟨rfl, xn⟩)))
                            go_returns
                            exact ⟨rfl, HV.out.2.trans (HB.out.2.trans (by assumption))⟩
                          · have hk2 : m.kd = 2 := of_decide_eq_true HK2.out
                            obtain rfl : b = true := by rw [← HC.out]; simp
                            clear HC
                            go_wp2_with (first | (go_at_call 67; first | (with_reducible refine (CNf.out _ (by assumption)).mono ?_; rintro _ wn ⟨rfl, xn⟩) | (with_reducible refine (CNt.out _ (by assumption)).mono ?_; rintro _ wn ⟨rfl, xn⟩)) | (go_at_call 68; first | (with_reducible refine (CLb.out _ (by assumption)).mono ?_; rintro _ wn ⟨rfl, xn⟩) | (with_reducible refine (CLa.out _ (by assumption)).mono ?_; rintro _ wn ⟨rfl, xn⟩)) | (go_at_call 69; first | (with_reducible refine (CNo.out _ (by assumption)).mono ?_; rintro _ wn ⟨rfl, xn⟩)) | (go_at_call 70; first | (with_reducible refine (CG.out _ (by assumption)).mono ?_; rintro _ wn ⟨rfl, xn⟩)))
                            go_returns
                            exact ⟨rfl, HV.out.2.trans (HB.out.2.trans (by assumption))⟩
              · cases fm
                · cases fl
                  · cases em
                    · have hem : ¬ (n : Int) = 0 := by have := of_decide_eq_false HEM.out; omega
                      have hem2 : 0 < (n : Int) := by omega
                      have hem3 : 0 < n := by omega
                      obtain rfl : b = false := by rw [← HC.out]; simp
                      clear HC
                      go_wp2_with (first | (go_at_call 67; first | (with_reducible refine (CNf.out _ (by assumption)).mono ?_; rintro _ wn ⟨rfl, xn⟩) | (with_reducible refine (CNt.out _ (by assumption)).mono ?_; rintro _ wn ⟨rfl, xn⟩)) | (go_at_call 68; first | (with_reducible refine (CLb.out _ (by assumption)).mono ?_; rintro _ wn ⟨rfl, xn⟩) | (with_reducible refine (CLa.out _ (by assumption)).mono ?_; rintro _ wn ⟨rfl, xn⟩)) | (go_at_call 69; first | (with_reducible refine (CNo.out _ (by assumption)).mono ?_; rintro _ wn ⟨rfl, xn⟩)) | (go_at_call 70; first | (with_reducible refine (CG.out _ (by assumption)).mono ?_; rintro _ wn ⟨rfl, xn⟩)))
                      go_returns
                      exact ⟨rfl, HV.out.2.trans (HB.out.2.trans (by assumption))⟩
                    · have hem : (n : Int) = 0 := by have := of_decide_eq_true HEM.out; omega
                      have hem2 : ¬ 0 < (n : Int) := by omega
                      cases gd
                      · obtain rfl : b = false := by rw [← HC.out]; simp
                        clear HC
                        go_wp2_with (first | (go_at_call 67; first | (with_reducible refine (CNf.out _ (by assumption)).mono ?_; rintro _ wn ⟨rfl, xn⟩) | (with_reducible refine (CNt.out _ (by assumption)).mono ?_; rintro _ wn ⟨rfl, xn⟩)) | (go_at_call 68; first | (with_reducible refine (CLb.out _ (by assumption)).mono ?_; rintro _ wn ⟨rfl, xn⟩) | (with_reducible refine (CLa.out _ (by assumption)).mono ?_; rintro _ wn ⟨rfl, xn⟩)) | (go_at_call 69; first | (with_reducible refine (CNo.out _ (by assumption)).mono ?_; rintro _ wn ⟨rfl, xn⟩)) | (go_at_call 70; first | (with_reducible refine (CG.out _ (by assumption)).mono ?_; rintro _ wn ⟨rfl, xn⟩)))
                        go_returns
                        exact ⟨rfl, HV.out.2.trans (HB.out.2.trans (by assumption))⟩
                      · cases k2
                        · have hk2 : ¬ m.kd = 2 := of_decide_eq_false HK2.out
                          obtain rfl : b = true := by rw [← HC.out]; simp
                          clear HC
                          go_wp2_with (first | (go_at_call 67; first | (with_reducible refine (CNf.out _ (by assumption)).mono ?_; rintro _ wn ⟨rfl, xn⟩) | (with_reducible refine (CNt.out _ (by assumption)).mono ?_; rintro _ wn ⟨rfl, xn⟩)) | (go_at_call 68; first | (with_reducible refine (CLb.out _ (by assumption)).mono ?_; rintro _ wn ⟨rfl, xn⟩) | (with_reducible refine (CLa.out _ (by assumption)).mono ?_; rintro _ wn ⟨rfl, xn⟩)) | (go_at_call 69; first | (with_reducible refine (CNo.out _ (by assumption)).mono ?_; rintro _ wn ⟨rfl, xn⟩)) | (go_at_call 70; first | (with_reducible refine (CG.out _ (by assumption)).mono ?_; rintro _ wn ⟨rfl, xn⟩)))
                          go_returns
                          exact ⟨rfl, HV.out.2.trans (HB.out.2.trans (by assumption))⟩
                        · have hk2 : m.kd = 2 := of_decide_eq_true HK2.out
                          obtain rfl : b = true := by rw [← HC.out]; simp
                          clear HC
                          go_wp2_with (first | (go_at_call 67; first | (with_reducible refine (CNf.out _ (by assumption)).mono ?_; rintro _ wn ⟨rfl, xn⟩) | (with_reducible refine (CNt.out _ (by assumption)).mono ?_; rintro _ wn ⟨rfl, xn⟩)) | (go_at_call 68; first | (with_reducible refine (CLb.out _ (by assumption)).mono ?_; rintro _ wn ⟨rfl, xn⟩) | (with_reducible refine (CLa.out _ (by assumption)).mono ?_; rintro _ wn ⟨rfl, xn⟩)) | (go_at_call 69; first | (with_reducible refine (CNo.out _ (by assumption)).mono ?_; rintro _ wn ⟨rfl, xn⟩)) | (go_at_call 70; first | (with_reducible refine (CG.out _ (by assumption)).mono ?_; rintro _ wn ⟨rfl, xn⟩)))
                          go_returns
                          exact ⟨rfl, HV.out.2.trans (HB.out.2.trans (by assumption))⟩
                  · cases gd
                    · obtain rfl : b = false := by rw [← HC.out]; simp
                      clear HC
                      go_wp2_with (first | (go_at_call 67; first | (with_reducible refine (CNf.out _ (by assumption)).mono ?_; rintro _ wn ⟨rfl, xn⟩) | (with_reducible refine (CNt.out _ (by assumption)).mono ?_; rintro _ wn ⟨rfl, xn⟩)) | (go_at_call 68; first | (with_reducible refine (CLb.out _ (by assumption)).mono ?_; rintro _ wn ⟨rfl, xn⟩) | (with_reducible refine (CLa.out _ (by assumption)).mono ?_; rintro _ wn ⟨rfl, xn⟩)) | (go_at_call 69; first | (with_reducible refine (CNo.out _ (by assumption)).mono ?_; rintro _ wn ⟨rfl, xn⟩)) | (go_at_call 70; first | (with_reducible refine (CG.out _ (by assumption)).mono ?_; rintro _ wn ⟨rfl, xn⟩)))
                      go_returns
                      exact ⟨rfl, HV.out.2.trans (HB.out.2.trans (by assumption))⟩
                    · cases k2
                      · have hk2 : ¬ m.kd = 2 := of_decide_eq_false HK2.out
                        obtain rfl : b = true := by rw [← HC.out]; simp
                        clear HC
                        go_wp2_with (first | (go_at_call 67; first | (with_reducible refine (CNf.out _ (by assumption)).mono ?_; rintro _ wn ⟨rfl, xn⟩) | (with_reducible refine (CNt.out _ (by assumption)).mono ?_; rintro _ wn ⟨rfl, xn⟩)) | (go_at_call 68; first | (with_reducible refine (CLb.out _ (by assumption)).mono ?_; rintro _ wn ⟨rfl, xn⟩) | (with_reducible refine (CLa.out _ (by assumption)).mono ?_; rintro _ wn ⟨rfl, xn⟩)) | (go_at_call 69; first | (with_reducible refine (CNo.out _ (by assumption)).mono ?_; rintro _ wn ⟨rfl, xn⟩)) | (go_at_call 70; first | (with_reducible refine (CG.out _ (by assumption)).mono ?_; rintro _ wn ⟨rfl, xn⟩)))
                        go_returns
                        exact ⟨rfl, HV.out.2.trans (HB.out.2.trans (by assumption))⟩
                      · have hk2 : m.kd = 2 := of_decide_eq_true HK2.out
                        cases em
                        · have hem : ¬ (n : Int) = 0 := by have := of_decide_eq_false HEM.out; omega
                          have hem2 : 0 < (n : Int) := by omega
                          have hem3 : 0 < n := by omega
                          obtain rfl : b = false := by rw [← HC.out]; simp
                          clear HC
                          go_wp2_with (first | (go_at_call 67; first | (with_reducible refine (CNf.out _ (by assumption)).mono ?_; rintro _ wn ⟨rfl, xn⟩) | (with_reducible refine (CNt.out _ (by assumption)).mono ?_; rintro _ wn ⟨rfl, xn⟩)) | (go_at_call 68; first | (with_reducible refine (CLb.out _ (by assumption)).mono ?_; rintro _ wn ⟨rfl, xn⟩) | (with_reducible refine (CLa.out _ (by assumption)).mono ?_; rintro _ wn ⟨rfl, xn⟩)) | (go_at_call 69; first | (with_reducible refine (CNo.out _ (by assumption)).mono ?_; rintro _ wn ⟨rfl, xn⟩)) | (go_at_call 70; first | (with_reducible refine (CG.out _ (by assumption)).mono ?_; rintro _ wn ⟨rfl, xn⟩)))
                          go_returns
                          exact ⟨rfl, HV.out.2.trans (HB.out.2.trans (by assumption))⟩
                        · have hem : (n : Int) = 0 := by have := of_decide_eq_true HEM.out; omega
                          have hem2 : ¬ 0 < (n : Int) := by omega
                          obtain rfl : b = true := by rw [← HC.out]; simp
                          clear HC
                          go_wp2_with (first | (go_at_call 67; first | (with_reducible refine (CNf.out _ (by assumption)).mono ?_; rintro _ wn ⟨rfl, xn⟩) | (with_reducible refine (CNt.out _ (by assumption)).mono ?_; rintro _ wn ⟨rfl, xn⟩)) | (go_at_call 68; first | (with_reducible refine (CLb.out _ (by assumption)).mono ?_; rintro _ wn ⟨rfl, xn⟩) | (with_reducible refine (CLa.out _ (by assumption)).mono ?_; rintro _ wn ⟨rfl, xn⟩)) | (go_at_call 69; first | (with_reducible refine (CNo.out _ (by assumption)).mono ?_; rintro _ wn ⟨rfl, xn⟩)) | (go_at_call 70; first | (with_reducible refine (CG.out _ (by assumption)).mono ?_; rintro _ wn ⟨rfl, xn⟩)))
                          go_returns
                          exact ⟨rfl, HV.out.2.trans (HB.out.2.trans (by assumption))⟩
                · obtain rfl : b = false := by rw [← HC.out]; simp
                  clear HC
                  go_wp2_with (first | (go_at_call 67; first | (with_reducible refine (CNf.out _ (by assumption)).mono ?_; rintro _ wn ⟨rfl, xn⟩) | (with_reducible refine (CNt.out _ (by assumption)).mono ?_; rintro _ wn ⟨rfl, xn⟩)) | (go_at_call 68; first | (with_reducible refine (CLb.out _ (by assumption)).mono ?_; rintro _ wn ⟨rfl, xn⟩) | (with_reducible refine (CLa.out _ (by assumption)).mono ?_; rintro _ wn ⟨rfl, xn⟩)) | (go_at_call 69; first | (with_reducible refine (CNo.out _ (by assumption)).mono ?_; rintro _ wn ⟨rfl, xn⟩)) | (go_at_call 70; first | (with_reducible refine (CG.out _ (by assumption)).mono ?_; rintro _ wn ⟨rfl, xn⟩)))
                  go_returns
                  exact ⟨rfl, HV.out.2.trans (HB.out.2.trans (by assumption))⟩
end Go.Proofs.YteflnnlihblpgaaDoor
