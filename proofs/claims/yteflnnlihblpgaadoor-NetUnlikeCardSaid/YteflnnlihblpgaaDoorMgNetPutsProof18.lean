/-
  The document's net: InForm of a message, walked.
-/
import Derived.Test.YteflnnlihblpgaaDoorMgNetPutsProof17
namespace Go.Proofs.YteflnnlihblpgaaDoor
set_option maxRecDepth 100000
open Go.RowKit
set_option linter.unusedVariables false
/-- The document's Write of any ledger: its error's number is 0 just of a good ledger. -/
theorem rwrite_code (A : Option Addr) (n c : Nat) (ss : List EnS) (w : World) (hs : Led w A n ss) : Calls Tryd.prog 36 #[.slice A n c] w fun x w' => ∃ B k d, ∃ e : Int, x = .returned (.tuple #[.slice B k d, .int .i64 e]) ∧ Hid (decide (e = 0) = goodLB (ents ss)) ∧ Ext w w' := by
  have hl : (ents ss).length = n := by rw [ents_len]; exact hs.len
  rcases Nat.lt_or_ge 64 n with h | h
  · refine (rwrite_large A n c ss w hs h).mono ?_
    rintro x w' ⟨rfl, hx⟩
    exact ⟨_, _, _, _, rfl, Lib.hid (by unfold goodLB; rw [decide_eq_false (show ¬ (ents ss).length ≤ 64 by omega)]; rfl), hx⟩
  · by_cases hg : ∀ e ∈ ents ss, e.form = true
    · refine (rwrite_ok A n c ss w hs h hg).mono ?_
      rintro x w' ⟨B, k, d, rfl, _, hx⟩
      exact ⟨_, _, _, _, rfl, Lib.hid (goodLB_iff.2 ⟨by omega, hg⟩).symm, hx⟩
    · obtain ⟨e, he, hf⟩ : ∃ e ∈ ents ss, e.form = false := by
        refine Classical.byContradiction fun h2 => hg fun e he => ?_
        cases hf : e.form with
        | true => rfl
        | false => exact absurd ⟨e, he, hf⟩ h2
      refine (rwrite_no A n c ss w hs h ⟨e, he, hf⟩).mono ?_
      rintro x w' ⟨rfl, hx⟩
      exact ⟨_, _, _, _, rfl, Lib.hid (by
        cases hb : goodLB (ents ss) with
        | false => rfl
        | true => have := (goodLB_iff.1 hb).2 e he; rw [hf] at this; cases this), hx⟩
set_option maxHeartbeats 12800000 in
theorem rmform_any (m : Ms) (A : Option Addr) (n c : Nat) (ss : List EnS) (w : World) (hs : Led w A n ss) (hn : n ≤ 2000000000000) (b : Bool) (hb : Hid (m.form (ents ss) = b)) : Calls Tryd.prog 41 #[.agg #[.int .i64 m.kd, .int .i64 m.fr, .int .i64 m.tw, .int .i64 m.jb, .int .i64 m.br, .int .i64 m.bn, .int .i64 m.ar, .int .i64 m.an, .slice A n c]] w fun x w' => x = .returned (.bool b) ∧ Ext w w' := by
  have hsl := hs.len
  have HS := Lib.hid (fun W (hx : Ext w W) => hs.ext hx)
  obtain ⟨lb, hlb⟩ : ∃ b, legB m.br m.bn = b := ⟨_, rfl⟩
  obtain ⟨no, hno⟩ : ∃ b, decide (m.ar = 0 ∧ m.an = 0) = b := ⟨_, rfl⟩
  obtain ⟨la, hla⟩ : ∃ b, legB m.ar m.an = b := ⟨_, rfl⟩
  obtain ⟨gd, hgd⟩ : ∃ b, goodLB (ents ss) = b := ⟨_, rfl⟩
  obtain ⟨em, hem⟩ : ∃ b, decide (n = 0) = b := ⟨_, rfl⟩
  have HC : Hid (((decide (0 ≤ m.fr ∧ m.fr ≤ 6) && (decide (0 ≤ m.tw ∧ m.tw ≤ 6) && (decide (0 ≤ m.jb ∧ m.jb ≤ 1099511627776) && lb))) && (if m.kd = 1 ∨ m.kd = 4 then no && em else if m.kd = 2 then gd && (la || (no && em)) else if m.kd = 3 then gd && no else if m.kd = 5 then la && em else false)) = b) := Lib.hid (by
    rw [← hb.out]
    unfold Ms.form Ms.head Ms.body nodB Ms.non empB
    rw [hlb, hno, hla, hgd, ents_len, hsl, hem])
  have XB := (Ext.refl w).alloc (.cells #[.int .i64 m.kd, .int .i64 m.fr, .int .i64 m.tw, .int .i64 m.jb, .int .i64 m.br, .int .i64 m.bn, .int .i64 m.ar, .int .i64 m.an, .slice A n c] 76)
  have HV := Lib.hid (And.intro (heap_alloc_new w (.cells #[.int .i64 m.kd, .int .i64 m.fr, .int .i64 m.tw, .int .i64 m.jb, .int .i64 m.br, .int .i64 m.bn, .int .i64 m.ar, .int .i64 m.an, .slice A n c] 76)) XB)
  have HEM := Lib.hid hem
  have H3 := Lib.hid hlb
  have H4 := Lib.hid hno
  have H5 := Lib.hid hla
  have H6 := Lib.hid hgd
  clear hs hb hlb hno hla hgd hem XB
  go_enter Tryd.func41, Tryd.ntmps41
  go_upto_region 1 with (fail)
  generalize w.alloc (.cells #[.int .i64 m.kd, .int .i64 m.fr, .int .i64 m.tw, .int .i64 m.jb, .int .i64 m.br, .int .i64 m.bn, .int .i64 m.ar, .int .i64 m.an, .slice A n c] 76) = V at *
  generalize w.heap.size = ob at *
  have c0 : ∀ W, Ext V W → W.cell? ⟨ob, 0, none⟩ = some (.int .i64 m.kd) := fun W hx => block_cell ((hx.block _ (block_lt (HV.out.1))).trans (HV.out.1)) 0
  have c1 : ∀ W, Ext V W → W.cell? ⟨ob, 1, none⟩ = some (.int .i64 m.fr) := fun W hx => block_cell ((hx.block _ (block_lt (HV.out.1))).trans (HV.out.1)) 1
  have c2 : ∀ W, Ext V W → W.cell? ⟨ob, 2, none⟩ = some (.int .i64 m.tw) := fun W hx => block_cell ((hx.block _ (block_lt (HV.out.1))).trans (HV.out.1)) 2
  have c3 : ∀ W, Ext V W → W.cell? ⟨ob, 3, none⟩ = some (.int .i64 m.jb) := fun W hx => block_cell ((hx.block _ (block_lt (HV.out.1))).trans (HV.out.1)) 3
  have c4 : ∀ W, Ext V W → W.cell? ⟨ob, 4, none⟩ = some (.int .i64 m.br) := fun W hx => block_cell ((hx.block _ (block_lt (HV.out.1))).trans (HV.out.1)) 4
  have c5 : ∀ W, Ext V W → W.cell? ⟨ob, 5, none⟩ = some (.int .i64 m.bn) := fun W hx => block_cell ((hx.block _ (block_lt (HV.out.1))).trans (HV.out.1)) 5
  have c6 : ∀ W, Ext V W → W.cell? ⟨ob, 6, none⟩ = some (.int .i64 m.ar) := fun W hx => block_cell ((hx.block _ (block_lt (HV.out.1))).trans (HV.out.1)) 6
  have c7 : ∀ W, Ext V W → W.cell? ⟨ob, 7, none⟩ = some (.int .i64 m.an) := fun W hx => block_cell ((hx.block _ (block_lt (HV.out.1))).trans (HV.out.1)) 7
  have c8 : ∀ W, Ext V W → W.cell? ⟨ob, 8, none⟩ = some (.slice A n c) := fun W hx => block_cell ((hx.block _ (block_lt (HV.out.1))).trans (HV.out.1)) 8
  have CLb := Lib.hid (fun W (hx : Ext V W) => (rlegal_any m.br m.bn W lb H3).mono fun x w' (h : _ ∧ _) => And.intro h.1 (hx.trans h.2))
  have CLa := Lib.hid (fun W (hx : Ext V W) => (rlegal_any m.ar m.an W la H5).mono fun x w' (h : _ ∧ _) => And.intro h.1 (hx.trans h.2))
  have CW := Lib.hid (fun W (hx : Ext V W) => rwrite_code A n c ss W (HS.out W (HV.out.2.trans hx)))
  have eB : ∀ W, (binOp .eql 74 (.agg #[.int .i64 m.ar, .int .i64 m.an]) (.agg #[.int .i64 0, .int .i64 0])).run Tryd.prog W = .ok (.bool no) W := fun W => by rw [eql_ballot, H4.out]
  clear H3 H4 H5
  have XV := Ext.refl V
  by_cases f0 : 0 ≤ m.fr
  · by_cases f1 : m.fr ≤ 6
    · by_cases t0 : 0 ≤ m.tw
      · by_cases t1 : m.tw ≤ 6
        · by_cases j0 : 0 ≤ m.jb
          · by_cases j1 : m.jb ≤ 1099511627776
            · cases lb
              · obtain rfl : b = false := by rw [← HC.out]; simp
                clear HC
                go_wp2_with (go_at_call 72; first | (with_reducible refine (CLb.out _ (by assumption)).mono ?_; rintro _ wn ⟨rfl, xn⟩) | (with_reducible refine (CLa.out _ (by assumption)).mono ?_; rintro _ wn ⟨rfl, xn⟩))
                go_returns
                exact ⟨rfl, HV.out.2.trans (by assumption)⟩
              · have HC2 : Hid ((if m.kd = 1 ∨ m.kd = 4 then no && em else if m.kd = 2 then gd && (la || (no && em)) else if m.kd = 3 then gd && no else if m.kd = 5 then la && em else false) = b) := Lib.hid (by rw [← HC.out, decide_eq_true (show 0 ≤ m.fr ∧ m.fr ≤ 6 from ⟨f0, f1⟩), decide_eq_true (show 0 ≤ m.tw ∧ m.tw ≤ 6 from ⟨t0, t1⟩), decide_eq_true (show 0 ≤ m.jb ∧ m.jb ≤ 1099511627776 from ⟨j0, j1⟩)]; rfl)
                clear HC
                go_upto_region 4 with (first | (go_at_call 72; first | (with_reducible refine (CLb.out _ (by assumption)).mono ?_; rintro _ wn ⟨rfl, xn⟩) | (with_reducible refine (CLa.out _ (by assumption)).mono ?_; rintro _ wn ⟨rfl, xn⟩)) | (go_at_call 36; refine (CW.out _ (by assumption)).mono ?_; rintro _ w2 ⟨B2, k2_, d2, code, rfl, hcode, x2⟩; have X2 := Ext.trans (by assumption : Ext V _) x2))
                clear CW
                have HC := HC2
                clear HC2
                by_cases hk1 : m.kd = 1
                · cases no
                  · obtain rfl : b = false := by rw [← HC.out]; simp [hk1]
                    clear HC
                    go_wp2_with (go_at_call 72; first | (with_reducible refine (CLb.out _ (by assumption)).mono ?_; rintro _ wn ⟨rfl, xn⟩) | (with_reducible refine (CLa.out _ (by assumption)).mono ?_; rintro _ wn ⟨rfl, xn⟩))
                    go_returns
                    exact ⟨rfl, HV.out.2.trans (by assumption)⟩
                  · cases em
                    · have hem : ¬ (n : Int) = 0 := by have := of_decide_eq_false HEM.out; omega
                      have hem4 : ((n : Int) == 0) = false := beq_eq_false_iff_ne.2 hem
                      obtain rfl : b = false := by rw [← HC.out]; simp [hk1]
                      clear HC
                      go_wp2_with (go_at_call 72; first | (with_reducible refine (CLb.out _ (by assumption)).mono ?_; rintro _ wn ⟨rfl, xn⟩) | (with_reducible refine (CLa.out _ (by assumption)).mono ?_; rintro _ wn ⟨rfl, xn⟩))
                      go_returns
                      exact ⟨rfl, HV.out.2.trans (by assumption)⟩
                    · have hem : (n : Int) = 0 := by have := of_decide_eq_true HEM.out; omega
                      obtain rfl : b = true := by rw [← HC.out]; simp [hk1]
                      clear HC
                      go_wp2_with (go_at_call 72; first | (with_reducible refine (CLb.out _ (by assumption)).mono ?_; rintro _ wn ⟨rfl, xn⟩) | (with_reducible refine (CLa.out _ (by assumption)).mono ?_; rintro _ wn ⟨rfl, xn⟩))
                      go_returns
                      exact ⟨rfl, HV.out.2.trans (by assumption)⟩
                · by_cases hk4 : m.kd = 4
                  · cases no
                    · obtain rfl : b = false := by rw [← HC.out]; simp [hk4]
                      clear HC
                      go_wp2_with (go_at_call 72; first | (with_reducible refine (CLb.out _ (by assumption)).mono ?_; rintro _ wn ⟨rfl, xn⟩) | (with_reducible refine (CLa.out _ (by assumption)).mono ?_; rintro _ wn ⟨rfl, xn⟩))
                      go_returns
                      exact ⟨rfl, HV.out.2.trans (by assumption)⟩
                    · cases em
                      · have hem : ¬ (n : Int) = 0 := by have := of_decide_eq_false HEM.out; omega
                        have hem4 : ((n : Int) == 0) = false := beq_eq_false_iff_ne.2 hem
                        obtain rfl : b = false := by rw [← HC.out]; simp [hk4]
                        clear HC
                        go_wp2_with (go_at_call 72; first | (with_reducible refine (CLb.out _ (by assumption)).mono ?_; rintro _ wn ⟨rfl, xn⟩) | (with_reducible refine (CLa.out _ (by assumption)).mono ?_; rintro _ wn ⟨rfl, xn⟩))
                        go_returns
                        exact ⟨rfl, HV.out.2.trans (by assumption)⟩
                      · have hem : (n : Int) = 0 := by have := of_decide_eq_true HEM.out; omega
                        obtain rfl : b = true := by rw [← HC.out]; simp [hk4]
                        clear HC
                        go_wp2_with (go_at_call 72; first | (with_reducible refine (CLb.out _ (by assumption)).mono ?_; rintro _ wn ⟨rfl, xn⟩) | (with_reducible refine (CLa.out _ (by assumption)).mono ?_; rintro _ wn ⟨rfl, xn⟩))
                        go_returns
                        exact ⟨rfl, HV.out.2.trans (by assumption)⟩
                  · by_cases hk2 : m.kd = 2
                    · cases gd
                      · have hc0 : ¬ code = 0 := of_decide_eq_false (hcode.out.trans H6.out)
                        obtain rfl : b = false := by rw [← HC.out]; simp [hk1, hk4, hk2]
                        clear HC
                        go_wp2_with (go_at_call 72; first | (with_reducible refine (CLb.out _ (by assumption)).mono ?_; rintro _ wn ⟨rfl, xn⟩) | (with_reducible refine (CLa.out _ (by assumption)).mono ?_; rintro _ wn ⟨rfl, xn⟩))
                        go_returns
                        exact ⟨rfl, HV.out.2.trans (by assumption)⟩
                      · have hc0 : code = 0 := of_decide_eq_true (hcode.out.trans H6.out)
                        cases la
                        · cases no
                          · obtain rfl : b = false := by rw [← HC.out]; simp [hk1, hk4, hk2]
                            clear HC
                            go_wp2_with (go_at_call 72; first | (with_reducible refine (CLb.out _ (by assumption)).mono ?_; rintro _ wn ⟨rfl, xn⟩) | (with_reducible refine (CLa.out _ (by assumption)).mono ?_; rintro _ wn ⟨rfl, xn⟩))
                            go_returns
                            exact ⟨rfl, HV.out.2.trans (by assumption)⟩
                          · cases em
                            · have hem : ¬ (n : Int) = 0 := by have := of_decide_eq_false HEM.out; omega
                              have hem4 : ((n : Int) == 0) = false := beq_eq_false_iff_ne.2 hem
                              obtain rfl : b = false := by rw [← HC.out]; simp [hk1, hk4, hk2]
                              clear HC
                              go_wp2_with (go_at_call 72; first | (with_reducible refine (CLb.out _ (by assumption)).mono ?_; rintro _ wn ⟨rfl, xn⟩) | (with_reducible refine (CLa.out _ (by assumption)).mono ?_; rintro _ wn ⟨rfl, xn⟩))
                              go_returns
                              exact ⟨rfl, HV.out.2.trans (by assumption)⟩
                            · have hem : (n : Int) = 0 := by have := of_decide_eq_true HEM.out; omega
                              obtain rfl : b = true := by rw [← HC.out]; simp [hk1, hk4, hk2]
                              clear HC
                              go_wp2_with (go_at_call 72; first | (with_reducible refine (CLb.out _ (by assumption)).mono ?_; rintro _ wn ⟨rfl, xn⟩) | (with_reducible refine (CLa.out _ (by assumption)).mono ?_; rintro _ wn ⟨rfl, xn⟩))
                              go_returns
                              exact ⟨rfl, HV.out.2.trans (by assumption)⟩
                        · obtain rfl : b = true := by rw [← HC.out]; simp [hk1, hk4, hk2]
                          clear HC
                          go_wp2_with (go_at_call 72; first | (with_reducible refine (CLb.out _ (by assumption)).mono ?_; rintro _ wn ⟨rfl, xn⟩) | (with_reducible refine (CLa.out _ (by assumption)).mono ?_; rintro _ wn ⟨rfl, xn⟩))
                          go_returns
                          exact ⟨rfl, HV.out.2.trans (by assumption)⟩
                    · by_cases hk3 : m.kd = 3
                      · cases gd
                        · have hc0 : ¬ code = 0 := of_decide_eq_false (hcode.out.trans H6.out)
                          obtain rfl : b = false := by rw [← HC.out]; simp [hk1, hk4, hk2, hk3]
                          clear HC
                          go_wp2_with (go_at_call 72; first | (with_reducible refine (CLb.out _ (by assumption)).mono ?_; rintro _ wn ⟨rfl, xn⟩) | (with_reducible refine (CLa.out _ (by assumption)).mono ?_; rintro _ wn ⟨rfl, xn⟩))
                          go_returns
                          exact ⟨rfl, HV.out.2.trans (by assumption)⟩
                        · have hc0 : code = 0 := of_decide_eq_true (hcode.out.trans H6.out)
                          cases no
                          · obtain rfl : b = false := by rw [← HC.out]; simp [hk1, hk4, hk2, hk3]
                            clear HC
                            go_wp2_with (go_at_call 72; first | (with_reducible refine (CLb.out _ (by assumption)).mono ?_; rintro _ wn ⟨rfl, xn⟩) | (with_reducible refine (CLa.out _ (by assumption)).mono ?_; rintro _ wn ⟨rfl, xn⟩))
                            go_returns
                            exact ⟨rfl, HV.out.2.trans (by assumption)⟩
                          · obtain rfl : b = true := by rw [← HC.out]; simp [hk1, hk4, hk2, hk3]
                            clear HC
                            go_wp2_with (go_at_call 72; first | (with_reducible refine (CLb.out _ (by assumption)).mono ?_; rintro _ wn ⟨rfl, xn⟩) | (with_reducible refine (CLa.out _ (by assumption)).mono ?_; rintro _ wn ⟨rfl, xn⟩))
                            go_returns
                            exact ⟨rfl, HV.out.2.trans (by assumption)⟩
                      · by_cases hk5 : m.kd = 5
                        · cases la
                          · obtain rfl : b = false := by rw [← HC.out]; simp [hk1, hk4, hk2, hk3, hk5]
                            clear HC
                            go_wp2_with (go_at_call 72; first | (with_reducible refine (CLb.out _ (by assumption)).mono ?_; rintro _ wn ⟨rfl, xn⟩) | (with_reducible refine (CLa.out _ (by assumption)).mono ?_; rintro _ wn ⟨rfl, xn⟩))
                            go_returns
                            exact ⟨rfl, HV.out.2.trans (by assumption)⟩
                          · cases em
                            · have hem : ¬ (n : Int) = 0 := by have := of_decide_eq_false HEM.out; omega
                              have hem4 : ((n : Int) == 0) = false := beq_eq_false_iff_ne.2 hem
                              obtain rfl : b = false := by rw [← HC.out]; simp [hk1, hk4, hk2, hk3, hk5]
                              clear HC
                              go_wp2_with (go_at_call 72; first | (with_reducible refine (CLb.out _ (by assumption)).mono ?_; rintro _ wn ⟨rfl, xn⟩) | (with_reducible refine (CLa.out _ (by assumption)).mono ?_; rintro _ wn ⟨rfl, xn⟩))
                              go_returns
                              exact ⟨rfl, HV.out.2.trans (by assumption)⟩
                            · have hem : (n : Int) = 0 := by have := of_decide_eq_true HEM.out; omega
                              obtain rfl : b = true := by rw [← HC.out]; simp [hk1, hk4, hk2, hk3, hk5]
                              clear HC
                              go_wp2_with (go_at_call 72; first | (with_reducible refine (CLb.out _ (by assumption)).mono ?_; rintro _ wn ⟨rfl, xn⟩) | (with_reducible refine (CLa.out _ (by assumption)).mono ?_; rintro _ wn ⟨rfl, xn⟩))
                              go_returns
                              exact ⟨rfl, HV.out.2.trans (by assumption)⟩
                        · obtain rfl : b = false := by rw [← HC.out]; simp [hk1, hk4, hk2, hk3, hk5]
                          clear HC
                          go_wp2_with (go_at_call 72; first | (with_reducible refine (CLb.out _ (by assumption)).mono ?_; rintro _ wn ⟨rfl, xn⟩) | (with_reducible refine (CLa.out _ (by assumption)).mono ?_; rintro _ wn ⟨rfl, xn⟩))
                          go_returns
                          exact ⟨rfl, HV.out.2.trans (by assumption)⟩
            · obtain rfl : b = false := by rw [← HC.out, decide_eq_false (show ¬ (0 ≤ m.jb ∧ m.jb ≤ 1099511627776) by omega)]; simp
              clear HC
              go_wp2_with (go_at_call 72; first | (with_reducible refine (CLb.out _ (by assumption)).mono ?_; rintro _ wn ⟨rfl, xn⟩) | (with_reducible refine (CLa.out _ (by assumption)).mono ?_; rintro _ wn ⟨rfl, xn⟩))
              go_returns
              exact ⟨rfl, HV.out.2.trans (by assumption)⟩
          · obtain rfl : b = false := by rw [← HC.out, decide_eq_false (show ¬ (0 ≤ m.jb ∧ m.jb ≤ 1099511627776) by omega)]; simp
            clear HC
            go_wp2_with (go_at_call 72; first | (with_reducible refine (CLb.out _ (by assumption)).mono ?_; rintro _ wn ⟨rfl, xn⟩) | (with_reducible refine (CLa.out _ (by assumption)).mono ?_; rintro _ wn ⟨rfl, xn⟩))
            go_returns
            exact ⟨rfl, HV.out.2.trans (by assumption)⟩
        · obtain rfl : b = false := by rw [← HC.out, decide_eq_false (show ¬ (0 ≤ m.tw ∧ m.tw ≤ 6) by omega)]; simp
          clear HC
          go_wp2_with (go_at_call 72; first | (with_reducible refine (CLb.out _ (by assumption)).mono ?_; rintro _ wn ⟨rfl, xn⟩) | (with_reducible refine (CLa.out _ (by assumption)).mono ?_; rintro _ wn ⟨rfl, xn⟩))
          go_returns
          exact ⟨rfl, HV.out.2.trans (by assumption)⟩
      · obtain rfl : b = false := by rw [← HC.out, decide_eq_false (show ¬ (0 ≤ m.tw ∧ m.tw ≤ 6) by omega)]; simp
        clear HC
        go_wp2_with (go_at_call 72; first | (with_reducible refine (CLb.out _ (by assumption)).mono ?_; rintro _ wn ⟨rfl, xn⟩) | (with_reducible refine (CLa.out _ (by assumption)).mono ?_; rintro _ wn ⟨rfl, xn⟩))
        go_returns
        exact ⟨rfl, HV.out.2.trans (by assumption)⟩
    · obtain rfl : b = false := by rw [← HC.out, decide_eq_false (show ¬ (0 ≤ m.fr ∧ m.fr ≤ 6) by omega)]; simp
      clear HC
      go_wp2_with (go_at_call 72; first | (with_reducible refine (CLb.out _ (by assumption)).mono ?_; rintro _ wn ⟨rfl, xn⟩) | (with_reducible refine (CLa.out _ (by assumption)).mono ?_; rintro _ wn ⟨rfl, xn⟩))
      go_returns
      exact ⟨rfl, HV.out.2.trans (by assumption)⟩
  · obtain rfl : b = false := by rw [← HC.out, decide_eq_false (show ¬ (0 ≤ m.fr ∧ m.fr ≤ 6) by omega)]; simp
    clear HC
    go_wp2_with (go_at_call 72; first | (with_reducible refine (CLb.out _ (by assumption)).mono ?_; rintro _ wn ⟨rfl, xn⟩) | (with_reducible refine (CLa.out _ (by assumption)).mono ?_; rintro _ wn ⟨rfl, xn⟩))
    go_returns
    exact ⟨rfl, HV.out.2.trans (by assumption)⟩
end Go.Proofs.YteflnnlihblpgaaDoor
