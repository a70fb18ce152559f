/-
  Package order: Check, walked.
-/
import Derived.Test.YteflnnlihblpgaaDoorOrChk
namespace Go.Proofs.YteflnnlihblpgaaDoor
set_option maxRecDepth 100000
open Go.RowKit
set_option linter.unusedVariables false
/-- An entry's cells. -/
def ecells (e : En) (A : Option Addr) (n c : Nat) : Array Value := #[.int .i64 e.cl, .int .i64 e.nu, .int .i64 e.kd, .int .i64 e.id, .int .i64 e.sk, .int .i64 e.sq, .int .i64 e.st, .int .i64 e.pol, .slice A n c, .int .i64 e.at_]
section
variable {w : World} {A : Option Addr} {n c : Nat} {e : En}
set_option maxHeartbeats 3200000 in
theorem check_ok (hr : Rd w 4 A n (trows e.ts).flatten) (hn : n ≤ 1000000000000000) (hf : e.form = true) : Calls Tryd.prog 25 #[.agg #[.int .i64 e.cl, .int .i64 e.nu, .int .i64 e.kd, .int .i64 e.id, .int .i64 e.sk, .int .i64 e.sq, .int .i64 e.st, .int .i64 e.pol, .slice A n c, .int .i64 e.at_]] w fun x w' => x = .returned .nilIface ∧ Ext w w' := by
  unfold En.form at hf
  rw [Bool.and_eq_true, decide_eq_true_eq] at hf
  obtain ⟨⟨h0, h1, h2, h3⟩, ho⟩ := hf
  have X0 := (Ext.refl w).alloc (.cells #[.int .i64 e.cl, .int .i64 e.nu, .int .i64 e.kd, .int .i64 e.id, .int .i64 e.sk, .int .i64 e.sq, .int .i64 e.st, .int .i64 e.pol, .slice A n c, .int .i64 e.at_] 29)
  have hob := heap_alloc_new w (.cells #[.int .i64 e.cl, .int .i64 e.nu, .int .i64 e.kd, .int .i64 e.id, .int .i64 e.sk, .int .i64 e.sq, .int .i64 e.st, .int .i64 e.pol, .slice A n c, .int .i64 e.at_] 29)
  have C1 := Lib.hid (chko_any e A n c _ (hr.ext X0) hn true (Lib.hid ho))
  have HV := Lib.hid (And.intro hob X0)
  have g0 : ¬ e.cl < 0 := by omega
  have g1 : ¬ 16 ≤ e.cl := by omega
  have g2 : ¬ e.nu < 1 := by omega
  have g3 : ¬ 1099511627776 < e.nu := by omega
  clear hob X0 hr ho h0 h1 h2 h3
  go_enter Tryd.func25, Tryd.ntmps25
  go_upto_region 1 with (fail)
  generalize w.alloc (.cells #[.int .i64 e.cl, .int .i64 e.nu, .int .i64 e.kd, .int .i64 e.id, .int .i64 e.sk, .int .i64 e.sq, .int .i64 e.st, .int .i64 e.pol, .slice A n c, .int .i64 e.at_] 29) = V at *
  generalize w.heap.size = ob at *
  have c0 : V.cell? ⟨ob, 0, none⟩ = some (.int .i64 e.cl) := block_cell HV.out.1 0
  have c1 : V.cell? ⟨ob, 1, none⟩ = some (.int .i64 e.nu) := block_cell HV.out.1 1
  have c2 : V.cell? ⟨ob, 2, none⟩ = some (.int .i64 e.kd) := block_cell HV.out.1 2
  have c3 : V.cell? ⟨ob, 3, none⟩ = some (.int .i64 e.id) := block_cell HV.out.1 3
  have c4 : V.cell? ⟨ob, 4, none⟩ = some (.int .i64 e.sk) := block_cell HV.out.1 4
  have c5 : V.cell? ⟨ob, 5, none⟩ = some (.int .i64 e.sq) := block_cell HV.out.1 5
  have c6 : V.cell? ⟨ob, 6, none⟩ = some (.int .i64 e.st) := block_cell HV.out.1 6
  have c7 : V.cell? ⟨ob, 7, none⟩ = some (.int .i64 e.pol) := block_cell HV.out.1 7
  have c8 : V.cell? ⟨ob, 8, none⟩ = some (.slice A n c) := block_cell HV.out.1 8
  have c9 : V.cell? ⟨ob, 9, none⟩ = some (.int .i64 e.at_) := block_cell HV.out.1 9
  go_wp2_with (go_at_call 52; refine C1.out.mono ?_; rintro x w1 ⟨rfl, x1⟩)
  go_returns
  exact ⟨rfl, HV.out.2.trans x1⟩
set_option maxHeartbeats 3200000 in
theorem check_no (hr : Rd w 4 A n (trows e.ts).flatten) (hn : n ≤ 1000000000000000) (hf : e.form = false) {ps : Addr} (hS : Sen w 1 ps) : Calls Tryd.prog 25 #[.agg #[.int .i64 e.cl, .int .i64 e.nu, .int .i64 e.kd, .int .i64 e.id, .int .i64 e.sk, .int .i64 e.sq, .int .i64 e.st, .int .i64 e.pol, .slice A n c, .int .i64 e.at_]] w fun x w' => x = .returned (.iface 149 (.pointer (some ps))) ∧ Ext w w' := by
  have X0 := (Ext.refl w).alloc (.cells #[.int .i64 e.cl, .int .i64 e.nu, .int .i64 e.kd, .int .i64 e.id, .int .i64 e.sk, .int .i64 e.sq, .int .i64 e.st, .int .i64 e.pol, .slice A n c, .int .i64 e.at_] 29)
  have hob := heap_alloc_new w (.cells #[.int .i64 e.cl, .int .i64 e.nu, .int .i64 e.kd, .int .i64 e.id, .int .i64 e.sk, .int .i64 e.sq, .int .i64 e.st, .int .i64 e.pol, .slice A n c, .int .i64 e.at_] 29)
  have CO := Lib.hid (fun b hb => chko_any e A n c _ (hr.ext X0) hn b hb)
  have HS := Lib.hid (fun W (hx : Ext w W) => (hS.ext hx).2.1)
  have HV := Lib.hid (And.intro hob X0)
  have HF := Lib.hid hf
  clear hob X0 hr hS hf
  go_enter Tryd.func25, Tryd.ntmps25
  go_upto_region 1 with (fail)
  generalize w.alloc (.cells #[.int .i64 e.cl, .int .i64 e.nu, .int .i64 e.kd, .int .i64 e.id, .int .i64 e.sk, .int .i64 e.sq, .int .i64 e.st, .int .i64 e.pol, .slice A n c, .int .i64 e.at_] 29) = V at *
  generalize w.heap.size = ob at *
  have c0 : V.cell? ⟨ob, 0, none⟩ = some (.int .i64 e.cl) := block_cell HV.out.1 0
  have c1 : V.cell? ⟨ob, 1, none⟩ = some (.int .i64 e.nu) := block_cell HV.out.1 1
  have c2 : V.cell? ⟨ob, 2, none⟩ = some (.int .i64 e.kd) := block_cell HV.out.1 2
  have c3 : V.cell? ⟨ob, 3, none⟩ = some (.int .i64 e.id) := block_cell HV.out.1 3
  have c4 : V.cell? ⟨ob, 4, none⟩ = some (.int .i64 e.sk) := block_cell HV.out.1 4
  have c5 : V.cell? ⟨ob, 5, none⟩ = some (.int .i64 e.sq) := block_cell HV.out.1 5
  have c6 : V.cell? ⟨ob, 6, none⟩ = some (.int .i64 e.st) := block_cell HV.out.1 6
  have c7 : V.cell? ⟨ob, 7, none⟩ = some (.int .i64 e.pol) := block_cell HV.out.1 7
  have c8 : V.cell? ⟨ob, 8, none⟩ = some (.slice A n c) := block_cell HV.out.1 8
  have c9 : V.cell? ⟨ob, 9, none⟩ = some (.int .i64 e.at_) := block_cell HV.out.1 9
  have s0 := HS.out V HV.out.2
  by_cases g0 : e.cl < 0
  · go_wp2_with fail
    go_returns
    exact ⟨rfl, HV.out.2⟩
  by_cases g1 : 16 ≤ e.cl
  · go_wp2_with fail
    go_returns
    exact ⟨rfl, HV.out.2⟩
  by_cases g2 : e.nu < 1
  · go_wp2_with fail
    go_returns
    exact ⟨rfl, HV.out.2⟩
  by_cases g3 : 1099511627776 < e.nu
  · go_wp2_with fail
    go_returns
    exact ⟨rfl, HV.out.2⟩
  have ho : e.ord = false := by
    have h := HF.out
    unfold En.form at h
    rw [Bool.and_eq_false_iff] at h
    rcases h with h | h
    · exact absurd (of_decide_eq_false h) (fun h2 => h2 (by omega))
    · exact h
  have C1 := Lib.hid (CO.out false (Lib.hid ho))
  clear CO ho
  go_upto_region 2 with (go_at_call 52; refine C1.out.mono ?_; rintro x w1 ⟨rfl, x1⟩)
  have s1 := HS.out w1 (HV.out.2.trans x1)
  clear s0 c0 c1 c2 c3 c4 c5 c6 c7 c8 c9
  go_wp2_with fail
  go_returns
  exact ⟨rfl, HV.out.2.trans x1⟩
end
end Go.Proofs.YteflnnlihblpgaaDoor
