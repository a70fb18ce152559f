/-
  Copies of ledgers: the document's Copy, slices.Clone of tasks, order.copied; walked.
-/
import Derived.Test.YteflnnlihblpgaaDoorMgOrderAddsProof11
import Derived.Handy
import Derived.Deep.Cut
namespace Go.Proofs.YteflnnlihblpgaaDoor
set_option maxRecDepth 100000
open Go.RowKit
set_option linter.unusedVariables false
theorem wr_keep {w w' : World} {g n c : Nat} {A : Option Addr} {bs : List Nat} {sp : Bool} (h : WrS w g A n c bs sp) (hf : Fr w w' (fun b => b = g ∨ A.map (·.block) = some b)) {b : Nat} {o : Obj} (hb : b < g) (ho : w.heap[b]? = some o) : w'.heap[b]? = some o :=
  (hf.block b (block_lt ho) (fun e => by
    rcases e with e | e
    · omega
    · have := h.own.base_le b e; omega)).trans ho
theorem wr_ext {a w w' : World} {g n c : Nat} {A : Option Addr} {bs : List Nat} {sp : Bool} (h : WrS w g A n c bs sp) (hf : Fr w w' (fun b => b = g ∨ A.map (·.block) = some b)) (hx : Ext a w) (hg : a.heap.size ≤ g) : Ext a w' :=
  Fr.ext hx hf (fun b e => by
    rcases e with e | e
    · omega
    · have := h.own.base_le b e; omega)
theorem flat4 : ∀ ts : List Tk, (ts.flatMap Tk.ns).length = 4 * ts.length
  | [] => rfl
  | t :: ts => by
    have := flat4 ts
    show (t.ns ++ ts.flatMap Tk.ns).length = _
    rw [List.length_append, this, List.length_cons]
    show 4 + _ = _
    omega
/-- The writer on its way through an entry. -/
structure PW (w wr : World) (g rb : Nat) (e : En) (A : Option Addr) (n c : Nat) (l : List Int) : Prop where
  ex : ∃ A' n' c', WrS wr g A' n' c' (putN l) false
  x : Ext w wr
  o : wr.heap[rb]? = some (.cells #[.int .i64 e.kd, .int .i64 e.id, .int .i64 e.sk, .int .i64 e.sq, .int .i64 e.st, .int .i64 e.pol, .slice A n c, .int .i64 e.at_] 27 (0, 0))
  lo : w.heap.size ≤ g ∧ rb < g
theorem PW.ext {w wr w' : World} {g rb n c : Nat} {e : En} {A : Option Addr} {l : List Int} (h : PW w wr g rb e A n c l) (hx : Ext wr w') : PW w w' g rb e A n c l := by
  obtain ⟨A', n', c', hw⟩ := h.ex
  exact ⟨⟨A', n', c', hw.ext hx⟩, h.x.trans hx, (hx.block rb (block_lt h.o)).trans h.o, h.lo⟩
theorem PW.num {w wr : World} {g rb n c : Nat} {e : En} {A : Option Addr} {l : List Int} (h : PW w wr g rb e A n c l) (hl : ∀ y ∈ l, y ≤ 9223372036854775807) (hll : l.length ≤ 1000) (x : Int) (h0 : 0 ≤ x) (hx : x ≤ 1099511627776) :
    Calls Tryd.prog 54 #[.pointer (some ⟨g, 0, none⟩), .int .i64 x] wr fun r w' => r = .returned (.tuple #[]) ∧ PW w w' g rb e A n c (l ++ [x]) := by
  obtain ⟨A', n', c', hw⟩ := h.ex
  have h1 := putN_len l hl
  have h2 := hw.len
  refine (wnumI x wr hw h0 (by omega) (by omega)).mono ?_
  rintro r w' ⟨rfl, A2, n2, c2, hw2, hf, _⟩
  exact ⟨rfl, ⟨A2, n2, c2, by rw [putN_app, putN_one]; exact hw2⟩, wr_ext hw hf h.x h.lo.1, wr_keep hw hf h.lo.2 h.o, h.lo⟩
section
variable {w : World} {A : Option Addr} {n c : Nat} {e : En}
set_option maxHeartbeats 6400000 in
theorem put_ok (hr : Rd w 4 A n (trows e.ts).flatten) (hf : e.form = true) : Calls Tryd.prog 26 #[.agg #[.int .i64 e.cl, .int .i64 e.nu, .int .i64 e.kd, .int .i64 e.id, .int .i64 e.sk, .int .i64 e.sq, .int .i64 e.st, .int .i64 e.pol, .slice A n c, .int .i64 e.at_]] w fun x w' => ∃ B m d, x = .returned (.tuple #[.slice B m d, .nilIface]) ∧ Own w' w.heap.size 5 1 B m d (u8s e.put) ∧ Ext w w' := by
  have hl := rd_tlen hr
  obtain ⟨hfit, h8⟩ := form_fits hf
  have HF := Lib.hid hfit
  have X0 := (Ext.refl w).alloc (.cells #[.int .i64 e.cl, .int .i64 e.nu, .int .i64 e.kd, .int .i64 e.id, .int .i64 e.sk, .int .i64 e.sq, .int .i64 e.st, .int .i64 e.pol, .slice A n c, .int .i64 e.at_] 29)
  have hob := heap_alloc_new w (.cells #[.int .i64 e.cl, .int .i64 e.nu, .int .i64 e.kd, .int .i64 e.id, .int .i64 e.sk, .int .i64 e.sq, .int .i64 e.st, .int .i64 e.pol, .slice A n c, .int .i64 e.at_] 29)
  have HC := Lib.hid (fun W (hx : Ext w W) => check_ok (c := c) (hr.ext hx) (by omega) hf)
  have HR := Lib.hid hr
  have HV := Lib.hid (And.intro hob X0)
  clear hob X0 hr hfit hf
  go_enter Tryd.func26, Tryd.ntmps26
  go_upto_region 1 with (fail)
  generalize w.alloc (.cells #[.int .i64 e.cl, .int .i64 e.nu, .int .i64 e.kd, .int .i64 e.id, .int .i64 e.sk, .int .i64 e.sq, .int .i64 e.st, .int .i64 e.pol, .slice A n c, .int .i64 e.at_] 29) = V at *
  generalize w.heap.size = ob at *
  have c0 : V.cell? ⟨ob, 0, none⟩ = some (.int .i64 e.cl) := block_cell HV.out.1 0
  have c1 : V.cell? ⟨ob, 1, none⟩ = some (.int .i64 e.nu) := block_cell HV.out.1 1
  have c2 : V.cell? ⟨ob, 2, none⟩ = some (.int .i64 e.kd) := block_cell HV.out.1 2
  have c3 : V.cell? ⟨ob, 3, none⟩ = some (.int .i64 e.id) := block_cell HV.out.1 3
  have c4 : V.cell? ⟨ob, 4, none⟩ = some (.int .i64 e.sk) := block_cell HV.out.1 4
  have c5 : V.cell? ⟨ob, 5, none⟩ = some (.int .i64 e.sq) := block_cell HV.out.1 5
  have c6 : V.cell? ⟨ob, 6, none⟩ = some (.int .i64 e.st) := block_cell HV.out.1 6
  have c7 : V.cell? ⟨ob, 7, none⟩ = some (.int .i64 e.pol) := block_cell HV.out.1 7
  have c8 : V.cell? ⟨ob, 8, none⟩ = some (.slice A n c) := block_cell HV.out.1 8
  have c9 : V.cell? ⟨ob, 9, none⟩ = some (.int .i64 e.at_) := block_cell HV.out.1 9
  have C1 := Lib.hid (HC.out V HV.out.2)
  go_upto_region 4 with (go_at_call 25; refine C1.out.mono ?_; rintro x w1 ⟨rfl, x1⟩)
  have H1 := Lib.hid (And.intro ((x1.block ob (block_lt HV.out.1)).trans HV.out.1) (HV.out.2.trans x1))
  clear c0 c1 c2 c3 c4 c5 c6 c7 c8 c9 C1 x1
  have c0 : w1.cell? ⟨ob, 0, none⟩ = some (.int .i64 e.cl) := block_cell H1.out.1 0
  have c1 : w1.cell? ⟨ob, 1, none⟩ = some (.int .i64 e.nu) := block_cell H1.out.1 1
  have c2 : w1.cell? ⟨ob, 2, none⟩ = some (.int .i64 e.kd) := block_cell H1.out.1 2
  have c3 : w1.cell? ⟨ob, 3, none⟩ = some (.int .i64 e.id) := block_cell H1.out.1 3
  have c4 : w1.cell? ⟨ob, 4, none⟩ = some (.int .i64 e.sk) := block_cell H1.out.1 4
  have c5 : w1.cell? ⟨ob, 5, none⟩ = some (.int .i64 e.sq) := block_cell H1.out.1 5
  have c6 : w1.cell? ⟨ob, 6, none⟩ = some (.int .i64 e.st) := block_cell H1.out.1 6
  have c7 : w1.cell? ⟨ob, 7, none⟩ = some (.int .i64 e.pol) := block_cell H1.out.1 7
  have c8 : w1.cell? ⟨ob, 8, none⟩ = some (.slice A n c) := block_cell H1.out.1 8
  have c9 : w1.cell? ⟨ob, 9, none⟩ = some (.int .i64 e.at_) := block_cell H1.out.1 9
  have X2 := (Ext.refl w1).alloc (.cells #[.int .i64 e.kd, .int .i64 e.id, .int .i64 e.sk, .int .i64 e.sq, .int .i64 e.st, .int .i64 e.pol, .slice A n c, .int .i64 e.at_] 27)
  have h2 := heap_alloc_new w1 (.cells #[.int .i64 e.kd, .int .i64 e.id, .int .i64 e.sk, .int .i64 e.sq, .int .i64 e.st, .int .i64 e.pol, .slice A n c, .int .i64 e.at_] 27)
  have H2 := Lib.hid (And.intro ((X2.block ob (block_lt H1.out.1)).trans H1.out.1) (And.intro h2 (And.intro (H1.out.2.trans X2) (show ob < w1.heap.size from block_lt H1.out.1))))
  clear X2 h2
  go_upto_region 5 with (fail)
  clear c0 c1 c2 c3 c4 c5 c6 c7 c8 c9
  generalize w1.alloc (.cells #[.int .i64 e.kd, .int .i64 e.id, .int .i64 e.sk, .int .i64 e.sq, .int .i64 e.st, .int .i64 e.pol, .slice A n c, .int .i64 e.at_] 27) = V2 at *
  generalize w1.heap.size = rb at *
  have CN := Lib.hid (new_any V2)
  go_upto_region 6 with (go_at_call 53; refine CN.out.mono ?_; rintro x w3 ⟨rfl, n3, x3⟩)
  have H3 := Lib.hid (And.intro ((x3.block ob (block_lt H2.out.1)).trans H2.out.1) (And.intro ((x3.block rb (block_lt H2.out.2.1)).trans H2.out.2.1) (And.intro n3 (And.intro (H2.out.2.2.1.trans x3) (show ob < V2.heap.size ∧ rb < V2.heap.size from ⟨block_lt H2.out.1, block_lt H2.out.2.1⟩)))))
  have HW0 := Lib.hid (show w.heap.size ≤ V2.heap.size from H2.out.2.2.1.size)
  clear CN n3 x3
  generalize V2.heap.size = g at *
  have c0 : w3.cell? ⟨ob, 0, none⟩ = some (.int .i64 e.cl) := block_cell H3.out.1 0
  have c1 : w3.cell? ⟨ob, 1, none⟩ = some (.int .i64 e.nu) := block_cell H3.out.1 1
  have d0 : w3.cell? ⟨rb, 0, none⟩ = some (.int .i64 e.kd) := block_cell H3.out.2.1 0
  have d1 : w3.cell? ⟨rb, 1, none⟩ = some (.int .i64 e.id) := block_cell H3.out.2.1 1
  have d2 : w3.cell? ⟨rb, 2, none⟩ = some (.int .i64 e.sk) := block_cell H3.out.2.1 2
  have d3 : w3.cell? ⟨rb, 3, none⟩ = some (.int .i64 e.sq) := block_cell H3.out.2.1 3
  have d4 : w3.cell? ⟨rb, 4, none⟩ = some (.int .i64 e.st) := block_cell H3.out.2.1 4
  have d5 : w3.cell? ⟨rb, 5, none⟩ = some (.int .i64 e.pol) := block_cell H3.out.2.1 5
  have d6 : w3.cell? ⟨rb, 6, none⟩ = some (.slice A n c) := block_cell H3.out.2.1 6
  have d7 : w3.cell? ⟨rb, 7, none⟩ = some (.int .i64 e.at_) := block_cell H3.out.2.1 7
  go_upto_region 7 with (fail)
  clear c0 c1 d0 d1 d2 d3 d4 d5 d6 d7
  have HP : Hid (PW w w3 g rb e A n c []) := Lib.hid ⟨⟨none, 0, 0, by simpa [putN] using H3.out.2.2.1⟩, H3.out.2.2.2.1, H3.out.2.1, by have := HW0.out; omega, H3.out.2.2.2.2.2⟩
  clear H3 H2 H1 HV HC
  go_loopw [46] (fun v46 wr => ∃ k : Nat, v46 = .int .i64 (k : Int) ∧ k ≤ 10 ∧ Hid (PW w wr g rb e A n c (e.head.take k))) (fun v46 _ => 10 - (intOf v46).toNat)
  case atStart => exact ⟨0, rfl, by omega, HP.out⟩
  case round =>
    obtain ⟨k, rfl, hk, HI⟩ := hrel
    by_cases hlt : k < 10
    · have hh : k = 0 ∨ k = 1 ∨ k = 2 ∨ k = 3 ∨ k = 4 ∨ k = 5 ∨ k = 6 ∨ k = 7 ∨ k = 8 ∨ k = 9 := by omega
      rcases hh with rfl | rfl | rfl | rfl | rfl | rfl | rfl | rfl | rfl | rfl
      · have hx := HF.out (e.cl) (List.mem_append_left _ (by simp [En.head]))
        have CW := Lib.hid (HI.out.num (fun y hy => by have := HF.out y (List.mem_append_left _ (List.mem_of_mem_take hy)); omega) (by simp [En.head]) (e.cl) hx.1 hx.2)
        clear hx
        have ri : ∀ W, (Instr.index 100 (.agg #[.int .i64 e.cl, .int .i64 e.nu, .int .i64 e.kd, .int .i64 e.at_, .int .i64 e.id, .int .i64 e.sk, .int .i64 e.sq, .int .i64 e.st, .int .i64 e.pol, .int .i64 (n : Int)]) (.int .i64 0)).run Tryd.prog W = .ok (.int .i64 (e.cl)) W := fun W => by kernel_rfl
        go_wp2_with (refine CW.out.mono ?_; rintro x w4 ⟨rfl, p4⟩)
        clear ri
        have H4 : Hid (PW w w4 g rb e A n c (e.head.take (0 + 1))) := Lib.hid p4
        clear p4 CW
        go_roundw
        case rel => exact ⟨0 + 1, by go_num, by omega, H4.out⟩
        case measure => simp [intOf]
      · have hx := HF.out (e.nu) (List.mem_append_left _ (by simp [En.head]))
        have CW := Lib.hid (HI.out.num (fun y hy => by have := HF.out y (List.mem_append_left _ (List.mem_of_mem_take hy)); omega) (by simp [En.head]) (e.nu) hx.1 hx.2)
        clear hx
        have ri : ∀ W, (Instr.index 100 (.agg #[.int .i64 e.cl, .int .i64 e.nu, .int .i64 e.kd, .int .i64 e.at_, .int .i64 e.id, .int .i64 e.sk, .int .i64 e.sq, .int .i64 e.st, .int .i64 e.pol, .int .i64 (n : Int)]) (.int .i64 1)).run Tryd.prog W = .ok (.int .i64 (e.nu)) W := fun W => by kernel_rfl
        go_wp2_with (refine CW.out.mono ?_; rintro x w4 ⟨rfl, p4⟩)
        clear ri
        have H4 : Hid (PW w w4 g rb e A n c (e.head.take (1 + 1))) := Lib.hid p4
        clear p4 CW
        go_roundw
        case rel => exact ⟨1 + 1, by go_num, by omega, H4.out⟩
        case measure => simp [intOf]
      · have hx := HF.out (e.kd) (List.mem_append_left _ (by simp [En.head]))
        have CW := Lib.hid (HI.out.num (fun y hy => by have := HF.out y (List.mem_append_left _ (List.mem_of_mem_take hy)); omega) (by simp [En.head]) (e.kd) hx.1 hx.2)
        clear hx
        have ri : ∀ W, (Instr.index 100 (.agg #[.int .i64 e.cl, .int .i64 e.nu, .int .i64 e.kd, .int .i64 e.at_, .int .i64 e.id, .int .i64 e.sk, .int .i64 e.sq, .int .i64 e.st, .int .i64 e.pol, .int .i64 (n : Int)]) (.int .i64 2)).run Tryd.prog W = .ok (.int .i64 (e.kd)) W := fun W => by kernel_rfl
        go_wp2_with (refine CW.out.mono ?_; rintro x w4 ⟨rfl, p4⟩)
        clear ri
        have H4 : Hid (PW w w4 g rb e A n c (e.head.take (2 + 1))) := Lib.hid p4
        clear p4 CW
        go_roundw
        case rel => exact ⟨2 + 1, by go_num, by omega, H4.out⟩
        case measure => simp [intOf]
      · have hx := HF.out (e.at_) (List.mem_append_left _ (by simp [En.head]))
        have CW := Lib.hid (HI.out.num (fun y hy => by have := HF.out y (List.mem_append_left _ (List.mem_of_mem_take hy)); omega) (by simp [En.head]) (e.at_) hx.1 hx.2)
        clear hx
        have ri : ∀ W, (Instr.index 100 (.agg #[.int .i64 e.cl, .int .i64 e.nu, .int .i64 e.kd, .int .i64 e.at_, .int .i64 e.id, .int .i64 e.sk, .int .i64 e.sq, .int .i64 e.st, .int .i64 e.pol, .int .i64 (n : Int)]) (.int .i64 3)).run Tryd.prog W = .ok (.int .i64 (e.at_)) W := fun W => by kernel_rfl
        go_wp2_with (refine CW.out.mono ?_; rintro x w4 ⟨rfl, p4⟩)
        clear ri
        have H4 : Hid (PW w w4 g rb e A n c (e.head.take (3 + 1))) := Lib.hid p4
        clear p4 CW
        go_roundw
        case rel => exact ⟨3 + 1, by go_num, by omega, H4.out⟩
        case measure => simp [intOf]
      · have hx := HF.out (e.id) (List.mem_append_left _ (by simp [En.head]))
        have CW := Lib.hid (HI.out.num (fun y hy => by have := HF.out y (List.mem_append_left _ (List.mem_of_mem_take hy)); omega) (by simp [En.head]) (e.id) hx.1 hx.2)
        clear hx
        have ri : ∀ W, (Instr.index 100 (.agg #[.int .i64 e.cl, .int .i64 e.nu, .int .i64 e.kd, .int .i64 e.at_, .int .i64 e.id, .int .i64 e.sk, .int .i64 e.sq, .int .i64 e.st, .int .i64 e.pol, .int .i64 (n : Int)]) (.int .i64 4)).run Tryd.prog W = .ok (.int .i64 (e.id)) W := fun W => by kernel_rfl
        go_wp2_with (refine CW.out.mono ?_; rintro x w4 ⟨rfl, p4⟩)
        clear ri
        have H4 : Hid (PW w w4 g rb e A n c (e.head.take (4 + 1))) := Lib.hid p4
        clear p4 CW
        go_roundw
        case rel => exact ⟨4 + 1, by go_num, by omega, H4.out⟩
        case measure => simp [intOf]
      · have hx := HF.out (e.sk) (List.mem_append_left _ (by simp [En.head]))
        have CW := Lib.hid (HI.out.num (fun y hy => by have := HF.out y (List.mem_append_left _ (List.mem_of_mem_take hy)); omega) (by simp [En.head]) (e.sk) hx.1 hx.2)
        clear hx
        have ri : ∀ W, (Instr.index 100 (.agg #[.int .i64 e.cl, .int .i64 e.nu, .int .i64 e.kd, .int .i64 e.at_, .int .i64 e.id, .int .i64 e.sk, .int .i64 e.sq, .int .i64 e.st, .int .i64 e.pol, .int .i64 (n : Int)]) (.int .i64 5)).run Tryd.prog W = .ok (.int .i64 (e.sk)) W := fun W => by kernel_rfl
        go_wp2_with (refine CW.out.mono ?_; rintro x w4 ⟨rfl, p4⟩)
        clear ri
        have H4 : Hid (PW w w4 g rb e A n c (e.head.take (5 + 1))) := Lib.hid p4
        clear p4 CW
        go_roundw
        case rel => exact ⟨5 + 1, by go_num, by omega, H4.out⟩
        case measure => simp [intOf]
      · have hx := HF.out (e.sq) (List.mem_append_left _ (by simp [En.head]))
        have CW := Lib.hid (HI.out.num (fun y hy => by have := HF.out y (List.mem_append_left _ (List.mem_of_mem_take hy)); omega) (by simp [En.head]) (e.sq) hx.1 hx.2)
        clear hx
        have ri : ∀ W, (Instr.index 100 (.agg #[.int .i64 e.cl, .int .i64 e.nu, .int .i64 e.kd, .int .i64 e.at_, .int .i64 e.id, .int .i64 e.sk, .int .i64 e.sq, .int .i64 e.st, .int .i64 e.pol, .int .i64 (n : Int)]) (.int .i64 6)).run Tryd.prog W = .ok (.int .i64 (e.sq)) W := fun W => by kernel_rfl
        go_wp2_with (refine CW.out.mono ?_; rintro x w4 ⟨rfl, p4⟩)
        clear ri
        have H4 : Hid (PW w w4 g rb e A n c (e.head.take (6 + 1))) := Lib.hid p4
        clear p4 CW
        go_roundw
        case rel => exact ⟨6 + 1, by go_num, by omega, H4.out⟩
        case measure => simp [intOf]
      · have hx := HF.out (e.st) (List.mem_append_left _ (by simp [En.head]))
        have CW := Lib.hid (HI.out.num (fun y hy => by have := HF.out y (List.mem_append_left _ (List.mem_of_mem_take hy)); omega) (by simp [En.head]) (e.st) hx.1 hx.2)
        clear hx
        have ri : ∀ W, (Instr.index 100 (.agg #[.int .i64 e.cl, .int .i64 e.nu, .int .i64 e.kd, .int .i64 e.at_, .int .i64 e.id, .int .i64 e.sk, .int .i64 e.sq, .int .i64 e.st, .int .i64 e.pol, .int .i64 (n : Int)]) (.int .i64 7)).run Tryd.prog W = .ok (.int .i64 (e.st)) W := fun W => by kernel_rfl
        go_wp2_with (refine CW.out.mono ?_; rintro x w4 ⟨rfl, p4⟩)
        clear ri
        have H4 : Hid (PW w w4 g rb e A n c (e.head.take (7 + 1))) := Lib.hid p4
        clear p4 CW
        go_roundw
        case rel => exact ⟨7 + 1, by go_num, by omega, H4.out⟩
        case measure => simp [intOf]
      · have hx := HF.out (e.pol) (List.mem_append_left _ (by simp [En.head]))
        have CW := Lib.hid (HI.out.num (fun y hy => by have := HF.out y (List.mem_append_left _ (List.mem_of_mem_take hy)); omega) (by simp [En.head]) (e.pol) hx.1 hx.2)
        clear hx
        have ri : ∀ W, (Instr.index 100 (.agg #[.int .i64 e.cl, .int .i64 e.nu, .int .i64 e.kd, .int .i64 e.at_, .int .i64 e.id, .int .i64 e.sk, .int .i64 e.sq, .int .i64 e.st, .int .i64 e.pol, .int .i64 (n : Int)]) (.int .i64 8)).run Tryd.prog W = .ok (.int .i64 (e.pol)) W := fun W => by kernel_rfl
        go_wp2_with (refine CW.out.mono ?_; rintro x w4 ⟨rfl, p4⟩)
        clear ri
        have H4 : Hid (PW w w4 g rb e A n c (e.head.take (8 + 1))) := Lib.hid p4
        clear p4 CW
        go_roundw
        case rel => exact ⟨8 + 1, by go_num, by omega, H4.out⟩
        case measure => simp [intOf]
      · have hx := HF.out (e.ts.length : Int) (List.mem_append_left _ (by simp [En.head]))
        rw [hl] at hx
        have CW := Lib.hid (HI.out.num (fun y hy => by have := HF.out y (List.mem_append_left _ (List.mem_of_mem_take hy)); omega) (by simp [En.head]) (n : Int) hx.1 hx.2)
        clear hx
        have ri : ∀ W, (Instr.index 100 (.agg #[.int .i64 e.cl, .int .i64 e.nu, .int .i64 e.kd, .int .i64 e.at_, .int .i64 e.id, .int .i64 e.sk, .int .i64 e.sq, .int .i64 e.st, .int .i64 e.pol, .int .i64 (n : Int)]) (.int .i64 9)).run Tryd.prog W = .ok (.int .i64 (n : Int)) W := fun W => by kernel_rfl
        go_wp2_with (refine CW.out.mono ?_; rintro x w4 ⟨rfl, p4⟩)
        clear ri
        have H4 : Hid (PW w w4 g rb e A n c (e.head.take (9 + 1))) := Lib.hid (by rw [show e.head.take (9 + 1) = e.head.take 9 ++ [(n : Int)] from (by unfold En.head; rw [hl]; rfl)]; exact p4)
        clear p4 CW
        go_roundw
        case rel => exact ⟨9 + 1, by go_num, by omega, H4.out⟩
        case measure => simp [intOf]
    · have hk10 : k = 10 := by omega
      have HQ : Hid (PW w wr g rb e A n c (e.head ++ (e.ts.take 0).flatMap Tk.ns)) := Lib.hid (by
        have h := HI.out
        rw [hk10, show e.head.take 10 = e.head from rfl] at h
        simpa using h)
      have d6 : wr.cell? ⟨rb, 6, none⟩ = some (.slice A n c) := block_cell HI.out.o 6
      clear HI HP hk10
      go_upto_region 12 with (fail)
      clear d6
      go_loopw [56] (fun v56 wr => ∃ j : Nat, v56 = .int .i64 (j : Int) ∧ j ≤ n ∧ Hid (PW w wr g rb e A n c (e.head ++ (e.ts.take j).flatMap Tk.ns))) (fun v56 _ => n - (intOf v56).toNat)
      case atStart => exact ⟨0, rfl, by omega, HQ.out⟩
      case round =>
        obtain ⟨j, rfl, hj, HJ⟩ := hrel
        by_cases hltj : j < n
        · obtain ⟨t, ht⟩ : ∃ t, e.ts[j]? = some t := ⟨e.ts[j]'(by omega), List.getElem?_eq_getElem _⟩
          obtain ⟨j4, hj4⟩ : ∃ j4, j * 4 = j4 := ⟨_, rfl⟩
          obtain ⟨ad, rfl, y0, y1, y2, y3⟩ := (HR.out.ext HJ.out.x).task ht hj4
          have HT := Lib.hid ht
          have z0 : (0 : Int) ≤ j := by omega
          have z1 : (j : Int) < n := by omega
          have HB := Lib.hid (heap_alloc_new wr (.cells #[.int .i64 t.C, .int .i64 t.P, .int .i64 t.D, .int .i64 t.S] 47))
          have HJ2 := Lib.hid (HJ.out.ext ((Ext.refl wr).alloc (.cells #[.int .i64 t.C, .int .i64 t.P, .int .i64 t.D, .int .i64 t.S] 47)))
          clear ht HJ
          go_upto_region 14 with (fail)
          generalize wr.alloc (.cells #[.int .i64 t.C, .int .i64 t.P, .int .i64 t.D, .int .i64 t.S] 47) = V5 at *
          generalize wr.heap.size = tb at *
          have u0 : V5.cell? ⟨tb, 0, none⟩ = some (.int .i64 t.C) := block_cell HB.out 0
          have u1 : V5.cell? ⟨tb, 1, none⟩ = some (.int .i64 t.P) := block_cell HB.out 1
          have u2 : V5.cell? ⟨tb, 2, none⟩ = some (.int .i64 t.D) := block_cell HB.out 2
          have u3 : V5.cell? ⟨tb, 3, none⟩ = some (.int .i64 t.S) := block_cell HB.out 3
          clear y0 y1 y2 y3
          go_upto_region 15 with (fail)
          clear u0 u1 u2 u3
          have HTF := Lib.hid (show ∀ x ∈ t.ns, 0 ≤ x ∧ x ≤ 1099511627776 from fun x hx => HF.out x (List.mem_append_right _ (List.mem_flatMap.2 ⟨t, List.mem_of_getElem? HT.out, hx⟩)))
          have HLB := Lib.hid (show ∀ k, (∀ y ∈ e.head ++ (e.ts.take j).flatMap Tk.ns ++ t.ns.take k, y ≤ 9223372036854775807) ∧ (e.head ++ (e.ts.take j).flatMap Tk.ns ++ t.ns.take k).length ≤ 1000 from fun k => ⟨fun y hy => by
            have hm : y ∈ e.nums ∨ y ∈ t.ns := by
              rcases List.mem_append.1 hy with hy | hy
              · rcases List.mem_append.1 hy with hy | hy
                · exact .inl (List.mem_append_left _ hy)
                · obtain ⟨q, hq, hy⟩ := List.mem_flatMap.1 hy
                  exact .inl (List.mem_append_right _ (List.mem_flatMap.2 ⟨q, List.mem_of_mem_take hq, hy⟩))
              · exact .inr (List.mem_of_mem_take hy)
            rcases hm with hm | hm
            · have := HF.out y hm; omega
            · have := HTF.out y hm; omega, by
            have h1 : ((e.ts.take j).flatMap Tk.ns).length = 4 * (e.ts.take j).length := flat4 _
            have h2 : (t.ns.take k).length ≤ 4 := by rw [List.length_take]; show min k 4 ≤ 4; omega
            rw [List.length_append, List.length_append, h1, List.length_take]
            show 10 + 4 * min j e.ts.length + _ ≤ 1000
            omega⟩)
          have HJ3 : Hid (PW w V5 g rb e (some ad) n c (e.head ++ (e.ts.take j).flatMap Tk.ns ++ t.ns.take 0)) := Lib.hid (by simpa using HJ2.out)
          clear HJ2
          go_loopw [12, 69] (fun _ v69 wr => ∃ k : Nat, v69 = .int .i64 (k : Int) ∧ k ≤ 4 ∧ Hid (PW w wr g rb e (some ad) n c (e.head ++ (e.ts.take j).flatMap Tk.ns ++ t.ns.take k))) (fun _ v69 _ => 4 - (intOf v69).toNat)
          case atStart => exact ⟨0, rfl, by omega, HJ3.out⟩
          case round =>
            obtain ⟨k, rfl, hk, HI⟩ := hrel
            by_cases hlt : k < 4
            · have hh : k = 0 ∨ k = 1 ∨ k = 2 ∨ k = 3 := by omega
              rcases hh with rfl | rfl | rfl | rfl
              · have hx := HTF.out (t.C) (by simp [Tk.ns])
                have CW := Lib.hid (HI.out.num (HLB.out 0).1 (HLB.out 0).2 (t.C) hx.1 hx.2)
                clear hx
                have ri : ∀ W, (Instr.index 102 (.agg #[.int .i64 t.C, .int .i64 t.P, .int .i64 t.D, .int .i64 t.S]) (.int .i64 0)).run Tryd.prog W = .ok (.int .i64 (t.C)) W := fun W => by kernel_rfl
                go_wp2_with (refine CW.out.mono ?_; rintro x w4 ⟨rfl, p4⟩)
                clear ri
                have H4 : Hid (PW w w4 g rb e (some ad) n c (e.head ++ (e.ts.take j).flatMap Tk.ns ++ t.ns.take (0 + 1))) := Lib.hid (by rw [List.append_assoc] at p4; exact p4)
                clear p4 CW
                go_roundw
                case rel => exact ⟨0 + 1, by go_num, by omega, H4.out⟩
                case measure => simp [intOf]
              · have hx := HTF.out (t.P) (by simp [Tk.ns])
                have CW := Lib.hid (HI.out.num (HLB.out 1).1 (HLB.out 1).2 (t.P) hx.1 hx.2)
                clear hx
                have ri : ∀ W, (Instr.index 102 (.agg #[.int .i64 t.C, .int .i64 t.P, .int .i64 t.D, .int .i64 t.S]) (.int .i64 1)).run Tryd.prog W = .ok (.int .i64 (t.P)) W := fun W => by kernel_rfl
                go_wp2_with (refine CW.out.mono ?_; rintro x w4 ⟨rfl, p4⟩)
                clear ri
                have H4 : Hid (PW w w4 g rb e (some ad) n c (e.head ++ (e.ts.take j).flatMap Tk.ns ++ t.ns.take (1 + 1))) := Lib.hid (by rw [List.append_assoc] at p4; exact p4)
                clear p4 CW
                go_roundw
                case rel => exact ⟨1 + 1, by go_num, by omega, H4.out⟩
                case measure => simp [intOf]
              · have hx := HTF.out (t.D) (by simp [Tk.ns])
                have CW := Lib.hid (HI.out.num (HLB.out 2).1 (HLB.out 2).2 (t.D) hx.1 hx.2)
                clear hx
                have ri : ∀ W, (Instr.index 102 (.agg #[.int .i64 t.C, .int .i64 t.P, .int .i64 t.D, .int .i64 t.S]) (.int .i64 2)).run Tryd.prog W = .ok (.int .i64 (t.D)) W := fun W => by kernel_rfl
                go_wp2_with (refine CW.out.mono ?_; rintro x w4 ⟨rfl, p4⟩)
                clear ri
                have H4 : Hid (PW w w4 g rb e (some ad) n c (e.head ++ (e.ts.take j).flatMap Tk.ns ++ t.ns.take (2 + 1))) := Lib.hid (by rw [List.append_assoc] at p4; exact p4)
                clear p4 CW
                go_roundw
                case rel => exact ⟨2 + 1, by go_num, by omega, H4.out⟩
                case measure => simp [intOf]
              · have hx := HTF.out (t.S) (by simp [Tk.ns])
                have CW := Lib.hid (HI.out.num (HLB.out 3).1 (HLB.out 3).2 (t.S) hx.1 hx.2)
                clear hx
                have ri : ∀ W, (Instr.index 102 (.agg #[.int .i64 t.C, .int .i64 t.P, .int .i64 t.D, .int .i64 t.S]) (.int .i64 3)).run Tryd.prog W = .ok (.int .i64 (t.S)) W := fun W => by kernel_rfl
                go_wp2_with (refine CW.out.mono ?_; rintro x w4 ⟨rfl, p4⟩)
                clear ri
                have H4 : Hid (PW w w4 g rb e (some ad) n c (e.head ++ (e.ts.take j).flatMap Tk.ns ++ t.ns.take (3 + 1))) := Lib.hid (by rw [List.append_assoc] at p4; exact p4)
                clear p4 CW
                go_roundw
                case rel => exact ⟨3 + 1, by go_num, by omega, H4.out⟩
                case measure => simp [intOf]
            · obtain rfl : k = 4 := by omega
              have HN : Hid (PW w wr g rb e (some ad) n c (e.head ++ (e.ts.take (j + 1)).flatMap Tk.ns)) := Lib.hid (by
                have h := HI.out
                rw [show t.ns.take 4 = t.ns from rfl, List.append_assoc] at h
                rw [take_succ' HT.out, List.flatMap_append]
                simpa using h)
              clear HI
              go_wp2_with fail
              go_roundw
              case rel => exact ⟨j + 1, by go_num, by omega, HN.out⟩
              case measure => simp [intOf]; omega
        · obtain rfl : n = j := by omega
          have HN : Hid (PW w wr g rb e A n c e.nums) := Lib.hid (by
            have h := HJ.out
            rw [List.take_of_length_le (by omega)] at h
            exact h)
          obtain ⟨A', n', c', hw⟩ := HN.out.ex
          have hb := hw.len
          have hbl := putN_len e.nums (fun y hy => by have := HF.out y hy; omega)
          have hnl : e.nums.length ≤ 42 := by
            unfold En.nums
            rw [List.length_append, flat4]
            show 10 + 4 * e.ts.length ≤ 42
            omega
          have CD := Lib.hid (done_any wr hw (by omega))
          have HX := Lib.hid HN.out.x
          clear hw hb hbl hnl HJ HN
          go_wp2_with (go_at_call 55; refine CD.out.mono ?_; rintro x w5 ⟨B, d, rfl, o5, x5⟩)
          go_returns
          exact ⟨B, n', d, rfl, o5.base_mono HX.out.size, HX.out.trans x5⟩
end
end Go.Proofs.YteflnnlihblpgaaDoor
namespace Go.Proofs.YteflnnlihblpgaaDoor
set_option maxRecDepth 100000
open Go.RowKit
set_option linter.unusedVariables false
theorem Own.other {w : World} {b1 b2 n c m d z1 z2 : Nat} {e1 e2 : TypeId} {A B : Option Addr} {xs ys : List Value} (h : Own w b1 e1 z1 A n c xs) (k : Own w b2 e2 z2 B m d ys) (hne : e1 ≠ e2) : ∀ a, B = some a → A.map (·.block) ≠ some a.block := by
  intro a ha hA
  rcases h.2 with ⟨h1, _⟩ | ⟨g, cap, cur, h1, _, hg, _⟩
  · injection h1 with h1
    subst h1
    cases hA
  · injection h1 with h1
    subst h1
    rcases k.2 with ⟨k1, _⟩ | ⟨g', cap', cur', k1, _, kg, _⟩
    · injection k1 with k1
      rw [ha] at k1
      cases k1
    · injection k1 with k1
      rw [ha] at k1
      injection k1 with k1
      subst k1
      simp only [Option.map_some, Option.some.injEq] at hA
      subst hA
      rw [hg] at kg
      simp only [Option.some.injEq, Obj.cells.injEq] at kg
      exact hne kg.2.1
section
variable {w w' : World} {base m d : Nat} {B : Option Addr} {ss : List EnS}
/-- Behind an append to a ledger's row each entry's tasks lie as they lay. -/
theorem OLed.grown (h : OLed w base B m d ss) (hg : Grows w w' B) : ∀ s ∈ ss, s.Lies w' ∧ s.Mine base w' := fun s hs => by
  obtain ⟨h1, h2⟩ := h.all s hs
  have h3 : Own w' base 47 4 s.A s.n s.c (trows s.e.ts).flatten := (Fr.grows hg).own h2 (fun a ha e => h.own.other h2 (by decide) a ha e)
  exact ⟨⟨h3.rd, h1.le, h1.cap⟩, h3⟩
/-- An entry more. -/
theorem OLed.snoc (h : OLed w base B m d ss) (hg : Grows w w' B) {x : EnS} (hx : x.Lies w) (hm : x.Mine base w) {B' : Option Addr} {d' : Nat} (ho : Own w' base 29 10 B' (m + 1) d' ((erows ss).flatten ++ x.vals)) : OLed w' base B' (m + 1) d' (ss ++ [x]) := by
  refine ⟨by rw [erows_app]; simpa [erows] using ho, fun s hs => ?_⟩
  rcases List.mem_append.1 hs with hs | hs
  · exact h.grown hg s hs
  · obtain rfl := List.mem_singleton.1 hs
    have h3 : Own w' base 47 4 s.A s.n s.c (trows s.e.ts).flatten := (Fr.grows hg).own hm (fun a ha e => h.own.other hm (by decide) a ha e)
    exact ⟨⟨h3.rd, hx.le, hx.cap⟩, h3⟩
end
/-- A ledger's entries more. -/
theorem OLed.app {w w' : World} {base m d k : Nat} {B : Option Addr} {ss tt : List EnS} (h : OLed w base B m d ss) (hg : Grows w w' B) (h2 : ∀ x ∈ tt, x.Lies w ∧ x.Mine base w) {B' : Option Addr} {d' : Nat} (ho : Own w' base 29 10 B' (m + k) d' ((erows ss).flatten ++ (erows tt).flatten)) : OLed w' base B' (m + k) d' (ss ++ tt) := by
  refine ⟨by rw [erows_app]; exact ho, fun s hs => ?_⟩
  rcases List.mem_append.1 hs with hs | hs
  · exact h.grown hg s hs
  · obtain ⟨h3, h4⟩ := h2 s hs
    have h5 : Own w' base 47 4 s.A s.n s.c (trows s.e.ts).flatten := (Fr.grows hg).own h4 (fun a ha e => h.own.other h4 (by decide) a ha e)
    exact ⟨⟨h5.rd, h3.le, h3.cap⟩, h5⟩
/-- An entry laid into a block of its own. -/
theorem rd_entry (x : EnS) (w : World) : Rd (w.alloc (.cells #[.int .i64 x.e.cl, .int .i64 x.e.nu, .int .i64 x.e.kd, .int .i64 x.e.id, .int .i64 x.e.sk, .int .i64 x.e.sq, .int .i64 x.e.st, .int .i64 x.e.pol, .slice x.A x.n x.c, .int .i64 x.e.at_] 29)) 10 (some ⟨w.heap.size, 0, none⟩) 1 x.vals :=
  ⟨rfl, fun _ => ⟨_, rfl, by rw [World.size_alloc]; exact Nat.lt_succ_self _, World.news_of_block (heap_alloc_new w _)⟩⟩
set_option maxHeartbeats 800000 in
theorem clonet_any (s : EnS) (w : World) (hs : s.Lies w) : Calls Tryd.prog 76 #[.slice s.A s.n s.c] w fun e w' => ∃ A' c', e = .returned (.slice A' s.n c') ∧ Own w' w.heap.size 47 4 A' s.n c' (trows s.e.ts).flatten ∧ Ext w w' := by
  have hr := hs.rd
  have hle := hs.le
  obtain ⟨e, A, n, c⟩ := s
  dsimp only at hr hle ⊢
  have HR := Lib.hid hr
  cases A with
  | none =>
    obtain rfl : n = 0 := by
      rcases Nat.eq_zero_or_pos n with h | h
      · exact h
      · obtain ⟨_, h, _⟩ := hr.2 h; cases h
    have hx : (trows e.ts).flatten = [] := List.eq_nil_of_length_eq_zero (by have := hr.1; omega)
    have HX := Lib.hid hx
    have hq := fun (w : World) (a : Option Addr) (n c : Nat) => Lib.run_eql_slice_nil (P := Tryd.prog) w 25 47 a n c 0 0 Tryd.underlying25
    clear hr hx hs
    go_enter Tryd.func76, Tryd.ntmps76
    go_wp2_with fail
    go_returns
    exact ⟨none, 0, rfl, by rw [HX.out]; exact Own.nil_, Ext.refl w⟩
  | some ad =>
    have hq := fun (w : World) (a : Option Addr) (n c : Nat) => Lib.run_eql_slice_nil (P := Tryd.prog) w 25 47 a n c 0 0 Tryd.underlying25
    have o0 : Own (w.alloc (.cells #[] 47)) w.heap.size 47 4 (some ⟨w.heap.size, 0, none⟩) 0 0 [] := World.ownsRow_lit (size := 4) _ #[] 0 (Nat.le_refl _) (by simp [maxLen]) rfl
    have x0 := (Ext.refl w).alloc (.cells #[] 47)
    clear hr hs
    go_enter Tryd.func76, Tryd.ntmps76
    go_wp2_with (at_builtin; refine held ?_)
    refine Held.go (wp_app (m := n) (news := (trows e.ts).flatten) eltTk o0 (HR.out.ext x0) (trows_one _) (by omega) (.inr ⟨by omega, by omega⟩) x0.size _ _ rfl rfl rfl rfl ?_)
    intro A2 c2 w2 o2 g2 _ _
    have x2 := o0.fr_ext x0 (Nat.le_refl _) (Fr.grows g2)
    rw [List.nil_append, Nat.zero_add] at o2
    have HF := Lib.hid (And.intro o2 x2)
    clear o2 g2 x2 o0 x0
    go_wp2_with fail
    go_returns
    exact ⟨A2, c2, rfl, HF.out.1, HF.out.2⟩
set_option maxHeartbeats 3200000 in
theorem rcopy_any (A : Option Addr) (n c : Nat) (ss : List EnS) (w : World) (hs : Led w A n ss) (hn : n ≤ 1500000000000) : Calls Tryd.prog 13 #[.slice A n c] w fun e w' => ∃ B d tt, e = .returned (.slice B n d) ∧ ents tt = ents ss ∧ OLed w' w.heap.size B n d tt ∧ Ext w w' := by
  have hsl := hs.len
  have HR := Lib.hid hs
  clear hs
  have o0 : OLed (w.alloc (.cells #[] 29)) w.heap.size (some ⟨w.heap.size, 0, none⟩) 0 0 [] := ⟨World.ownsRow_lit (size := 10) _ #[] 0 (Nat.le_refl _) (by simp [maxLen]) rfl, by simp⟩
  have x0 := (Ext.refl w).alloc (.cells #[] 29)
  have H0 := Lib.hid (And.intro o0 x0)
  clear o0 x0
  go_enter Tryd.func13, Tryd.ntmps13
  go_upto_region 3 with (fail)
  go_loopw [3, 9] (fun v3 v9 wr => ∃ (k : Nat) (B : Option Addr) (d : Nat), v9 = .int .i64 (k : Int) ∧ v3 = .slice B k d ∧ k ≤ n ∧ Hid (∃ tt, ents tt = (ents ss).take k ∧ OLed wr w.heap.size B k d tt ∧ Ext w wr)) (fun _ v9 _ => n - (intOf v9).toNat)
  case atStart => exact ⟨0, _, 0, rfl, rfl, by omega, [], rfl, H0.out.1, H0.out.2⟩
  case round =>
    obtain ⟨k, B, d, rfl, rfl, hk, HI⟩ := hrel
    obtain ⟨tt, ht, ho, hx⟩ := HI.out
    have HO := Lib.hid (And.intro ht (And.intro ho hx))
    clear ht ho hx HI
    by_cases hlt : k < n
    · obtain ⟨x, hx⟩ : ∃ x, ss[k]? = some x := ⟨ss[k]'(by omega), List.getElem?_eq_getElem _⟩
      obtain ⟨k10, hk10⟩ : ∃ k10, k * 10 = k10 := ⟨_, rfl⟩
      obtain ⟨ad, rfl, y0, y1, y2, y3, y4, y5, y6, y7, y8, y9⟩ := (HR.out.ext HO.out.2.2).entry hx hk10
      have k0 : (0 : Int) ≤ k := by omega
      have k1 : (k : Int) < n := by omega
      have HX := Lib.hid hx
      have X5 := (Ext.refl wr).alloc (.cells #[.int .i64 x.e.cl, .int .i64 x.e.nu, .int .i64 x.e.kd, .int .i64 x.e.id, .int .i64 x.e.sk, .int .i64 x.e.sq, .int .i64 x.e.st, .int .i64 x.e.pol, .slice x.A x.n x.c, .int .i64 x.e.at_] 29)
      have H5 := Lib.hid (And.intro (heap_alloc_new wr (.cells #[.int .i64 x.e.cl, .int .i64 x.e.nu, .int .i64 x.e.kd, .int .i64 x.e.id, .int .i64 x.e.sk, .int .i64 x.e.sq, .int .i64 x.e.st, .int .i64 x.e.pol, .slice x.A x.n x.c, .int .i64 x.e.at_] 29)) (And.intro X5 (And.intro (HO.out.2.2.trans X5) HO.out.2.2.size)))
      have HL := Lib.hid ((HR.out.all x (List.mem_of_getElem? hx)).ext (HO.out.2.2.trans X5))
      have HOW := Lib.hid (HO.out.2.1.ext X5)
      clear hx X5
      go_upto_region 5 with (fail)
      generalize wr.alloc (.cells #[.int .i64 x.e.cl, .int .i64 x.e.nu, .int .i64 x.e.kd, .int .i64 x.e.id, .int .i64 x.e.sk, .int .i64 x.e.sq, .int .i64 x.e.st, .int .i64 x.e.pol, .slice x.A x.n x.c, .int .i64 x.e.at_] 29) = V5 at *
      generalize htbe : wr.heap.size = tb at *
      have HTB := Lib.hid htbe
      clear htbe
      clear y0 y1 y2 y3 y4 y5 y6 y7 y8 y9
      have c8 : V5.cell? ⟨tb, 8, none⟩ = some (.slice x.A x.n x.c) := block_cell H5.out.1 8
      have hle := HL.out.le
      have hcap := HL.out.cap
      have o1 : Own (V5.alloc (.cells #[] 47)) V5.heap.size 47 4 (some ⟨V5.heap.size, 0, none⟩) 0 0 [] := World.ownsRow_lit (size := 4) _ #[] 0 (Nat.le_refl _) (by simp [maxLen]) rfl
      have x1 := (Ext.refl V5).alloc (.cells #[] 47)
      have c8' := (x1.cell (p := ⟨tb, 8, none⟩) (block_lt H5.out.1)).trans c8
      have hne : V5.heap.size ≠ tb := by have := block_lt H5.out.1; omega
      go_wp2_with (at_builtin; refine held ?_)
      refine Held.go (wp_app (m := x.n) (news := (trows x.e.ts).flatten) eltTk o1 (HL.out.rd.ext x1) (trows_one _) (by omega) (.inr ⟨by omega, by omega⟩) x1.size _ _ rfl rfl rfl rfl ?_)
      intro A2 c2 w2 o2 g2 _ _
      have x2 := o1.fr_ext x1 (Nat.le_refl _) (Fr.grows g2)
      rw [List.nil_append] at o2
      have hN : 0 + x.n = x.n := Nat.zero_add _
      rw [hN] at o2
      rw [hN]
      clear hN c8' hne
      have b2 := (x2.block tb (block_lt H5.out.1)).trans H5.out.1
      have f8 : w2.frozen? ⟨tb, 8, none⟩ = false := block_fz b2 8
      have d8 : w2.cell? ⟨tb, 8, none⟩ = some (.slice x.A x.n x.c) := block_cell b2 8
      have hcc := o2.cap_le
      have htb : tb < V5.heap.size := block_lt H5.out.1
      have F8 := Fr.store w2 ⟨tb, 8, none⟩ (.slice A2 x.n c2)
      have b8 : (w2.setCell ⟨tb, 8, none⟩ (.slice A2 x.n c2)).heap[tb]? = some (.cells #[.int .i64 x.e.cl, .int .i64 x.e.nu, .int .i64 x.e.kd, .int .i64 x.e.id, .int .i64 x.e.sk, .int .i64 x.e.sq, .int .i64 x.e.st, .int .i64 x.e.pol, .slice A2 x.n c2, .int .i64 x.e.at_] 29 (0, 0)) := heap_setCell_same w2 tb 8 _ _ _ b2
      have o8 : Own (w2.setCell ⟨tb, 8, none⟩ (.slice A2 x.n c2)) w.heap.size 47 4 A2 x.n c2 (trows x.e.ts).flatten := (F8.own o2 (fun a ha e => by
        have h1 := o2.base_le a.block (by rw [ha]; rfl)
        have h2 : a.block = tb := e
        omega)).base_mono (by have := H5.out.2.2.1.size; omega)
      have x8 : Ext w (w2.setCell ⟨tb, 8, none⟩ (.slice A2 x.n c2)) := Fr.ext (H5.out.2.2.1.trans x2) F8 (fun i e => by have := H5.out.2.2.2; have e : i = tb := e; omega)
      have w8 : OLed (w2.setCell ⟨tb, 8, none⟩ (.slice A2 x.n c2)) w.heap.size B k d tt := (HO.out.2.1).ext (Fr.ext (H5.out.2.1.trans x2) F8 (fun i e => by have e : i = tb := e; have := HTB.out; omega))
      have H8 := Lib.hid (And.intro b8 (And.intro o8 (And.intro x8 w8)))
      clear b8 o8 x8 w8 F8 o2 x2 c8 b2 o1 x1 g2
      go_upto_region 6 with (fail)
      clear f8 d8
      generalize w2.setCell ⟨tb, 8, none⟩ (.slice A2 x.n c2) = V8 at *
      have e0 : V8.cell? ⟨tb, 0, none⟩ = some (.int .i64 x.e.cl) := block_cell (H8.out.1) 0
      have e1 : V8.cell? ⟨tb, 1, none⟩ = some (.int .i64 x.e.nu) := block_cell (H8.out.1) 1
      have e2 : V8.cell? ⟨tb, 2, none⟩ = some (.int .i64 x.e.kd) := block_cell (H8.out.1) 2
      have e3 : V8.cell? ⟨tb, 3, none⟩ = some (.int .i64 x.e.id) := block_cell (H8.out.1) 3
      have e4 : V8.cell? ⟨tb, 4, none⟩ = some (.int .i64 x.e.sk) := block_cell (H8.out.1) 4
      have e5 : V8.cell? ⟨tb, 5, none⟩ = some (.int .i64 x.e.sq) := block_cell (H8.out.1) 5
      have e6 : V8.cell? ⟨tb, 6, none⟩ = some (.int .i64 x.e.st) := block_cell (H8.out.1) 6
      have e7 : V8.cell? ⟨tb, 7, none⟩ = some (.int .i64 x.e.pol) := block_cell (H8.out.1) 7
      have e8 : V8.cell? ⟨tb, 8, none⟩ = some (.slice A2 x.n c2) := block_cell (H8.out.1) 8
      have e9 : V8.cell? ⟨tb, 9, none⟩ = some (.int .i64 x.e.at_) := block_cell (H8.out.1) 9
      have X9 := (Ext.refl V8).alloc (.cells #[.int .i64 x.e.cl, .int .i64 x.e.nu, .int .i64 x.e.kd, .int .i64 x.e.id, .int .i64 x.e.sk, .int .i64 x.e.sq, .int .i64 x.e.st, .int .i64 x.e.pol, .slice A2 x.n c2, .int .i64 x.e.at_] 29)
      have RN := rd_entry ⟨x.e, A2, x.n, c2⟩ V8
      go_wp2_with (at_builtin; refine held ?_)
      refine Held.go (wp_app (m := 1) (news := (EnS.mk x.e A2 x.n c2).vals) eltEn (H8.out.2.2.2.ext X9).own RN (vals_one _) (by omega) (.inr ⟨by omega, by omega⟩) (by have := (H8.out.2.2.1.trans X9).size; exact this) _ _ rfl rfl rfl rfl ?_)
      intro A3 c3 w3 o3 g3 _ _
      have xm : EnS.Lies ⟨x.e, A2, x.n, c2⟩ (V8.alloc (.cells #[.int .i64 x.e.cl, .int .i64 x.e.nu, .int .i64 x.e.kd, .int .i64 x.e.id, .int .i64 x.e.sk, .int .i64 x.e.sq, .int .i64 x.e.st, .int .i64 x.e.pol, .slice A2 x.n c2, .int .i64 x.e.at_] 29)) := ⟨H8.out.2.1.rd.ext X9, hle, hcc⟩
      have o4 := (H8.out.2.2.2.ext X9).snoc g3 xm (H8.out.2.1.ext X9) o3
      have x4 : Ext w w3 := g3.ext (H8.out.2.2.1.trans X9) (fun g hg => (H8.out.2.2.2.own).base_le g hg)
      have H9 := Lib.hid (And.intro o4 x4)
      clear o3 g3 o4 x4 xm RN X9 e0 e1 e2 e3 e4 e5 e6 e7 e8 e9
      go_wp2_with fail
      go_roundw
      case rel =>
        refine ⟨k + 1, A3, c3, by go_num, rfl, by omega, Lib.hid ⟨tt ++ [⟨x.e, A2, x.n, c2⟩], ?_, H9.out.1, H9.out.2⟩⟩
        rw [take_succ' (ents_at HX.out), ← HO.out.1]
        simp [ents]
      case measure => simp [intOf]; omega
    · obtain rfl : n = k := by omega
      go_wp2_with fail
      go_returns
      refine ⟨B, d, tt, rfl, ?_, HO.out.2.1, HO.out.2.2⟩
      rw [HO.out.1]
      exact List.take_of_length_le (by rw [ents_len]; omega)
set_option maxHeartbeats 3200000 in
theorem copied_any (A : Option Addr) (n c : Nat) (ss : List EnS) (w : World) (hs : Led w A n ss) (hn : n ≤ 1500000000000) : Calls Tryd.prog 45 #[.slice A n c] w fun e w' => ∃ B d tt, e = .returned (.slice B n d) ∧ ents tt = ents ss ∧ OLed w' w.heap.size B n d tt ∧ Ext w w' := by
  have hsl := hs.len
  have HR := Lib.hid hs
  clear hs
  have o0 : OLed w w.heap.size none 0 0 [] := OLed.nil_
  have x0 := Ext.refl w
  have H0 := Lib.hid (And.intro o0 x0)
  clear o0 x0
  go_enter Tryd.func45, Tryd.ntmps45
  go_upto_region 3 with (fail)
  go_loopw [3, 8] (fun v3 v9 wr => ∃ (k : Nat) (B : Option Addr) (d : Nat), v9 = .int .i64 (k : Int) ∧ v3 = .slice B k d ∧ k ≤ n ∧ Hid (∃ tt, ents tt = (ents ss).take k ∧ OLed wr w.heap.size B k d tt ∧ Ext w wr)) (fun _ v9 _ => n - (intOf v9).toNat)
  case atStart => exact ⟨0, _, 0, rfl, rfl, by omega, [], rfl, H0.out.1, H0.out.2⟩
  case round =>
    obtain ⟨k, B, d, rfl, rfl, hk, HI⟩ := hrel
    obtain ⟨tt, ht, ho, hx⟩ := HI.out
    have HO := Lib.hid (And.intro ht (And.intro ho hx))
    clear ht ho hx HI
    by_cases hlt : k < n
    · obtain ⟨x, hx⟩ : ∃ x, ss[k]? = some x := ⟨ss[k]'(by omega), List.getElem?_eq_getElem _⟩
      obtain ⟨k10, hk10⟩ : ∃ k10, k * 10 = k10 := ⟨_, rfl⟩
      obtain ⟨ad, rfl, y0, y1, y2, y3, y4, y5, y6, y7, y8, y9⟩ := (HR.out.ext HO.out.2.2).entry hx hk10
      have k0 : (0 : Int) ≤ k := by omega
      have k1 : (k : Int) < n := by omega
      have HX := Lib.hid hx
      have X5 := (Ext.refl wr).alloc (.cells #[.int .i64 x.e.cl, .int .i64 x.e.nu, .int .i64 x.e.kd, .int .i64 x.e.id, .int .i64 x.e.sk, .int .i64 x.e.sq, .int .i64 x.e.st, .int .i64 x.e.pol, .slice x.A x.n x.c, .int .i64 x.e.at_] 29)
      have H5 := Lib.hid (And.intro (heap_alloc_new wr (.cells #[.int .i64 x.e.cl, .int .i64 x.e.nu, .int .i64 x.e.kd, .int .i64 x.e.id, .int .i64 x.e.sk, .int .i64 x.e.sq, .int .i64 x.e.st, .int .i64 x.e.pol, .slice x.A x.n x.c, .int .i64 x.e.at_] 29)) (And.intro X5 (And.intro (HO.out.2.2.trans X5) HO.out.2.2.size)))
      have HL := Lib.hid ((HR.out.all x (List.mem_of_getElem? hx)).ext (HO.out.2.2.trans X5))
      have HOW := Lib.hid (HO.out.2.1.ext X5)
      clear hx X5
      go_upto_region 5 with (fail)
      generalize wr.alloc (.cells #[.int .i64 x.e.cl, .int .i64 x.e.nu, .int .i64 x.e.kd, .int .i64 x.e.id, .int .i64 x.e.sk, .int .i64 x.e.sq, .int .i64 x.e.st, .int .i64 x.e.pol, .slice x.A x.n x.c, .int .i64 x.e.at_] 29) = V5 at *
      generalize htbe : wr.heap.size = tb at *
      have HTB := Lib.hid htbe
      clear htbe
      clear y0 y1 y2 y3 y4 y5 y6 y7 y8 y9
      have c8 : V5.cell? ⟨tb, 8, none⟩ = some (.slice x.A x.n x.c) := block_cell H5.out.1 8
      have hle := HL.out.le
      have hcap := HL.out.cap
      have CC := Lib.hid (clonet_any x V5 HL.out)
      go_wp2_with (go_at_call 76; refine held ?_)
      refine Held.go (CC.out.mono ?_)
      rintro e w2 ⟨A2, c2, rfl, o2, x2⟩
      have b2 := (x2.block tb (block_lt H5.out.1)).trans H5.out.1
      have f8 : w2.frozen? ⟨tb, 8, none⟩ = false := block_fz b2 8
      have d8 : w2.cell? ⟨tb, 8, none⟩ = some (.slice x.A x.n x.c) := block_cell b2 8
      have hcc := o2.cap_le
      have htb : tb < V5.heap.size := block_lt H5.out.1
      have F8 := Fr.store w2 ⟨tb, 8, none⟩ (.slice A2 x.n c2)
      have b8 : (w2.setCell ⟨tb, 8, none⟩ (.slice A2 x.n c2)).heap[tb]? = some (.cells #[.int .i64 x.e.cl, .int .i64 x.e.nu, .int .i64 x.e.kd, .int .i64 x.e.id, .int .i64 x.e.sk, .int .i64 x.e.sq, .int .i64 x.e.st, .int .i64 x.e.pol, .slice A2 x.n c2, .int .i64 x.e.at_] 29 (0, 0)) := heap_setCell_same w2 tb 8 _ _ _ b2
      have o8 : Own (w2.setCell ⟨tb, 8, none⟩ (.slice A2 x.n c2)) w.heap.size 47 4 A2 x.n c2 (trows x.e.ts).flatten := (F8.own o2 (fun a ha e => by
        have h1 := o2.base_le a.block (by rw [ha]; rfl)
        have h2 : a.block = tb := e
        omega)).base_mono (by have := H5.out.2.2.1.size; omega)
      have x8 : Ext w (w2.setCell ⟨tb, 8, none⟩ (.slice A2 x.n c2)) := Fr.ext (H5.out.2.2.1.trans x2) F8 (fun i e => by have := H5.out.2.2.2; have e : i = tb := e; omega)
      have w8 : OLed (w2.setCell ⟨tb, 8, none⟩ (.slice A2 x.n c2)) w.heap.size B k d tt := (HO.out.2.1).ext (Fr.ext (H5.out.2.1.trans x2) F8 (fun i e => by have e : i = tb := e; have := HTB.out; omega))
      have H8 := Lib.hid (And.intro b8 (And.intro o8 (And.intro x8 w8)))
      clear b8 o8 x8 w8 F8 o2 x2 c8 b2 CC
      go_upto_region 6 with (fail)
      clear f8 d8
      generalize w2.setCell ⟨tb, 8, none⟩ (.slice A2 x.n c2) = V8 at *
      have e0 : V8.cell? ⟨tb, 0, none⟩ = some (.int .i64 x.e.cl) := block_cell (H8.out.1) 0
      have e1 : V8.cell? ⟨tb, 1, none⟩ = some (.int .i64 x.e.nu) := block_cell (H8.out.1) 1
      have e2 : V8.cell? ⟨tb, 2, none⟩ = some (.int .i64 x.e.kd) := block_cell (H8.out.1) 2
      have e3 : V8.cell? ⟨tb, 3, none⟩ = some (.int .i64 x.e.id) := block_cell (H8.out.1) 3
      have e4 : V8.cell? ⟨tb, 4, none⟩ = some (.int .i64 x.e.sk) := block_cell (H8.out.1) 4
      have e5 : V8.cell? ⟨tb, 5, none⟩ = some (.int .i64 x.e.sq) := block_cell (H8.out.1) 5
      have e6 : V8.cell? ⟨tb, 6, none⟩ = some (.int .i64 x.e.st) := block_cell (H8.out.1) 6
      have e7 : V8.cell? ⟨tb, 7, none⟩ = some (.int .i64 x.e.pol) := block_cell (H8.out.1) 7
      have e8 : V8.cell? ⟨tb, 8, none⟩ = some (.slice A2 x.n c2) := block_cell (H8.out.1) 8
      have e9 : V8.cell? ⟨tb, 9, none⟩ = some (.int .i64 x.e.at_) := block_cell (H8.out.1) 9
      have X9 := (Ext.refl V8).alloc (.cells #[.int .i64 x.e.cl, .int .i64 x.e.nu, .int .i64 x.e.kd, .int .i64 x.e.id, .int .i64 x.e.sk, .int .i64 x.e.sq, .int .i64 x.e.st, .int .i64 x.e.pol, .slice A2 x.n c2, .int .i64 x.e.at_] 29)
      have RN := rd_entry ⟨x.e, A2, x.n, c2⟩ V8
      go_wp2_with (at_builtin; refine held ?_)
      refine Held.go (wp_app (m := 1) (news := (EnS.mk x.e A2 x.n c2).vals) eltEn (H8.out.2.2.2.ext X9).own RN (vals_one _) (by omega) (.inr ⟨by omega, by omega⟩) (by have := (H8.out.2.2.1.trans X9).size; exact this) _ _ rfl rfl rfl rfl ?_)
      intro A3 c3 w3 o3 g3 _ _
      have xm : EnS.Lies ⟨x.e, A2, x.n, c2⟩ (V8.alloc (.cells #[.int .i64 x.e.cl, .int .i64 x.e.nu, .int .i64 x.e.kd, .int .i64 x.e.id, .int .i64 x.e.sk, .int .i64 x.e.sq, .int .i64 x.e.st, .int .i64 x.e.pol, .slice A2 x.n c2, .int .i64 x.e.at_] 29)) := ⟨H8.out.2.1.rd.ext X9, hle, hcc⟩
      have o4 := (H8.out.2.2.2.ext X9).snoc g3 xm (H8.out.2.1.ext X9) o3
      have x4 : Ext w w3 := g3.ext (H8.out.2.2.1.trans X9) (fun g hg => (H8.out.2.2.2.own).base_le g hg)
      have H9 := Lib.hid (And.intro o4 x4)
      clear o3 g3 o4 x4 xm RN X9 e0 e1 e2 e3 e4 e5 e6 e7 e8 e9
      go_wp2_with fail
      go_roundw
      case rel =>
        refine ⟨k + 1, A3, c3, by go_num, rfl, by omega, Lib.hid ⟨tt ++ [⟨x.e, A2, x.n, c2⟩], ?_, H9.out.1, H9.out.2⟩⟩
        rw [take_succ' (ents_at HX.out), ← HO.out.1]
        simp [ents]
      case measure => simp [intOf]; omega
    · obtain rfl : n = k := by omega
      go_wp2_with fail
      go_returns
      refine ⟨B, d, tt, rfl, ?_, HO.out.2.1, HO.out.2.2⟩
      rw [HO.out.1]
      exact List.take_of_length_le (by rw [ents_len]; omega)
end Go.Proofs.YteflnnlihblpgaaDoor
