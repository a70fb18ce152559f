/-
  Numbers read back from bytes, in plain words; calls on a writer and on a reader.
-/
import Derived.Test.YteflnnlihblpgaaDoorMgNetPutsProof3
namespace Go.Proofs.YteflnnlihblpgaaDoor
set_option maxRecDepth 100000
open Go.RowKit
set_option linter.unusedVariables false
theorem wr_keep {w w' : World} {g n c : Nat} {A : Option Addr} {bs : List Nat} {sp : Bool} (h : WrS w g A n c bs sp) (hf : Fr w w' (fun b => b = g ∨ A.map (·.block) = some b)) {b : Nat} {o : Obj} (hb : b < g) (ho : w.heap[b]? = some o) : w'.heap[b]? = some o :=
  (hf.block b (block_lt ho) (fun e => by
    rcases e with e | e
    · omega
    · have := h.own.base_le b e; omega)).trans ho
theorem wr_ext {a w w' : World} {g n c : Nat} {A : Option Addr} {bs : List Nat} {sp : Bool} (h : WrS w g A n c bs sp) (hf : Fr w w' (fun b => b = g ∨ A.map (·.block) = some b)) (hx : Ext a w) (hg : a.heap.size ≤ g) : Ext a w' :=
  Fr.ext hx hf (fun b e => by
    rcases e with e | e
    · omega
    · have := h.own.base_le b e; omega)
theorem flat4 : ∀ ts : List Tk, (ts.flatMap Tk.ns).length = 4 * ts.length
  | [] => rfl
  | t :: ts => by
    have := flat4 ts
    show (t.ns ++ ts.flatMap Tk.ns).length = _
    rw [List.length_append, this, List.length_cons]
    show 4 + _ = _
    omega
/-- The writer on its way through an entry. -/
structure PW (w wr : World) (g rb : Nat) (e : En) (A : Option Addr) (n c : Nat) (l : List Int) : Prop where
  ex : ∃ A' n' c', WrS wr g A' n' c' (putN l) false
  x : Ext w wr
  o : wr.heap[rb]? = some (.cells #[.int .i64 e.kd, .int .i64 e.id, .int .i64 e.sk, .int .i64 e.sq, .int .i64 e.st, .int .i64 e.pol, .slice A n c, .int .i64 e.at_] 27 (0, 0))
  lo : w.heap.size ≤ g ∧ rb < g
theorem PW.ext {w wr w' : World} {g rb n c : Nat} {e : En} {A : Option Addr} {l : List Int} (h : PW w wr g rb e A n c l) (hx : Ext wr w') : PW w w' g rb e A n c l := by
  obtain ⟨A', n', c', hw⟩ := h.ex
  exact ⟨⟨A', n', c', hw.ext hx⟩, h.x.trans hx, (hx.block rb (block_lt h.o)).trans h.o, h.lo⟩
theorem PW.num {w wr : World} {g rb n c : Nat} {e : En} {A : Option Addr} {l : List Int} (h : PW w wr g rb e A n c l) (hl : ∀ y ∈ l, y ≤ 9223372036854775807) (hll : l.length ≤ 1000) (x : Int) (h0 : 0 ≤ x) (hx : x ≤ 1099511627776) :
    Calls Tryd.prog 54 #[.pointer (some ⟨g, 0, none⟩), .int .i64 x] wr fun r w' => r = .returned (.tuple #[]) ∧ PW w w' g rb e A n c (l ++ [x]) := by
  obtain ⟨A', n', c', hw⟩ := h.ex
  have h1 := putN_len l hl
  have h2 := hw.len
  refine (wnumI x wr hw h0 (by omega) (by omega)).mono ?_
  rintro r w' ⟨rfl, A2, n2, c2, hw2, hf, _⟩
  exact ⟨rfl, ⟨A2, n2, c2, by rw [putN_app, putN_one]; exact hw2⟩, wr_ext hw hf h.x h.lo.1, wr_keep hw hf h.lo.2 h.o, h.lo⟩
section
variable {w : World} {A : Option Addr} {n c : Nat} {e : En}
set_option maxHeartbeats 6400000 in
theorem put_ok (hr : Rd w 4 A n (trows e.ts).flatten) (hf : e.form = true) : Calls Tryd.prog 26 #[.agg #[.int .i64 e.cl, .int .i64 e.nu, .int .i64 e.kd, .int .i64 e.id, .int .i64 e.sk, .int .i64 e.sq, .int .i64 e.st, .int .i64 e.pol, .slice A n c, .int .i64 e.at_]] w fun x w' => ∃ B m d, x = .returned (.tuple #[.slice B m d, .nilIface]) ∧ Own w' w.heap.size 5 1 B m d (u8s e.put) ∧ Ext w w' := by
  have hl := rd_tlen hr
  obtain ⟨hfit, h8⟩ := form_fits hf
  have HF := Lib.hid hfit
  have X0 := (Ext.refl w).alloc (.cells #[.int .i64 e.cl, .int .i64 e.nu, .int .i64 e.kd, .int .i64 e.id, .int .i64 e.sk, .int .i64 e.sq, .int .i64 e.st, .int .i64 e.pol, .slice A n c, .int .i64 e.at_] 29)
  have hob := heap_alloc_new w (.cells #[.int .i64 e.cl, .int .i64 e.nu, .int .i64 e.kd, .int .i64 e.id, .int .i64 e.sk, .int .i64 e.sq, .int .i64 e.st, .int .i64 e.pol, .slice A n c, .int .i64 e.at_] 29)
  have HC := Lib.hid (fun W (hx : Ext w W) => check_ok (c := c) (hr.ext hx) (by omega) hf)
  have HR := Lib.hid hr
  have HV := Lib.hid (And.intro hob X0)
  clear hob X0 hr hfit hf
  go_enter Tryd.func26, Tryd.ntmps26
  go_upto_region 1 with (fail)
  generalize w.alloc (.cells #[.int .i64 e.cl, .int .i64 e.nu, .int .i64 e.kd, .int .i64 e.id, .int .i64 e.sk, .int .i64 e.sq, .int .i64 e.st, .int .i64 e.pol, .slice A n c, .int .i64 e.at_] 29) = V at *
  generalize w.heap.size = ob at *
  have c0 : V.cell? ⟨ob, 0, none⟩ = some (.int .i64 e.cl) := block_cell HV.out.1 0
  have c1 : V.cell? ⟨ob, 1, none⟩ = some (.int .i64 e.nu) := block_cell HV.out.1 1
  have c2 : V.cell? ⟨ob, 2, none⟩ = some (.int .i64 e.kd) := block_cell HV.out.1 2
  have c3 : V.cell? ⟨ob, 3, none⟩ = some (.int .i64 e.id) := block_cell HV.out.1 3
  have c4 : V.cell? ⟨ob, 4, none⟩ = some (.int .i64 e.sk) := block_cell HV.out.1 4
  have c5 : V.cell? ⟨ob, 5, none⟩ = some (.int .i64 e.sq) := block_cell HV.out.1 5
  have c6 : V.cell? ⟨ob, 6, none⟩ = some (.int .i64 e.st) := block_cell HV.out.1 6
  have c7 : V.cell? ⟨ob, 7, none⟩ = some (.int .i64 e.pol) := block_cell HV.out.1 7
  have c8 : V.cell? ⟨ob, 8, none⟩ = some (.slice A n c) := block_cell HV.out.1 8
  have c9 : V.cell? ⟨ob, 9, none⟩ = some (.int .i64 e.at_) := block_cell HV.out.1 9
  have C1 := Lib.hid (HC.out V HV.out.2)
  go_upto_region 4 with (go_at_call 25; refine C1.out.mono ?_; rintro x w1 ⟨rfl, x1⟩)
  have H1 := Lib.hid (And.intro ((x1.block ob (block_lt HV.out.1)).trans HV.out.1) (HV.out.2.trans x1))
  clear c0 c1 c2 c3 c4 c5 c6 c7 c8 c9 C1 x1
  have c0 : w1.cell? ⟨ob, 0, none⟩ = some (.int .i64 e.cl) := block_cell H1.out.1 0
  have c1 : w1.cell? ⟨ob, 1, none⟩ = some (.int .i64 e.nu) := block_cell H1.out.1 1
  have c2 : w1.cell? ⟨ob, 2, none⟩ = some (.int .i64 e.kd) := block_cell H1.out.1 2
  have c3 : w1.cell? ⟨ob, 3, none⟩ = some (.int .i64 e.id) := block_cell H1.out.1 3
  have c4 : w1.cell? ⟨ob, 4, none⟩ = some (.int .i64 e.sk) := block_cell H1.out.1 4
  have c5 : w1.cell? ⟨ob, 5, none⟩ = some (.int .i64 e.sq) := block_cell H1.out.1 5
  have c6 : w1.cell? ⟨ob, 6, none⟩ = some (.int .i64 e.st) := block_cell H1.out.1 6
  have c7 : w1.cell? ⟨ob, 7, none⟩ = some (.int .i64 e.pol) := block_cell H1.out.1 7
  have c8 : w1.cell? ⟨ob, 8, none⟩ = some (.slice A n c) := block_cell H1.out.1 8
  have c9 : w1.cell? ⟨ob, 9, none⟩ = some (.int .i64 e.at_) := block_cell H1.out.1 9
  have X2 := (Ext.refl w1).alloc (.cells #[.int .i64 e.kd, .int .i64 e.id, .int .i64 e.sk, .int .i64 e.sq, .int .i64 e.st, .int .i64 e.pol, .slice A n c, .int .i64 e.at_] 27)
  have h2 := heap_alloc_new w1 (.cells #[.int .i64 e.kd, .int .i64 e.id, .int .i64 e.sk, .int .i64 e.sq, .int .i64 e.st, .int .i64 e.pol, .slice A n c, .int .i64 e.at_] 27)
  have H2 := Lib.hid (And.intro ((X2.block ob (block_lt H1.out.1)).trans H1.out.1) (And.intro h2 (And.intro (H1.out.2.trans X2) (show ob < w1.heap.size from block_lt H1.out.1))))
  clear X2 h2
  go_upto_region 5 with (fail)
  clear c0 c1 c2 c3 c4 c5 c6 c7 c8 c9
  generalize w1.alloc (.cells #[.int .i64 e.kd, .int .i64 e.id, .int .i64 e.sk, .int .i64 e.sq, .int .i64 e.st, .int .i64 e.pol, .slice A n c, .int .i64 e.at_] 27) = V2 at *
  generalize w1.heap.size = rb at *
  have CN := Lib.hid (new_any V2)
  go_upto_region 6 with (go_at_call 53; refine CN.out.mono ?_; rintro x w3 ⟨rfl, n3, x3⟩)
  have H3 := Lib.hid (And.intro ((x3.block ob (block_lt H2.out.1)).trans H2.out.1) (And.intro ((x3.block rb (block_lt H2.out.2.1)).trans H2.out.2.1) (And.intro n3 (And.intro (H2.out.2.2.1.trans x3) (show ob < V2.heap.size ∧ rb < V2.heap.size from ⟨block_lt H2.out.1, block_lt H2.out.2.1⟩)))))
  have HW0 := Lib.hid (show w.heap.size ≤ V2.heap.size from H2.out.2.2.1.size)
  clear CN n3 x3
  generalize V2.heap.size = g at *
  have c0 : w3.cell? ⟨ob, 0, none⟩ = some (.int .i64 e.cl) := block_cell H3.out.1 0
  have c1 : w3.cell? ⟨ob, 1, none⟩ = some (.int .i64 e.nu) := block_cell H3.out.1 1
  have d0 : w3.cell? ⟨rb, 0, none⟩ = some (.int .i64 e.kd) := block_cell H3.out.2.1 0
  have d1 : w3.cell? ⟨rb, 1, none⟩ = some (.int .i64 e.id) := block_cell H3.out.2.1 1
  have d2 : w3.cell? ⟨rb, 2, none⟩ = some (.int .i64 e.sk) := block_cell H3.out.2.1 2
  have d3 : w3.cell? ⟨rb, 3, none⟩ = some (.int .i64 e.sq) := block_cell H3.out.2.1 3
  have d4 : w3.cell? ⟨rb, 4, none⟩ = some (.int .i64 e.st) := block_cell H3.out.2.1 4
  have d5 : w3.cell? ⟨rb, 5, none⟩ = some (.int .i64 e.pol) := block_cell H3.out.2.1 5
  have d6 : w3.cell? ⟨rb, 6, none⟩ = some (.slice A n c) := block_cell H3.out.2.1 6
  have d7 : w3.cell? ⟨rb, 7, none⟩ = some (.int .i64 e.at_) := block_cell H3.out.2.1 7
  go_upto_region 7 with (fail)
  clear c0 c1 d0 d1 d2 d3 d4 d5 d6 d7
  have HP : Hid (PW w w3 g rb e A n c []) := Lib.hid ⟨⟨none, 0, 0, by simpa [putN] using H3.out.2.2.1⟩, H3.out.2.2.2.1, H3.out.2.1, by have := HW0.out; omega, H3.out.2.2.2.2.2⟩
  clear H3 H2 H1 HV HC
  go_loopw [46] (fun v46 wr => ∃ k : Nat, v46 = .int .i64 (k : Int) ∧ k ≤ 10 ∧ Hid (PW w wr g rb e A n c (e.head.take k))) (fun v46 _ => 10 - (intOf v46).toNat)
  case atStart => exact ⟨0, rfl, by omega, HP.out⟩
  case round =>
    obtain ⟨k, rfl, hk, HI⟩ := hrel
    by_cases hlt : k < 10
    · have hh : k = 0 ∨ k = 1 ∨ k = 2 ∨ k = 3 ∨ k = 4 ∨ k = 5 ∨ k = 6 ∨ k = 7 ∨ k = 8 ∨ k = 9 := by omega
      rcases hh with rfl | rfl | rfl | rfl | rfl | rfl | rfl | rfl | rfl | rfl
      · have hx := HF.out (e.cl) (List.mem_append_left _ (by simp [En.head]))
        have CW := Lib.hid (HI.out.num (fun y hy => by have := HF.out y (List.mem_append_left _ (List.mem_of_mem_take hy)); omega) (by simp [En.head]) (e.cl) hx.1 hx.2)
        clear hx
        have ri : ∀ W, (Instr.index 100 (.agg #[.int .i64 e.cl, .int .i64 e.nu, .int .i64 e.kd, .int .i64 e.at_, .int .i64 e.id, .int .i64 e.sk, .int .i64 e.sq, .int .i64 e.st, .int .i64 e.pol, .int .i64 (n : Int)]) (.int .i64 0)).run Tryd.prog W = .ok (.int .i64 (e.cl)) W := fun W => by kernel_rfl
        go_wp2_with (refine CW.out.mono ?_; rintro x w4 ⟨rfl, p4⟩)
        clear ri
        have H4 : Hid (PW w w4 g rb e A n c (e.head.take (0 + 1))) := Lib.hid p4
        clear p4 CW
        go_roundw
        case rel => exact ⟨0 + 1, by go_num, by omega, H4.out⟩
        case measure => simp [intOf]
      · have hx := HF.out (e.nu) (List.mem_append_left _ (by simp [En.head]))
        have CW := Lib.hid (HI.out.num (fun y hy => by have := HF.out y (List.mem_append_left _ (List.mem_of_mem_take hy)); omega) (by simp [En.head]) (e.nu) hx.1 hx.2)
        clear hx
        have ri : ∀ W, (Instr.index 100 (.agg #[.int .i64 e.cl, .int .i64 e.nu, .int .i64 e.kd, .int .i64 e.at_, .int .i64 e.id, .int .i64 e.sk, .int .i64 e.sq, .int .i64 e.st, .int .i64 e.pol, .int .i64 (n : Int)]) (.int .i64 1)).run Tryd.prog W = .ok (.int .i64 (e.nu)) W := fun W => by kernel_rfl
        go_wp2_with (refine CW.out.mono ?_; rintro x w4 ⟨rfl, p4⟩)
        clear ri
        have H4 : Hid (PW w w4 g rb e A n c (e.head.take (1 + 1))) := Lib.hid p4
        clear p4 CW
        go_roundw
        case rel => exact ⟨1 + 1, by go_num, by omega, H4.out⟩
        case measure => simp [intOf]
      · have hx := HF.out (e.kd) (List.mem_append_left _ (by simp [En.head]))
        have CW := Lib.hid (HI.out.num (fun y hy => by have := HF.out y (List.mem_append_left _ (List.mem_of_mem_take hy)); omega) (by simp [En.head]) (e.kd) hx.1 hx.2)
        clear hx
        have ri : ∀ W, (Instr.index 100 (.agg #[.int .i64 e.cl, .int .i64 e.nu, .int .i64 e.kd, .int .i64 e.at_, .int .i64 e.id, .int .i64 e.sk, .int .i64 e.sq, .int .i64 e.st, .int .i64 e.pol, .int .i64 (n : Int)]) (.int .i64 2)).run Tryd.prog W = .ok (.int .i64 (e.kd)) W := fun W => by kernel_rfl
        go_wp2_with (refine CW.out.mono ?_; rintro x w4 ⟨rfl, p4⟩)
        clear ri
        have H4 : Hid (PW w w4 g rb e A n c (e.head.take (2 + 1))) := Lib.hid p4
        clear p4 CW
        go_roundw
        case rel => exact ⟨2 + 1, by go_num, by omega, H4.out⟩
        case measure => simp [intOf]
      · have hx := HF.out (e.at_) (List.mem_append_left _ (by simp [En.head]))
        have CW := Lib.hid (HI.out.num (fun y hy => by have := HF.out y (List.mem_append_left _ (List.mem_of_mem_take hy)); omega) (by simp [En.head]) (e.at_) hx.1 hx.2)
        clear hx
        have ri : ∀ W, (Instr.index 100 (.agg #[.int .i64 e.cl, .int .i64 e.nu, .int .i64 e.kd, .int .i64 e.at_, .int .i64 e.id, .int .i64 e.sk, .int .i64 e.sq, .int .i64 e.st, .int .i64 e.pol, .int .i64 (n : Int)]) (.int .i64 3)).run Tryd.prog W = .ok (.int .i64 (e.at_)) W := fun W => by kernel_rfl
        go_wp2_with (refine CW.out.mono ?_; rintro x w4 ⟨rfl, p4⟩)
        clear ri
        have H4 : Hid (PW w w4 g rb e A n c (e.head.take (3 + 1))) := Lib.hid p4
        clear p4 CW
        go_roundw
        case rel => exact ⟨3 + 1, by go_num, by omega, H4.out⟩
        case measure => simp [intOf]
      · have hx := HF.out (e.id) (List.mem_append_left _ (by simp [En.head]))
        have CW := Lib.hid (HI.out.num (fun y hy => by have := HF.out y (List.mem_append_left _ (List.mem_of_mem_take hy)); omega) (by simp [En.head]) (e.id) hx.1 hx.2)
        clear hx
        have ri : ∀ W, (Instr.index 100 (.agg #[.int .i64 e.cl, .int .i64 e.nu, .int .i64 e.kd, .int .i64 e.at_, .int .i64 e.id, .int .i64 e.sk, .int .i64 e.sq, .int .i64 e.st, .int .i64 e.pol, .int .i64 (n : Int)]) (.int .i64 4)).run Tryd.prog W = .ok (.int .i64 (e.id)) W := fun W => by kernel_rfl
        go_wp2_with (refine CW.out.mono ?_; rintro x w4 ⟨rfl, p4⟩)
        clear ri
        have H4 : Hid (PW w w4 g rb e A n c (e.head.take (4 + 1))) := Lib.hid p4
        clear p4 CW
        go_roundw
        case rel => exact ⟨4 + 1, by go_num, by omega, H4.out⟩
        case measure => simp [intOf]
      · have hx := HF.out (e.sk) (List.mem_append_left _ (by simp [En.head]))
        have CW := Lib.hid (HI.out.num (fun y hy => by have := HF.out y (List.mem_append_left _ (List.mem_of_mem_take hy)); omega) (by simp [En.head]) (e.sk) hx.1 hx.2)
        clear hx
        have ri : ∀ W, (Instr.index 100 (.agg #[.int .i64 e.cl, .int .i64 e.nu, .int .i64 e.kd, .int .i64 e.at_, .int .i64 e.id, .int .i64 e.sk, .int .i64 e.sq, .int .i64 e.st, .int .i64 e.pol, .int .i64 (n : Int)]) (.int .i64 5)).run Tryd.prog W = .ok (.int .i64 (e.sk)) W := fun W => by kernel_rfl
        go_wp2_with (refine CW.out.mono ?_; rintro x w4 ⟨rfl, p4⟩)
        clear ri
        have H4 : Hid (PW w w4 g rb e A n c (e.head.take (5 + 1))) := Lib.hid p4
        clear p4 CW
        go_roundw
        case rel => exact ⟨5 + 1, by go_num, by omega, H4.out⟩
        case measure => simp [intOf]
      · have hx := HF.out (e.sq) (List.mem_append_left _ (by simp [En.head]))
        have CW := Lib.hid (HI.out.num (fun y hy => by have := HF.out y (List.mem_append_left _ (List.mem_of_mem_take hy)); omega) (by simp [En.head]) (e.sq) hx.1 hx.2)
        clear hx
        have ri : ∀ W, (Instr.index 100 (.agg #[.int .i64 e.cl, .int .i64 e.nu, .int .i64 e.kd, .int .i64 e.at_, .int .i64 e.id, .int .i64 e.sk, .int .i64 e.sq, .int .i64 e.st, .int .i64 e.pol, .int .i64 (n : Int)]) (.int .i64 6)).run Tryd.prog W = .ok (.int .i64 (e.sq)) W := fun W => by kernel_rfl
        go_wp2_with (refine CW.out.mono ?_; rintro x w4 ⟨rfl, p4⟩)
        clear ri
        have H4 : Hid (PW w w4 g rb e A n c (e.head.take (6 + 1))) := Lib.hid p4
        clear p4 CW
        go_roundw
        case rel => exact ⟨6 + 1, by go_num, by omega, H4.out⟩
        case measure => simp [intOf]
      · have hx := HF.out (e.st) (List.mem_append_left _ (by simp [En.head]))
        have CW := Lib.hid (HI.out.num (fun y hy => by have := HF.out y (List.mem_append_left _ (List.mem_of_mem_take hy)); omega) (by simp [En.head]) (e.st) hx.1 hx.2)
        clear hx
        have ri : ∀ W, (Instr.index 100 (.agg #[.int .i64 e.cl, .int .i64 e.nu, .int .i64 e.kd, .int .i64 e.at_, .int .i64 e.id, .int .i64 e.sk, .int .i64 e.sq, .int .i64 e.st, .int .i64 e.pol, .int .i64 (n : Int)]) (.int .i64 7)).run Tryd.prog W = .ok (.int .i64 (e.st)) W := fun W => by kernel_rfl
        go_wp2_with (refine CW.out.mono ?_; rintro x w4 ⟨rfl, p4⟩)
        clear ri
        have H4 : Hid (PW w w4 g rb e A n c (e.head.take (7 + 1))) := Lib.hid p4
        clear p4 CW
        go_roundw
        case rel => exact ⟨7 + 1, by go_num, by omega, H4.out⟩
        case measure => simp [intOf]
      · have hx := HF.out (e.pol) (List.mem_append_left _ (by simp [En.head]))
        have CW := Lib.hid (HI.out.num (fun y hy => by have := HF.out y (List.mem_append_left _ (List.mem_of_mem_take hy)); omega) (by simp [En.head]) (e.pol) hx.1 hx.2)
        clear hx
        have ri : ∀ W, (Instr.index 100 (.agg #[.int .i64 e.cl, .int .i64 e.nu, .int .i64 e.kd, .int .i64 e.at_, .int .i64 e.id, .int .i64 e.sk, .int .i64 e.sq, .int .i64 e.st, .int .i64 e.pol, .int .i64 (n : Int)]) (.int .i64 8)).run Tryd.prog W = .ok (.int .i64 (e.pol)) W := fun W => by kernel_rfl
        go_wp2_with (refine CW.out.mono ?_; rintro x w4 ⟨rfl, p4⟩)
        clear ri
        have H4 : Hid (PW w w4 g rb e A n c (e.head.take (8 + 1))) := Lib.hid p4
        clear p4 CW
        go_roundw
        case rel => exact ⟨8 + 1, by go_num, by omega, H4.out⟩
        case measure => simp [intOf]
      · have hx := HF.out (e.ts.length : Int) (List.mem_append_left _ (by simp [En.head]))
        rw [hl] at hx
        have CW := Lib.hid (HI.out.num (fun y hy => by have := HF.out y (List.mem_append_left _ (List.mem_of_mem_take hy)); omega) (by simp [En.head]) (n : Int) hx.1 hx.2)
        clear hx
        have ri : ∀ W, (Instr.index 100 (.agg #[.int .i64 e.cl, .int .i64 e.nu, .int .i64 e.kd, .int .i64 e.at_, .int .i64 e.id, .int .i64 e.sk, .int .i64 e.sq, .int .i64 e.st, .int .i64 e.pol, .int .i64 (n : Int)]) (.int .i64 9)).run Tryd.prog W = .ok (.int .i64 (n : Int)) W := fun W => by kernel_rfl
        go_wp2_with (refine CW.out.mono ?_; rintro x w4 ⟨rfl, p4⟩)
        clear ri
        have H4 : Hid (PW w w4 g rb e A n c (e.head.take (9 + 1))) := Lib.hid (by rw [show e.head.take (9 + 1) = e.head.take 9 ++ [(n : Int)] from (by unfold En.head; rw [hl]; rfl)]; exact p4)
        clear p4 CW
        go_roundw
        case rel => exact ⟨9 + 1, by go_num, by omega, H4.out⟩
        case measure => simp [intOf]
    · have hk10 : k = 10 := by omega
      have HQ : Hid (PW w wr g rb e A n c (e.head ++ (e.ts.take 0).flatMap Tk.ns)) := Lib.hid (by
        have h := HI.out
        rw [hk10, show e.head.take 10 = e.head from rfl] at h
        simpa using h)
      have d6 : wr.cell? ⟨rb, 6, none⟩ = some (.slice A n c) := block_cell HI.out.o 6
      clear HI HP hk10
      go_upto_region 12 with (fail)
      clear d6
      go_loopw [56] (fun v56 wr => ∃ j : Nat, v56 = .int .i64 (j : Int) ∧ j ≤ n ∧ Hid (PW w wr g rb e A n c (e.head ++ (e.ts.take j).flatMap Tk.ns))) (fun v56 _ => n - (intOf v56).toNat)
      case atStart => exact ⟨0, rfl, by omega, HQ.out⟩
      case round =>
        obtain ⟨j, rfl, hj, HJ⟩ := hrel
        by_cases hltj : j < n
        · obtain ⟨t, ht⟩ : ∃ t, e.ts[j]? = some t := ⟨e.ts[j]'(by omega), List.getElem?_eq_getElem _⟩
          obtain ⟨j4, hj4⟩ : ∃ j4, j * 4 = j4 := ⟨_, rfl⟩
          obtain ⟨ad, rfl, y0, y1, y2, y3⟩ := (HR.out.ext HJ.out.x).task ht hj4
          have HT := Lib.hid ht
          have z0 : (0 : Int) ≤ j := by omega
          have z1 : (j : Int) < n := by omega
          have HB := Lib.hid (heap_alloc_new wr (.cells #[.int .i64 t.C, .int .i64 t.P, .int .i64 t.D, .int .i64 t.S] 47))
          have HJ2 := Lib.hid (HJ.out.ext ((Ext.refl wr).alloc (.cells #[.int .i64 t.C, .int .i64 t.P, .int .i64 t.D, .int .i64 t.S] 47)))
          clear ht HJ
          go_upto_region 14 with (fail)
          generalize wr.alloc (.cells #[.int .i64 t.C, .int .i64 t.P, .int .i64 t.D, .int .i64 t.S] 47) = V5 at *
          generalize wr.heap.size = tb at *
          have u0 : V5.cell? ⟨tb, 0, none⟩ = some (.int .i64 t.C) := block_cell HB.out 0
          have u1 : V5.cell? ⟨tb, 1, none⟩ = some (.int .i64 t.P) := block_cell HB.out 1
          have u2 : V5.cell? ⟨tb, 2, none⟩ = some (.int .i64 t.D) := block_cell HB.out 2
          have u3 : V5.cell? ⟨tb, 3, none⟩ = some (.int .i64 t.S) := block_cell HB.out 3
          clear y0 y1 y2 y3
          go_upto_region 15 with (fail)
          clear u0 u1 u2 u3
          have HTF := Lib.hid (show ∀ x ∈ t.ns, 0 ≤ x ∧ x ≤ 1099511627776 from fun x hx => HF.out x (List.mem_append_right _ (List.mem_flatMap.2 ⟨t, List.mem_of_getElem? HT.out, hx⟩)))
          have HLB := Lib.hid (show ∀ k, (∀ y ∈ e.head ++ (e.ts.take j).flatMap Tk.ns ++ t.ns.take k, y ≤ 9223372036854775807) ∧ (e.head ++ (e.ts.take j).flatMap Tk.ns ++ t.ns.take k).length ≤ 1000 from fun k => ⟨fun y hy => by
            have hm : y ∈ e.nums ∨ y ∈ t.ns := by
              rcases List.mem_append.1 hy with hy | hy
              · rcases List.mem_append.1 hy with hy | hy
                · exact .inl (List.mem_append_left _ hy)
                · obtain ⟨q, hq, hy⟩ := List.mem_flatMap.1 hy
                  exact .inl (List.mem_append_right _ (List.mem_flatMap.2 ⟨q, List.mem_of_mem_take hq, hy⟩))
              · exact .inr (List.mem_of_mem_take hy)
            rcases hm with hm | hm
            · have := HF.out y hm; omega
            · have := HTF.out y hm; omega, by
            have h1 : ((e.ts.take j).flatMap Tk.ns).length = 4 * (e.ts.take j).length := flat4 _
            have h2 : (t.ns.take k).length ≤ 4 := by rw [List.length_take]; show min k 4 ≤ 4; omega
            rw [List.length_append, List.length_append, h1, List.length_take]
            show 10 + 4 * min j e.ts.length + _ ≤ 1000
            omega⟩)
          have HJ3 : Hid (PW w V5 g rb e (some ad) n c (e.head ++ (e.ts.take j).flatMap Tk.ns ++ t.ns.take 0)) := Lib.hid (by simpa using HJ2.out)
          clear HJ2
          go_loopw [12, 69] (fun _ v69 wr => ∃ k : Nat, v69 = .int .i64 (k : Int) ∧ k ≤ 4 ∧ Hid (PW w wr g rb e (some ad) n c (e.head ++ (e.ts.take j).flatMap Tk.ns ++ t.ns.take k))) (fun _ v69 _ => 4 - (intOf v69).toNat)
          case atStart => exact ⟨0, rfl, by omega, HJ3.out⟩
          case round =>
            obtain ⟨k, rfl, hk, HI⟩ := hrel
            by_cases hlt : k < 4
            · have hh : k = 0 ∨ k = 1 ∨ k = 2 ∨ k = 3 := by omega
              rcases hh with rfl | rfl | rfl | rfl
              · have hx := HTF.out (t.C) (by simp [Tk.ns])
                have CW := Lib.hid (HI.out.num (HLB.out 0).1 (HLB.out 0).2 (t.C) hx.1 hx.2)
                clear hx
                have ri : ∀ W, (Instr.index 102 (.agg #[.int .i64 t.C, .int .i64 t.P, .int .i64 t.D, .int .i64 t.S]) (.int .i64 0)).run Tryd.prog W = .ok (.int .i64 (t.C)) W := fun W => by kernel_rfl
                go_wp2_with (refine CW.out.mono ?_; rintro x w4 ⟨rfl, p4⟩)
                clear ri
                have H4 : Hid (PW w w4 g rb e (some ad) n c (e.head ++ (e.ts.take j).flatMap Tk.ns ++ t.ns.take (0 + 1))) := Lib.hid (by rw [List.append_assoc] at p4; exact p4)
                clear p4 CW
                go_roundw
                case rel => exact ⟨0 + 1, by go_num, by omega, H4.out⟩
                case measure => simp [intOf]
              · have hx := HTF.out (t.P) (by simp [Tk.ns])
                have CW := Lib.hid (HI.out.num (HLB.out 1).1 (HLB.out 1).2 (t.P) hx.1 hx.2)
                clear hx
                have ri : ∀ W, (Instr.index 102 (.agg #[.int .i64 t.C, .int .i64 t.P, .int .i64 t.D, .int .i64 t.S]) (.int .i64 1)).run Tryd.prog W = .ok (.int .i64 (t.P)) W := fun W => by kernel_rfl
                go_wp2_with (refine CW.out.mono ?_; rintro x w4 ⟨rfl, p4⟩)
                clear ri
                have H4 : Hid (PW w w4 g rb e (some ad) n c (e.head ++ (e.ts.take j).flatMap Tk.ns ++ t.ns.take (1 + 1))) := Lib.hid (by rw [List.append_assoc] at p4; exact p4)
                clear p4 CW
                go_roundw
                case rel => exact ⟨1 + 1, by go_num, by omega, H4.out⟩
                case measure => simp [intOf]
              · have hx := HTF.out (t.D) (by simp [Tk.ns])
                have CW := Lib.hid (HI.out.num (HLB.out 2).1 (HLB.out 2).2 (t.D) hx.1 hx.2)
                clear hx
                have ri : ∀ W, (Instr.index 102 (.agg #[.int .i64 t.C, .int .i64 t.P, .int .i64 t.D, .int .i64 t.S]) (.int .i64 2)).run Tryd.prog W = .ok (.int .i64 (t.D)) W := fun W => by kernel_rfl
                go_wp2_with (refine CW.out.mono ?_; rintro x w4 ⟨rfl, p4⟩)
                clear ri
                have H4 : Hid (PW w w4 g rb e (some ad) n c (e.head ++ (e.ts.take j).flatMap Tk.ns ++ t.ns.take (2 + 1))) := Lib.hid (by rw [List.append_assoc] at p4; exact p4)
                clear p4 CW
                go_roundw
                case rel => exact ⟨2 + 1, by go_num, by omega, H4.out⟩
                case measure => simp [intOf]
              · have hx := HTF.out (t.S) (by simp [Tk.ns])
                have CW := Lib.hid (HI.out.num (HLB.out 3).1 (HLB.out 3).2 (t.S) hx.1 hx.2)
                clear hx
                have ri : ∀ W, (Instr.index 102 (.agg #[.int .i64 t.C, .int .i64 t.P, .int .i64 t.D, .int .i64 t.S]) (.int .i64 3)).run Tryd.prog W = .ok (.int .i64 (t.S)) W := fun W => by kernel_rfl
                go_wp2_with (refine CW.out.mono ?_; rintro x w4 ⟨rfl, p4⟩)
                clear ri
                have H4 : Hid (PW w w4 g rb e (some ad) n c (e.head ++ (e.ts.take j).flatMap Tk.ns ++ t.ns.take (3 + 1))) := Lib.hid (by rw [List.append_assoc] at p4; exact p4)
                clear p4 CW
                go_roundw
                case rel => exact ⟨3 + 1, by go_num, by omega, H4.out⟩
                case measure => simp [intOf]
            · obtain rfl : k = 4 := by omega
              have HN : Hid (PW w wr g rb e (some ad) n c (e.head ++ (e.ts.take (j + 1)).flatMap Tk.ns)) := Lib.hid (by
                have h := HI.out
                rw [show t.ns.take 4 = t.ns from rfl, List.append_assoc] at h
                rw [take_succ' HT.out, List.flatMap_append]
                simpa using h)
              clear HI
              go_wp2_with fail
              go_roundw
              case rel => exact ⟨j + 1, by go_num, by omega, HN.out⟩
              case measure => simp [intOf]; omega
        · obtain rfl : n = j := by omega
          have HN : Hid (PW w wr g rb e A n c e.nums) := Lib.hid (by
            have h := HJ.out
            rw [List.take_of_length_le (by omega)] at h
            exact h)
          obtain ⟨A', n', c', hw⟩ := HN.out.ex
          have hb := hw.len
          have hbl := putN_len e.nums (fun y hy => by have := HF.out y hy; omega)
          have hnl : e.nums.length ≤ 42 := by
            unfold En.nums
            rw [List.length_append, flat4]
            show 10 + 4 * e.ts.length ≤ 42
            omega
          have CD := Lib.hid (done_any wr hw (by omega))
          have HX := Lib.hid HN.out.x
          clear hw hb hbl hnl HJ HN
          go_wp2_with (go_at_call 55; refine CD.out.mono ?_; rintro x w5 ⟨B, d, rfl, o5, x5⟩)
          go_returns
          exact ⟨B, n', d, rfl, o5.base_mono HX.out.size, HX.out.trans x5⟩
end
end Go.Proofs.YteflnnlihblpgaaDoor
namespace Go.Proofs.YteflnnlihblpgaaDoor
set_option maxRecDepth 100000
open Go.RowKit
set_option linter.unusedVariables false
/-- An entry as a value: its numbers, and the slice of its tasks. -/
structure EnS where
  e : En
  A : Option Addr
  n : Nat
  c : Nat
def EnS.vals (s : EnS) : List Value := [.int .i64 s.e.cl, .int .i64 s.e.nu, .int .i64 s.e.kd, .int .i64 s.e.id, .int .i64 s.e.sk, .int .i64 s.e.sq, .int .i64 s.e.st, .int .i64 s.e.pol, .slice s.A s.n s.c, .int .i64 s.e.at_]
/-- The entries. -/
def ents (ss : List EnS) : List En := ss.map EnS.e
def erows (ss : List EnS) : List (List Value) := ss.map EnS.vals
theorem erows_even (ss : List EnS) : Even 10 (erows ss) := by
  intro r hr
  obtain ⟨x, _, rfl⟩ := List.mem_map.1 hr
  rfl
theorem erows_at {ss : List EnS} {k : Nat} {x : EnS} (h : ss[k]? = some x) : (erows ss)[k]? = some x.vals := by simp [erows, h]
theorem erows_len (ss : List EnS) : (erows ss).length = ss.length := by simp [erows]
theorem ents_len (ss : List EnS) : (ents ss).length = ss.length := by simp [ents]
theorem ents_at {ss : List EnS} {k : Nat} {x : EnS} (h : ss[k]? = some x) : (ents ss)[k]? = some x.e := by simp [ents, h]
theorem erows_app (ss tt : List EnS) : (erows (ss ++ tt)).flatten = (erows ss).flatten ++ (erows tt).flatten := by simp [erows]
theorem vals_one (s : EnS) : ∀ u ∈ s.vals, u.oneCell' = true := by
  intro u hu
  simp only [EnS.vals, List.mem_cons, List.not_mem_nil, or_false] at hu
  rcases hu with rfl | rfl | rfl | rfl | rfl | rfl | rfl | rfl | rfl | rfl <;> rfl
theorem erows_one (ss : List EnS) : ∀ u ∈ (erows ss).flatten, u.oneCell' = true := by
  intro u hu
  obtain ⟨r, hr, hur⟩ := List.mem_flatten.1 hu
  obtain ⟨x, _, rfl⟩ := List.mem_map.1 hr
  exact vals_one x u hur
/-- Its tasks lie in memory. -/
structure EnS.Lies (s : EnS) (w : World) : Prop where
  rd : Rd w 4 s.A s.n (trows s.e.ts).flatten
  le : s.n ≤ 4398046511104
  cap : s.n ≤ s.c
theorem EnS.Lies.ext {s : EnS} {w w' : World} (h : s.Lies w) (hx : Ext w w') : s.Lies w' := ⟨h.rd.ext hx, h.le, h.cap⟩
theorem EnS.Lies.len {s : EnS} {w : World} (h : s.Lies w) : s.e.ts.length = s.n := rd_tlen h.rd
/-- A ledger in memory. -/
structure Led (w : World) (A : Option Addr) (n : Nat) (ss : List EnS) : Prop where
  rd : Rd w 10 A n (erows ss).flatten
  all : ∀ s ∈ ss, s.Lies w
section
variable {w w' : World} {A : Option Addr} {n : Nat} {ss : List EnS}
theorem Led.ext (h : Led w A n ss) (hx : Ext w w') : Led w' A n ss := ⟨h.rd.ext hx, fun s hs => (h.all s hs).ext hx⟩
theorem Led.len (h : Led w A n ss) : ss.length = n := by
  have h1 := h.rd.1
  rw [(erows_even ss).len, erows_len] at h1
  omega
theorem Led.nil_ : Led w none 0 [] := ⟨Rd.nil_, by simp⟩
/-- An entry's cells. -/
theorem Led.entry (h : Led w A n ss) {k k10 : Nat} {x : EnS} (hk : ss[k]? = some x) (h10 : k * 10 = k10) : ∃ ad, A = some ad ∧
    w.cell? (ad.add k10) = some (.int .i64 x.e.cl) ∧ w.cell? ⟨(ad.add k10).block, (ad.add k10).off + 1, none⟩ = some (.int .i64 x.e.nu) ∧ w.cell? ⟨(ad.add k10).block, (ad.add k10).off + 2, none⟩ = some (.int .i64 x.e.kd) ∧ w.cell? ⟨(ad.add k10).block, (ad.add k10).off + 3, none⟩ = some (.int .i64 x.e.id) ∧
    w.cell? ⟨(ad.add k10).block, (ad.add k10).off + 4, none⟩ = some (.int .i64 x.e.sk) ∧ w.cell? ⟨(ad.add k10).block, (ad.add k10).off + 5, none⟩ = some (.int .i64 x.e.sq) ∧ w.cell? ⟨(ad.add k10).block, (ad.add k10).off + 6, none⟩ = some (.int .i64 x.e.st) ∧ w.cell? ⟨(ad.add k10).block, (ad.add k10).off + 7, none⟩ = some (.int .i64 x.e.pol) ∧
    w.cell? ⟨(ad.add k10).block, (ad.add k10).off + 8, none⟩ = some (.slice x.A x.n x.c) ∧ w.cell? ⟨(ad.add k10).block, (ad.add k10).off + 9, none⟩ = some (.int .i64 x.e.at_) := by
  have hkl := (List.getElem?_eq_some_iff.1 hk).1
  have hl := h.len
  have h := h.rd
  obtain ⟨ad, rfl, _, _⟩ := h.2 (by omega)
  have k0 := h.rowAt (erows_even ss) (erows_at hk) h10 (i := 0) rfl
  have k1 := h.rowAt (erows_even ss) (erows_at hk) h10 (i := 1) rfl
  have k2 := h.rowAt (erows_even ss) (erows_at hk) h10 (i := 2) rfl
  have k3 := h.rowAt (erows_even ss) (erows_at hk) h10 (i := 3) rfl
  have k4 := h.rowAt (erows_even ss) (erows_at hk) h10 (i := 4) rfl
  have k5 := h.rowAt (erows_even ss) (erows_at hk) h10 (i := 5) rfl
  have k6 := h.rowAt (erows_even ss) (erows_at hk) h10 (i := 6) rfl
  have k7 := h.rowAt (erows_even ss) (erows_at hk) h10 (i := 7) rfl
  have k8 := h.rowAt (erows_even ss) (erows_at hk) h10 (i := 8) rfl
  have k9 := h.rowAt (erows_even ss) (erows_at hk) h10 (i := 9) rfl
  have lit : ∀ (a : Addr) {j : Nat}, j ≠ 0 → a.add j = ⟨a.block, a.off + j, none⟩ := fun a j hj => by unfold Addr.add; rw [if_neg hj]
  rw [Nat.add_zero] at k0
  rw [← add_add', lit _ (by omega)] at k1 k2 k3 k4 k5 k6 k7 k8 k9
  exact ⟨ad, rfl, k0, k1, k2, k3, k4, k5, k6, k7, k8, k9⟩
theorem Led.take_ (h : Led w A n ss) {k : Nat} (hk : k ≤ n) : Led w A k (ss.take k) := by
  refine ⟨?_, fun s hs => h.all s (List.mem_of_mem_take hs)⟩
  have h1 := h.rd.take_ hk
  rwa [(erows_even ss).take, show (erows ss).take k = erows (ss.take k) by simp [erows, List.map_take]] at h1
end
/-- Tasks of a call's own. -/
def EnS.Mine (s : EnS) (base : Nat) (w : World) : Prop := Own w base 47 4 s.A s.n s.c (trows s.e.ts).flatten
/-- A ledger of a call's own. -/
structure OLed (w : World) (base : Nat) (B : Option Addr) (m d : Nat) (ss : List EnS) : Prop where
  own : Own w base 29 10 B m d (erows ss).flatten
  all : ∀ s ∈ ss, s.Lies w ∧ s.Mine base w
section
variable {w w' : World} {base m d : Nat} {B : Option Addr} {ss : List EnS}
theorem OLed.led (h : OLed w base B m d ss) : Led w B m ss := ⟨h.own.rd, fun s hs => (h.all s hs).1⟩
theorem OLed.ext (h : OLed w base B m d ss) (hx : Ext w w') : OLed w' base B m d ss := ⟨h.own.ext hx, fun s hs => ⟨(h.all s hs).1.ext hx, ((h.all s hs).2 : Own ..).ext hx⟩⟩
theorem OLed.nil_ : OLed w base none 0 0 [] := ⟨Own.nil_, by simp⟩
theorem OLed.base_mono (h : OLed w base B m d ss) {b : Nat} (hb : b ≤ base) : OLed w b B m d ss := ⟨h.own.base_mono hb, fun s hs => ⟨(h.all s hs).1, ((h.all s hs).2 : Own ..).base_mono hb⟩⟩
end
theorem eltTk : Elt Tryd.prog 25 47 4 32 (.agg #[.int .i64 0, .int .i64 0, .int .i64 0, .int .i64 0]) := ⟨Tryd.underlying25, by kernel_rfl, rfl, by omega⟩
theorem eltEn : Elt Tryd.prog 22 29 10 96 (.agg #[.int .i64 0, .int .i64 0, .int .i64 0, .int .i64 0, .int .i64 0, .int .i64 0, .int .i64 0, .int .i64 0, .slice none 0 0, .int .i64 0]) := ⟨Tryd.underlying22, by kernel_rfl, rfl, by omega⟩
theorem run_slice_hi {P : Program} {t e : TypeId} {size bytes : Nat} {z : Value} (E : Elt P t e size bytes z) (A : Option Addr) (n c : Nat) (k : IntKind) (j : Nat) (h1 : j ≤ c) (w : World) :
    (Instr.slice t (.slice A n c) none (some (.int k (j : Int))) none).run P w = .ok (.slice A j c) w := by
  obtain ⟨i, hi, hz, hs, hby⟩ := info_parts E.info
  have e1 : (if c = 0 then A else A.map (·.add (0 * i.size))) = A := by
    split
    · rfl
    · cases A with
      | none => rfl
      | some a => simp [Addr.add]
  simp [Instr.slice, run_underlying E.under, Instr.sliceBounds, run_sliceBound, sizeOf, typeInfo, hi, h1] at e1 ⊢
  exact e1
end Go.Proofs.YteflnnlihblpgaaDoor
namespace Go.Proofs.YteflnnlihblpgaaDoor.Wr
/-- One step after the other: what is left of the nine, the bytes, the number so far, how many bytes it has. -/
def rdF : Nat → List Nat → Nat → Nat → Option (Nat × Nat)
  | 0, _, _, _ => none
  | _ + 1, [], _, _ => none
  | f + 1, c :: l, n, i => if c < 128 then (if c ≠ 0 ∨ i = 0 then some (n + c * 128 ^ i, i + 1) else none) else rdF f l (n + (c - 128) * 128 ^ i) (i + 1)
/-- The number that bytes begin with, and how many bytes it has. -/
def rd (l : List Nat) : Option (Nat × Nat) := rdF 9 l 0 0
theorem rdF_num : ∀ (y f n i : Nat) (r : List Nat), 0 < f → y < 128 ^ f → (y ≠ 0 ∨ i = 0) → rdF f (num y ++ r) n i = some (n + y * 128 ^ i, i + (num y).length) := by
  intro y
  induction y using Nat.strongRecOn with
  | _ y ih =>
    intro f n i r hf hy h0
    obtain ⟨f, rfl⟩ : ∃ g, f = g + 1 := ⟨f - 1, by omega⟩
    by_cases h : y < 128
    · rw [num_small h, List.singleton_append, rdF, if_pos h, if_pos h0]
      rfl
    · rw [num_big h, List.cons_append, rdF, if_neg (by omega)]
      have hy2 : y / 128 < 128 ^ f := by rw [Nat.pow_succ] at hy; omega
      have hf2 : 0 < f := by
        rcases Nat.eq_zero_or_pos f with h1 | h1
        · subst h1; simp at hy2; omega
        · exact h1
      rw [ih (y / 128) (by omega) f _ _ r hf2 hy2 (by omega), List.length_cons]
      have e1 : y % 128 + 128 - 128 = y % 128 := by omega
      have e2 : y = 128 * (y / 128) + y % 128 := by omega
      rw [e1]
      clear ih hy hf h0 h hy2 hf2
      obtain ⟨a, ha⟩ : ∃ a, y / 128 = a := ⟨_, rfl⟩
      obtain ⟨b, hb⟩ : ∃ b, y % 128 = b := ⟨_, rfl⟩
      rw [ha, hb] at e2 ⊢
      have e4 : n + b * 128 ^ i + a * 128 ^ (i + 1) = n + y * 128 ^ i := by
        rw [Nat.pow_succ, e2]
        generalize 128 ^ i = P
        have e3 : a * (P * 128) = 128 * (a * P) := by rw [← Nat.mul_assoc, Nat.mul_comm]
        rw [e3, Nat.add_mul, Nat.mul_assoc]
        generalize a * P = u
        generalize b * P = v
        omega
      rw [e4, Nat.add_assoc i 1, Nat.add_comm 1]
theorem rdF_part : ∀ (y f n i : Nat) (p q : List Nat), p ++ q = num y → q ≠ [] → rdF f p n i = none := by
  intro y
  induction y using Nat.strongRecOn with
  | _ y ih =>
    intro f n i p q h hq
    cases f with
    | zero => rw [rdF]
    | succ f =>
      cases p with
      | nil => rw [rdF]
      | cons c p =>
        by_cases h1 : y < 128
        · rw [num_small h1] at h
          simp at h
          exact absurd h.2.2 hq
        · rw [num_big h1] at h
          simp only [List.cons_append, List.cons.injEq] at h
          obtain ⟨rfl, h⟩ := h
          rw [rdF, if_neg (by omega)]
          exact ih (y / 128) (by omega) f _ _ p q h hq
theorem rd_num (y : Nat) (r : List Nat) (hy : y ≤ 9223372036854775807) : rd (num y ++ r) = some (y, (num y).length) := by
  unfold rd
  rw [rdF_num y 9 0 0 r (by omega) (by rw [show (128 : Nat) ^ 9 = 9223372036854775808 by decide]; omega) (.inr rfl)]
  simp
theorem rd_part {y : Nat} {p q : List Nat} (h : p ++ q = num y) (hq : q ≠ []) : rd p = none := rdF_part y 9 0 0 p q h hq
theorem rdF_count : ∀ (f : Nat) (l : List Nat) (n i x k : Nat), rdF f l n i = some (x, k) → i < k ∧ k ≤ i + l.length := by
  intro f
  induction f with
  | zero => intro l n i x k h; rw [rdF] at h; cases h
  | succ f ih =>
    intro l n i x k h
    cases l with
    | nil => rw [rdF] at h; cases h
    | cons c l =>
      rw [rdF] at h
      split at h
      · split at h
        · simp only [Option.some.injEq, Prod.mk.injEq] at h
          simp only [List.length_cons]
          omega
        · cases h
      · have := ih l _ _ x k h
        simp only [List.length_cons]
        omega
theorem rd_count {l : List Nat} {x k : Nat} (h : rd l = some (x, k)) : 0 < k ∧ k ≤ l.length := by
  have := rdF_count 9 l 0 0 x k h
  omega
theorem rdF_lt : ∀ (f : Nat) (l : List Nat) (n i x k : Nat), (∀ c ∈ l, c < 256) → n < 128 ^ i → rdF f l n i = some (x, k) → x < 128 ^ (i + f) := by
  intro f
  induction f with
  | zero => intro l n i x k _ _ h; rw [rdF] at h; cases h
  | succ f ih =>
    intro l n i x k hl hn h
    cases l with
    | nil => rw [rdF] at h; cases h
    | cons c l =>
      have hc := hl c (by simp)
      rw [rdF] at h
      split at h
      · split at h
        · simp only [Option.some.injEq, Prod.mk.injEq] at h
          obtain ⟨rfl, rfl⟩ := h
          have h1 : c * 128 ^ i ≤ 127 * 128 ^ i := Nat.mul_le_mul_right _ (by omega)
          have h2 : 128 ^ (i + 1) ≤ 128 ^ (i + (f + 1)) := Nat.pow_le_pow_right (by decide) (by omega)
          rw [Nat.pow_succ] at h2
          omega
        · cases h
      · have h1 : (c - 128) * 128 ^ i ≤ 127 * 128 ^ i := Nat.mul_le_mul_right _ (by omega)
        have := ih l _ (i + 1) x k (fun y hy => hl y (by simp [hy])) (by rw [Nat.pow_succ]; omega) h
        rwa [show i + (f + 1) = i + 1 + f by omega]
theorem rd_lt {l : List Nat} {x k : Nat} (hl : ∀ c ∈ l, c < 256) (h : rd l = some (x, k)) : x ≤ 9223372036854775807 := by
  have := rdF_lt 9 l 0 0 x k hl (by simp) h
  rw [show (128 : Nat) ^ (0 + 9) = 9223372036854775808 by decide] at this
  omega
/-- A call: a number, a list of bytes, nothing. -/
inductive Opd where
  | num (x : Nat)
  | bytes (l : List Nat)
  | nop
def Opd.enc : Opd → List Nat
  | .num x => Wr.num x
  | .bytes l => Wr.num l.length ++ l
  | .nop => []
def encAll : List Opd → List Nat
  | [] => []
  | o :: os => o.enc ++ encAll os
theorem encAll_snoc (os : List Opd) (o : Opd) : encAll (os ++ [o]) = encAll os ++ o.enc := by
  induction os with
  | nil => simp [encAll]
  | cons x os ih => simp only [List.cons_append, encAll, ih, List.append_assoc]
/-- One call read back: what is left, if it comes. -/
def read1 : Opd → List Nat → Option (List Nat)
  | .num x, l => match rd l with
    | some (y, k) => if y = x then some (l.drop k) else none
    | none => none
  | .bytes b, l => match rd l with
    | some (y, k) => if y ≤ b.length ∧ y ≤ (l.drop k).length ∧ (l.drop k).take y = b then some ((l.drop k).drop y) else none
    | none => none
  | .nop, l => some l
def readAll : List Opd → List Nat → Option (List Nat)
  | [], l => some l
  | o :: os, l => match read1 o l with
    | some l' => readAll os l'
    | none => none
def Opd.ok : Opd → Prop
  | .num x => x ≤ 9223372036854775807
  | .bytes l => l.length ≤ 9223372036854775807
  | .nop => True
theorem read1_enc (o : Opd) (r : List Nat) (ho : o.ok) : read1 o (o.enc ++ r) = some r := by
  cases o with
  | num x =>
    show (match rd (Wr.num x ++ r) with | some (y, k) => if y = x then some ((Wr.num x ++ r).drop k) else none | none => none) = some r
    rw [rd_num x r ho]
    simp
  | bytes l =>
    show (match rd (Wr.num l.length ++ l ++ r) with | some (y, k) => if y ≤ l.length ∧ y ≤ ((Wr.num l.length ++ l ++ r).drop k).length ∧ ((Wr.num l.length ++ l ++ r).drop k).take y = l then some (((Wr.num l.length ++ l ++ r).drop k).drop y) else none | none => none) = some r
    rw [List.append_assoc, rd_num l.length (l ++ r) ho]
    simp
  | nop => rfl
theorem readAll_enc : ∀ (os : List Opd) (r : List Nat), (∀ o ∈ os, o.ok) → readAll os (encAll os ++ r) = some r := by
  intro os
  induction os with
  | nil => intro r _; rfl
  | cons o os ih =>
    intro r ho
    rw [encAll, List.append_assoc, readAll, read1_enc o _ (ho o (by simp))]
    exact ih r fun x hx => ho x (by simp [hx])
theorem read1_part (o : Opd) (p q : List Nat) (ho : o.ok) (h : p ++ q = o.enc) (hq : q ≠ []) : read1 o p = none := by
  cases o with
  | num x =>
    show (match rd p with | some (y, k) => if y = x then some (p.drop k) else none | none => none) = none
    rw [rd_part h hq]
  | bytes l =>
    show (match rd p with | some (y, k) => if y ≤ l.length ∧ y ≤ (p.drop k).length ∧ (p.drop k).take y = l then some ((p.drop k).drop y) else none | none => none) = none
    have h : p ++ q = Wr.num l.length ++ l := h
    by_cases hp : p.length < (Wr.num l.length).length
    · have e1 : p ++ q.take ((Wr.num l.length).length - p.length) = Wr.num l.length := by
        have h1 := congrArg (List.take (Wr.num l.length).length) h
        rw [List.take_left' rfl, List.take_append, List.take_of_length_le (by omega)] at h1
        exact h1
      have hlq : p.length + q.length = (Wr.num l.length).length + l.length := by have := congrArg List.length h; simpa using this
      rw [rd_part e1 (by
        intro h0
        have h1 := congrArg List.length h0
        rw [List.length_take, List.length_nil] at h1
        have : q ≠ [] := hq
        have h2 : q.length ≠ 0 := fun h => this (List.eq_nil_of_length_eq_zero h)
        omega)]
    · obtain ⟨p', rfl⟩ : ∃ p', p = Wr.num l.length ++ p' := by
        refine ⟨p.drop (Wr.num l.length).length, ?_⟩
        have h1 := congrArg (List.take (Wr.num l.length).length) h
        rw [List.take_append_of_le_length (by omega), List.take_left' rfl] at h1
        conv => lhs; rw [← List.take_append_drop (Wr.num l.length).length p]
        rw [h1]
      rw [List.append_assoc, List.append_cancel_left_eq] at h
      rw [rd_num l.length p' ho]
      simp only [List.drop_left']
      rw [if_neg]
      intro h1
      have h2 := congrArg List.length h
      simp only [List.length_append] at h2
      have h3 : q.length ≠ 0 := fun h => hq (List.eq_nil_of_length_eq_zero h)
      omega
  | nop =>
    have h : p ++ q = [] := h
    simp at h
    exact absurd h.2 hq
theorem readAll_part : ∀ (os : List Opd) (p q : List Nat), (∀ o ∈ os, o.ok) → p ++ q = encAll os → q ≠ [] → readAll os p = none := by
  intro os
  induction os with
  | nil =>
    intro p q _ h hq
    simp only [encAll, List.append_eq_nil_iff] at h
    exact absurd h.2 hq
  | cons o os ih =>
    intro p q ho h hq
    rw [encAll] at h
    by_cases hp : p.length < o.enc.length
    · have e1 : p ++ q.take (o.enc.length - p.length) = o.enc := by
        have h1 := congrArg (List.take o.enc.length) h
        rw [List.take_left' rfl, List.take_append, List.take_of_length_le (by omega)] at h1
        exact h1
      rw [readAll, read1_part o p _ (ho o (by simp)) e1 (by
        intro h0
        have h1 := congrArg List.length h0
        rw [List.length_take, List.length_nil] at h1
        have h2 : q.length ≠ 0 := fun h => hq (List.eq_nil_of_length_eq_zero h)
        omega)]
    · obtain ⟨p', rfl⟩ : ∃ p', p = o.enc ++ p' := by
        refine ⟨p.drop o.enc.length, ?_⟩
        have h1 := congrArg (List.take o.enc.length) h
        rw [List.take_append_of_le_length (by omega), List.take_left' rfl] at h1
        conv => lhs; rw [← List.take_append_drop o.enc.length p]
        rw [h1]
      rw [List.append_assoc, List.append_cancel_left_eq] at h
      rw [readAll, read1_enc o p' (ho o (by simp))]
      exact ih p' q (fun x hx => ho x (by simp [hx])) h hq
end Go.Proofs.YteflnnlihblpgaaDoor.Wr
