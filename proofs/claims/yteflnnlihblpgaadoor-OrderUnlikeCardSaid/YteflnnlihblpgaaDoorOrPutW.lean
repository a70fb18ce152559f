/-
  Package order: Put of an entry in form, walked.
-/
import Derived.Test.YteflnnlihblpgaaDoorOrPut
namespace Go.Proofs.YteflnnlihblpgaaDoor
set_option maxRecDepth 100000
open Go.RowKit
set_option linter.unusedVariables false
theorem wr_keep {w w' : World} {g n c : Nat} {A : Option Addr} {bs : List Nat} {sp : Bool} (h : WrS w g A n c bs sp) (hf : Fr w w' (fun b => b = g ∨ A.map (·.block) = some b)) {b : Nat} {o : Obj} (hb : b < g) (ho : w.heap[b]? = some o) : w'.heap[b]? = some o :=
  (hf.block b (block_lt ho) (fun e => by
    rcases e with e | e
    · omega
    · have := h.own.base_le b e; omega)).trans ho
theorem wr_ext {a w w' : World} {g n c : Nat} {A : Option Addr} {bs : List Nat} {sp : Bool} (h : WrS w g A n c bs sp) (hf : Fr w w' (fun b => b = g ∨ A.map (·.block) = some b)) (hx : Ext a w) (hg : a.heap.size ≤ g) : Ext a w' :=
  Fr.ext hx hf (fun b e => by
    rcases e with e | e
    · omega
    · have := h.own.base_le b e; omega)
theorem flat4 : ∀ ts : List Tk, (ts.flatMap Tk.ns).length = 4 * ts.length
  | [] => rfl
  | t :: ts => by
    have := flat4 ts
    show (t.ns ++ ts.flatMap Tk.ns).length = _
    rw [List.length_append, this, List.length_cons]
    show 4 + _ = _
    omega
/-- The writer on its way through an entry. -/
structure PW (w wr : World) (g rb : Nat) (e : En) (A : Option Addr) (n c : Nat) (l : List Int) : Prop where
  ex : ∃ A' n' c', WrS wr g A' n' c' (putN l) false
  x : Ext w wr
  o : wr.heap[rb]? = some (.cells #[.int .i64 e.kd, .int .i64 e.id, .int .i64 e.sk, .int .i64 e.sq, .int .i64 e.st, .int .i64 e.pol, .slice A n c, .int .i64 e.at_] 27 (0, 0))
  lo : w.heap.size ≤ g ∧ rb < g
theorem PW.ext {w wr w' : World} {g rb n c : Nat} {e : En} {A : Option Addr} {l : List Int} (h : PW w wr g rb e A n c l) (hx : Ext wr w') : PW w w' g rb e A n c l := by
  obtain ⟨A', n', c', hw⟩ := h.ex
  exact ⟨⟨A', n', c', hw.ext hx⟩, h.x.trans hx, (hx.block rb (block_lt h.o)).trans h.o, h.lo⟩
theorem PW.num {w wr : World} {g rb n c : Nat} {e : En} {A : Option Addr} {l : List Int} (h : PW w wr g rb e A n c l) (hl : ∀ y ∈ l, y ≤ 9223372036854775807) (hll : l.length ≤ 1000) (x : Int) (h0 : 0 ≤ x) (hx : x ≤ 1099511627776) :
    Calls Tryd.prog 54 #[.pointer (some ⟨g, 0, none⟩), .int .i64 x] wr fun r w' => r = .returned (.tuple #[]) ∧ PW w w' g rb e A n c (l ++ [x]) := by
  obtain ⟨A', n', c', hw⟩ := h.ex
  have h1 := putN_len l hl
  have h2 := hw.len
  refine (wnumI x wr hw h0 (by omega) (by omega)).mono ?_
  rintro r w' ⟨rfl, A2, n2, c2, hw2, hf, _⟩
  exact ⟨rfl, ⟨A2, n2, c2, by rw [putN_app, putN_one]; exact hw2⟩, wr_ext hw hf h.x h.lo.1, wr_keep hw hf h.lo.2 h.o, h.lo⟩
section
variable {w : World} {A : Option Addr} {n c : Nat} {e : En}
set_option maxHeartbeats 6400000 in
theorem put_ok (hr : Rd w 4 A n (trows e.ts).flatten) (hf : e.form = true) : Calls Tryd.prog 26 #[.agg #[.int .i64 e.cl, .int .i64 e.nu, .int .i64 e.kd, .int .i64 e.id, .int .i64 e.sk, .int .i64 e.sq, .int .i64 e.st, .int .i64 e.pol, .slice A n c, .int .i64 e.at_]] w fun x w' => ∃ B m d, x = .returned (.tuple #[.slice B m d, .nilIface]) ∧ Own w' w.heap.size 5 1 B m d (u8s e.put) ∧ Ext w w' := by
  have hl := rd_tlen hr
  obtain ⟨hfit, h8⟩ := form_fits hf
  have HF := Lib.hid hfit
  have X0 := (Ext.refl w).alloc (.cells #[.int .i64 e.cl, .int .i64 e.nu, .int .i64 e.kd, .int .i64 e.id, .int .i64 e.sk, .int .i64 e.sq, .int .i64 e.st, .int .i64 e.pol, .slice A n c, .int .i64 e.at_] 29)
  have hob := heap_alloc_new w (.cells #[.int .i64 e.cl, .int .i64 e.nu, .int .i64 e.kd, .int .i64 e.id, .int .i64 e.sk, .int .i64 e.sq, .int .i64 e.st, .int .i64 e.pol, .slice A n c, .int .i64 e.at_] 29)
  have HC := Lib.hid (fun W (hx : Ext w W) => check_ok (c := c) (hr.ext hx) (by omega) hf)
  have HR := Lib.hid hr
  have HV := Lib.hid (And.intro hob X0)
  clear hob X0 hr hfit hf
  go_enter Tryd.func26, Tryd.ntmps26
  go_upto_region 1 with (fail)
  generalize w.alloc (.cells #[.int .i64 e.cl, .int .i64 e.nu, .int .i64 e.kd, .int .i64 e.id, .int .i64 e.sk, .int .i64 e.sq, .int .i64 e.st, .int .i64 e.pol, .slice A n c, .int .i64 e.at_] 29) = V at *
  generalize w.heap.size = ob at *
  have c0 : V.cell? ⟨ob, 0, none⟩ = some (.int .i64 e.cl) := block_cell HV.out.1 0
  have c1 : V.cell? ⟨ob, 1, none⟩ = some (.int .i64 e.nu) := block_cell HV.out.1 1
  have c2 : V.cell? ⟨ob, 2, none⟩ = some (.int .i64 e.kd) := block_cell HV.out.1 2
  have c3 : V.cell? ⟨ob, 3, none⟩ = some (.int .i64 e.id) := block_cell HV.out.1 3
  have c4 : V.cell? ⟨ob, 4, none⟩ = some (.int .i64 e.sk) := block_cell HV.out.1 4
  have c5 : V.cell? ⟨ob, 5, none⟩ = some (.int .i64 e.sq) := block_cell HV.out.1 5
  have c6 : V.cell? ⟨ob, 6, none⟩ = some (.int .i64 e.st) := block_cell HV.out.1 6
  have c7 : V.cell? ⟨ob, 7, none⟩ = some (.int .i64 e.pol) := block_cell HV.out.1 7
  have c8 : V.cell? ⟨ob, 8, none⟩ = some (.slice A n c) := block_cell HV.out.1 8
  have c9 : V.cell? ⟨ob, 9, none⟩ = some (.int .i64 e.at_) := block_cell HV.out.1 9
  have C1 := Lib.hid (HC.out V HV.out.2)
  go_upto_region 4 with (go_at_call 25; refine C1.out.mono ?_; rintro x w1 ⟨rfl, x1⟩)
  have H1 := Lib.hid (And.intro ((x1.block ob (block_lt HV.out.1)).trans HV.out.1) (HV.out.2.trans x1))
  clear c0 c1 c2 c3 c4 c5 c6 c7 c8 c9 C1 x1
  have c0 : w1.cell? ⟨ob, 0, none⟩ = some (.int .i64 e.cl) := block_cell H1.out.1 0
  have c1 : w1.cell? ⟨ob, 1, none⟩ = some (.int .i64 e.nu) := block_cell H1.out.1 1
  have c2 : w1.cell? ⟨ob, 2, none⟩ = some (.int .i64 e.kd) := block_cell H1.out.1 2
  have c3 : w1.cell? ⟨ob, 3, none⟩ = some (.int .i64 e.id) := block_cell H1.out.1 3
  have c4 : w1.cell? ⟨ob, 4, none⟩ = some (.int .i64 e.sk) := block_cell H1.out.1 4
  have c5 : w1.cell? ⟨ob, 5, none⟩ = some (.int .i64 e.sq) := block_cell H1.out.1 5
  have c6 : w1.cell? ⟨ob, 6, none⟩ = some (.int .i64 e.st) := block_cell H1.out.1 6
  have c7 : w1.cell? ⟨ob, 7, none⟩ = some (.int .i64 e.pol) := block_cell H1.out.1 7
  have c8 : w1.cell? ⟨ob, 8, none⟩ = some (.slice A n c) := block_cell H1.out.1 8
  have c9 : w1.cell? ⟨ob, 9, none⟩ = some (.int .i64 e.at_) := block_cell H1.out.1 9
  have X2 := (Ext.refl w1).alloc (.cells #[.int .i64 e.kd, .int .i64 e.id, .int .i64 e.sk, .int .i64 e.sq, .int .i64 e.st, .int .i64 e.pol, .slice A n c, .int .i64 e.at_] 27)
  have h2 := heap_alloc_new w1 (.cells #[.int .i64 e.kd, .int .i64 e.id, .int .i64 e.sk, .int .i64 e.sq, .int .i64 e.st, .int .i64 e.pol, .slice A n c, .int .i64 e.at_] 27)
  have H2 := Lib.hid (And.intro ((X2.block ob (block_lt H1.out.1)).trans H1.out.1) (And.intro h2 (And.intro (H1.out.2.trans X2) (show ob < w1.heap.size from block_lt H1.out.1))))
  clear X2 h2
  go_upto_region 5 with (fail)
  clear c0 c1 c2 c3 c4 c5 c6 c7 c8 c9
  generalize w1.alloc (.cells #[.int .i64 e.kd, .int .i64 e.id, .int .i64 e.sk, .int .i64 e.sq, .int .i64 e.st, .int .i64 e.pol, .slice A n c, .int .i64 e.at_] 27) = V2 at *
  generalize w1.heap.size = rb at *
  have CN := Lib.hid (new_any V2)
  go_upto_region 6 with (go_at_call 53; refine CN.out.mono ?_; rintro x w3 ⟨rfl, n3, x3⟩)
  have H3 := Lib.hid (And.intro ((x3.block ob (block_lt H2.out.1)).trans H2.out.1) (And.intro ((x3.block rb (block_lt H2.out.2.1)).trans H2.out.2.1) (And.intro n3 (And.intro (H2.out.2.2.1.trans x3) (show ob < V2.heap.size ∧ rb < V2.heap.size from ⟨block_lt H2.out.1, block_lt H2.out.2.1⟩)))))
  have HW0 := Lib.hid (show w.heap.size ≤ V2.heap.size from H2.out.2.2.1.size)
  clear CN n3 x3
  generalize V2.heap.size = g at *
  have c0 : w3.cell? ⟨ob, 0, none⟩ = some (.int .i64 e.cl) := block_cell H3.out.1 0
  have c1 : w3.cell? ⟨ob, 1, none⟩ = some (.int .i64 e.nu) := block_cell H3.out.1 1
  have d0 : w3.cell? ⟨rb, 0, none⟩ = some (.int .i64 e.kd) := block_cell H3.out.2.1 0
  have d1 : w3.cell? ⟨rb, 1, none⟩ = some (.int .i64 e.id) := block_cell H3.out.2.1 1
  have d2 : w3.cell? ⟨rb, 2, none⟩ = some (.int .i64 e.sk) := block_cell H3.out.2.1 2
  have d3 : w3.cell? ⟨rb, 3, none⟩ = some (.int .i64 e.sq) := block_cell H3.out.2.1 3
  have d4 : w3.cell? ⟨rb, 4, none⟩ = some (.int .i64 e.st) := block_cell H3.out.2.1 4
  have d5 : w3.cell? ⟨rb, 5, none⟩ = some (.int .i64 e.pol) := block_cell H3.out.2.1 5
  have d6 : w3.cell? ⟨rb, 6, none⟩ = some (.slice A n c) := block_cell H3.out.2.1 6
  have d7 : w3.cell? ⟨rb, 7, none⟩ = some (.int .i64 e.at_) := block_cell H3.out.2.1 7
  go_upto_region 7 with (fail)
  clear c0 c1 d0 d1 d2 d3 d4 d5 d6 d7
  have HP : Hid (PW w w3 g rb e A n c []) := Lib.hid ⟨⟨none, 0, 0, by simpa [putN] using H3.out.2.2.1⟩, H3.out.2.2.2.1, H3.out.2.1, by have := HW0.out; omega, H3.out.2.2.2.2.2⟩
  clear H3 H2 H1 HV HC
  go_loopw [46] (fun v46 wr => ∃ k : Nat, v46 = .int .i64 (k : Int) ∧ k ≤ 10 ∧ Hid (PW w wr g rb e A n c (e.head.take k))) (fun v46 _ => 10 - (intOf v46).toNat)
  case atStart => exact ⟨0, rfl, by omega, HP.out⟩
  case round =>
    obtain ⟨k, rfl, hk, HI⟩ := hrel
    by_cases hlt : k < 10
    · have hh : k = 0 ∨ k = 1 ∨ k = 2 ∨ k = 3 ∨ k = 4 ∨ k = 5 ∨ k = 6 ∨ k = 7 ∨ k = 8 ∨ k = 9 := by omega
      rcases hh with rfl | rfl | rfl | rfl | rfl | rfl | rfl | rfl | rfl | rfl
      · have hx := HF.out (e.cl) (List.mem_append_left _ (by simp [En.head]))
        have CW := Lib.hid (HI.out.num (fun y hy => by have := HF.out y (List.mem_append_left _ (List.mem_of_mem_take hy)); omega) (by simp [En.head]) (e.cl) hx.1 hx.2)
        clear hx
        have ri : ∀ W, (Instr.index 100 (.agg #[.int .i64 e.cl, .int .i64 e.nu, .int .i64 e.kd, .int .i64 e.at_, .int .i64 e.id, .int .i64 e.sk, .int .i64 e.sq, .int .i64 e.st, .int .i64 e.pol, .int .i64 (n : Int)]) (.int .i64 0)).run Tryd.prog W = .ok (.int .i64 (e.cl)) W := fun W => by kernel_rfl
        go_wp2_with (refine CW.out.mono ?_; rintro x w4 ⟨rfl, p4⟩)
        clear ri
        have H4 : Hid (PW w w4 g rb e A n c (e.head.take (0 + 1))) := Lib.hid p4
        clear p4 CW
        go_roundw
        case rel => exact ⟨0 + 1, by go_num, by omega, H4.out⟩
        case measure => simp [intOf]
      · have hx := HF.out (e.nu) (List.mem_append_left _ (by simp [En.head]))
        have CW := Lib.hid (HI.out.num (fun y hy => by have := HF.out y (List.mem_append_left _ (List.mem_of_mem_take hy)); omega) (by simp [En.head]) (e.nu) hx.1 hx.2)
        clear hx
        have ri : ∀ W, (Instr.index 100 (.agg #[.int .i64 e.cl, .int .i64 e.nu, .int .i64 e.kd, .int .i64 e.at_, .int .i64 e.id, .int .i64 e.sk, .int .i64 e.sq, .int .i64 e.st, .int .i64 e.pol, .int .i64 (n : Int)]) (.int .i64 1)).run Tryd.prog W = .ok (.int .i64 (e.nu)) W := fun W => by kernel_rfl
        go_wp2_with (refine CW.out.mono ?_; rintro x w4 ⟨rfl, p4⟩)
        clear ri
        have H4 : Hid (PW w w4 g rb e A n c (e.head.take (1 + 1))) := Lib.hid p4
        clear p4 CW
        go_roundw
        case rel => exact ⟨1 + 1, by go_num, by omega, H4.out⟩
        case measure => simp [intOf]
      · have hx := HF.out (e.kd) (List.mem_append_left _ (by simp [En.head]))
        have CW := Lib.hid (HI.out.num (fun y hy => by have := HF.out y (List.mem_append_left _ (List.mem_of_mem_take hy)); omega) (by simp [En.head]) (e.kd) hx.1 hx.2)
        clear hx
        have ri : ∀ W, (Instr.index 100 (.agg #[.int .i64 e.cl, .int .i64 e.nu, .int .i64 e.kd, .int .i64 e.at_, .int .i64 e.id, .int .i64 e.sk, .int .i64 e.sq, .int .i64 e.st, .int .i64 e.pol, .int .i64 (n : Int)]) (.int .i64 2)).run Tryd.prog W = .ok (.int .i64 (e.kd)) W := fun W => by kernel_rfl
        go_wp2_with (refine CW.out.mono ?_; rintro x w4 ⟨rfl, p4⟩)
        clear ri
        have H4 : Hid (PW w w4 g rb e A n c (e.head.take (2 + 1))) := Lib.hid p4
        clear p4 CW
        go_roundw
        case rel => exact ⟨2 + 1, by go_num, by omega, H4.out⟩
        case measure => simp [intOf]
      · have hx := HF.out (e.at_) (List.mem_append_left _ (by simp [En.head]))
        have CW := Lib.hid (HI.out.num (fun y hy => by have := HF.out y (List.mem_append_left _ (List.mem_of_mem_take hy)); omega) (by simp [En.head]) (e.at_) hx.1 hx.2)
        clear hx
        have ri : ∀ W, (Instr.index 100 (.agg #[.int .i64 e.cl, .int .i64 e.nu, .int .i64 e.kd, .int .i64 e.at_, .int .i64 e.id, .int .i64 e.sk, .int .i64 e.sq, .int .i64 e.st, .int .i64 e.pol, .int .i64 (n : Int)]) (.int .i64 3)).run Tryd.prog W = .ok (.int .i64 (e.at_)) W := fun W => by kernel_rfl
        go_wp2_with (refine CW.out.mono ?_; rintro x w4 ⟨rfl, p4⟩)
        clear ri
        have H4 : Hid (PW w w4 g rb e A n c (e.head.take (3 + 1))) := Lib.hid p4
        clear p4 CW
        go_roundw
        case rel => exact ⟨3 + 1, by go_num, by omega, H4.out⟩
        case measure => simp [intOf]
      · have hx := HF.out (e.id) (List.mem_append_left _ (by simp [En.head]))
        have CW := Lib.hid (HI.out.num (fun y hy => by have := HF.out y (List.mem_append_left _ (List.mem_of_mem_take hy)); omega) (by simp [En.head]) (e.id) hx.1 hx.2)
        clear hx
        have ri : ∀ W, (Instr.index 100 (.agg #[.int .i64 e.cl, .int .i64 e.nu, .int .i64 e.kd, .int .i64 e.at_, .int .i64 e.id, .int .i64 e.sk, .int .i64 e.sq, .int .i64 e.st, .int .i64 e.pol, .int .i64 (n : Int)]) (.int .i64 4)).run Tryd.prog W = .ok (.int .i64 (e.id)) W := fun W => by kernel_rfl
        go_wp2_with (refine CW.out.mono ?_; rintro x w4 ⟨rfl, p4⟩)
        clear ri
        have H4 : Hid (PW w w4 g rb e A n c (e.head.take (4 + 1))) := Lib.hid p4
        clear p4 CW
        go_roundw
        case rel => exact ⟨4 + 1, by go_num, by omega, H4.out⟩
        case measure => simp [intOf]
      · have hx := HF.out (e.sk) (List.mem_append_left _ (by simp [En.head]))
        have CW := Lib.hid (HI.out.num (fun y hy => by have := HF.out y (List.mem_append_left _ (List.mem_of_mem_take hy)); omega) (by simp [En.head]) (e.sk) hx.1 hx.2)
        clear hx
        have ri : ∀ W, (Instr.index 100 (.agg #[.int .i64 e.cl, .int .i64 e.nu, .int .i64 e.kd, .int .i64 e.at_, .int .i64 e.id, .int .i64 e.sk, .int .i64 e.sq, .int .i64 e.st, .int .i64 e.pol, .int .i64 (n : Int)]) (.int .i64 5)).run Tryd.prog W = .ok (.int .i64 (e.sk)) W := fun W => by kernel_rfl
        go_wp2_with (refine CW.out.mono ?_; rintro x w4 ⟨rfl, p4⟩)
        clear ri
        have H4 : Hid (PW w w4 g rb e A n c (e.head.take (5 + 1))) := Lib.hid p4
        clear p4 CW
        go_roundw
        case rel => exact ⟨5 + 1, by go_num, by omega, H4.out⟩
        case measure => simp [intOf]
      · have hx := HF.out (e.sq) (List.mem_append_left _ (by simp [En.head]))
        have CW := Lib.hid (HI.out.num (fun y hy => by have := HF.out y (List.mem_append_left _ (List.mem_of_mem_take hy)); omega) (by simp [En.head]) (e.sq) hx.1 hx.2)
        clear hx
        have ri : ∀ W, (Instr.index 100 (.agg #[.int .i64 e.cl, .int .i64 e.nu, .int .i64 e.kd, .int .i64 e.at_, .int .i64 e.id, .int .i64 e.sk, .int .i64 e.sq, .int .i64 e.st, .int .i64 e.pol, .int .i64 (n : Int)]) (.int .i64 6)).run Tryd.prog W = .ok (.int .i64 (e.sq)) W := fun W => by kernel_rfl
        go_wp2_with (refine CW.out.mono ?_; rintro x w4 ⟨rfl, p4⟩)
        clear ri
        have H4 : Hid (PW w w4 g rb e A n c (e.head.take (6 + 1))) := Lib.hid p4
        clear p4 CW
        go_roundw
        case rel => exact ⟨6 + 1, by go_num, by omega, H4.out⟩
        case measure => simp [intOf]
      · have hx := HF.out (e.st) (List.mem_append_left _ (by simp [En.head]))
        have CW := Lib.hid (HI.out.num (fun y hy => by have := HF.out y (List.mem_append_left _ (List.mem_of_mem_take hy)); omega) (by simp [En.head]) (e.st) hx.1 hx.2)
        clear hx
        have ri : ∀ W, (Instr.index 100 (.agg #[.int .i64 e.cl, .int .i64 e.nu, .int .i64 e.kd, .int .i64 e.at_, .int .i64 e.id, .int .i64 e.sk, .int .i64 e.sq, .int .i64 e.st, .int .i64 e.pol, .int .i64 (n : Int)]) (.int .i64 7)).run Tryd.prog W = .ok (.int .i64 (e.st)) W := fun W => by kernel_rfl
        go_wp2_with (refine CW.out.mono ?_; rintro x w4 ⟨rfl, p4⟩)
        clear ri
        have H4 : Hid (PW w w4 g rb e A n c (e.head.take (7 + 1))) := Lib.hid p4
        clear p4 CW
        go_roundw
        case rel => exact ⟨7 + 1, by go_num, by omega, H4.out⟩
        case measure => simp [intOf]
      · have hx := HF.out (e.pol) (List.mem_append_left _ (by simp [En.head]))
        have CW := Lib.hid (HI.out.num (fun y hy => by have := HF.out y (List.mem_append_left _ (List.mem_of_mem_take hy)); omega) (by simp [En.head]) (e.pol) hx.1 hx.2)
        clear hx
        have ri : ∀ W, (Instr.index 100 (.agg #[.int .i64 e.cl, .int .i64 e.nu, .int .i64 e.kd, .int .i64 e.at_, .int .i64 e.id, .int .i64 e.sk, .int .i64 e.sq, .int .i64 e.st, .int .i64 e.pol, .int .i64 (n : Int)]) (.int .i64 8)).run Tryd.prog W = .ok (.int .i64 (e.pol)) W := fun W => by kernel_rfl
        go_wp2_with (refine CW.out.mono ?_; rintro x w4 ⟨rfl, p4⟩)
        clear ri
        have H4 : Hid (PW w w4 g rb e A n c (e.head.take (8 + 1))) := Lib.hid p4
        clear p4 CW
        go_roundw
        case rel => exact ⟨8 + 1, by go_num, by omega, H4.out⟩
        case measure => simp [intOf]
      · have hx := HF.out (e.ts.length : Int) (List.mem_append_left _ (by simp [En.head]))
        rw [hl] at hx
        have CW := Lib.hid (HI.out.num (fun y hy => by have := HF.out y (List.mem_append_left _ (List.mem_of_mem_take hy)); omega) (by simp [En.head]) (n : Int) hx.1 hx.2)
        clear hx
        have ri : ∀ W, (Instr.index 100 (.agg #[.int .i64 e.cl, .int .i64 e.nu, .int .i64 e.kd, .int .i64 e.at_, .int .i64 e.id, .int .i64 e.sk, .int .i64 e.sq, .int .i64 e.st, .int .i64 e.pol, .int .i64 (n : Int)]) (.int .i64 9)).run Tryd.prog W = .ok (.int .i64 (n : Int)) W := fun W => by kernel_rfl
        go_wp2_with (refine CW.out.mono ?_; rintro x w4 ⟨rfl, p4⟩)
        clear ri
        have H4 : Hid (PW w w4 g rb e A n c (e.head.take (9 + 1))) := Lib.hid (by rw [show e.head.take (9 + 1) = e.head.take 9 ++ [(n : Int)] from (by unfold En.head; rw [hl]; rfl)]; exact p4)
        clear p4 CW
        go_roundw
        case rel => exact ⟨9 + 1, by go_num, by omega, H4.out⟩
        case measure => simp [intOf]
    · have hk10 : k = 10 := by omega
      have HQ : Hid (PW w wr g rb e A n c (e.head ++ (e.ts.take 0).flatMap Tk.ns)) := Lib.hid (by
        have h := HI.out
        rw [hk10, show e.head.take 10 = e.head from rfl] at h
        simpa using h)
      have d6 : wr.cell? ⟨rb, 6, none⟩ = some (.slice A n c) := block_cell HI.out.o 6
      clear HI HP hk10
      go_upto_region 12 with (fail)
      clear d6
      go_loopw [56] (fun v56 wr => ∃ j : Nat, v56 = .int .i64 (j : Int) ∧ j ≤ n ∧ Hid (PW w wr g rb e A n c (e.head ++ (e.ts.take j).flatMap Tk.ns))) (fun v56 _ => n - (intOf v56).toNat)
      case atStart => exact ⟨0, rfl, by omega, HQ.out⟩
      case round =>
        obtain ⟨j, rfl, hj, HJ⟩ := hrel
        by_cases hltj : j < n
        · obtain ⟨t, ht⟩ : ∃ t, e.ts[j]? = some t := ⟨e.ts[j]'(by omega), List.getElem?_eq_getElem _⟩
          obtain ⟨j4, hj4⟩ : ∃ j4, j * 4 = j4 := ⟨_, rfl⟩
          obtain ⟨ad, rfl, y0, y1, y2, y3⟩ := (HR.out.ext HJ.out.x).task ht hj4
          have HT := Lib.hid ht
          have z0 : (0 : Int) ≤ j := by omega
          have z1 : (j : Int) < n := by omega
          have HB := Lib.hid (heap_alloc_new wr (.cells #[.int .i64 t.C, .int .i64 t.P, .int .i64 t.D, .int .i64 t.S] 47))
          have HJ2 := Lib.hid (HJ.out.ext ((Ext.refl wr).alloc (.cells #[.int .i64 t.C, .int .i64 t.P, .int .i64 t.D, .int .i64 t.S] 47)))
          clear ht HJ
          go_upto_region 14 with (fail)
          generalize wr.alloc (.cells #[.int .i64 t.C, .int .i64 t.P, .int .i64 t.D, .int .i64 t.S] 47) = V5 at *
          generalize wr.heap.size = tb at *
          have u0 : V5.cell? ⟨tb, 0, none⟩ = some (.int .i64 t.C) := block_cell HB.out 0
          have u1 : V5.cell? ⟨tb, 1, none⟩ = some (.int .i64 t.P) := block_cell HB.out 1
          have u2 : V5.cell? ⟨tb, 2, none⟩ = some (.int .i64 t.D) := block_cell HB.out 2
          have u3 : V5.cell? ⟨tb, 3, none⟩ = some (.int .i64 t.S) := block_cell HB.out 3
          clear y0 y1 y2 y3
          go_upto_region 15 with (fail)
          clear u0 u1 u2 u3
          have HTF := Lib.hid (show ∀ x ∈ t.ns, 0 ≤ x ∧ x ≤ 1099511627776 from fun x hx => HF.out x (List.mem_append_right _ (List.mem_flatMap.2 ⟨t, List.mem_of_getElem? HT.out, hx⟩)))
          have HLB := Lib.hid (show ∀ k, (∀ y ∈ e.head ++ (e.ts.take j).flatMap Tk.ns ++ t.ns.take k, y ≤ 9223372036854775807) ∧ (e.head ++ (e.ts.take j).flatMap Tk.ns ++ t.ns.take k).length ≤ 1000 from fun k => ⟨fun y hy => by
            have hm : y ∈ e.nums ∨ y ∈ t.ns := by
              rcases List.mem_append.1 hy with hy | hy
              · rcases List.mem_append.1 hy with hy | hy
                · exact .inl (List.mem_append_left _ hy)
                · obtain ⟨q, hq, hy⟩ := List.mem_flatMap.1 hy
                  exact .inl (List.mem_append_right _ (List.mem_flatMap.2 ⟨q, List.mem_of_mem_take hq, hy⟩))
              · exact .inr (List.mem_of_mem_take hy)
            rcases hm with hm | hm
            · have := HF.out y hm; omega
            · have := HTF.out y hm; omega, by
            have h1 : ((e.ts.take j).flatMap Tk.ns).length = 4 * (e.ts.take j).length := flat4 _
            have h2 : (t.ns.take k).length ≤ 4 := by rw [List.length_take]; show min k 4 ≤ 4; omega
            rw [List.length_append, List.length_append, h1, List.length_take]
            show 10 + 4 * min j e.ts.length + _ ≤ 1000
            omega⟩)
          have HJ3 : Hid (PW w V5 g rb e (some ad) n c (e.head ++ (e.ts.take j).flatMap Tk.ns ++ t.ns.take 0)) := Lib.hid (by simpa using HJ2.out)
          clear HJ2
          go_loopw [12, 69] (fun _ v69 wr => ∃ k : Nat, v69 = .int .i64 (k : Int) ∧ k ≤ 4 ∧ Hid (PW w wr g rb e (some ad) n c (e.head ++ (e.ts.take j).flatMap Tk.ns ++ t.ns.take k))) (fun _ v69 _ => 4 - (intOf v69).toNat)
          case atStart => exact ⟨0, rfl, by omega, HJ3.out⟩
          case round =>
            obtain ⟨k, rfl, hk, HI⟩ := hrel
            by_cases hlt : k < 4
            · have hh : k = 0 ∨ k = 1 ∨ k = 2 ∨ k = 3 := by omega
              rcases hh with rfl | rfl | rfl | rfl
              · have hx := HTF.out (t.C) (by simp [Tk.ns])
                have CW := Lib.hid (HI.out.num (HLB.out 0).1 (HLB.out 0).2 (t.C) hx.1 hx.2)
                clear hx
                have ri : ∀ W, (Instr.index 102 (.agg #[.int .i64 t.C, .int .i64 t.P, .int .i64 t.D, .int .i64 t.S]) (.int .i64 0)).run Tryd.prog W = .ok (.int .i64 (t.C)) W := fun W => by kernel_rfl
                go_wp2_with (refine CW.out.mono ?_; rintro x w4 ⟨rfl, p4⟩)
                clear ri
                have H4 : Hid (PW w w4 g rb e (some ad) n c (e.head ++ (e.ts.take j).flatMap Tk.ns ++ t.ns.take (0 + 1))) := Lib.hid (by rw [List.append_assoc] at p4; exact p4)
                clear p4 CW
                go_roundw
                case rel => exact ⟨0 + 1, by go_num, by omega, H4.out⟩
                case measure => simp [intOf]
              · have hx := HTF.out (t.P) (by simp [Tk.ns])
                have CW := Lib.hid (HI.out.num (HLB.out 1).1 (HLB.out 1).2 (t.P) hx.1 hx.2)
                clear hx
                have ri : ∀ W, (Instr.index 102 (.agg #[.int .i64 t.C, .int .i64 t.P, .int .i64 t.D, .int .i64 t.S]) (.int .i64 1)).run Tryd.prog W = .ok (.int .i64 (t.P)) W := fun W => by kernel_rfl
                go_wp2_with (refine CW.out.mono ?_; rintro x w4 ⟨rfl, p4⟩)
                clear ri
                have H4 : Hid (PW w w4 g rb e (some ad) n c (e.head ++ (e.ts.take j).flatMap Tk.ns ++ t.ns.take (1 + 1))) := Lib.hid (by rw [List.append_assoc] at p4; exact p4)
                clear p4 CW
                go_roundw
                case rel => exact ⟨1 + 1, by go_num, by omega, H4.out⟩
                case measure => simp [intOf]
              · have hx := HTF.out (t.D) (by simp [Tk.ns])
                have CW := Lib.hid (HI.out.num (HLB.out 2).1 (HLB.out 2).2 (t.D) hx.1 hx.2)
                clear hx
                have ri : ∀ W, (Instr.index 102 (.agg #[.int .i64 t.C, .int .i64 t.P, .int .i64 t.D, .int .i64 t.S]) (.int .i64 2)).run Tryd.prog W = .ok (.int .i64 (t.D)) W := fun W => by kernel_rfl
                go_wp2_with (refine CW.out.mono ?_; rintro x w4 ⟨rfl, p4⟩)
                clear ri
                have H4 : Hid (PW w w4 g rb e (some ad) n c (e.head ++ (e.ts.take j).flatMap Tk.ns ++ t.ns.take (2 + 1))) := Lib.hid (by rw [List.append_assoc] at p4; exact p4)
                clear p4 CW
                go_roundw
                case rel => exact ⟨2 + 1, by go_num, by omega, H4.out⟩
                case measure => simp [intOf]
              · have hx := HTF.out (t.S) (by simp [Tk.ns])
                have CW := Lib.hid (HI.out.num (HLB.out 3).1 (HLB.out 3).2 (t.S) hx.1 hx.2)
                clear hx
                have ri : ∀ W, (Instr.index 102 (.agg #[.int .i64 t.C, .int .i64 t.P, .int .i64 t.D, .int .i64 t.S]) (.int .i64 3)).run Tryd.prog W = .ok (.int .i64 (t.S)) W := fun W => by kernel_rfl
                go_wp2_with (refine CW.out.mono ?_; rintro x w4 ⟨rfl, p4⟩)
                clear ri
                have H4 : Hid (PW w w4 g rb e (some ad) n c (e.head ++ (e.ts.take j).flatMap Tk.ns ++ t.ns.take (3 + 1))) := Lib.hid (by rw [List.append_assoc] at p4; exact p4)
                clear p4 CW
                go_roundw
                case rel => exact ⟨3 + 1, by go_num, by omega, H4.out⟩
                case measure => simp [intOf]
            · obtain rfl : k = 4 := by omega
              have HN : Hid (PW w wr g rb e (some ad) n c (e.head ++ (e.ts.take (j + 1)).flatMap Tk.ns)) := Lib.hid (by
                have h := HI.out
                rw [show t.ns.take 4 = t.ns from rfl, List.append_assoc] at h
                rw [take_succ' HT.out, List.flatMap_append]
                simpa using h)
              clear HI
              go_wp2_with fail
              go_roundw
              case rel => exact ⟨j + 1, by go_num, by omega, HN.out⟩
              case measure => simp [intOf]; omega
        · obtain rfl : n = j := by omega
          have HN : Hid (PW w wr g rb e A n c e.nums) := Lib.hid (by
            have h := HJ.out
            rw [List.take_of_length_le (by omega)] at h
            exact h)
          obtain ⟨A', n', c', hw⟩ := HN.out.ex
          have hb := hw.len
          have hbl := putN_len e.nums (fun y hy => by have := HF.out y hy; omega)
          have hnl : e.nums.length ≤ 42 := by
            unfold En.nums
            rw [List.length_append, flat4]
            show 10 + 4 * e.ts.length ≤ 42
            omega
          have CD := Lib.hid (done_any wr hw (by omega))
          have HX := Lib.hid HN.out.x
          clear hw hb hbl hnl HJ HN
          go_wp2_with (go_at_call 55; refine CD.out.mono ?_; rintro x w5 ⟨B, d, rfl, o5, x5⟩)
          go_returns
          exact ⟨B, n', d, rfl, o5.base_mono HX.out.size, HX.out.trans x5⟩
end
end Go.Proofs.YteflnnlihblpgaaDoor

