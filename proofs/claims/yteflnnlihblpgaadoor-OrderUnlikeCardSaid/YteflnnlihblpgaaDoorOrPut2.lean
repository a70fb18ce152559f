/-
  Package order: Put of an entry that is not in form; the document's Put; walked.
-/
import Derived.Test.YteflnnlihblpgaaDoorOrPutW
import Derived.Test.YteflnnlihblpgaaDoorOrRows
import Derived.Test.YteflnnlihblpgaaDoorOrPart
import Derived.Test.YteflnnlihblpgaaDoorOrCopy
namespace Go.Proofs.YteflnnlihblpgaaDoor
set_option maxRecDepth 100000
open Go.RowKit
set_option linter.unusedVariables false
set_option maxHeartbeats 1600000 in
theorem put_no (s : EnS) (w : World) (hs : s.Lies w) (hf : s.e.form = false) {ps : Addr} (hS : Sen w 1 ps) : Calls Tryd.prog 26 #[.agg #[.int .i64 s.e.cl, .int .i64 s.e.nu, .int .i64 s.e.kd, .int .i64 s.e.id, .int .i64 s.e.sk, .int .i64 s.e.sq, .int .i64 s.e.st, .int .i64 s.e.pol, .slice s.A s.n s.c, .int .i64 s.e.at_]] w fun x w' => x = .returned (.tuple #[.slice none 0 0, .iface 149 (.pointer (some ps))]) ∧ Ext w w' := by
  have hn := hs.le
  have X1 := (Ext.refl w).alloc (.cells #[.int .i64 s.e.cl, .int .i64 s.e.nu, .int .i64 s.e.kd, .int .i64 s.e.id, .int .i64 s.e.sk, .int .i64 s.e.sq, .int .i64 s.e.st, .int .i64 s.e.pol, .slice s.A s.n s.c, .int .i64 s.e.at_] 29)
  have b1 := heap_alloc_new w (.cells #[.int .i64 s.e.cl, .int .i64 s.e.nu, .int .i64 s.e.kd, .int .i64 s.e.id, .int .i64 s.e.sk, .int .i64 s.e.sq, .int .i64 s.e.st, .int .i64 s.e.pol, .slice s.A s.n s.c, .int .i64 s.e.at_] 29)
  have HV := Lib.hid (And.intro b1 X1)
  clear X1 b1
  have CC := Lib.hid (fun W (hx : Ext w W) => check_no (e := s.e) (c := s.c) (hs.rd.ext hx) (by omega) hf (hS.ext hx))
  clear hs hf hS
  go_enter Tryd.func26, Tryd.ntmps26
  go_upto_region 1 with (fail)
  generalize w.alloc (.cells #[.int .i64 s.e.cl, .int .i64 s.e.nu, .int .i64 s.e.kd, .int .i64 s.e.id, .int .i64 s.e.sk, .int .i64 s.e.sq, .int .i64 s.e.st, .int .i64 s.e.pol, .slice s.A s.n s.c, .int .i64 s.e.at_] 29) = V at *
  generalize w.heap.size = ob at *
  have c0 : V.cell? ⟨ob, 0, none⟩ = some (.int .i64 s.e.cl) := block_cell (HV.out.1) 0
  have c1 : V.cell? ⟨ob, 1, none⟩ = some (.int .i64 s.e.nu) := block_cell (HV.out.1) 1
  have c2 : V.cell? ⟨ob, 2, none⟩ = some (.int .i64 s.e.kd) := block_cell (HV.out.1) 2
  have c3 : V.cell? ⟨ob, 3, none⟩ = some (.int .i64 s.e.id) := block_cell (HV.out.1) 3
  have c4 : V.cell? ⟨ob, 4, none⟩ = some (.int .i64 s.e.sk) := block_cell (HV.out.1) 4
  have c5 : V.cell? ⟨ob, 5, none⟩ = some (.int .i64 s.e.sq) := block_cell (HV.out.1) 5
  have c6 : V.cell? ⟨ob, 6, none⟩ = some (.int .i64 s.e.st) := block_cell (HV.out.1) 6
  have c7 : V.cell? ⟨ob, 7, none⟩ = some (.int .i64 s.e.pol) := block_cell (HV.out.1) 7
  have c8 : V.cell? ⟨ob, 8, none⟩ = some (.slice s.A s.n s.c) := block_cell (HV.out.1) 8
  have c9 : V.cell? ⟨ob, 9, none⟩ = some (.int .i64 s.e.at_) := block_cell (HV.out.1) 9
  go_wp2_with (go_at_call 25; refine (CC.out V HV.out.2).mono ?_; rintro x w1 ⟨rfl, x1⟩)
  go_returns
  exact ⟨rfl, HV.out.2.trans x1⟩
theorem ints_one' (l : List Int) : ∀ u ∈ ints l, u.oneCell' = true := by
  intro u hu; simp [ints] at hu; obtain ⟨n, _, rfl⟩ := hu; rfl
theorem ints_app' (l m : List Int) : ints (l ++ m) = ints l ++ ints m := by simp [ints]
theorem eltIn : Elt Tryd.prog 111 3 1 8 (.int .i64 0) := ⟨Tryd.underlying111, by kernel_rfl, rfl, by omega⟩
theorem numsTake (e : En) (k : Nat) (t : Tk) (h : e.ts[k]? = some t) : e.head ++ (e.ts.take (k + 1)).flatMap Tk.ns = (e.head ++ (e.ts.take k).flatMap Tk.ns) ++ [t.C, t.P, t.D, t.S] := by
  rw [take_succ' h, List.flatMap_append, List.append_assoc]
  simp [Tk.ns]
theorem numsLen (e : En) (k : Nat) (h : k ≤ e.ts.length) : (e.head ++ (e.ts.take k).flatMap Tk.ns).length = 10 + 4 * k := by
  rw [List.length_append, flat4, List.length_take, Nat.min_eq_left h]
  rfl
set_option maxHeartbeats 3200000 in
theorem rput_any (e : En) (A : Option Addr) (n c : Nat) (w : World) (hs : EnS.Lies ⟨e, A, n, c⟩ w) (hf : e.form = true) : Calls Tryd.prog 29 #[.agg #[.int .i64 e.cl, .int .i64 e.nu, .int .i64 e.kd, .int .i64 e.id, .int .i64 e.sk, .int .i64 e.sq, .int .i64 e.st, .int .i64 e.pol, .slice A n c, .int .i64 e.at_]] w fun x w' => ∃ B m d, x = .returned (.slice B m d) ∧ Own w' w.heap.size 5 1 B m d (u8s e.put) ∧ Ext w w' := by
  have hsl : e.ts.length = n := hs.len
  have h8 := (form_fits hf).2
  have HF := Lib.hid (form_fits hf).1
  have HS := Lib.hid hs
  have X1 := (Ext.refl w).alloc (.cells #[.int .i64 e.cl, .int .i64 e.nu, .int .i64 e.kd, .int .i64 e.id, .int .i64 e.sk, .int .i64 e.sq, .int .i64 e.st, .int .i64 e.pol, .slice A n c, .int .i64 e.at_] 29)
  have X2 := X1.alloc (.cells #[.int .i64 e.kd, .int .i64 e.id, .int .i64 e.sk, .int .i64 e.sq, .int .i64 e.st, .int .i64 e.pol, .slice A n c, .int .i64 e.at_] 27)
  have b1 := heap_alloc_new w (.cells #[.int .i64 e.cl, .int .i64 e.nu, .int .i64 e.kd, .int .i64 e.id, .int .i64 e.sk, .int .i64 e.sq, .int .i64 e.st, .int .i64 e.pol, .slice A n c, .int .i64 e.at_] 29)
  have b2 := heap_alloc_new (w.alloc (.cells #[.int .i64 e.cl, .int .i64 e.nu, .int .i64 e.kd, .int .i64 e.id, .int .i64 e.sk, .int .i64 e.sq, .int .i64 e.st, .int .i64 e.pol, .slice A n c, .int .i64 e.at_] 29)) (.cells #[.int .i64 e.kd, .int .i64 e.id, .int .i64 e.sk, .int .i64 e.sq, .int .i64 e.st, .int .i64 e.pol, .slice A n c, .int .i64 e.at_] 27)
  rw [World.size_alloc] at b2
  have b3 := (((Ext.refl (w.alloc (.cells #[.int .i64 e.cl, .int .i64 e.nu, .int .i64 e.kd, .int .i64 e.id, .int .i64 e.sk, .int .i64 e.sq, .int .i64 e.st, .int .i64 e.pol, .slice A n c, .int .i64 e.at_] 29))).alloc (.cells #[.int .i64 e.kd, .int .i64 e.id, .int .i64 e.sk, .int .i64 e.sq, .int .i64 e.st, .int .i64 e.pol, .slice A n c, .int .i64 e.at_] 27)).block _ (block_lt b1)).trans b1
  have HV := Lib.hid (And.intro b3 (And.intro b2 X2))
  clear X1 X2 b1 b2 b3
  clear hs hf
  go_enter Tryd.func29, Tryd.ntmps29
  go_upto_region 2 with (fail)
  generalize (w.alloc (.cells #[.int .i64 e.cl, .int .i64 e.nu, .int .i64 e.kd, .int .i64 e.id, .int .i64 e.sk, .int .i64 e.sq, .int .i64 e.st, .int .i64 e.pol, .slice A n c, .int .i64 e.at_] 29)).alloc (.cells #[.int .i64 e.kd, .int .i64 e.id, .int .i64 e.sk, .int .i64 e.sq, .int .i64 e.st, .int .i64 e.pol, .slice A n c, .int .i64 e.at_] 27) = V at *
  generalize w.heap.size = ob at *
  have c0 : V.cell? ⟨ob, 0, none⟩ = some (.int .i64 e.cl) := block_cell (HV.out.1) 0
  have c1 : V.cell? ⟨ob, 1, none⟩ = some (.int .i64 e.nu) := block_cell (HV.out.1) 1
  have c2 : V.cell? ⟨ob, 2, none⟩ = some (.int .i64 e.kd) := block_cell (HV.out.1) 2
  have c3 : V.cell? ⟨ob, 3, none⟩ = some (.int .i64 e.id) := block_cell (HV.out.1) 3
  have c4 : V.cell? ⟨ob, 4, none⟩ = some (.int .i64 e.sk) := block_cell (HV.out.1) 4
  have c5 : V.cell? ⟨ob, 5, none⟩ = some (.int .i64 e.sq) := block_cell (HV.out.1) 5
  have c6 : V.cell? ⟨ob, 6, none⟩ = some (.int .i64 e.st) := block_cell (HV.out.1) 6
  have c7 : V.cell? ⟨ob, 7, none⟩ = some (.int .i64 e.pol) := block_cell (HV.out.1) 7
  have c8 : V.cell? ⟨ob, 8, none⟩ = some (.slice A n c) := block_cell (HV.out.1) 8
  have c9 : V.cell? ⟨ob, 9, none⟩ = some (.int .i64 e.at_) := block_cell (HV.out.1) 9
  have d0 : V.cell? ⟨ob + 1, 0, none⟩ = some (.int .i64 e.kd) := block_cell (HV.out.2.1) 0
  have d1 : V.cell? ⟨ob + 1, 1, none⟩ = some (.int .i64 e.id) := block_cell (HV.out.2.1) 1
  have d2 : V.cell? ⟨ob + 1, 2, none⟩ = some (.int .i64 e.sk) := block_cell (HV.out.2.1) 2
  have d3 : V.cell? ⟨ob + 1, 3, none⟩ = some (.int .i64 e.sq) := block_cell (HV.out.2.1) 3
  have d4 : V.cell? ⟨ob + 1, 4, none⟩ = some (.int .i64 e.st) := block_cell (HV.out.2.1) 4
  have d5 : V.cell? ⟨ob + 1, 5, none⟩ = some (.int .i64 e.pol) := block_cell (HV.out.2.1) 5
  have d6 : V.cell? ⟨ob + 1, 6, none⟩ = some (.slice A n c) := block_cell (HV.out.2.1) 6
  have d7 : V.cell? ⟨ob + 1, 7, none⟩ = some (.int .i64 e.at_) := block_cell (HV.out.2.1) 7
  go_upto_region 3 with (fail)
  have X2 := (Ext.refl V).alloc (.cells #[.int .i64 e.cl, .int .i64 e.nu, .int .i64 e.kd, .int .i64 e.at_, .int .i64 e.id, .int .i64 e.sk, .int .i64 e.sq, .int .i64 e.st, .int .i64 e.pol, .int .i64 (n : Int)] 3)
  have o2 : Own (V.alloc (.cells #[.int .i64 e.cl, .int .i64 e.nu, .int .i64 e.kd, .int .i64 e.at_, .int .i64 e.id, .int .i64 e.sk, .int .i64 e.sq, .int .i64 e.st, .int .i64 e.pol, .int .i64 (n : Int)] 3)) w.heap.size 3 1 (some ⟨V.heap.size, 0, none⟩) 10 10 (ints e.head) := (by
    have h := World.ownsRow_lit (base := w.heap.size) (e := 3) (size := 1) V #[.int .i64 e.cl, .int .i64 e.nu, .int .i64 e.kd, .int .i64 e.at_, .int .i64 e.id, .int .i64 e.sk, .int .i64 e.sq, .int .i64 e.st, .int .i64 e.pol, .int .i64 (n : Int)] 10 HV.out.2.2.size (by simp [maxLen]) rfl
    rw [show ints e.head = (#[.int .i64 e.cl, .int .i64 e.nu, .int .i64 e.kd, .int .i64 e.at_, .int .i64 e.id, .int .i64 e.sk, .int .i64 e.sq, .int .i64 e.st, .int .i64 e.pol, .int .i64 (n : Int)] : Array Value).toList by unfold En.head; rw [hsl]; rfl]
    exact h)
  have H2 := Lib.hid (And.intro o2 (And.intro (HV.out.2.2.trans X2) ((X2.block _ (block_lt HV.out.2.1)).trans HV.out.2.1)))
  clear X2 o2
  clear c0 c1 c2 c3 c4 c5 c6 c7 c8 c9 d0 d1 d2 d3 d4 d5 d6 d7
  generalize V.alloc (.cells #[.int .i64 e.cl, .int .i64 e.nu, .int .i64 e.kd, .int .i64 e.at_, .int .i64 e.id, .int .i64 e.sk, .int .i64 e.sq, .int .i64 e.st, .int .i64 e.pol, .int .i64 (n : Int)] 3) = V2 at *
  generalize V.heap.size = lb at *
  have d6 : V2.cell? ⟨ob + 1, 6, none⟩ = some (.slice A n c) := block_cell H2.out.2.2 6
  go_upto_region 4 with (fail)
  clear d6
  go_loopw [4, 6, 40] (fun v4 _ v40 wr => ∃ (k d : Nat) (B : Option Addr), v40 = .int .i64 (k : Int) ∧ v4 = .slice B (10 + 4 * k) d ∧ k ≤ n ∧ Hid (Own wr w.heap.size 3 1 B (10 + 4 * k) d (ints (e.head ++ (e.ts.take k).flatMap Tk.ns)) ∧ Ext w wr)) (fun _ _ v40 _ => n - (intOf v40).toNat)
  case atStart => exact ⟨0, 10, some ⟨lb, 0, none⟩, rfl, rfl, by omega, by simpa using H2.out.1, H2.out.2.1⟩
  case round =>
    obtain ⟨k, d, B, rfl, rfl, hk, HI⟩ := hrel
    clear H2
    by_cases hlt : k < n
    · obtain ⟨x, hx⟩ : ∃ x, e.ts[k]? = some x := ⟨e.ts[k]'(by omega), List.getElem?_eq_getElem _⟩
      obtain ⟨k4, hk4⟩ : ∃ k4, k * 4 = k4 := ⟨_, rfl⟩
      obtain ⟨ad, rfl, y0, y1, y2, y3⟩ := (HS.out.rd.ext HI.out.2).task hx hk4
      have k0 : (0 : Int) ≤ k := by omega
      have k1 : (k : Int) < n := by omega
      have HX := Lib.hid hx
      have X5 := (Ext.refl wr).alloc (.cells #[.int .i64 x.C, .int .i64 x.P, .int .i64 x.D, .int .i64 x.S] 47)
      have H5 := Lib.hid (And.intro (heap_alloc_new wr (.cells #[.int .i64 x.C, .int .i64 x.P, .int .i64 x.D, .int .i64 x.S] 47)) (And.intro (HI.out.1.ext X5) (HI.out.2.trans X5)))
      clear hx X5
      go_upto_region 6 with (fail)
      generalize wr.alloc (.cells #[.int .i64 x.C, .int .i64 x.P, .int .i64 x.D, .int .i64 x.S] 47) = V5 at *
      generalize wr.heap.size = tb at *
      clear y0 y1 y2 y3
      have c0 : V5.cell? ⟨tb, 0, none⟩ = some (.int .i64 x.C) := block_cell H5.out.1 0
      have c1 : V5.cell? ⟨tb, 1, none⟩ = some (.int .i64 x.P) := block_cell H5.out.1 1
      have c2 : V5.cell? ⟨tb, 2, none⟩ = some (.int .i64 x.D) := block_cell H5.out.1 2
      have c3 : V5.cell? ⟨tb, 3, none⟩ = some (.int .i64 x.S) := block_cell H5.out.1 3
      have XA := (Ext.refl V5).alloc (.cells #[.int .i64 x.C, .int .i64 x.P, .int .i64 x.D, .int .i64 x.S] 3)
      have RN : Rd (V5.alloc (.cells #[.int .i64 x.C, .int .i64 x.P, .int .i64 x.D, .int .i64 x.S] 3)) 1 (some ⟨V5.heap.size, 0, none⟩) 4 (ints [x.C, x.P, x.D, x.S]) := Rd.new V5 #[.int .i64 x.C, .int .i64 x.P, .int .i64 x.D, .int .i64 x.S] 3 (0, 0)
      go_wp2_with (at_builtin; refine held ?_)
      refine Held.go (wp_app (m := 4) (news := ints [x.C, x.P, x.D, x.S]) eltIn (H5.out.2.1.ext XA) RN (ints_one' _) (by omega) (.inr ⟨by omega, by omega⟩) (H5.out.2.2.trans XA).size _ _ rfl rfl rfl rfl ?_)
      intro A3 c3' w3 o3 g3 _ _
      rw [← ints_app', ← numsTake e k x HX.out] at o3
      have H6 := Lib.hid (And.intro o3 (g3.ext (H5.out.2.2.trans XA) (fun q hq => (H5.out.2.1).base_le q hq)))
      have h4 : 10 + 4 * k + 4 = 10 + 4 * (k + 1) := by omega
      rw [h4] at H6 ⊢
      clear o3 g3 XA RN c0 c1 c2 c3 h4
      go_wp2_with fail
      go_roundw
      case rel => exact ⟨k + 1, c3', A3, by go_num, rfl, by omega, H6.out.1, H6.out.2⟩
      case measure => simp [intOf]; omega
    · have hkn : k = n := by omega
      have hN : e.head ++ (e.ts.take k).flatMap Tk.ns = e.nums := by rw [List.take_of_length_le (by omega)]; rfl
      have H7 := Lib.hid (And.intro (And.intro HI.out.1 HI.out.2) hN)
      have HKN := Lib.hid hkn
      clear HI hN hkn
      obtain ⟨N, hNN⟩ : ∃ N, 10 + 4 * k = N := ⟨_, rfl⟩
      rw [hNN] at H7 ⊢
      have hN42 : N ≤ 1000 := by omega
      have HNN := Lib.hid hNN
      clear hNN
      have o8 : Own (wr.alloc (.cells #[] 5)) w.heap.size 5 1 (some ⟨wr.heap.size, 0, none⟩) 0 0 (u8s (putN (e.nums.take 0))) := World.ownsRow_lit (size := 1) _ #[] 0 H7.out.1.2.size (by simp [maxLen]) rfl
      have X8 := (Ext.refl wr).alloc (.cells #[] 5)
      have H8 := Lib.hid (And.intro o8 (And.intro (H7.out.1.1.ext X8) (H7.out.1.2.trans X8)))
      clear o8 X8
      go_upto_region 10 with (fail)
      generalize wr.alloc (.cells #[] 5) = V8 at *
      generalize wr.heap.size = b8 at *
      go_loopw [7, 9, 59] (fun v7 _ v59 wr2 => ∃ (i d2 : Nat) (B2 : Option Addr), v59 = .int .i64 (i : Int) ∧ v7 = .slice B2 (putN (e.nums.take i)).length d2 ∧ i ≤ N ∧ Hid (Own wr2 w.heap.size 5 1 B2 (putN (e.nums.take i)).length d2 (u8s (putN (e.nums.take i))) ∧ Own wr2 w.heap.size 3 1 B N d (ints e.nums) ∧ Ext w wr2)) (fun _ _ v59 _ => N - (intOf v59).toNat)
      case atStart => exact ⟨0, 0, some ⟨b8, 0, none⟩, rfl, rfl, by omega, H8.out.1, by rw [← H7.out.2]; exact H8.out.2.1, H8.out.2.2⟩
      case round =>
        obtain ⟨i, d2, B2, rfl, rfl, hi, HJ⟩ := hrel
        clear H8 H7
        have hnl := nums_len e
        by_cases hit : i < N
        · obtain ⟨x, hx⟩ : ∃ x, e.nums[i]? = some x := ⟨e.nums[i]'(by have := HKN.out; have := HNN.out; omega), List.getElem?_eq_getElem _⟩
          obtain ⟨ad, rfl, _, hcell⟩ := HJ.out.2.1.rd.at_ hit
          have y0 := hcell i _ (ints_at' hx)
          have hxf := HF.out x (List.mem_of_getElem? hx)
          have i0 : (0 : Int) ≤ i := by omega
          have i1 : (i : Int) < (N : Int) := by omega
          obtain ⟨v, rfl⟩ : ∃ v : Nat, x = (v : Int) := ⟨x.toNat, by omega⟩
          have CN := Lib.hid (refnum_any v wr (by omega))
          have HX := Lib.hid hx
          have HPL : Hid ((putN (e.nums.take i)).length ≤ 1000 ∧ (Wr.num v).length ≤ 9) := Lib.hid ⟨by
            have h1 := putN_len (e.nums.take i) (fun y hy => by have := HF.out y (List.mem_of_mem_take hy); omega)
            rw [List.length_take] at h1
            omega, numlen9 (by omega)⟩
          clear hcell hx
          go_wp2_with (first | (go_at_call 60; refine CN.out.mono ?_; rintro e w3 ⟨A3, c3, rfl, o3, x3⟩) | (at_builtin; refine held ?_))
          refine Held.go (wp_app (m := (Wr.num v).length) (news := u8s (Wr.num v)) eltU8 (HJ.out.1.ext x3) o3.rd (u8s_one _) (by have := HPL.out; omega) (.inr ⟨by have := HPL.out; omega, by omega⟩) (HJ.out.2.2.trans x3).size _ _ rfl rfl rfl rfl ?_)
          intro A4 c4 w4 o4 g4 hA4 _
          have hpn : putN (e.nums.take (i + 1)) = putN (e.nums.take i) ++ Wr.num v := by rw [take_succ' HX.out, putN_app, putN_one, Int.toNat_natCast]
          have hln : (putN (e.nums.take i)).length + (Wr.num v).length = (putN (e.nums.take (i + 1))).length := by rw [hpn, List.length_append]
          rw [← u8s_append, ← hpn, hln] at o4
          rw [hln]
          have oi : Own w4 w.heap.size 3 1 (some ad) N d (ints e.nums) := (Fr.grows g4).own (HJ.out.2.1.ext x3) (fun a ha e => (HJ.out.1.ext x3).other (HJ.out.2.1.ext x3) (by decide) a ha e)
          have H9 := Lib.hid (And.intro o4 (And.intro oi (g4.ext (HJ.out.2.2.trans x3) (fun q hq => HJ.out.1.base_le q hq))))
          clear o4 g4 hA4 oi o3 x3 CN hpn hln HPL y0
          go_wp2_with fail
          go_roundw
          case rel => exact ⟨i + 1, c4, A4, by go_num, rfl, by omega, H9.out.1, H9.out.2.1, H9.out.2.2⟩
          case measure => simp [intOf]; omega
        · have HE : Hid (e.nums.take i = e.nums) := Lib.hid (List.take_of_length_le (by have := HKN.out; have := HNN.out; omega))
          rw [HE.out] at HJ ⊢
          go_wp2_with fail
          go_returns
          exact ⟨B2, _, d2, rfl, HJ.out.1, HJ.out.2.2⟩
end Go.Proofs.YteflnnlihblpgaaDoor
