/-
  Package order: Last, walked.
-/
import Derived.Test.YteflnnlihblpgaaDoorMgOrderAddsProof12
import Derived.Maps.OwnSet
import Derived.Maps.OwnOps
namespace Go.Proofs.YteflnnlihblpgaaDoor
set_option maxRecDepth 100000
open Go.RowKit
set_option linter.unusedVariables false
set_option maxHeartbeats 1600000 in
theorem put_no (s : EnS) (w : World) (hs : s.Lies w) (hf : s.e.form = false) {ps : Addr} (hS : Sen w 1 ps) : Calls Tryd.prog 26 #[.agg #[.int .i64 s.e.cl, .int .i64 s.e.nu, .int .i64 s.e.kd, .int .i64 s.e.id, .int .i64 s.e.sk, .int .i64 s.e.sq, .int .i64 s.e.st, .int .i64 s.e.pol, .slice s.A s.n s.c, .int .i64 s.e.at_]] w fun x w' => x = .returned (.tuple #[.slice none 0 0, .iface 149 (.pointer (some ps))]) ∧ Ext w w' := by
  have hn := hs.le
  have X1 := (Ext.refl w).alloc (.cells #[.int .i64 s.e.cl, .int .i64 s.e.nu, .int .i64 s.e.kd, .int .i64 s.e.id, .int .i64 s.e.sk, .int .i64 s.e.sq, .int .i64 s.e.st, .int .i64 s.e.pol, .slice s.A s.n s.c, .int .i64 s.e.at_] 29)
  have b1 := heap_alloc_new w (.cells #[.int .i64 s.e.cl, .int .i64 s.e.nu, .int .i64 s.e.kd, .int .i64 s.e.id, .int .i64 s.e.sk, .int .i64 s.e.sq, .int .i64 s.e.st, .int .i64 s.e.pol, .slice s.A s.n s.c, .int .i64 s.e.at_] 29)
  have HV := Lib.hid (And.intro b1 X1)
  clear X1 b1
  have CC := Lib.hid (fun W (hx : Ext w W) => check_no (e := s.e) (c := s.c) (hs.rd.ext hx) (by omega) hf (hS.ext hx))
  clear hs hf hS
  go_enter Tryd.func26, Tryd.ntmps26
  go_upto_region 1 with (fail)
  generalize w.alloc (.cells #[.int .i64 s.e.cl, .int .i64 s.e.nu, .int .i64 s.e.kd, .int .i64 s.e.id, .int .i64 s.e.sk, .int .i64 s.e.sq, .int .i64 s.e.st, .int .i64 s.e.pol, .slice s.A s.n s.c, .int .i64 s.e.at_] 29) = V at *
  generalize w.heap.size = ob at *
  have c0 : V.cell? ⟨ob, 0, none⟩ = some (.int .i64 s.e.cl) := block_cell (HV.out.1) 0
  have c1 : V.cell? ⟨ob, 1, none⟩ = some (.int .i64 s.e.nu) := block_cell (HV.out.1) 1
  have c2 : V.cell? ⟨ob, 2, none⟩ = some (.int .i64 s.e.kd) := block_cell (HV.out.1) 2
  have c3 : V.cell? ⟨ob, 3, none⟩ = some (.int .i64 s.e.id) := block_cell (HV.out.1) 3
  have c4 : V.cell? ⟨ob, 4, none⟩ = some (.int .i64 s.e.sk) := block_cell (HV.out.1) 4
  have c5 : V.cell? ⟨ob, 5, none⟩ = some (.int .i64 s.e.sq) := block_cell (HV.out.1) 5
  have c6 : V.cell? ⟨ob, 6, none⟩ = some (.int .i64 s.e.st) := block_cell (HV.out.1) 6
  have c7 : V.cell? ⟨ob, 7, none⟩ = some (.int .i64 s.e.pol) := block_cell (HV.out.1) 7
  have c8 : V.cell? ⟨ob, 8, none⟩ = some (.slice s.A s.n s.c) := block_cell (HV.out.1) 8
  have c9 : V.cell? ⟨ob, 9, none⟩ = some (.int .i64 s.e.at_) := block_cell (HV.out.1) 9
  go_wp2_with (go_at_call 25; refine (CC.out V HV.out.2).mono ?_; rintro x w1 ⟨rfl, x1⟩)
  go_returns
  exact ⟨rfl, HV.out.2.trans x1⟩
theorem ints_one' (l : List Int) : ∀ u ∈ ints l, u.oneCell' = true := by
  intro u hu; simp [ints] at hu; obtain ⟨n, _, rfl⟩ := hu; rfl
theorem ints_app' (l m : List Int) : ints (l ++ m) = ints l ++ ints m := by simp [ints]
theorem eltIn : Elt Tryd.prog 111 3 1 8 (.int .i64 0) := ⟨Tryd.underlying111, by kernel_rfl, rfl, by omega⟩
theorem numsTake (e : En) (k : Nat) (t : Tk) (h : e.ts[k]? = some t) : e.head ++ (e.ts.take (k + 1)).flatMap Tk.ns = (e.head ++ (e.ts.take k).flatMap Tk.ns) ++ [t.C, t.P, t.D, t.S] := by
  rw [take_succ' h, List.flatMap_append, List.append_assoc]
  simp [Tk.ns]
theorem numsLen (e : En) (k : Nat) (h : k ≤ e.ts.length) : (e.head ++ (e.ts.take k).flatMap Tk.ns).length = 10 + 4 * k := by
  rw [List.length_append, flat4, List.length_take, Nat.min_eq_left h]
  rfl
set_option maxHeartbeats 3200000 in
theorem rput_any (e : En) (A : Option Addr) (n c : Nat) (w : World) (hs : EnS.Lies ⟨e, A, n, c⟩ w) (hf : e.form = true) : Calls Tryd.prog 29 #[.agg #[.int .i64 e.cl, .int .i64 e.nu, .int .i64 e.kd, .int .i64 e.id, .int .i64 e.sk, .int .i64 e.sq, .int .i64 e.st, .int .i64 e.pol, .slice A n c, .int .i64 e.at_]] w fun x w' => ∃ B m d, x = .returned (.slice B m d) ∧ Own w' w.heap.size 5 1 B m d (u8s e.put) ∧ Ext w w' := by
  have hsl : e.ts.length = n := hs.len
  have h8 := (form_fits hf).2
  have HF := Lib.hid (form_fits hf).1
  have HS := Lib.hid hs
  have X1 := (Ext.refl w).alloc (.cells #[.int .i64 e.cl, .int .i64 e.nu, .int .i64 e.kd, .int .i64 e.id, .int .i64 e.sk, .int .i64 e.sq, .int .i64 e.st, .int .i64 e.pol, .slice A n c, .int .i64 e.at_] 29)
  have X2 := X1.alloc (.cells #[.int .i64 e.kd, .int .i64 e.id, .int .i64 e.sk, .int .i64 e.sq, .int .i64 e.st, .int .i64 e.pol, .slice A n c, .int .i64 e.at_] 27)
  have b1 := heap_alloc_new w (.cells #[.int .i64 e.cl, .int .i64 e.nu, .int .i64 e.kd, .int .i64 e.id, .int .i64 e.sk, .int .i64 e.sq, .int .i64 e.st, .int .i64 e.pol, .slice A n c, .int .i64 e.at_] 29)
  have b2 := heap_alloc_new (w.alloc (.cells #[.int .i64 e.cl, .int .i64 e.nu, .int .i64 e.kd, .int .i64 e.id, .int .i64 e.sk, .int .i64 e.sq, .int .i64 e.st, .int .i64 e.pol, .slice A n c, .int .i64 e.at_] 29)) (.cells #[.int .i64 e.kd, .int .i64 e.id, .int .i64 e.sk, .int .i64 e.sq, .int .i64 e.st, .int .i64 e.pol, .slice A n c, .int .i64 e.at_] 27)
  rw [World.size_alloc] at b2
  have b3 := (((Ext.refl (w.alloc (.cells #[.int .i64 e.cl, .int .i64 e.nu, .int .i64 e.kd, .int .i64 e.id, .int .i64 e.sk, .int .i64 e.sq, .int .i64 e.st, .int .i64 e.pol, .slice A n c, .int .i64 e.at_] 29))).alloc (.cells #[.int .i64 e.kd, .int .i64 e.id, .int .i64 e.sk, .int .i64 e.sq, .int .i64 e.st, .int .i64 e.pol, .slice A n c, .int .i64 e.at_] 27)).block _ (block_lt b1)).trans b1
  have HV := Lib.hid (And.intro b3 (And.intro b2 X2))
  clear X1 X2 b1 b2 b3
  clear hs hf
  go_enter Tryd.func29, Tryd.ntmps29
  go_upto_region 2 with (fail)
  generalize (w.alloc (.cells #[.int .i64 e.cl, .int .i64 e.nu, .int .i64 e.kd, .int .i64 e.id, .int .i64 e.sk, .int .i64 e.sq, .int .i64 e.st, .int .i64 e.pol, .slice A n c, .int .i64 e.at_] 29)).alloc (.cells #[.int .i64 e.kd, .int .i64 e.id, .int .i64 e.sk, .int .i64 e.sq, .int .i64 e.st, .int .i64 e.pol, .slice A n c, .int .i64 e.at_] 27) = V at *
  generalize w.heap.size = ob at *
  have c0 : V.cell? ⟨ob, 0, none⟩ = some (.int .i64 e.cl) := block_cell (HV.out.1) 0
  have c1 : V.cell? ⟨ob, 1, none⟩ = some (.int .i64 e.nu) := block_cell (HV.out.1) 1
  have c2 : V.cell? ⟨ob, 2, none⟩ = some (.int .i64 e.kd) := block_cell (HV.out.1) 2
  have c3 : V.cell? ⟨ob, 3, none⟩ = some (.int .i64 e.id) := block_cell (HV.out.1) 3
  have c4 : V.cell? ⟨ob, 4, none⟩ = some (.int .i64 e.sk) := block_cell (HV.out.1) 4
  have c5 : V.cell? ⟨ob, 5, none⟩ = some (.int .i64 e.sq) := block_cell (HV.out.1) 5
  have c6 : V.cell? ⟨ob, 6, none⟩ = some (.int .i64 e.st) := block_cell (HV.out.1) 6
  have c7 : V.cell? ⟨ob, 7, none⟩ = some (.int .i64 e.pol) := block_cell (HV.out.1) 7
  have c8 : V.cell? ⟨ob, 8, none⟩ = some (.slice A n c) := block_cell (HV.out.1) 8
  have c9 : V.cell? ⟨ob, 9, none⟩ = some (.int .i64 e.at_) := block_cell (HV.out.1) 9
  have d0 : V.cell? ⟨ob + 1, 0, none⟩ = some (.int .i64 e.kd) := block_cell (HV.out.2.1) 0
  have d1 : V.cell? ⟨ob + 1, 1, none⟩ = some (.int .i64 e.id) := block_cell (HV.out.2.1) 1
  have d2 : V.cell? ⟨ob + 1, 2, none⟩ = some (.int .i64 e.sk) := block_cell (HV.out.2.1) 2
  have d3 : V.cell? ⟨ob + 1, 3, none⟩ = some (.int .i64 e.sq) := block_cell (HV.out.2.1) 3
  have d4 : V.cell? ⟨ob + 1, 4, none⟩ = some (.int .i64 e.st) := block_cell (HV.out.2.1) 4
  have d5 : V.cell? ⟨ob + 1, 5, none⟩ = some (.int .i64 e.pol) := block_cell (HV.out.2.1) 5
  have d6 : V.cell? ⟨ob + 1, 6, none⟩ = some (.slice A n c) := block_cell (HV.out.2.1) 6
  have d7 : V.cell? ⟨ob + 1, 7, none⟩ = some (.int .i64 e.at_) := block_cell (HV.out.2.1) 7
  go_upto_region 3 with (fail)
  have X2 := (Ext.refl V).alloc (.cells #[.int .i64 e.cl, .int .i64 e.nu, .int .i64 e.kd, .int .i64 e.at_, .int .i64 e.id, .int .i64 e.sk, .int .i64 e.sq, .int .i64 e.st, .int .i64 e.pol, .int .i64 (n : Int)] 3)
  have o2 : Own (V.alloc (.cells #[.int .i64 e.cl, .int .i64 e.nu, .int .i64 e.kd, .int .i64 e.at_, .int .i64 e.id, .int .i64 e.sk, .int .i64 e.sq, .int .i64 e.st, .int .i64 e.pol, .int .i64 (n : Int)] 3)) w.heap.size 3 1 (some ⟨V.heap.size, 0, none⟩) 10 10 (ints e.head) := (by
    have h := World.ownsRow_lit (base := w.heap.size) (e := 3) (size := 1) V #[.int .i64 e.cl, .int .i64 e.nu, .int .i64 e.kd, .int .i64 e.at_, .int .i64 e.id, .int .i64 e.sk, .int .i64 e.sq, .int .i64 e.st, .int .i64 e.pol, .int .i64 (n : Int)] 10 HV.out.2.2.size (by simp [maxLen]) rfl
    rw [show ints e.head = (#[.int .i64 e.cl, .int .i64 e.nu, .int .i64 e.kd, .int .i64 e.at_, .int .i64 e.id, .int .i64 e.sk, .int .i64 e.sq, .int .i64 e.st, .int .i64 e.pol, .int .i64 (n : Int)] : Array Value).toList by unfold En.head; rw [hsl]; rfl]
    exact h)
  have H2 := Lib.hid (And.intro o2 (And.intro (HV.out.2.2.trans X2) ((X2.block _ (block_lt HV.out.2.1)).trans HV.out.2.1)))
  clear X2 o2
  clear c0 c1 c2 c3 c4 c5 c6 c7 c8 c9 d0 d1 d2 d3 d4 d5 d6 d7
  generalize V.alloc (.cells #[.int .i64 e.cl, .int .i64 e.nu, .int .i64 e.kd, .int .i64 e.at_, .int .i64 e.id, .int .i64 e.sk, .int .i64 e.sq, .int .i64 e.st, .int .i64 e.pol, .int .i64 (n : Int)] 3) = V2 at *
  generalize V.heap.size = lb at *
  have d6 : V2.cell? ⟨ob + 1, 6, none⟩ = some (.slice A n c) := block_cell H2.out.2.2 6
  go_upto_region 4 with (fail)
  clear d6
  go_loopw [4, 6, 40] (fun v4 _ v40 wr => ∃ (k d : Nat) (B : Option Addr), v40 = .int .i64 (k : Int) ∧ v4 = .slice B (10 + 4 * k) d ∧ k ≤ n ∧ Hid (Own wr w.heap.size 3 1 B (10 + 4 * k) d (ints (e.head ++ (e.ts.take k).flatMap Tk.ns)) ∧ Ext w wr)) (fun _ _ v40 _ => n - (intOf v40).toNat)
  case atStart => exact ⟨0, 10, some ⟨lb, 0, none⟩, rfl, rfl, by omega, by simpa using H2.out.1, H2.out.2.1⟩
  case round =>
    obtain ⟨k, d, B, rfl, rfl, hk, HI⟩ := hrel
    clear H2
    by_cases hlt : k < n
    · obtain ⟨x, hx⟩ : ∃ x, e.ts[k]? = some x := ⟨e.ts[k]'(by omega), List.getElem?_eq_getElem _⟩
      obtain ⟨k4, hk4⟩ : ∃ k4, k * 4 = k4 := ⟨_, rfl⟩
      obtain ⟨ad, rfl, y0, y1, y2, y3⟩ := (HS.out.rd.ext HI.out.2).task hx hk4
      have k0 : (0 : Int) ≤ k := by omega
      have k1 : (k : Int) < n := by omega
      have HX := Lib.hid hx
      have X5 := (Ext.refl wr).alloc (.cells #[.int .i64 x.C, .int .i64 x.P, .int .i64 x.D, .int .i64 x.S] 47)
      have H5 := Lib.hid (And.intro (heap_alloc_new wr (.cells #[.int .i64 x.C, .int .i64 x.P, .int .i64 x.D, .int .i64 x.S] 47)) (And.intro (HI.out.1.ext X5) (HI.out.2.trans X5)))
      clear hx X5
      go_upto_region 6 with (fail)
      generalize wr.alloc (.cells #[.int .i64 x.C, .int .i64 x.P, .int .i64 x.D, .int .i64 x.S] 47) = V5 at *
      generalize wr.heap.size = tb at *
      clear y0 y1 y2 y3
      have c0 : V5.cell? ⟨tb, 0, none⟩ = some (.int .i64 x.C) := block_cell H5.out.1 0
      have c1 : V5.cell? ⟨tb, 1, none⟩ = some (.int .i64 x.P) := block_cell H5.out.1 1
      have c2 : V5.cell? ⟨tb, 2, none⟩ = some (.int .i64 x.D) := block_cell H5.out.1 2
      have c3 : V5.cell? ⟨tb, 3, none⟩ = some (.int .i64 x.S) := block_cell H5.out.1 3
      have XA := (Ext.refl V5).alloc (.cells #[.int .i64 x.C, .int .i64 x.P, .int .i64 x.D, .int .i64 x.S] 3)
      have RN : Rd (V5.alloc (.cells #[.int .i64 x.C, .int .i64 x.P, .int .i64 x.D, .int .i64 x.S] 3)) 1 (some ⟨V5.heap.size, 0, none⟩) 4 (ints [x.C, x.P, x.D, x.S]) := Rd.new V5 #[.int .i64 x.C, .int .i64 x.P, .int .i64 x.D, .int .i64 x.S] 3 (0, 0)
      go_wp2_with (at_builtin; refine held ?_)
      refine Held.go (wp_app (m := 4) (news := ints [x.C, x.P, x.D, x.S]) eltIn (H5.out.2.1.ext XA) RN (ints_one' _) (by omega) (.inr ⟨by omega, by omega⟩) (H5.out.2.2.trans XA).size _ _ rfl rfl rfl rfl ?_)
      intro A3 c3' w3 o3 g3 _ _
      rw [← ints_app', ← numsTake e k x HX.out] at o3
      have H6 := Lib.hid (And.intro o3 (g3.ext (H5.out.2.2.trans XA) (fun q hq => (H5.out.2.1).base_le q hq)))
      have h4 : 10 + 4 * k + 4 = 10 + 4 * (k + 1) := by omega
      rw [h4] at H6 ⊢
      clear o3 g3 XA RN c0 c1 c2 c3 h4
      go_wp2_with fail
      go_roundw
      case rel => exact ⟨k + 1, c3', A3, by go_num, rfl, by omega, H6.out.1, H6.out.2⟩
      case measure => simp [intOf]; omega
    · have hkn : k = n := by omega
      have hN : e.head ++ (e.ts.take k).flatMap Tk.ns = e.nums := by rw [List.take_of_length_le (by omega)]; rfl
      have H7 := Lib.hid (And.intro (And.intro HI.out.1 HI.out.2) hN)
      have HKN := Lib.hid hkn
      clear HI hN hkn
      obtain ⟨N, hNN⟩ : ∃ N, 10 + 4 * k = N := ⟨_, rfl⟩
      rw [hNN] at H7 ⊢
      have hN42 : N ≤ 1000 := by omega
      have HNN := Lib.hid hNN
      clear hNN
      have o8 : Own (wr.alloc (.cells #[] 5)) w.heap.size 5 1 (some ⟨wr.heap.size, 0, none⟩) 0 0 (u8s (putN (e.nums.take 0))) := World.ownsRow_lit (size := 1) _ #[] 0 H7.out.1.2.size (by simp [maxLen]) rfl
      have X8 := (Ext.refl wr).alloc (.cells #[] 5)
      have H8 := Lib.hid (And.intro o8 (And.intro (H7.out.1.1.ext X8) (H7.out.1.2.trans X8)))
      clear o8 X8
      go_upto_region 10 with (fail)
      generalize wr.alloc (.cells #[] 5) = V8 at *
      generalize wr.heap.size = b8 at *
      go_loopw [7, 9, 59] (fun v7 _ v59 wr2 => ∃ (i d2 : Nat) (B2 : Option Addr), v59 = .int .i64 (i : Int) ∧ v7 = .slice B2 (putN (e.nums.take i)).length d2 ∧ i ≤ N ∧ Hid (Own wr2 w.heap.size 5 1 B2 (putN (e.nums.take i)).length d2 (u8s (putN (e.nums.take i))) ∧ Own wr2 w.heap.size 3 1 B N d (ints e.nums) ∧ Ext w wr2)) (fun _ _ v59 _ => N - (intOf v59).toNat)
      case atStart => exact ⟨0, 0, some ⟨b8, 0, none⟩, rfl, rfl, by omega, H8.out.1, by rw [← H7.out.2]; exact H8.out.2.1, H8.out.2.2⟩
      case round =>
        obtain ⟨i, d2, B2, rfl, rfl, hi, HJ⟩ := hrel
        clear H8 H7
        have hnl := nums_len e
        by_cases hit : i < N
        · obtain ⟨x, hx⟩ : ∃ x, e.nums[i]? = some x := ⟨e.nums[i]'(by have := HKN.out; have := HNN.out; omega), List.getElem?_eq_getElem _⟩
          obtain ⟨ad, rfl, _, hcell⟩ := HJ.out.2.1.rd.at_ hit
          have y0 := hcell i _ (ints_at' hx)
          have hxf := HF.out x (List.mem_of_getElem? hx)
          have i0 : (0 : Int) ≤ i := by omega
          have i1 : (i : Int) < (N : Int) := by omega
          obtain ⟨v, rfl⟩ : ∃ v : Nat, x = (v : Int) := ⟨x.toNat, by omega⟩
          have CN := Lib.hid (refnum_any v wr (by omega))
          have HX := Lib.hid hx
          have HPL : Hid ((putN (e.nums.take i)).length ≤ 1000 ∧ (Wr.num v).length ≤ 9) := Lib.hid ⟨by
            have h1 := putN_len (e.nums.take i) (fun y hy => by have := HF.out y (List.mem_of_mem_take hy); omega)
            rw [List.length_take] at h1
            omega, numlen9 (by omega)⟩
          clear hcell hx
          go_wp2_with (first | (go_at_call 60; refine CN.out.mono ?_; rintro e w3 ⟨A3, c3, rfl, o3, x3⟩) | (at_builtin; refine held ?_))
          refine Held.go (wp_app (m := (Wr.num v).length) (news := u8s (Wr.num v)) eltU8 (HJ.out.1.ext x3) o3.rd (u8s_one _) (by have := HPL.out; omega) (.inr ⟨by have := HPL.out; omega, by omega⟩) (HJ.out.2.2.trans x3).size _ _ rfl rfl rfl rfl ?_)
          intro A4 c4 w4 o4 g4 hA4 _
          have hpn : putN (e.nums.take (i + 1)) = putN (e.nums.take i) ++ Wr.num v := by rw [take_succ' HX.out, putN_app, putN_one, Int.toNat_natCast]
          have hln : (putN (e.nums.take i)).length + (Wr.num v).length = (putN (e.nums.take (i + 1))).length := by rw [hpn, List.length_append]
          rw [← u8s_append, ← hpn, hln] at o4
          rw [hln]
          have oi : Own w4 w.heap.size 3 1 (some ad) N d (ints e.nums) := (Fr.grows g4).own (HJ.out.2.1.ext x3) (fun a ha e => (HJ.out.1.ext x3).other (HJ.out.2.1.ext x3) (by decide) a ha e)
          have H9 := Lib.hid (And.intro o4 (And.intro oi (g4.ext (HJ.out.2.2.trans x3) (fun q hq => HJ.out.1.base_le q hq))))
          clear o4 g4 hA4 oi o3 x3 CN hpn hln HPL y0
          go_wp2_with fail
          go_roundw
          case rel => exact ⟨i + 1, c4, A4, by go_num, rfl, by omega, H9.out.1, H9.out.2.1, H9.out.2.2⟩
          case measure => simp [intOf]; omega
        · have HE : Hid (e.nums.take i = e.nums) := Lib.hid (List.take_of_length_le (by have := HKN.out; have := HNN.out; omega))
          rw [HE.out] at HJ ⊢
          go_wp2_with fail
          go_returns
          exact ⟨B2, _, d2, rfl, HJ.out.1, HJ.out.2.2⟩
end Go.Proofs.YteflnnlihblpgaaDoor
namespace Go.Proofs.YteflnnlihblpgaaDoor
set_option maxRecDepth 100000
open Go.RowKit
set_option linter.unusedVariables false
def en0 : En := ⟨1, 2, 3, 5, 0, 0, 0, 0, 7, []⟩
theorem en0_put : en0.put = [1, 2, 3, 7, 5, 0, 0, 0, 0, 0] := by
  show putN [1, 2, 3, 7, 5, 0, 0, 0, 0, 0] = _
  have h : ∀ x : Int, x < 128 → Wr.num x.toNat = [x.toNat] := fun x hx => Wr.num_small (by omega)
  simp only [putN, List.flatMap_cons, List.flatMap_nil]
  rw [h 1 (by decide), h 2 (by decide), h 3 (by decide), h 7 (by decide), h 5 (by decide), h 0 (by decide)]
  rfl
theorem en0_form : en0.form = true := by decide
set_option maxHeartbeats 1600000 in
theorem alive_any (w : World) : Calls Tryd.prog 12 #[] w fun x w' => x = .returned (.bool true) ∧ Ext w w' := by
  have CP : Hid (Calls Tryd.prog 26 #[.agg #[.int .i64 1, .int .i64 2, .int .i64 3, .int .i64 5, .int .i64 0, .int .i64 0, .int .i64 0, .int .i64 0, .slice none 0 0, .int .i64 7]] w fun x w' => ∃ B m d, x = .returned (.tuple #[.slice B m d, .nilIface]) ∧ Own w' w.heap.size 5 1 B m d (u8s en0.put) ∧ Ext w w') := Lib.hid (put_ok (e := en0) (A := none) (n := 0) (c := 0) Rd.nil_ en0_form)
  rw [en0_put] at CP
  go_enter Tryd.func12, Tryd.ntmps12
  go_upto_region 2 with (go_at_call 26; refine CP.out.mono ?_; rintro x w1 ⟨B, m, d, rfl, o1, x1⟩)
  have r1 := run_str (P := Tryd.prog) (w := w1) (s := 9) Tryd.underlying54 Tryd.underlying5 Tryd.underlying9 d o1.rd
  rw [show str [1, 2, 3, 7, 5, 0, 0, 0, 0, 0] = ⟨#[1, 2, 3, 7, 5, 0, 0, 0, 0, 0]⟩ from rfl] at r1
  have HX := Lib.hid x1
  clear o1 x1 CP
  go_wp2_with fail
  go_returns
  exact ⟨rfl, HX.out⟩
theorem get_one {e : En} (he : e.form = true) {base : Nat} {bad good : Value} {x : Ending} {w' : World} (h : GetOut e.put base bad good x w') : ∃ A n c, x = .returned (.tuple #[.agg #[.int .i64 e.cl, .int .i64 e.nu, .int .i64 e.kd, .int .i64 e.id, .int .i64 e.sk, .int .i64 e.sq, .int .i64 e.st, .int .i64 e.pol, .slice A n c, .int .i64 e.at_], good]) ∧ EnS.Lies ⟨e, A, n, c⟩ w' := by
  rcases h with ⟨⟨d, A, n, c⟩, h1, h2, h3, h4, _⟩ | ⟨h1, _⟩
  · obtain rfl := put_inj he h1 h2
    exact ⟨A, n, c, h3, h4⟩
  · exact absurd rfl (h1 e he)
theorem one_ent {tt : List EnS} {e : En} (h : ents tt = [e]) : ∃ A n c, tt = [⟨e, A, n, c⟩] := by
  match tt, h with
  | [⟨e', A, n, c⟩], h => exact ⟨A, n, c, by simp [ents] at h; rw [h]⟩
set_option maxHeartbeats 6400000 in
theorem forms_any (e : En) (A : Option Addr) (n c : Nat) (w : World) (hs : EnS.Lies ⟨e, A, n, c⟩ w) {pb ps : Addr} (hB : Sen w 2 pb) (hS : Sen w 1 ps) : Calls Tryd.prog 5 #[.agg #[.int .i64 e.cl, .int .i64 e.nu, .int .i64 e.kd, .int .i64 e.id, .int .i64 e.sk, .int .i64 e.sq, .int .i64 e.st, .int .i64 e.pol, .slice A n c, .int .i64 e.at_]] w fun x w' => x = .returned (.bool true) ∧ Ext w w' := by
  have HS := Lib.hid (fun W (hx : Ext w W) => And.intro (hs.ext hx) (And.intro (hB.ext hx) (hS.ext hx)))
  have X1 := (Ext.refl w).alloc (.cells #[.int .i64 e.cl, .int .i64 e.nu, .int .i64 e.kd, .int .i64 e.id, .int .i64 e.sk, .int .i64 e.sq, .int .i64 e.st, .int .i64 e.pol, .slice A n c, .int .i64 e.at_] 29)
  have b1 := heap_alloc_new w (.cells #[.int .i64 e.cl, .int .i64 e.nu, .int .i64 e.kd, .int .i64 e.id, .int .i64 e.sk, .int .i64 e.sq, .int .i64 e.st, .int .i64 e.pol, .slice A n c, .int .i64 e.at_] 29)
  have HV := Lib.hid (And.intro b1 X1)
  clear X1 b1
  clear hs hB hS
  go_enter Tryd.func5, Tryd.ntmps5
  go_upto_region 1 with (fail)
  generalize w.alloc (.cells #[.int .i64 e.cl, .int .i64 e.nu, .int .i64 e.kd, .int .i64 e.id, .int .i64 e.sk, .int .i64 e.sq, .int .i64 e.st, .int .i64 e.pol, .slice A n c, .int .i64 e.at_] 29) = V at *
  generalize w.heap.size = ob at *
  have CA := Lib.hid (alive_any V)
  go_upto_region 3 with (go_at_call 12; refine CA.out.mono ?_; rintro x w1 ⟨rfl, x1⟩)
  have H1 := Lib.hid (And.intro ((x1.block _ (block_lt HV.out.1)).trans HV.out.1) (HV.out.2.trans x1))
  clear CA x1
  have g0 : w1.cell? ⟨ob, 0, none⟩ = some (.int .i64 e.cl) := block_cell (H1.out.1) 0
  have g1 : w1.cell? ⟨ob, 1, none⟩ = some (.int .i64 e.nu) := block_cell (H1.out.1) 1
  have g2 : w1.cell? ⟨ob, 2, none⟩ = some (.int .i64 e.kd) := block_cell (H1.out.1) 2
  have g3 : w1.cell? ⟨ob, 3, none⟩ = some (.int .i64 e.id) := block_cell (H1.out.1) 3
  have g4 : w1.cell? ⟨ob, 4, none⟩ = some (.int .i64 e.sk) := block_cell (H1.out.1) 4
  have g5 : w1.cell? ⟨ob, 5, none⟩ = some (.int .i64 e.sq) := block_cell (H1.out.1) 5
  have g6 : w1.cell? ⟨ob, 6, none⟩ = some (.int .i64 e.st) := block_cell (H1.out.1) 6
  have g7 : w1.cell? ⟨ob, 7, none⟩ = some (.int .i64 e.pol) := block_cell (H1.out.1) 7
  have g8 : w1.cell? ⟨ob, 8, none⟩ = some (.slice A n c) := block_cell (H1.out.1) 8
  have g9 : w1.cell? ⟨ob, 9, none⟩ = some (.int .i64 e.at_) := block_cell (H1.out.1) 9
  have XB := (Ext.refl w1).alloc (.cells #[.int .i64 e.cl, .int .i64 e.nu, .int .i64 e.kd, .int .i64 e.id, .int .i64 e.sk, .int .i64 e.sq, .int .i64 e.st, .int .i64 e.pol, .slice A n c, .int .i64 e.at_] 29)
  have CC := Lib.hid (rcopy_any (some ⟨w1.heap.size, 0, none⟩) 1 1 [⟨e, A, n, c⟩] (w1.alloc (.cells #[.int .i64 e.cl, .int .i64 e.nu, .int .i64 e.kd, .int .i64 e.id, .int .i64 e.sk, .int .i64 e.sq, .int .i64 e.st, .int .i64 e.pol, .slice A n c, .int .i64 e.at_] 29)) ⟨by simpa [erows] using rd_entry ⟨e, A, n, c⟩ w1, fun q hq => by
    obtain rfl := List.mem_singleton.1 hq
    exact (HS.out _ (H1.out.2.trans XB)).1⟩ (by omega))
  have HXB := Lib.hid XB
  clear XB
  go_wp2_with (go_at_call 13; refine held ?_)
  refine Held.go (CC.out.mono ?_)
  rintro x w2 ⟨B, d, tt, rfl, htt, ho, x2⟩
  obtain ⟨A1, n1, c1, rfl⟩ := one_ent htt
  obtain ⟨ad, rfl, y0, y1, y2, y3, y4, y5, y6, y7, y8, y9⟩ := ho.led.entry (k := 0) (k10 := 0) rfl rfl
  rw [show ad.add 0 = ad by unfold Addr.add; rw [if_pos rfl]] at y0 y1 y2 y3 y4 y5 y6 y7 y8 y9
  have HL := Lib.hid (And.intro (ho.all _ (List.mem_singleton.2 rfl)).1 (HXB.out.trans x2))
  clear ho x2 htt CC
  have XB := (Ext.refl w2).alloc (.cells #[.int .i64 e.cl, .int .i64 e.nu, .int .i64 e.kd, .int .i64 e.id, .int .i64 e.sk, .int .i64 e.sq, .int .i64 e.st, .int .i64 e.pol, .slice A1 n1 c1, .int .i64 e.at_] 29)
  have H2 := Lib.hid (And.intro (heap_alloc_new w2 (.cells #[.int .i64 e.cl, .int .i64 e.nu, .int .i64 e.kd, .int .i64 e.id, .int .i64 e.sk, .int .i64 e.sq, .int .i64 e.st, .int .i64 e.pol, .slice A1 n1 c1, .int .i64 e.at_] 29)) (And.intro (((HL.out.2.trans XB).block _ (block_lt H1.out.1)).trans H1.out.1) (And.intro (HL.out.1.ext XB) (H1.out.2.trans (HL.out.2.trans XB)))))
  clear XB
  go_upto_region 4 with (fail)
  clear y0 y1 y2 y3 y4 y5 y6 y7 y8 y9 g0 g1 g2 g3 g4 g5 g6 g7 g8 g9
  generalize w2.alloc (.cells #[.int .i64 e.cl, .int .i64 e.nu, .int .i64 e.kd, .int .i64 e.id, .int .i64 e.sk, .int .i64 e.sq, .int .i64 e.st, .int .i64 e.pol, .slice A1 n1 c1, .int .i64 e.at_] 29) = V3 at *
  generalize w2.heap.size = tb at *
  have p0 : ∀ W, Ext V3 W → W.cell? ⟨tb, 0, none⟩ = some (.int .i64 e.cl) := fun W hx => block_cell ((hx.block _ (block_lt (H2.out.1))).trans (H2.out.1)) 0
  have p1 : ∀ W, Ext V3 W → W.cell? ⟨tb, 1, none⟩ = some (.int .i64 e.nu) := fun W hx => block_cell ((hx.block _ (block_lt (H2.out.1))).trans (H2.out.1)) 1
  have p2 : ∀ W, Ext V3 W → W.cell? ⟨tb, 2, none⟩ = some (.int .i64 e.kd) := fun W hx => block_cell ((hx.block _ (block_lt (H2.out.1))).trans (H2.out.1)) 2
  have p3 : ∀ W, Ext V3 W → W.cell? ⟨tb, 3, none⟩ = some (.int .i64 e.id) := fun W hx => block_cell ((hx.block _ (block_lt (H2.out.1))).trans (H2.out.1)) 3
  have p4 : ∀ W, Ext V3 W → W.cell? ⟨tb, 4, none⟩ = some (.int .i64 e.sk) := fun W hx => block_cell ((hx.block _ (block_lt (H2.out.1))).trans (H2.out.1)) 4
  have p5 : ∀ W, Ext V3 W → W.cell? ⟨tb, 5, none⟩ = some (.int .i64 e.sq) := fun W hx => block_cell ((hx.block _ (block_lt (H2.out.1))).trans (H2.out.1)) 5
  have p6 : ∀ W, Ext V3 W → W.cell? ⟨tb, 6, none⟩ = some (.int .i64 e.st) := fun W hx => block_cell ((hx.block _ (block_lt (H2.out.1))).trans (H2.out.1)) 6
  have p7 : ∀ W, Ext V3 W → W.cell? ⟨tb, 7, none⟩ = some (.int .i64 e.pol) := fun W hx => block_cell ((hx.block _ (block_lt (H2.out.1))).trans (H2.out.1)) 7
  have p8 : ∀ W, Ext V3 W → W.cell? ⟨tb, 8, none⟩ = some (.slice A1 n1 c1) := fun W hx => block_cell ((hx.block _ (block_lt (H2.out.1))).trans (H2.out.1)) 8
  have p9 : ∀ W, Ext V3 W → W.cell? ⟨tb, 9, none⟩ = some (.int .i64 e.at_) := fun W hx => block_cell ((hx.block _ (block_lt (H2.out.1))).trans (H2.out.1)) 9
  have q0 : ∀ W, Ext V3 W → W.cell? ⟨ob, 0, none⟩ = some (.int .i64 e.cl) := fun W hx => block_cell ((hx.block _ (block_lt (H2.out.2.1))).trans (H2.out.2.1)) 0
  have q1 : ∀ W, Ext V3 W → W.cell? ⟨ob, 1, none⟩ = some (.int .i64 e.nu) := fun W hx => block_cell ((hx.block _ (block_lt (H2.out.2.1))).trans (H2.out.2.1)) 1
  have q2 : ∀ W, Ext V3 W → W.cell? ⟨ob, 2, none⟩ = some (.int .i64 e.kd) := fun W hx => block_cell ((hx.block _ (block_lt (H2.out.2.1))).trans (H2.out.2.1)) 2
  have q3 : ∀ W, Ext V3 W → W.cell? ⟨ob, 3, none⟩ = some (.int .i64 e.id) := fun W hx => block_cell ((hx.block _ (block_lt (H2.out.2.1))).trans (H2.out.2.1)) 3
  have q4 : ∀ W, Ext V3 W → W.cell? ⟨ob, 4, none⟩ = some (.int .i64 e.sk) := fun W hx => block_cell ((hx.block _ (block_lt (H2.out.2.1))).trans (H2.out.2.1)) 4
  have q5 : ∀ W, Ext V3 W → W.cell? ⟨ob, 5, none⟩ = some (.int .i64 e.sq) := fun W hx => block_cell ((hx.block _ (block_lt (H2.out.2.1))).trans (H2.out.2.1)) 5
  have q6 : ∀ W, Ext V3 W → W.cell? ⟨ob, 6, none⟩ = some (.int .i64 e.st) := fun W hx => block_cell ((hx.block _ (block_lt (H2.out.2.1))).trans (H2.out.2.1)) 6
  have q7 : ∀ W, Ext V3 W → W.cell? ⟨ob, 7, none⟩ = some (.int .i64 e.pol) := fun W hx => block_cell ((hx.block _ (block_lt (H2.out.2.1))).trans (H2.out.2.1)) 7
  have q8 : ∀ W, Ext V3 W → W.cell? ⟨ob, 8, none⟩ = some (.slice A n c) := fun W hx => block_cell ((hx.block _ (block_lt (H2.out.2.1))).trans (H2.out.2.1)) 8
  have q9 : ∀ W, Ext V3 W → W.cell? ⟨ob, 9, none⟩ = some (.int .i64 e.at_) := fun W hx => block_cell ((hx.block _ (block_lt (H2.out.2.1))).trans (H2.out.2.1)) 9
  have H3 := Lib.hid (And.intro H2.out.2.2.1 H2.out.2.2.2)
  have HW := Lib.hid (fun W (hx : Ext V3 W) => (show EnS.Lies ⟨e, A, n, c⟩ W ∧ EnS.Lies ⟨e, A1, n1, c1⟩ W ∧ Sen W 2 pb ∧ Sen W 1 ps from by
    have h := HS.out W (H3.out.2.trans hx)
    exact ⟨h.1, H3.out.1.ext hx, h.2.1, h.2.2⟩))
  skip
  have X0 : Ext V3 V3 := Ext.refl V3
  have CS := Lib.hid (fun W (hx : Ext V3 W) => rsame_any ⟨e, A1, n1, c1⟩ ⟨e, A, n, c⟩ W (HW.out W hx).2.1 (HW.out W hx).1 true (Lib.hid (decide_eq_true rfl)))
  have ES := err_same
  by_cases hf : e.form = true
  · have CK := Lib.hid (fun W (hx : Ext V3 W) => check_ok (e := e) (c := c1) (HW.out W hx).2.1.rd (Nat.le_trans (HW.out W hx).2.1.le (by decide)) hf)
    have CP := Lib.hid (fun W (hx : Ext V3 W) => put_ok (e := e) (c := c1) (HW.out W hx).2.1.rd hf)
    have CF := Lib.hid (fun W (hx : Ext V3 W) => rform_any e A n c W (HW.out W hx).1 true (Lib.hid hf))
    have CG := Lib.hid (fun W (hx : Ext V3 W) (B : Option Addr) (m d : Nat) (hr : Rd W 1 B m (u8s e.put)) => get_any B m d e.put W hr e.put_byte (by have h1 := put_len hf; have h2 := hr.len; rw [u8s_len] at h2; omega) (HW.out W hx).2.2.1 (HW.out W hx).2.2.2)
    have CR := Lib.hid (fun W (hx : Ext V3 W) => rput_any e A n c W (HW.out W hx).1 hf)
    have HF := Lib.hid hf
    clear hf
    go_upto_region 10 with (first | (go_at_call 25; refine (CK.out _ X0).mono ?_; rintro x w3 ⟨rfl, x3⟩; have X3 := X0.trans x3; clear x3) | (go_at_call 26; refine (CP.out _ X3).mono ?_; rintro x w4 ⟨B2, m2, d2, rfl, o4, x4⟩; have X4 := X3.trans x4; clear x4) | (go_at_call 24; refine (CS.out _ X4).mono ?_; rintro x w5 ⟨rfl, x5⟩; have X5 := X4.trans x5) | (go_at_call 27; refine (CF.out _ X5).mono ?_; rintro x w6 ⟨rfl, x6⟩; have X6 := X5.trans x6))
    have R6 := o4.rd.ext (x5.trans x6)
    go_upto_region 11 with (go_at_call 28; refine (CG.out _ X6 B2 m2 d2 R6).mono ?_; rintro x w7 ⟨hg, x7⟩; obtain ⟨A7, n7, c7, rfl, l7⟩ := get_one HF.out hg)
    clear hg CK CG
    have X8 := (Ext.refl w7).alloc (.cells #[.int .i64 e.cl, .int .i64 e.nu, .int .i64 e.kd, .int .i64 e.id, .int .i64 e.sk, .int .i64 e.sq, .int .i64 e.st, .int .i64 e.pol, .slice A7 n7 c7, .int .i64 e.at_] 29)
    have H8 := Lib.hid (And.intro (heap_alloc_new w7 (.cells #[.int .i64 e.cl, .int .i64 e.nu, .int .i64 e.kd, .int .i64 e.id, .int .i64 e.sk, .int .i64 e.sq, .int .i64 e.st, .int .i64 e.pol, .slice A7 n7 c7, .int .i64 e.at_] 29)) (And.intro ((((X6.trans x7).trans X8).block _ (block_lt H2.out.2.1)).trans H2.out.2.1) (And.intro (l7.ext X8) (And.intro ((X6.trans x7).trans X8) ((R6.ext x7).ext X8)))))
    skip
    generalize w7.alloc (.cells #[.int .i64 e.cl, .int .i64 e.nu, .int .i64 e.kd, .int .i64 e.id, .int .i64 e.sk, .int .i64 e.sq, .int .i64 e.st, .int .i64 e.pol, .slice A7 n7 c7, .int .i64 e.at_] 29) = V8 at *
    generalize w7.heap.size = t8 at *
    clear X8 l7 R6 x7 o4 x5 x6 X3 X4 X5 X6 X0 p0 p1 p2 p3 p4 p5 p6 p7 p8 p9 q0 q1 q2 q3 q4 q5 q6 q7 q8 q9
    have p0 : ∀ W, Ext V8 W → W.cell? ⟨t8, 0, none⟩ = some (.int .i64 e.cl) := fun W hx => block_cell ((hx.block _ (block_lt (H8.out.1))).trans (H8.out.1)) 0
    have p1 : ∀ W, Ext V8 W → W.cell? ⟨t8, 1, none⟩ = some (.int .i64 e.nu) := fun W hx => block_cell ((hx.block _ (block_lt (H8.out.1))).trans (H8.out.1)) 1
    have p2 : ∀ W, Ext V8 W → W.cell? ⟨t8, 2, none⟩ = some (.int .i64 e.kd) := fun W hx => block_cell ((hx.block _ (block_lt (H8.out.1))).trans (H8.out.1)) 2
    have p3 : ∀ W, Ext V8 W → W.cell? ⟨t8, 3, none⟩ = some (.int .i64 e.id) := fun W hx => block_cell ((hx.block _ (block_lt (H8.out.1))).trans (H8.out.1)) 3
    have p4 : ∀ W, Ext V8 W → W.cell? ⟨t8, 4, none⟩ = some (.int .i64 e.sk) := fun W hx => block_cell ((hx.block _ (block_lt (H8.out.1))).trans (H8.out.1)) 4
    have p5 : ∀ W, Ext V8 W → W.cell? ⟨t8, 5, none⟩ = some (.int .i64 e.sq) := fun W hx => block_cell ((hx.block _ (block_lt (H8.out.1))).trans (H8.out.1)) 5
    have p6 : ∀ W, Ext V8 W → W.cell? ⟨t8, 6, none⟩ = some (.int .i64 e.st) := fun W hx => block_cell ((hx.block _ (block_lt (H8.out.1))).trans (H8.out.1)) 6
    have p7 : ∀ W, Ext V8 W → W.cell? ⟨t8, 7, none⟩ = some (.int .i64 e.pol) := fun W hx => block_cell ((hx.block _ (block_lt (H8.out.1))).trans (H8.out.1)) 7
    have p8 : ∀ W, Ext V8 W → W.cell? ⟨t8, 8, none⟩ = some (.slice A7 n7 c7) := fun W hx => block_cell ((hx.block _ (block_lt (H8.out.1))).trans (H8.out.1)) 8
    have p9 : ∀ W, Ext V8 W → W.cell? ⟨t8, 9, none⟩ = some (.int .i64 e.at_) := fun W hx => block_cell ((hx.block _ (block_lt (H8.out.1))).trans (H8.out.1)) 9
    have q0 : ∀ W, Ext V8 W → W.cell? ⟨ob, 0, none⟩ = some (.int .i64 e.cl) := fun W hx => block_cell ((hx.block _ (block_lt (H8.out.2.1))).trans (H8.out.2.1)) 0
    have q1 : ∀ W, Ext V8 W → W.cell? ⟨ob, 1, none⟩ = some (.int .i64 e.nu) := fun W hx => block_cell ((hx.block _ (block_lt (H8.out.2.1))).trans (H8.out.2.1)) 1
    have q2 : ∀ W, Ext V8 W → W.cell? ⟨ob, 2, none⟩ = some (.int .i64 e.kd) := fun W hx => block_cell ((hx.block _ (block_lt (H8.out.2.1))).trans (H8.out.2.1)) 2
    have q3 : ∀ W, Ext V8 W → W.cell? ⟨ob, 3, none⟩ = some (.int .i64 e.id) := fun W hx => block_cell ((hx.block _ (block_lt (H8.out.2.1))).trans (H8.out.2.1)) 3
    have q4 : ∀ W, Ext V8 W → W.cell? ⟨ob, 4, none⟩ = some (.int .i64 e.sk) := fun W hx => block_cell ((hx.block _ (block_lt (H8.out.2.1))).trans (H8.out.2.1)) 4
    have q5 : ∀ W, Ext V8 W → W.cell? ⟨ob, 5, none⟩ = some (.int .i64 e.sq) := fun W hx => block_cell ((hx.block _ (block_lt (H8.out.2.1))).trans (H8.out.2.1)) 5
    have q6 : ∀ W, Ext V8 W → W.cell? ⟨ob, 6, none⟩ = some (.int .i64 e.st) := fun W hx => block_cell ((hx.block _ (block_lt (H8.out.2.1))).trans (H8.out.2.1)) 6
    have q7 : ∀ W, Ext V8 W → W.cell? ⟨ob, 7, none⟩ = some (.int .i64 e.pol) := fun W hx => block_cell ((hx.block _ (block_lt (H8.out.2.1))).trans (H8.out.2.1)) 7
    have q8 : ∀ W, Ext V8 W → W.cell? ⟨ob, 8, none⟩ = some (.slice A n c) := fun W hx => block_cell ((hx.block _ (block_lt (H8.out.2.1))).trans (H8.out.2.1)) 8
    have q9 : ∀ W, Ext V8 W → W.cell? ⟨ob, 9, none⟩ = some (.int .i64 e.at_) := fun W hx => block_cell ((hx.block _ (block_lt (H8.out.2.1))).trans (H8.out.2.1)) 9
    have rs := fun W (hx : Ext V8 W) => run_str (P := Tryd.prog) (w := W) (s := 9) Tryd.underlying54 Tryd.underlying5 Tryd.underlying9 d2 (H8.out.2.2.2.2.ext hx)
    have CR8 := Lib.hid (fun W (hx : Ext V8 W) => CR.out W (H8.out.2.2.2.1.trans hx))
    have CS1 := Lib.hid (fun W (hx : Ext V8 W) => rsame_any ⟨e, A7, n7, c7⟩ ⟨e, A, n, c⟩ W (H8.out.2.2.1.ext hx) (HW.out W (H8.out.2.2.2.1.trans hx)).1 true (Lib.hid (decide_eq_true rfl)))
    have CS2 := Lib.hid (fun W (hx : Ext V8 W) => same_any ⟨e, A7, n7, c7⟩ ⟨e, A, n, c⟩ W (H8.out.2.2.1.ext hx) (HW.out W (H8.out.2.2.2.1.trans hx)).1 true (Lib.hid (decide_eq_true rfl)))
    clear CP CF CS CR ES
    have HY : Ext V8 V8.drew := (Ext.refl V8).drew
    refine d_region (fun W => Ext V8 W) [] (by kernel_rfl) ?_
    refine d_take (i := 0) (v := ?_) [] (some 48) rfl (by rfl) (by kernel_rfl) (by kernel_rfl) (by kernel_rfl) (by kernel_rfl) (by kernel_rfl) (by kernel_rfl) (fun _ _ _ h => h) (.inl ⟨by rfl, ?_⟩) HY ?_
    rotate_left 1
    · (intro W hW; (try dsimp only at hW); go_simp; try with_reducible rfl)
    try simp only [Act.put, List.setIfInBounds_toArray, List.set_cons_zero, List.set_cons_succ]
    refine d_take (i := 1) (v := ?_) [] (some 49) rfl (by rfl) (by kernel_rfl) (by kernel_rfl) (by kernel_rfl) (by kernel_rfl) (by kernel_rfl) (by kernel_rfl) (fun _ _ _ h => h) (.inl ⟨by rfl, ?_⟩) HY ?_
    rotate_left 1
    · (intro W hW; (try dsimp only at hW); go_simp; try with_reducible rfl)
    try simp only [Act.put, List.setIfInBounds_toArray, List.set_cons_zero, List.set_cons_succ]
    refine d_take (i := 2) (v := ?_) [] (some 50) rfl (by rfl) (by kernel_rfl) (by kernel_rfl) (by kernel_rfl) (by kernel_rfl) (by kernel_rfl) (by kernel_rfl) (fun _ _ _ h => h) (.inl ⟨by rfl, ?_⟩) HY ?_
    rotate_left 1
    · (intro W hW; (try dsimp only at hW); go_simp; try with_reducible rfl)
    try simp only [Act.put, List.setIfInBounds_toArray, List.set_cons_zero, List.set_cons_succ]
    refine d_take (i := 3) (v := ?_) [] (some 51) rfl (by rfl) (by kernel_rfl) (by kernel_rfl) (by kernel_rfl) (by kernel_rfl) (by kernel_rfl) (by kernel_rfl) (fun _ _ _ h => h) (.inl ⟨by rfl, ?_⟩) HY ?_
    rotate_left 1
    · (intro W hW; (try dsimp only at hW); go_simp; try with_reducible rfl)
    try simp only [Act.put, List.setIfInBounds_toArray, List.set_cons_zero, List.set_cons_succ]
    refine d_take (i := 4) (v := ?_) [] (some 52) rfl (by rfl) (by kernel_rfl) (by kernel_rfl) (by kernel_rfl) (by kernel_rfl) (by kernel_rfl) (by kernel_rfl) (fun _ _ _ h => h) (.inl ⟨by rfl, ?_⟩) HY ?_
    rotate_left 1
    · (intro W hW; (try dsimp only at hW); go_simp; try with_reducible rfl)
    try simp only [Act.put, List.setIfInBounds_toArray, List.set_cons_zero, List.set_cons_succ]
    refine d_take (i := 5) (v := ?_) [] (some 53) rfl (by rfl) (by kernel_rfl) (by kernel_rfl) (by kernel_rfl) (by kernel_rfl) (by kernel_rfl) (by kernel_rfl) (fun _ _ _ h => h) (.inl ⟨by rfl, ?_⟩) HY ?_
    rotate_left 1
    · (intro W hW; (try dsimp only at hW); go_simp; try with_reducible rfl)
    try simp only [Act.put, List.setIfInBounds_toArray, List.set_cons_zero, List.set_cons_succ]
    refine d_take (i := 6) (v := ?_) [] (some 54) rfl (by rfl) (by kernel_rfl) (by kernel_rfl) (by kernel_rfl) (by kernel_rfl) (by kernel_rfl) (by kernel_rfl) (fun _ _ _ h => h) (.inl ⟨by rfl, ?_⟩) HY ?_
    rotate_left 1
    · (intro W hW; (try dsimp only at hW); go_simp; try with_reducible rfl)
    try simp only [Act.put, List.setIfInBounds_toArray, List.set_cons_zero, List.set_cons_succ]
    refine d_take (i := 7) (v := ?_) [] (some 55) rfl (by rfl) (by kernel_rfl) (by kernel_rfl) (by kernel_rfl) (by kernel_rfl) (by kernel_rfl) (by kernel_rfl) (fun _ _ _ h => h) (.inl ⟨by rfl, ?_⟩) HY ?_
    rotate_left 1
    · (intro W hW; (try dsimp only at hW); go_simp; try with_reducible rfl)
    try simp only [Act.put, List.setIfInBounds_toArray, List.set_cons_zero, List.set_cons_succ]
    refine d_take (i := 8) (v := ?_) [] (some 56) rfl (by rfl) (by kernel_rfl) (by kernel_rfl) (by kernel_rfl) (by kernel_rfl) (by kernel_rfl) (by kernel_rfl) (fun _ _ _ h => h) (.inl ⟨by rfl, ?_⟩) HY ?_
    rotate_left 1
    · (intro W hW; (try dsimp only at hW); go_simp; try with_reducible rfl)
    try simp only [Act.put, List.setIfInBounds_toArray, List.set_cons_zero, List.set_cons_succ]
    refine d_take (i := 9) (v := ?_) [] (some 57) rfl (by rfl) (by kernel_rfl) (by kernel_rfl) (by kernel_rfl) (by kernel_rfl) (by kernel_rfl) (by kernel_rfl) (fun _ _ _ h => h) (.inl ⟨by rfl, ?_⟩) HY ?_
    rotate_left 1
    · (intro W hW; (try dsimp only at hW); go_simp; try with_reducible rfl)
    try simp only [Act.put, List.setIfInBounds_toArray, List.set_cons_zero, List.set_cons_succ]
    refine d_call (i := 10) (by kernel_rfl) rfl (by rfl) (fun K hK => ?_)
    simp only [List.getElem_toArray, List.getElem_cons_succ, List.getElem_cons_zero]
    go_simp
    refine (CR8.out _ HY).mono ?_
    rintro x w9 ⟨B9, m9, d9, rfl, o9, x9⟩
    have X9 := HY.trans x9
    refine hK.out _ _ (fun _ => X9) ?_
    clear hK K 
    try simp only [Act.put, List.setIfInBounds_toArray, List.set_cons_zero, List.set_cons_succ]
    have r9 := run_str (P := Tryd.prog) (w := w9) (s := 9) Tryd.underlying54 Tryd.underlying5 Tryd.underlying9 d9 o9.rd
    refine d_call (i := 11) (by kernel_rfl) rfl (by rfl) (fun K hK => ?_)
    simp only [List.getElem_toArray, List.getElem_cons_succ, List.getElem_cons_zero]
    go_simp
    refine hK.out _ _ (fun _ => X9) ?_
    clear hK K 
    try simp only [Act.put, List.setIfInBounds_toArray, List.set_cons_zero, List.set_cons_succ]
    clear r9 o9 x9
    refine d_take (i := 12) (v := ?_) [] (some 60) rfl (by rfl) (by kernel_rfl) (by kernel_rfl) (by kernel_rfl) (by kernel_rfl) (by kernel_rfl) (by kernel_rfl) (fun _ _ _ h => h) (.inl ⟨by rfl, ?_⟩) X9 ?_
    rotate_left 1
    · (intro W hW; (try dsimp only at hW); go_simp; try with_reducible rfl)
    try simp only [Act.put, List.setIfInBounds_toArray, List.set_cons_zero, List.set_cons_succ]
    refine d_take (i := 13) (v := ?_) [] (some 61) rfl (by rfl) (by kernel_rfl) (by kernel_rfl) (by kernel_rfl) (by kernel_rfl) (by kernel_rfl) (by kernel_rfl) (fun _ _ _ h => h) (.inl ⟨by rfl, ?_⟩) X9 ?_
    rotate_left 1
    · (intro W hW; (try dsimp only at hW); go_simp; try with_reducible rfl)
    try simp only [Act.put, List.setIfInBounds_toArray, List.set_cons_zero, List.set_cons_succ]
    refine d_take (i := 14) (v := ?_) [] (some 62) rfl (by rfl) (by kernel_rfl) (by kernel_rfl) (by kernel_rfl) (by kernel_rfl) (by kernel_rfl) (by kernel_rfl) (fun _ _ _ h => h) (.inl ⟨by rfl, ?_⟩) X9 ?_
    rotate_left 1
    · (intro W hW; (try dsimp only at hW); go_simp; try with_reducible rfl)
    try simp only [Act.put, List.setIfInBounds_toArray, List.set_cons_zero, List.set_cons_succ]
    refine d_take (i := 15) (v := ?_) [] (some 63) rfl (by rfl) (by kernel_rfl) (by kernel_rfl) (by kernel_rfl) (by kernel_rfl) (by kernel_rfl) (by kernel_rfl) (fun _ _ _ h => h) (.inl ⟨by rfl, ?_⟩) X9 ?_
    rotate_left 1
    · (intro W hW; (try dsimp only at hW); go_simp; try with_reducible rfl)
    try simp only [Act.put, List.setIfInBounds_toArray, List.set_cons_zero, List.set_cons_succ]
    refine d_take (i := 16) (v := ?_) [] (some 64) rfl (by rfl) (by kernel_rfl) (by kernel_rfl) (by kernel_rfl) (by kernel_rfl) (by kernel_rfl) (by kernel_rfl) (fun _ _ _ h => h) (.inl ⟨by rfl, ?_⟩) X9 ?_
    rotate_left 1
    · (intro W hW; (try dsimp only at hW); go_simp; try with_reducible rfl)
    try simp only [Act.put, List.setIfInBounds_toArray, List.set_cons_zero, List.set_cons_succ]
    refine d_take (i := 17) (v := ?_) [] (some 65) rfl (by rfl) (by kernel_rfl) (by kernel_rfl) (by kernel_rfl) (by kernel_rfl) (by kernel_rfl) (by kernel_rfl) (fun _ _ _ h => h) (.inl ⟨by rfl, ?_⟩) X9 ?_
    rotate_left 1
    · (intro W hW; (try dsimp only at hW); go_simp; try with_reducible rfl)
    try simp only [Act.put, List.setIfInBounds_toArray, List.set_cons_zero, List.set_cons_succ]
    refine d_take (i := 18) (v := ?_) [] (some 66) rfl (by rfl) (by kernel_rfl) (by kernel_rfl) (by kernel_rfl) (by kernel_rfl) (by kernel_rfl) (by kernel_rfl) (fun _ _ _ h => h) (.inl ⟨by rfl, ?_⟩) X9 ?_
    rotate_left 1
    · (intro W hW; (try dsimp only at hW); go_simp; try with_reducible rfl)
    try simp only [Act.put, List.setIfInBounds_toArray, List.set_cons_zero, List.set_cons_succ]
    refine d_take (i := 19) (v := ?_) [] (some 67) rfl (by rfl) (by kernel_rfl) (by kernel_rfl) (by kernel_rfl) (by kernel_rfl) (by kernel_rfl) (by kernel_rfl) (fun _ _ _ h => h) (.inl ⟨by rfl, ?_⟩) X9 ?_
    rotate_left 1
    · (intro W hW; (try dsimp only at hW); go_simp; try with_reducible rfl)
    try simp only [Act.put, List.setIfInBounds_toArray, List.set_cons_zero, List.set_cons_succ]
    refine d_take (i := 20) (v := ?_) [] (some 68) rfl (by rfl) (by kernel_rfl) (by kernel_rfl) (by kernel_rfl) (by kernel_rfl) (by kernel_rfl) (by kernel_rfl) (fun _ _ _ h => h) (.inl ⟨by rfl, ?_⟩) X9 ?_
    rotate_left 1
    · (intro W hW; (try dsimp only at hW); go_simp; try with_reducible rfl)
    try simp only [Act.put, List.setIfInBounds_toArray, List.set_cons_zero, List.set_cons_succ]
    refine d_call (i := 21) (by kernel_rfl) rfl (by rfl) (fun K hK => ?_)
    simp only [List.getElem_toArray, List.getElem_cons_succ, List.getElem_cons_zero]
    go_simp
    refine (CS1.out _ X9).mono ?_
    rintro x w10 ⟨rfl, x10⟩
    have X10 := X9.trans x10
    refine hK.out _ _ (fun _ => X10) ?_
    clear hK K 
    try simp only [Act.put, List.setIfInBounds_toArray, List.set_cons_zero, List.set_cons_succ]
    refine d_take (i := 22) (v := ?_) [] (some 70) rfl (by rfl) (by kernel_rfl) (by kernel_rfl) (by kernel_rfl) (by kernel_rfl) (by kernel_rfl) (by kernel_rfl) (fun _ _ _ h => h) (.inl ⟨by rfl, ?_⟩) X10 ?_
    rotate_left 1
    · (intro W hW; (try dsimp only at hW); go_simp; try with_reducible rfl)
    try simp only [Act.put, List.setIfInBounds_toArray, List.set_cons_zero, List.set_cons_succ]
    refine d_take (i := 23) (v := ?_) [] (some 71) rfl (by rfl) (by kernel_rfl) (by kernel_rfl) (by kernel_rfl) (by kernel_rfl) (by kernel_rfl) (by kernel_rfl) (fun _ _ _ h => h) (.inl ⟨by rfl, ?_⟩) X10 ?_
    rotate_left 1
    · (intro W hW; (try dsimp only at hW); go_simp; try with_reducible rfl)
    try simp only [Act.put, List.setIfInBounds_toArray, List.set_cons_zero, List.set_cons_succ]
    refine d_take (i := 24) (v := ?_) [] (some 72) rfl (by rfl) (by kernel_rfl) (by kernel_rfl) (by kernel_rfl) (by kernel_rfl) (by kernel_rfl) (by kernel_rfl) (fun _ _ _ h => h) (.inl ⟨by rfl, ?_⟩) X10 ?_
    rotate_left 1
    · (intro W hW; (try dsimp only at hW); go_simp; try with_reducible rfl)
    try simp only [Act.put, List.setIfInBounds_toArray, List.set_cons_zero, List.set_cons_succ]
    refine d_take (i := 25) (v := ?_) [] (some 73) rfl (by rfl) (by kernel_rfl) (by kernel_rfl) (by kernel_rfl) (by kernel_rfl) (by kernel_rfl) (by kernel_rfl) (fun _ _ _ h => h) (.inl ⟨by rfl, ?_⟩) X10 ?_
    rotate_left 1
    · (intro W hW; (try dsimp only at hW); go_simp; try with_reducible rfl)
    try simp only [Act.put, List.setIfInBounds_toArray, List.set_cons_zero, List.set_cons_succ]
    refine d_call (i := 26) (by kernel_rfl) rfl (by rfl) (fun K hK => ?_)
    simp only [List.getElem_toArray, List.getElem_cons_succ, List.getElem_cons_zero]
    go_simp
    refine (CS2.out _ X10).mono ?_
    rintro x w11 ⟨rfl, x11⟩
    have X11 := X10.trans x11
    refine hK.out _ _ (fun _ => X11) ?_
    clear hK K 
    try simp only [Act.put, List.setIfInBounds_toArray, List.set_cons_zero, List.set_cons_succ]
    refine d_take (i := 27) (v := ?_) [] (some 75) rfl (by rfl) (by kernel_rfl) (by kernel_rfl) (by kernel_rfl) (by kernel_rfl) (by kernel_rfl) (by kernel_rfl) (fun _ _ _ h => h) (.inl ⟨by rfl, ?_⟩) X11 ?_
    rotate_left 1
    · (intro W hW; (try dsimp only at hW); go_simp; try with_reducible rfl)
    try simp only [Act.put, List.setIfInBounds_toArray, List.set_cons_zero, List.set_cons_succ]
    refine d_one (i := 28) (by kernel_rfl) rfl rfl (fun K hK => ?_)
    simp only [List.getElem_toArray, List.getElem_cons_succ, List.getElem_cons_zero]
    go_simp
    refine hK.out _ _ (fun _ => X11) ?_
    clear hK K 
    try simp only [Act.put, List.setIfInBounds_toArray, List.set_cons_zero, List.set_cons_succ]
    refine d_done (by kernel_rfl) ?_ _
    go_wp2_with fail
    go_returns
    exact ⟨rfl, H3.out.2.trans (H8.out.2.2.2.1.trans X11)⟩
  · have hf2 : e.form = false := by simpa using hf
    clear hf
    have CK := Lib.hid (fun W (hx : Ext V3 W) => check_no (e := e) (c := c1) (HW.out W hx).2.1.rd (Nat.le_trans (HW.out W hx).2.1.le (by decide)) hf2 (HW.out W hx).2.2.2)
    have CP := Lib.hid (fun W (hx : Ext V3 W) => put_no ⟨e, A1, n1, c1⟩ W (HW.out W hx).2.1 hf2 (HW.out W hx).2.2.2)
    have CF := Lib.hid (fun W (hx : Ext V3 W) => rform_any e A n c W (HW.out W hx).1 false (Lib.hid hf2))
    have HE := Lib.hid (fun W (hx : Ext V3 W) => (HW.out W hx).2.2.2.2.1)
    clear hf2
    go_upto_region 9 with (first | (go_at_call 25; refine (CK.out _ X0).mono ?_; rintro x w3 ⟨rfl, x3⟩; have X3 := X0.trans x3; clear x3) | (go_at_call 26; refine (CP.out _ X3).mono ?_; rintro x w4 ⟨rfl, x4⟩; have X4 := X3.trans x4; clear x4) | (go_at_call 24; refine (CS.out _ X4).mono ?_; rintro x w5 ⟨rfl, x5⟩; have X5 := X4.trans x5) | (go_at_call 27; refine (CF.out _ X5).mono ?_; rintro x w6 ⟨rfl, x6⟩; have X6 := X5.trans x6))
    have s6 := HE.out w6 X6
    go_wp2_with fail
    go_returns
    exact ⟨rfl, H3.out.2.trans X6⟩
end Go.Proofs.YteflnnlihblpgaaDoor
namespace Go.Proofs.YteflnnlihblpgaaDoor
set_option maxRecDepth 100000
open Go.RowKit Go.Maps
set_option linter.unusedVariables false
/-- A value reads as itself. -/
def tok (v : Value) : Option (DataW Value × List MemPlace) := some (.held v, [])
/-- Block b is a map of at most n entries: under x it has f x. -/
def MapI (P : Program) (kt : TypeId) (w : World) (b n : Nat) (f : Int → Option Value) : Prop :=
  ∃ D : DataW Value, w.ownsMap P kt tok b n D ∧ IsMap D ∧ ∀ x : Int, has D (.int .i64 x) = (f x).isSome ∧ ∀ v, f x = some v → ∀ z, D.atKey (.int .i64 x) z = .held v
section
variable {P : Program} {kt et t : TypeId} {w : World} {b n : Nat} {f : Int → Option Value}
theorem MapI.made (P : Program) (kt : TypeId) (w : World) : MapI P kt (w.alloc (.map #[] 0)) w.heap.size 0 (fun _ => none) :=
  ⟨.map [], World.ownsMap_made w P kt tok, isMap_empty, fun x => ⟨rfl, fun v h => by cases h⟩⟩
theorem MapI.lt (h : MapI P kt w b n f) : b < w.heap.size := by obtain ⟨D, h1, _⟩ := h; exact h1.lt
theorem MapI.fr {w' : World} {Q : Nat → Prop} (h : MapI P kt w b n f) (hf : Fr w w' Q) (hb : ¬ Q b) : MapI P kt w' b n f := by
  have hlt := h.lt
  obtain ⟨D, ⟨es, cl, hh, rest⟩, h2⟩ := h
  exact ⟨D, ⟨es, cl, (hf.block b hlt hb).trans hh, rest⟩, h2⟩
theorem MapI.ext {w' : World} (h : MapI P kt w b n f) (hx : Ext w w') : MapI P kt w' b n f := h.fr (Fr.of_ext hx (fun _ => False)) (fun h => h)
theorem wf64 {x : Int} (h : -9223372036854775808 ≤ x ∧ x ≤ 9223372036854775807) : (Lit.int .i64 x).wf = true := by
  simp [Lit.wf, IntKind.min, IntKind.max, IntKind.signed, IntKind.bits]
  omega
theorem key64 {x : Int} (h : -9223372036854775808 ≤ x ∧ x ≤ 9223372036854775807) : WideAt.IsKeyLit (.int .i64 x) := by
  first
    | exact trivial
    | (unfold WideAt.IsKeyLit; exact trivial)
    | simp [WideAt.IsKeyLit]
theorem MapI.at_ (h : MapI P kt w b n f) (ht : P.underlying t = some (.map kt et)) (hk : P.underlying kt = some (.int .i64)) {z : Value} (hz : (zeroValue et).run P w = .ok z w) {x : Int} (hx : -9223372036854775808 ≤ x ∧ x ≤ 9223372036854775807) :
    (Instr.lookup t (.map (some b)) (.int .i64 x) false).run P w = .ok ((f x).getD z) w := by
  obtain ⟨D, h1, _, h2⟩ := h
  obtain ⟨v, ps, hrun, hv⟩ := h1.lookup (int_keyed hk) ht hz (zd := .held z) rfl (keyOf_int_mk hk (wf64 hx))
  rw [hrun]
  congr 1
  simp only [tok, Option.some.injEq, Prod.mk.injEq] at hv
  obtain ⟨hv, _⟩ := hv
  obtain ⟨g1, g2⟩ := h2 x
  cases hf : f x with
  | some u =>
    rw [g2 u hf] at hv
    injection hv with hv
  | none =>
    rw [hf] at g1
    rw [atKey_of_not_has g1] at hv
    injection hv with hv
theorem MapI.at_ok (h : MapI P kt w b n f) (ht : P.underlying t = some (.map kt et)) (hk : P.underlying kt = some (.int .i64)) {z : Value} (hz : (zeroValue et).run P w = .ok z w) {x : Int} (hx : -9223372036854775808 ≤ x ∧ x ≤ 9223372036854775807) :
    (Instr.lookup t (.map (some b)) (.int .i64 x) true).run P w = .ok (.tuple #[(f x).getD z, .bool (f x).isSome]) w := by
  obtain ⟨D, h1, _, h2⟩ := h
  obtain ⟨v, ps, hrun, hv⟩ := h1.look_ok (int_keyed hk) ht hz (zd := .held z) rfl (keyOf_int_mk hk (wf64 hx))
  rw [hrun]
  obtain ⟨g1, g2⟩ := h2 x
  rw [g1]
  simp only [tok, Option.some.injEq, Prod.mk.injEq] at hv
  obtain ⟨hv, _⟩ := hv
  have e : v = (f x).getD z := by
    cases hf : f x with
    | some u =>
      rw [g2 u hf] at hv
      injection hv with hv
    | none =>
      rw [hf] at g1
      rw [atKey_of_not_has g1] at hv
      injection hv with hv
  rw [e]
theorem MapI.store (h : MapI P kt w b n f) (ht : P.underlying t = some (.map kt et)) (hk : P.underlying kt = some (.int .i64)) (hn : n < 4611686018427387904) {x : Int} (hx : -9223372036854775808 ≤ x ∧ x ≤ 9223372036854775807) (v : Value) :
    ∃ w', (Instr.mapUpdate t (.map (some b)) (.int .i64 x) v).run P w = .ok () w' ∧ MapI P kt w' b (n + 1) (fun y => if y = x then some v else f y) ∧ Fr w w' (· = b) := by
  obtain ⟨D, h1, hi, h2⟩ := h
  obtain ⟨w', hrun, h3, h4⟩ := h1.store (int_keyed hk) ht (by unfold maxLen; omega) (keyOf_int_mk hk (wf64 hx)) (val := v) (d := .held v) (ps := []) rfl
  have hg := h4.grown
  refine ⟨w', hrun, ⟨_, h3, hi.put _ _, fun y => ?_⟩, ⟨hg.os, hg.tape, hg.output, hg.size, fun k hk hb => hg.block k hk (fun e => hb (by injection e))⟩⟩
  dsimp only
  by_cases e : y = x
  · subst e
    rw [if_pos rfl]
    exact ⟨by rw [has_put_same hi (key64 hx)]; rfl, fun u hu z => by injection hu with hu; subst hu; exact atKey_put_same hi (key64 hx) _ _⟩
  · rw [if_neg e]
    have ne : (Lit.int .i64 y) ≠ (Lit.int .i64 x) := fun e2 => e (by injection e2)
    obtain ⟨g1, g2⟩ := h2 y
    exact ⟨by rw [has_put_other ne]; exact g1, fun u hu z => by rw [atKey_put_other ne]; exact g2 u hu z⟩
end
end Go.Proofs.YteflnnlihblpgaaDoor
namespace Go.Proofs.YteflnnlihblpgaaDoor
set_option maxRecDepth 100000
open Go.RowKit Go.Maps
set_option linter.unusedVariables false
theorem zeroInt : ∀ w, (zeroValue 3).run Tryd.prog w = .ok (.int .i64 0) w := fun w => by kernel_rfl
/-- A number of eight bytes. -/
def I64 (x : Int) : Prop := -9223372036854775808 ≤ x ∧ x ≤ 9223372036854775807
/-- An entry comes behind those before it. -/
def stepL (g : Int → Option Int) (e : En) : Int → Option Int := fun y => if y = e.cl ∧ (g e.cl = none ∨ ∃ n, g e.cl = some n ∧ n < e.nu) then some e.nu else g y
def lastF (es : List En) : Int → Option Int := es.foldl stepL (fun _ => none)
theorem lastF_snoc (es : List En) (e : En) : lastF (es ++ [e]) = stepL (lastF es) e := by simp [lastF]
def valF (g : Int → Option Int) (x : Int) : Option Value := (g x).map (.int .i64)
theorem take_ents {ss : List EnS} {k : Nat} {s : EnS} (h : ss[k]? = some s) : ents (ss.take (k + 1)) = ents (ss.take k) ++ [s.e] := by
  rw [List.take_add_one, h]
  simp [ents]
set_option maxHeartbeats 6400000 in
theorem last_any (A : Option Addr) (n c : Nat) (ss : List EnS) (w : World) (hs : Led w A n ss) (hn : n ≤ 2000000000000) (hb : ∀ s ∈ ss, I64 s.e.cl ∧ I64 s.e.nu) : Calls Tryd.prog 22 #[.slice A n c] w fun x w' => ∃ b, x = .returned (.map (some b)) ∧ w.heap.size ≤ b ∧ MapI Tryd.prog 3 w' b n (valF (lastF (ents ss))) ∧ Ext w w' := by
  have hsl := hs.len
  have HS := Lib.hid (And.intro hs hb)
  have X0 := (Ext.refl w).alloc (.map #[] 0)
  have HM : Hid (MapI Tryd.prog 3 (w.alloc (.map #[] 0)) w.heap.size 0 (valF (lastF (ents (ss.take 0)))) ∧ Ext w (w.alloc (.map #[] 0))) := Lib.hid ⟨MapI.made _ _ _, X0⟩
  clear hs hb X0
  have rm : (Instr.makeMap 43 none).run Tryd.prog w = .ok (.map (some w.heap.size)) (w.alloc (.map #[] 0)) := by kernel_rfl
  go_enter Tryd.func22, Tryd.ntmps22
  go_wp2_with fail
  clear rm
  generalize w.alloc (.map #[] 0) = V at *
  generalize hmb : w.heap.size = mb at *
  have HMB := Lib.hid hmb
  clear hmb
  go_loopw [5, 6, 7, 11] (fun _ _ _ v11 wr => ∃ k : Nat, v11 = .int .i64 (k : Int) ∧ k ≤ n ∧ Hid (MapI Tryd.prog 3 wr mb k (valF (lastF (ents (ss.take k)))) ∧ Ext w wr)) (fun _ _ _ v11 _ => n - (intOf v11).toNat)
  case atStart => exact ⟨0, rfl, by omega, HM.out⟩
  case round =>
    obtain ⟨k, rfl, hk, HI⟩ := hrel
    clear HM
    by_cases hlt : k < n
    · obtain ⟨x, hx⟩ : ∃ x, ss[k]? = some x := ⟨ss[k]'(by omega), List.getElem?_eq_getElem _⟩
      obtain ⟨k10, hk10⟩ : ∃ k10, k * 10 = k10 := ⟨_, rfl⟩
      obtain ⟨ad, rfl, y0, y1, y2, y3, y4, y5, y6, y7, y8, y9⟩ := (HS.out.1.ext HI.out.2).entry hx hk10
      have k0 : (0 : Int) ≤ k := by omega
      have k1 : (k : Int) < n := by omega
      have HX := Lib.hid (And.intro hx (HS.out.2 x (List.mem_of_getElem? hx)))
      have XB := (Ext.refl wr).alloc (.cells #[.int .i64 x.e.cl, .int .i64 x.e.nu, .int .i64 x.e.kd, .int .i64 x.e.id, .int .i64 x.e.sk, .int .i64 x.e.sq, .int .i64 x.e.st, .int .i64 x.e.pol, .slice x.A x.n x.c, .int .i64 x.e.at_] 29)
      have HB := Lib.hid (And.intro (heap_alloc_new wr (.cells #[.int .i64 x.e.cl, .int .i64 x.e.nu, .int .i64 x.e.kd, .int .i64 x.e.id, .int .i64 x.e.sk, .int .i64 x.e.sq, .int .i64 x.e.st, .int .i64 x.e.pol, .slice x.A x.n x.c, .int .i64 x.e.at_] 29)) (And.intro (HI.out.1.ext XB) (HI.out.2.trans XB)))
      clear hx XB HI
      go_upto_region 5 with (fail)
      clear y0 y1 y2 y3 y4 y5 y6 y7 y8 y9
      generalize wr.alloc (.cells #[.int .i64 x.e.cl, .int .i64 x.e.nu, .int .i64 x.e.kd, .int .i64 x.e.id, .int .i64 x.e.sk, .int .i64 x.e.sq, .int .i64 x.e.st, .int .i64 x.e.pol, .slice x.A x.n x.c, .int .i64 x.e.at_] 29) = W at *
      generalize wr.heap.size = tb at *
      have c0 : W.cell? ⟨tb, 0, none⟩ = some (.int .i64 x.e.cl) := block_cell (HB.out.1) 0
      have c1 : W.cell? ⟨tb, 1, none⟩ = some (.int .i64 x.e.nu) := block_cell (HB.out.1) 1
      have c2 : W.cell? ⟨tb, 2, none⟩ = some (.int .i64 x.e.kd) := block_cell (HB.out.1) 2
      have c3 : W.cell? ⟨tb, 3, none⟩ = some (.int .i64 x.e.id) := block_cell (HB.out.1) 3
      have c4 : W.cell? ⟨tb, 4, none⟩ = some (.int .i64 x.e.sk) := block_cell (HB.out.1) 4
      have c5 : W.cell? ⟨tb, 5, none⟩ = some (.int .i64 x.e.sq) := block_cell (HB.out.1) 5
      have c6 : W.cell? ⟨tb, 6, none⟩ = some (.int .i64 x.e.st) := block_cell (HB.out.1) 6
      have c7 : W.cell? ⟨tb, 7, none⟩ = some (.int .i64 x.e.pol) := block_cell (HB.out.1) 7
      have c8 : W.cell? ⟨tb, 8, none⟩ = some (.slice x.A x.n x.c) := block_cell (HB.out.1) 8
      have c9 : W.cell? ⟨tb, 9, none⟩ = some (.int .i64 x.e.at_) := block_cell (HB.out.1) 9
      have LK := HB.out.2.1.at_ok Tryd.underlying43 Tryd.underlying3 (zeroInt W) HX.out.2.1
      obtain ⟨g, hg⟩ : ∃ g, lastF (ents (ss.take k)) x.e.cl = g := ⟨_, rfl⟩
      rw [show valF (lastF (ents (ss.take k))) x.e.cl = g.map (.int .i64) by rw [← hg]; rfl] at LK
      obtain ⟨W2, hst, M2, f2⟩ := HB.out.2.1.store Tryd.underlying43 Tryd.underlying3 (by omega) HX.out.2.1 (.int .i64 x.e.nu)
      have H2 := Lib.hid (And.intro M2 (Fr.ext HB.out.2.2 f2 (fun i e => by have e : i = mb := e; have := HMB.out; omega)))
      have HG := Lib.hid hg
      clear M2 f2 hg
      cases g with
      | none =>
        simp only [Option.map_none, Option.getD_none, Option.isSome_none] at LK
        go_wp2_with fail
        go_roundw
        case rel => exact ⟨k + 1, by go_num, by omega, Lib.hid ⟨by rw [take_ents HX.out.1, lastF_snoc]; have h := H2.out.1; refine (funext fun y => ?_ : valF (stepL (lastF (ents (ss.take k))) x.e) = _) ▸ h; show (stepL _ _ y).map _ = _; unfold stepL; by_cases hy : y = x.e.cl <;> simp [hy, HG.out, valF], H2.out.2⟩⟩
        case measure => simp [intOf]; omega
      | some m =>
        simp only [Option.map_some, Option.getD_some, Option.isSome_some] at LK
        by_cases hm : m < x.e.nu
        · go_wp2_with fail
          go_roundw
          case rel => exact ⟨k + 1, by go_num, by omega, Lib.hid ⟨by rw [take_ents HX.out.1, lastF_snoc]; have h := H2.out.1; refine (funext fun y => ?_ : valF (stepL (lastF (ents (ss.take k))) x.e) = _) ▸ h; show (stepL _ _ y).map _ = _; unfold stepL; by_cases hy : y = x.e.cl <;> simp [hy, HG.out, hm, valF], H2.out.2⟩⟩
          case measure => simp [intOf]; omega
        · go_wp2_with fail
          go_roundw
          case rel => exact ⟨k + 1, by go_num, by omega, Lib.hid ⟨by rw [take_ents HX.out.1, lastF_snoc, show stepL (lastF (ents (ss.take k))) x.e = lastF (ents (ss.take k)) from by funext y; unfold stepL; rw [if_neg (by rintro ⟨_, h | ⟨n', h, h2⟩⟩ <;> rw [HG.out] at h <;> simp at h; omega)]]; exact (by obtain ⟨D, h1, h2⟩ := HB.out.2.1; exact ⟨D, h1.mono (by omega), h2⟩), HB.out.2.2⟩⟩
          case measure => simp [intOf]; omega
    · obtain rfl : n = k := by omega
      go_wp2_with fail
      go_returns
      exact ⟨mb, rfl, by have := HMB.out; omega, by have h := HI.out.1; rwa [List.take_of_length_le (by omega)] at h, HI.out.2⟩
end Go.Proofs.YteflnnlihblpgaaDoor
