/-
  The document's Write of a ledger, walked.
-/
import Derived.Test.YteflnnlihblpgaaDoorMgNetPutsProof10
namespace Go.Proofs.YteflnnlihblpgaaDoor
set_option maxRecDepth 100000
open Go.RowKit
set_option linter.unusedVariables false
/-- An entry's record. -/
def recE (e : En) : List Nat := Wr.num e.put.length ++ e.put
def putK (n : Nat) (l : List En) : List Nat := Wr.num n ++ l.flatMap recE
theorem putK_all (l : List En) : putK l.length l = putL l := rfl
theorem putK_snoc (n : Nat) (l : List En) (e : En) : putK n (l ++ [e]) = putK n l ++ recE e := by simp [putK]
theorem recE_len {e : En} (h : e.form = true) : (recE e).length ≤ 387 := by
  have h1 := put_len h
  have h2 := numlen9 (x := e.put.length) (by omega)
  unfold recE
  rw [List.length_append]
  omega
theorem putK_len (n : Nat) (hn : n ≤ 9223372036854775807) : ∀ (l : List En), (∀ e ∈ l, e.form = true) → (putK n l).length ≤ 9 + 387 * l.length := fun l h => by
  have h1 := numlen9 (x := n) hn
  have h2 : ∀ l : List En, (∀ e ∈ l, e.form = true) → (l.flatMap recE).length ≤ 387 * l.length := fun l => by
    induction l with
    | nil => intro _; simp
    | cons e l ih =>
      intro h
      have h3 := ih fun x hx => h x (by simp [hx])
      have h4 := recE_len (h e (by simp))
      simp only [List.flatMap_cons, List.length_append, List.length_cons]
      omega
  have h3 := h2 l h
  unfold putK
  rw [List.length_append]
  omega
/-- The writer on its way through a ledger. -/
structure WL (w wr : World) (g : Nat) (bs : List Nat) : Prop where
  ex : ∃ A n c, WrS wr g A n c bs false
  x : Ext w wr
  lo : w.heap.size ≤ g
theorem WL.ext {w wr w' : World} {g : Nat} {bs : List Nat} (h : WL w wr g bs) (hx : Ext wr w') : WL w w' g bs := by
  obtain ⟨A, n, c, hw⟩ := h.ex
  exact ⟨⟨A, n, c, hw.ext hx⟩, h.x.trans hx, h.lo⟩
theorem WL.bytes {w wr : World} {g : Nat} {bs : List Nat} (h : WL w wr g bs) (hl : bs.length ≤ 549755813888) {b0 : Nat} (B : Option Addr) (m d : Nat) (l : List Nat) (ho : Own wr b0 5 1 B m d (u8s l)) (hm : m ≤ 1048576) (hb : ∀ A n c, WrS wr g A n c bs false → ∀ b, B = some b → b.block ≠ g ∧ ∀ a, A = some a → a.block ≠ b.block) :
    Calls Tryd.prog 64 #[.pointer (some ⟨g, 0, none⟩), .slice B m d] wr fun r w' => r = .returned (.tuple #[]) ∧ WL w w' g (bs ++ (Wr.num m ++ l)) := by
  obtain ⟨A, n, c, hw⟩ := h.ex
  have hn := hw.len
  refine (gbytes_any B m d l wr hw ho.rd hm (by omega) (hb A n c hw)).mono ?_
  rintro r w' ⟨rfl, A2, n2, c2, hw2, hf, _⟩
  exact ⟨rfl, ⟨A2, n2, c2, hw2⟩, wr_ext hw hf h.x h.lo, h.lo⟩
set_option maxHeartbeats 1600000 in
theorem write_large (A : Option Addr) (n c : Nat) (ss : List EnS) (w : World) (hs : Led w A n ss) (h64 : 64 < n) {pl : Addr} (hS : Sen w 8 pl) : Calls Tryd.prog 35 #[.slice A n c] w fun x w' => x = .returned (.tuple #[.slice none 0 0, .iface 149 (.pointer (some pl))]) ∧ Ext w w' := by
  have s0 := hS.2.1
  have h64' : (64 : Int) < (n : Int) := by omega
  clear hS hs
  go_enter Tryd.func35, Tryd.ntmps35
  go_upto_region 2 with (fail)
  go_quiet (fail)
  go_wp2_with fail
  go_returns
  exact ⟨rfl, (Ext.refl w).drewN _⟩
set_option maxHeartbeats 3200000 in
theorem write_ok (A : Option Addr) (n c : Nat) (ss : List EnS) (w : World) (hs : Led w A n ss) (h64 : n ≤ 64) (hf : ∀ e ∈ ents ss, e.form = true) : Calls Tryd.prog 35 #[.slice A n c] w fun x w' => ∃ B m d, x = .returned (.tuple #[.slice B m d, .nilIface]) ∧ Own w' w.heap.size 5 1 B m d (u8s (putL (ents ss))) ∧ Ext w w' := by
  have hsl := hs.len
  have HR := Lib.hid hs
  have HF := Lib.hid hf
  skip
  have h64' : ¬ (64 : Int) < (n : Int) := by omega
  have CN := Lib.hid (new_any w)
  clear hs hf
  go_enter Tryd.func35, Tryd.ntmps35
  go_upto_region 4 with (go_at_call 53; refine CN.out.mono ?_; rintro x w1 ⟨rfl, n1, x1⟩)
  have CM := Lib.hid (wnum_any n w1 n1 (by omega) (by omega))
  have H1 := Lib.hid (And.intro n1 x1)
  clear n1 x1 CN
  go_upto_region 5 with (go_at_call 54; refine CM.out.mono ?_; rintro x w2 ⟨rfl, A2, n2, c2, s2, f2, _⟩)
  have HP : Hid (WL w w2 w.heap.size (putK n ((ents ss).take 0))) := Lib.hid ⟨⟨A2, n2, c2, by simpa [putK] using s2⟩, wr_ext H1.out.1 f2 H1.out.2 (Nat.le_refl _), Nat.le_refl _⟩
  generalize hg : w.heap.size = g at *
  have HG := Lib.hid hg
  clear s2 f2 CM H1 hg
  go_upto_region 6 with (fail)
  go_loopw [6, 7, 8, 20] (fun _ _ _ v20 wr => ∃ k : Nat, v20 = .int .i64 (k : Int) ∧ k ≤ n ∧ Hid (WL w wr g (putK n ((ents ss).take k)) ∧ ∀ j e, j < k → (ents ss)[j]? = some e → e.form = true)) (fun _ _ _ v20 _ => n - (intOf v20).toNat)
  case atStart => exact ⟨0, rfl, by omega, HP.out, fun j e hj => by omega⟩
  case round =>
    obtain ⟨k, rfl, hk, HI⟩ := hrel
    clear HP
    by_cases hlt : k < n
    · obtain ⟨x, hx⟩ : ∃ x, ss[k]? = some x := ⟨ss[k]'(by omega), List.getElem?_eq_getElem _⟩
      obtain ⟨k10, hk10⟩ : ∃ k10, k * 10 = k10 := ⟨_, rfl⟩
      obtain ⟨ad, rfl, y0, y1, y2, y3, y4, y5, y6, y7, y8, y9⟩ := (HR.out.ext HI.out.1.x).entry hx hk10
      have k0 : (0 : Int) ≤ k := by omega
      have k1 : (k : Int) < n := by omega
      have HX := Lib.hid hx
      have X5 := (Ext.refl wr).alloc (.cells #[.int .i64 x.e.cl, .int .i64 x.e.nu, .int .i64 x.e.kd, .int .i64 x.e.id, .int .i64 x.e.sk, .int .i64 x.e.sq, .int .i64 x.e.st, .int .i64 x.e.pol, .slice x.A x.n x.c, .int .i64 x.e.at_] 29)
      have H5 := Lib.hid (And.intro (heap_alloc_new wr (.cells #[.int .i64 x.e.cl, .int .i64 x.e.nu, .int .i64 x.e.kd, .int .i64 x.e.id, .int .i64 x.e.sk, .int .i64 x.e.sq, .int .i64 x.e.st, .int .i64 x.e.pol, .slice x.A x.n x.c, .int .i64 x.e.at_] 29)) (And.intro (HI.out.1.ext X5) ((HR.out.all x (List.mem_of_getElem? hx)).ext (HI.out.1.x.trans X5))))
      clear hx X5
      go_upto_region 8 with (fail)
      generalize wr.alloc (.cells #[.int .i64 x.e.cl, .int .i64 x.e.nu, .int .i64 x.e.kd, .int .i64 x.e.id, .int .i64 x.e.sk, .int .i64 x.e.sq, .int .i64 x.e.st, .int .i64 x.e.pol, .slice x.A x.n x.c, .int .i64 x.e.at_] 29) = V5 at *
      generalize wr.heap.size = tb at *
      clear y0 y1 y2 y3 y4 y5 y6 y7 y8 y9
      have c0 : V5.cell? ⟨tb, 0, none⟩ = some (.int .i64 x.e.cl) := block_cell (H5.out.1) 0
      have c1 : V5.cell? ⟨tb, 1, none⟩ = some (.int .i64 x.e.nu) := block_cell (H5.out.1) 1
      have c2 : V5.cell? ⟨tb, 2, none⟩ = some (.int .i64 x.e.kd) := block_cell (H5.out.1) 2
      have c3 : V5.cell? ⟨tb, 3, none⟩ = some (.int .i64 x.e.id) := block_cell (H5.out.1) 3
      have c4 : V5.cell? ⟨tb, 4, none⟩ = some (.int .i64 x.e.sk) := block_cell (H5.out.1) 4
      have c5 : V5.cell? ⟨tb, 5, none⟩ = some (.int .i64 x.e.sq) := block_cell (H5.out.1) 5
      have c6 : V5.cell? ⟨tb, 6, none⟩ = some (.int .i64 x.e.st) := block_cell (H5.out.1) 6
      have c7 : V5.cell? ⟨tb, 7, none⟩ = some (.int .i64 x.e.pol) := block_cell (H5.out.1) 7
      have c8 : V5.cell? ⟨tb, 8, none⟩ = some (.slice x.A x.n x.c) := block_cell (H5.out.1) 8
      have c9 : V5.cell? ⟨tb, 9, none⟩ = some (.int .i64 x.e.at_) := block_cell (H5.out.1) 9
      have hxf : x.e.form = true := HF.out x.e (List.mem_of_getElem? (ents_at HX.out))
      have CP := Lib.hid (put_ok (e := x.e) (A := x.A) (n := x.n) (c := x.c) H5.out.2.2.rd hxf)
      have HXF := Lib.hid hxf
      clear hxf
      go_upto_region 11 with (go_at_call 26; refine CP.out.mono ?_; rintro e w6 ⟨B, m, d, rfl, o6, x6⟩)
      have hm6 : m = x.e.put.length := by have := o6.rd.len; rw [u8s_len] at this; exact this.symm
      have hml := put_len HXF.out
      have hbl := putK_len n (by omega) ((ents ss).take k) (fun e he => by
        obtain ⟨j, hj⟩ := List.getElem?_of_mem he
        rw [List.getElem?_take] at hj
        split at hj
        · exact HI.out.2 j e (by omega) hj
        · cases hj)
      rw [List.length_take] at hbl
      have CB := Lib.hid ((H5.out.2.1.ext x6).bytes (by omega) B m d x.e.put o6 (by omega) (fun A' n' c' h' b hb => by
        have h1 := o6.base_le b.block (by rw [hb]; rfl)
        obtain ⟨A0, n0, c0, h0⟩ := H5.out.2.1.ex
        have h2 := h0.lt
        refine ⟨by omega, fun a ha e => ?_⟩
        have hb0 := (x6.block g h0.lt).trans h0.blk
        rw [h'.blk] at hb0
        simp only [Option.some.injEq, Obj.cells.injEq, Array.mk.injEq, List.cons.injEq, Value.slice.injEq, and_true] at hb0
        obtain ⟨rfl, _, _⟩ := hb0.1
        have h3 := h0.own.lt_at ha
        omega))
      rw [show putK n ((ents ss).take k) ++ (Wr.num m ++ x.e.put) = putK n ((ents ss).take (k + 1)) by rw [take_succ' (ents_at HX.out), putK_snoc, hm6]; rfl] at CB
      clear o6 x6 CP hm6 hml hbl c0 c1 c2 c3 c4 c5 c6 c7 c8 c9
      go_wp2_with (go_at_call 64; refine CB.out.mono ?_; rintro e w7 ⟨rfl, p7⟩)
      have H7 := Lib.hid p7
      clear p7 CB
      go_roundw
      case rel => exact ⟨k + 1, by go_num, by omega, H7.out, fun j e hj he => by
        by_cases ej : j = k
        · rw [ej, ents_at HX.out] at he
          injection he with he
          rw [← he]
          exact HXF.out
        · exact HI.out.2 j e (by omega) he⟩
      case measure => simp [intOf]; omega
    · have hkn : k = n := by omega
      have hP : Hid (WL w wr g (putL (ents ss))) := Lib.hid (by
        have h := HI.out.1
        rw [List.take_of_length_le (by rw [ents_len]; omega), ← hsl, ← ents_len, putK_all] at h
        exact h)
      obtain ⟨A', n', c', hw⟩ := hP.out.ex
      have hb := hw.len
      have hbl := putK_len (ents ss).length (by rw [ents_len]; omega) (ents ss) HF.out
      rw [putK_all, ents_len] at hbl
      have CD := Lib.hid (done_any wr hw (by omega))
      have HX := Lib.hid hP.out.x
      clear hw hb hbl HI hP hkn
      go_wp2_with (go_at_call 55; refine CD.out.mono ?_; rintro x w5 ⟨B, d, rfl, o5, x5⟩)
      go_returns
      exact ⟨B, n', d, rfl, o5.base_mono (by have := HX.out.size; have := HG.out; omega), HX.out.trans x5⟩
set_option maxHeartbeats 3200000 in
theorem write_no (A : Option Addr) (n c : Nat) (ss : List EnS) (w : World) (hs : Led w A n ss) (h64 : n ≤ 64) (hf : ∃ e ∈ ents ss, e.form = false) {ps : Addr} (hS : Sen w 1 ps) : Calls Tryd.prog 35 #[.slice A n c] w fun x w' => x = .returned (.tuple #[.slice none 0 0, .iface 149 (.pointer (some ps))]) ∧ Ext w w' := by
  have hsl := hs.len
  have HR := Lib.hid hs
  have HF := Lib.hid hf
  have HS := Lib.hid (fun W (hx : Ext w W) => hS.ext hx)
  have h64' : ¬ (64 : Int) < (n : Int) := by omega
  have CN := Lib.hid (new_any w)
  clear hs hf hS
  go_enter Tryd.func35, Tryd.ntmps35
  go_upto_region 4 with (go_at_call 53; refine CN.out.mono ?_; rintro x w1 ⟨rfl, n1, x1⟩)
  have CM := Lib.hid (wnum_any n w1 n1 (by omega) (by omega))
  have H1 := Lib.hid (And.intro n1 x1)
  clear n1 x1 CN
  go_upto_region 5 with (go_at_call 54; refine CM.out.mono ?_; rintro x w2 ⟨rfl, A2, n2, c2, s2, f2, _⟩)
  have HP : Hid (WL w w2 w.heap.size (putK n ((ents ss).take 0))) := Lib.hid ⟨⟨A2, n2, c2, by simpa [putK] using s2⟩, wr_ext H1.out.1 f2 H1.out.2 (Nat.le_refl _), Nat.le_refl _⟩
  generalize hg : w.heap.size = g at *
  have HG := Lib.hid hg
  clear s2 f2 CM H1 hg
  go_upto_region 6 with (fail)
  go_loopw [6, 7, 8, 20] (fun _ _ _ v20 wr => ∃ k : Nat, v20 = .int .i64 (k : Int) ∧ k ≤ n ∧ Hid (WL w wr g (putK n ((ents ss).take k)) ∧ ∀ j e, j < k → (ents ss)[j]? = some e → e.form = true)) (fun _ _ _ v20 _ => n - (intOf v20).toNat)
  case atStart => exact ⟨0, rfl, by omega, HP.out, fun j e hj => by omega⟩
  case round =>
    obtain ⟨k, rfl, hk, HI⟩ := hrel
    clear HP
    by_cases hlt : k < n
    · obtain ⟨x, hx⟩ : ∃ x, ss[k]? = some x := ⟨ss[k]'(by omega), List.getElem?_eq_getElem _⟩
      obtain ⟨k10, hk10⟩ : ∃ k10, k * 10 = k10 := ⟨_, rfl⟩
      obtain ⟨ad, rfl, y0, y1, y2, y3, y4, y5, y6, y7, y8, y9⟩ := (HR.out.ext HI.out.1.x).entry hx hk10
      have k0 : (0 : Int) ≤ k := by omega
      have k1 : (k : Int) < n := by omega
      have HX := Lib.hid hx
      have X5 := (Ext.refl wr).alloc (.cells #[.int .i64 x.e.cl, .int .i64 x.e.nu, .int .i64 x.e.kd, .int .i64 x.e.id, .int .i64 x.e.sk, .int .i64 x.e.sq, .int .i64 x.e.st, .int .i64 x.e.pol, .slice x.A x.n x.c, .int .i64 x.e.at_] 29)
      have H5 := Lib.hid (And.intro (heap_alloc_new wr (.cells #[.int .i64 x.e.cl, .int .i64 x.e.nu, .int .i64 x.e.kd, .int .i64 x.e.id, .int .i64 x.e.sk, .int .i64 x.e.sq, .int .i64 x.e.st, .int .i64 x.e.pol, .slice x.A x.n x.c, .int .i64 x.e.at_] 29)) (And.intro (HI.out.1.ext X5) ((HR.out.all x (List.mem_of_getElem? hx)).ext (HI.out.1.x.trans X5))))
      clear hx X5
      go_upto_region 8 with (fail)
      generalize wr.alloc (.cells #[.int .i64 x.e.cl, .int .i64 x.e.nu, .int .i64 x.e.kd, .int .i64 x.e.id, .int .i64 x.e.sk, .int .i64 x.e.sq, .int .i64 x.e.st, .int .i64 x.e.pol, .slice x.A x.n x.c, .int .i64 x.e.at_] 29) = V5 at *
      generalize wr.heap.size = tb at *
      clear y0 y1 y2 y3 y4 y5 y6 y7 y8 y9
      have c0 : V5.cell? ⟨tb, 0, none⟩ = some (.int .i64 x.e.cl) := block_cell (H5.out.1) 0
      have c1 : V5.cell? ⟨tb, 1, none⟩ = some (.int .i64 x.e.nu) := block_cell (H5.out.1) 1
      have c2 : V5.cell? ⟨tb, 2, none⟩ = some (.int .i64 x.e.kd) := block_cell (H5.out.1) 2
      have c3 : V5.cell? ⟨tb, 3, none⟩ = some (.int .i64 x.e.id) := block_cell (H5.out.1) 3
      have c4 : V5.cell? ⟨tb, 4, none⟩ = some (.int .i64 x.e.sk) := block_cell (H5.out.1) 4
      have c5 : V5.cell? ⟨tb, 5, none⟩ = some (.int .i64 x.e.sq) := block_cell (H5.out.1) 5
      have c6 : V5.cell? ⟨tb, 6, none⟩ = some (.int .i64 x.e.st) := block_cell (H5.out.1) 6
      have c7 : V5.cell? ⟨tb, 7, none⟩ = some (.int .i64 x.e.pol) := block_cell (H5.out.1) 7
      have c8 : V5.cell? ⟨tb, 8, none⟩ = some (.slice x.A x.n x.c) := block_cell (H5.out.1) 8
      have c9 : V5.cell? ⟨tb, 9, none⟩ = some (.int .i64 x.e.at_) := block_cell (H5.out.1) 9
      by_cases hxf : x.e.form = true
      · skip
        have CP := Lib.hid (put_ok (e := x.e) (A := x.A) (n := x.n) (c := x.c) H5.out.2.2.rd hxf)
        have HXF := Lib.hid hxf
        clear hxf
        go_upto_region 11 with (go_at_call 26; refine CP.out.mono ?_; rintro e w6 ⟨B, m, d, rfl, o6, x6⟩)
        have hm6 : m = x.e.put.length := by have := o6.rd.len; rw [u8s_len] at this; exact this.symm
        have hml := put_len HXF.out
        have hbl := putK_len n (by omega) ((ents ss).take k) (fun e he => by
          obtain ⟨j, hj⟩ := List.getElem?_of_mem he
          rw [List.getElem?_take] at hj
          split at hj
          · exact HI.out.2 j e (by omega) hj
          · cases hj)
        rw [List.length_take] at hbl
        have CB := Lib.hid ((H5.out.2.1.ext x6).bytes (by omega) B m d x.e.put o6 (by omega) (fun A' n' c' h' b hb => by
          have h1 := o6.base_le b.block (by rw [hb]; rfl)
          obtain ⟨A0, n0, c0, h0⟩ := H5.out.2.1.ex
          have h2 := h0.lt
          refine ⟨by omega, fun a ha e => ?_⟩
          have hb0 := (x6.block g h0.lt).trans h0.blk
          rw [h'.blk] at hb0
          simp only [Option.some.injEq, Obj.cells.injEq, Array.mk.injEq, List.cons.injEq, Value.slice.injEq, and_true] at hb0
          obtain ⟨rfl, _, _⟩ := hb0.1
          have h3 := h0.own.lt_at ha
          omega))
        rw [show putK n ((ents ss).take k) ++ (Wr.num m ++ x.e.put) = putK n ((ents ss).take (k + 1)) by rw [take_succ' (ents_at HX.out), putK_snoc, hm6]; rfl] at CB
        clear o6 x6 CP hm6 hml hbl c0 c1 c2 c3 c4 c5 c6 c7 c8 c9
        go_wp2_with (go_at_call 64; refine CB.out.mono ?_; rintro e w7 ⟨rfl, p7⟩)
        have H7 := Lib.hid p7
        clear p7 CB
        go_roundw
        case rel => exact ⟨k + 1, by go_num, by omega, H7.out, fun j e hj he => by
          by_cases ej : j = k
          · rw [ej, ents_at HX.out] at he
            injection he with he
            rw [← he]
            exact HXF.out
          · exact HI.out.2 j e (by omega) he⟩
        case measure => simp [intOf]; omega
      · have hxf2 : x.e.form = false := by simpa using hxf
        have CP := Lib.hid (put_no x V5 H5.out.2.2 hxf2 (HS.out V5 H5.out.2.1.x))
        clear hxf hxf2
        go_wp2_with (go_at_call 26; refine CP.out.mono ?_; rintro e w6 ⟨rfl, x6⟩)
        go_returns
        exact ⟨rfl, H5.out.2.1.x.trans x6⟩
    · exfalso
      obtain ⟨e, he, hef⟩ := HF.out
      obtain ⟨j, hj⟩ := List.getElem?_of_mem he
      have h1 := (List.getElem?_eq_some_iff.1 hj).1
      rw [ents_len] at h1
      rw [HI.out.2 j e (by omega) hj] at hef
      cases hef
end Go.Proofs.YteflnnlihblpgaaDoor
namespace Go.Proofs.YteflnnlihblpgaaDoor
set_option maxRecDepth 100000
open Go.RowKit
set_option linter.unusedVariables false
set_option maxHeartbeats 1600000 in
theorem rwrite_large (A : Option Addr) (n c : Nat) (ss : List EnS) (w : World) (hs : Led w A n ss) (h64 : 64 < n) : Calls Tryd.prog 36 #[.slice A n c] w fun x w' => x = .returned (.tuple #[.slice none 0 0, .int .i64 8]) ∧ Ext w w' := by
  have h64' : (64 : Int) < (n : Int) := by omega
  clear hs
  go_enter Tryd.func36, Tryd.ntmps36
  go_wp2_with fail
  go_returns
  exact ⟨rfl, Ext.refl w⟩
set_option maxHeartbeats 3200000 in
theorem rwrite_ok (A : Option Addr) (n c : Nat) (ss : List EnS) (w : World) (hs : Led w A n ss) (h64 : n ≤ 64) (hf : ∀ e ∈ ents ss, e.form = true) : Calls Tryd.prog 36 #[.slice A n c] w fun x w' => ∃ B m d, x = .returned (.tuple #[.slice B m d, .int .i64 0]) ∧ Own w' w.heap.size 5 1 B m d (u8s (putL (ents ss))) ∧ Ext w w' := by
  have hsl := hs.len
  have HR := Lib.hid hs
  have HF := Lib.hid hf
  have h64' : ¬ (64 : Int) < (n : Int) := by omega
  have CN := Lib.hid (refnum_any n w (by omega))
  clear hs hf
  go_enter Tryd.func36, Tryd.ntmps36
  go_upto_region 5 with (go_at_call 60; refine CN.out.mono ?_; rintro x w1 ⟨A1, c1, rfl, o1, x1⟩)
  have HP : Hid (Own w1 w.heap.size 5 1 A1 (Wr.num n).length c1 (u8s (putK n ((ents ss).take 0))) ∧ Ext w w1) := Lib.hid ⟨by simpa [putK] using o1, x1⟩
  obtain ⟨L0, hL0⟩ : ∃ L0, (Wr.num n).length = L0 := ⟨_, rfl⟩
  have hL9 := numlen9 (x := n) (by omega)
  rw [hL0] at HP hL9 ⊢
  clear o1 x1 CN hL0
  go_loopw [4, 6, 15] (fun v4 _ v15 wr => ∃ (k L d : Nat) (B : Option Addr), v15 = .int .i64 (k : Int) ∧ v4 = .slice B L d ∧ k ≤ n ∧ Hid ((Own wr w.heap.size 5 1 B L d (u8s (putK n ((ents ss).take k))) ∧ Ext w wr) ∧ ∀ j e, j < k → (ents ss)[j]? = some e → e.form = true)) (fun _ _ v15 _ => n - (intOf v15).toNat)
  case atStart => exact ⟨0, L0, c1, A1, rfl, rfl, by omega, HP.out, fun j e hj => by omega⟩
  case round =>
    obtain ⟨k, L, d, B, rfl, rfl, hk, HI⟩ := hrel
    clear HP
    by_cases hlt : k < n
    · obtain ⟨x, hx⟩ : ∃ x, ss[k]? = some x := ⟨ss[k]'(by omega), List.getElem?_eq_getElem _⟩
      obtain ⟨k10, hk10⟩ : ∃ k10, k * 10 = k10 := ⟨_, rfl⟩
      obtain ⟨ad, rfl, y0, y1, y2, y3, y4, y5, y6, y7, y8, y9⟩ := (HR.out.ext HI.out.1.2).entry hx hk10
      have k0 : (0 : Int) ≤ k := by omega
      have k1 : (k : Int) < n := by omega
      have HX := Lib.hid hx
      have X5 := (Ext.refl wr).alloc (.cells #[.int .i64 x.e.cl, .int .i64 x.e.nu, .int .i64 x.e.kd, .int .i64 x.e.id, .int .i64 x.e.sk, .int .i64 x.e.sq, .int .i64 x.e.st, .int .i64 x.e.pol, .slice x.A x.n x.c, .int .i64 x.e.at_] 29)
      have H5 := Lib.hid (And.intro (heap_alloc_new wr (.cells #[.int .i64 x.e.cl, .int .i64 x.e.nu, .int .i64 x.e.kd, .int .i64 x.e.id, .int .i64 x.e.sk, .int .i64 x.e.sq, .int .i64 x.e.st, .int .i64 x.e.pol, .slice x.A x.n x.c, .int .i64 x.e.at_] 29)) (And.intro (HI.out.1.1.ext X5) (And.intro (HI.out.1.2.trans X5) ((HR.out.all x (List.mem_of_getElem? hx)).ext (HI.out.1.2.trans X5)))))
      clear hx X5
      go_upto_region 7 with (fail)
      generalize wr.alloc (.cells #[.int .i64 x.e.cl, .int .i64 x.e.nu, .int .i64 x.e.kd, .int .i64 x.e.id, .int .i64 x.e.sk, .int .i64 x.e.sq, .int .i64 x.e.st, .int .i64 x.e.pol, .slice x.A x.n x.c, .int .i64 x.e.at_] 29) = V5 at *
      generalize wr.heap.size = tb at *
      clear y0 y1 y2 y3 y4 y5 y6 y7 y8 y9
      have c0 : V5.cell? ⟨tb, 0, none⟩ = some (.int .i64 x.e.cl) := block_cell (H5.out.1) 0
      have c1 : V5.cell? ⟨tb, 1, none⟩ = some (.int .i64 x.e.nu) := block_cell (H5.out.1) 1
      have c2 : V5.cell? ⟨tb, 2, none⟩ = some (.int .i64 x.e.kd) := block_cell (H5.out.1) 2
      have c3 : V5.cell? ⟨tb, 3, none⟩ = some (.int .i64 x.e.id) := block_cell (H5.out.1) 3
      have c4 : V5.cell? ⟨tb, 4, none⟩ = some (.int .i64 x.e.sk) := block_cell (H5.out.1) 4
      have c5 : V5.cell? ⟨tb, 5, none⟩ = some (.int .i64 x.e.sq) := block_cell (H5.out.1) 5
      have c6 : V5.cell? ⟨tb, 6, none⟩ = some (.int .i64 x.e.st) := block_cell (H5.out.1) 6
      have c7 : V5.cell? ⟨tb, 7, none⟩ = some (.int .i64 x.e.pol) := block_cell (H5.out.1) 7
      have c8 : V5.cell? ⟨tb, 8, none⟩ = some (.slice x.A x.n x.c) := block_cell (H5.out.1) 8
      have c9 : V5.cell? ⟨tb, 9, none⟩ = some (.int .i64 x.e.at_) := block_cell (H5.out.1) 9
      have hxf : x.e.form = true := HF.out x.e (List.mem_of_getElem? (ents_at HX.out))
      have CI := Lib.hid (rform_any x.e x.A x.n x.c V5 H5.out.2.2.2 true (Lib.hid hxf))
      have HXF := Lib.hid hxf
      clear hxf
      go_upto_region 9 with (go_at_call 27; refine CI.out.mono ?_; rintro e w6 ⟨rfl, x6⟩)
      have H6 := Lib.hid (And.intro ((x6.block _ (block_lt H5.out.1)).trans H5.out.1) (And.intro (H5.out.2.1.ext x6) (And.intro (H5.out.2.2.1.trans x6) (H5.out.2.2.2.ext x6))))
      clear CI x6 c0 c1 c2 c3 c4 c5 c6 c7 c8 c9
      have c0 : w6.cell? ⟨tb, 0, none⟩ = some (.int .i64 x.e.cl) := block_cell (H6.out.1) 0
      have c1 : w6.cell? ⟨tb, 1, none⟩ = some (.int .i64 x.e.nu) := block_cell (H6.out.1) 1
      have c2 : w6.cell? ⟨tb, 2, none⟩ = some (.int .i64 x.e.kd) := block_cell (H6.out.1) 2
      have c3 : w6.cell? ⟨tb, 3, none⟩ = some (.int .i64 x.e.id) := block_cell (H6.out.1) 3
      have c4 : w6.cell? ⟨tb, 4, none⟩ = some (.int .i64 x.e.sk) := block_cell (H6.out.1) 4
      have c5 : w6.cell? ⟨tb, 5, none⟩ = some (.int .i64 x.e.sq) := block_cell (H6.out.1) 5
      have c6 : w6.cell? ⟨tb, 6, none⟩ = some (.int .i64 x.e.st) := block_cell (H6.out.1) 6
      have c7 : w6.cell? ⟨tb, 7, none⟩ = some (.int .i64 x.e.pol) := block_cell (H6.out.1) 7
      have c8 : w6.cell? ⟨tb, 8, none⟩ = some (.slice x.A x.n x.c) := block_cell (H6.out.1) 8
      have c9 : w6.cell? ⟨tb, 9, none⟩ = some (.int .i64 x.e.at_) := block_cell (H6.out.1) 9
      have CP := Lib.hid (rput_any x.e x.A x.n x.c w6 H6.out.2.2.2 HXF.out)
      have hml := put_len HXF.out
      have hbl := putK_len n (by omega) ((ents ss).take k) (fun e he => by
        obtain ⟨j, hj⟩ := List.getElem?_of_mem he
        rw [List.getElem?_take] at hj
        split at hj
        · exact HI.out.2 j e (by omega) hj
        · cases hj)
      rw [List.length_take] at hbl
      have hrl := recE_len HXF.out
      have HBL := Lib.hid (And.intro hbl (And.intro hrl hml))
      clear hbl hrl hml
      go_wp2_with (go_at_call 29; refine held ?_)
      refine Held.go (CP.out.mono ?_)
      rintro e w7 ⟨B7, m7, d7, rfl, o7, x7⟩
      have hm7 : m7 = x.e.put.length := by have := o7.rd.len; rw [u8s_len] at this; exact this.symm
      have hm7b : m7 ≤ 140737488351232 := by have := HBL.out.2.2; omega
      have CB := Lib.hid (refbytes_any B7 m7 d7 x.e.put w7 o7.rd hm7b)
      have hrec : Wr.num m7 ++ x.e.put = recE x.e := by rw [hm7]; rfl
      have hrecl : (Wr.num m7).length + m7 = (recE x.e).length := by rw [← hrec, List.length_append, hm7]
      rw [hrec, hrecl] at CB
      have HX7 := Lib.hid x7
      clear CP o7 x7 hm7 hm7b hrec hrecl
      go_wp2_with (go_at_call 65; refine held ?_)
      refine Held.go (CB.out.mono ?_)
      rintro e w8 ⟨B8, d8, rfl, o8, x8⟩
      have X8 := HX7.out.trans x8
      have hlk : (putK n ((ents ss).take k)).length = L := by have := H6.out.2.1.len; rw [u8s_len] at this; omega
      have hbd : L + (recE x.e).length ≤ 1000000 := by have h1 := HBL.out.1; have h2 := HBL.out.2.1; omega
      go_wp2_with (at_builtin; refine held ?_)
      refine Held.go (wp_app (m := (recE x.e).length) (news := u8s (recE x.e)) eltU8 (H6.out.2.1.ext X8) o8.rd (u8s_one _) (by omega) (.inr ⟨by omega, by omega⟩) (H6.out.2.2.1.trans X8).size _ _ rfl rfl rfl rfl ?_)
      intro A3 c3 w3 o3 g3 _ _
      have hpk : putK n ((ents ss).take (k + 1)) = putK n ((ents ss).take k) ++ recE x.e := by rw [take_succ' (ents_at HX.out), putK_snoc]
      rw [← u8s_append, ← hpk] at o3
      have H9 := Lib.hid (And.intro o3 (g3.ext (H6.out.2.2.1.trans X8) (fun q hq => (H6.out.2.1).base_le q hq)))
      clear o3 g3 o8 x8 X8 CB hpk hlk hbd HBL
      go_wp2_with fail
      go_roundw
      case rel => exact ⟨k + 1, L + (recE x.e).length, c3, A3, by go_num, rfl, by omega, H9.out, fun j e hj he => by
        by_cases ej : j = k
        · rw [ej, ents_at HX.out] at he
          injection he with he
          rw [← he]
          exact HXF.out
        · exact HI.out.2 j e (by omega) he⟩
      case measure => simp [intOf]; omega
    · have hkn : k = n := by omega
      have hP : putK n ((ents ss).take k) = putL (ents ss) := by rw [List.take_of_length_le (by rw [ents_len]; omega), ← hsl, ← ents_len, putK_all]
      have HH := Lib.hid HI.out.1
      rw [hP] at HH
      clear HI hkn hP
      go_wp2_with fail
      go_returns
      exact ⟨B, _, d, rfl, HH.out.1, HH.out.2⟩
set_option maxHeartbeats 3200000 in
theorem rwrite_no (A : Option Addr) (n c : Nat) (ss : List EnS) (w : World) (hs : Led w A n ss) (h64 : n ≤ 64) (hf : ∃ e ∈ ents ss, e.form = false) : Calls Tryd.prog 36 #[.slice A n c] w fun x w' => x = .returned (.tuple #[.slice none 0 0, .int .i64 16]) ∧ Ext w w' := by
  have hsl := hs.len
  have HR := Lib.hid hs
  have HF := Lib.hid hf
  have h64' : ¬ (64 : Int) < (n : Int) := by omega
  have CN := Lib.hid (refnum_any n w (by omega))
  clear hs hf
  go_enter Tryd.func36, Tryd.ntmps36
  go_upto_region 5 with (go_at_call 60; refine CN.out.mono ?_; rintro x w1 ⟨A1, c1, rfl, o1, x1⟩)
  have HP : Hid (Own w1 w.heap.size 5 1 A1 (Wr.num n).length c1 (u8s (putK n ((ents ss).take 0))) ∧ Ext w w1) := Lib.hid ⟨by simpa [putK] using o1, x1⟩
  obtain ⟨L0, hL0⟩ : ∃ L0, (Wr.num n).length = L0 := ⟨_, rfl⟩
  have hL9 := numlen9 (x := n) (by omega)
  rw [hL0] at HP hL9 ⊢
  clear o1 x1 CN hL0
  go_loopw [4, 6, 15] (fun v4 _ v15 wr => ∃ (k L d : Nat) (B : Option Addr), v15 = .int .i64 (k : Int) ∧ v4 = .slice B L d ∧ k ≤ n ∧ Hid ((Own wr w.heap.size 5 1 B L d (u8s (putK n ((ents ss).take k))) ∧ Ext w wr) ∧ ∀ j e, j < k → (ents ss)[j]? = some e → e.form = true)) (fun _ _ v15 _ => n - (intOf v15).toNat)
  case atStart => exact ⟨0, L0, c1, A1, rfl, rfl, by omega, HP.out, fun j e hj => by omega⟩
  case round =>
    obtain ⟨k, L, d, B, rfl, rfl, hk, HI⟩ := hrel
    clear HP
    by_cases hlt : k < n
    · obtain ⟨x, hx⟩ : ∃ x, ss[k]? = some x := ⟨ss[k]'(by omega), List.getElem?_eq_getElem _⟩
      obtain ⟨k10, hk10⟩ : ∃ k10, k * 10 = k10 := ⟨_, rfl⟩
      obtain ⟨ad, rfl, y0, y1, y2, y3, y4, y5, y6, y7, y8, y9⟩ := (HR.out.ext HI.out.1.2).entry hx hk10
      have k0 : (0 : Int) ≤ k := by omega
      have k1 : (k : Int) < n := by omega
      have HX := Lib.hid hx
      have X5 := (Ext.refl wr).alloc (.cells #[.int .i64 x.e.cl, .int .i64 x.e.nu, .int .i64 x.e.kd, .int .i64 x.e.id, .int .i64 x.e.sk, .int .i64 x.e.sq, .int .i64 x.e.st, .int .i64 x.e.pol, .slice x.A x.n x.c, .int .i64 x.e.at_] 29)
      have H5 := Lib.hid (And.intro (heap_alloc_new wr (.cells #[.int .i64 x.e.cl, .int .i64 x.e.nu, .int .i64 x.e.kd, .int .i64 x.e.id, .int .i64 x.e.sk, .int .i64 x.e.sq, .int .i64 x.e.st, .int .i64 x.e.pol, .slice x.A x.n x.c, .int .i64 x.e.at_] 29)) (And.intro (HI.out.1.1.ext X5) (And.intro (HI.out.1.2.trans X5) ((HR.out.all x (List.mem_of_getElem? hx)).ext (HI.out.1.2.trans X5)))))
      clear hx X5
      go_upto_region 7 with (fail)
      generalize wr.alloc (.cells #[.int .i64 x.e.cl, .int .i64 x.e.nu, .int .i64 x.e.kd, .int .i64 x.e.id, .int .i64 x.e.sk, .int .i64 x.e.sq, .int .i64 x.e.st, .int .i64 x.e.pol, .slice x.A x.n x.c, .int .i64 x.e.at_] 29) = V5 at *
      generalize wr.heap.size = tb at *
      clear y0 y1 y2 y3 y4 y5 y6 y7 y8 y9
      have c0 : V5.cell? ⟨tb, 0, none⟩ = some (.int .i64 x.e.cl) := block_cell (H5.out.1) 0
      have c1 : V5.cell? ⟨tb, 1, none⟩ = some (.int .i64 x.e.nu) := block_cell (H5.out.1) 1
      have c2 : V5.cell? ⟨tb, 2, none⟩ = some (.int .i64 x.e.kd) := block_cell (H5.out.1) 2
      have c3 : V5.cell? ⟨tb, 3, none⟩ = some (.int .i64 x.e.id) := block_cell (H5.out.1) 3
      have c4 : V5.cell? ⟨tb, 4, none⟩ = some (.int .i64 x.e.sk) := block_cell (H5.out.1) 4
      have c5 : V5.cell? ⟨tb, 5, none⟩ = some (.int .i64 x.e.sq) := block_cell (H5.out.1) 5
      have c6 : V5.cell? ⟨tb, 6, none⟩ = some (.int .i64 x.e.st) := block_cell (H5.out.1) 6
      have c7 : V5.cell? ⟨tb, 7, none⟩ = some (.int .i64 x.e.pol) := block_cell (H5.out.1) 7
      have c8 : V5.cell? ⟨tb, 8, none⟩ = some (.slice x.A x.n x.c) := block_cell (H5.out.1) 8
      have c9 : V5.cell? ⟨tb, 9, none⟩ = some (.int .i64 x.e.at_) := block_cell (H5.out.1) 9
      by_cases hxf : x.e.form = true
      · skip
        have CI := Lib.hid (rform_any x.e x.A x.n x.c V5 H5.out.2.2.2 true (Lib.hid hxf))
        have HXF := Lib.hid hxf
        clear hxf
        go_upto_region 9 with (go_at_call 27; refine CI.out.mono ?_; rintro e w6 ⟨rfl, x6⟩)
        have H6 := Lib.hid (And.intro ((x6.block _ (block_lt H5.out.1)).trans H5.out.1) (And.intro (H5.out.2.1.ext x6) (And.intro (H5.out.2.2.1.trans x6) (H5.out.2.2.2.ext x6))))
        clear CI x6 c0 c1 c2 c3 c4 c5 c6 c7 c8 c9
        have c0 : w6.cell? ⟨tb, 0, none⟩ = some (.int .i64 x.e.cl) := block_cell (H6.out.1) 0
        have c1 : w6.cell? ⟨tb, 1, none⟩ = some (.int .i64 x.e.nu) := block_cell (H6.out.1) 1
        have c2 : w6.cell? ⟨tb, 2, none⟩ = some (.int .i64 x.e.kd) := block_cell (H6.out.1) 2
        have c3 : w6.cell? ⟨tb, 3, none⟩ = some (.int .i64 x.e.id) := block_cell (H6.out.1) 3
        have c4 : w6.cell? ⟨tb, 4, none⟩ = some (.int .i64 x.e.sk) := block_cell (H6.out.1) 4
        have c5 : w6.cell? ⟨tb, 5, none⟩ = some (.int .i64 x.e.sq) := block_cell (H6.out.1) 5
        have c6 : w6.cell? ⟨tb, 6, none⟩ = some (.int .i64 x.e.st) := block_cell (H6.out.1) 6
        have c7 : w6.cell? ⟨tb, 7, none⟩ = some (.int .i64 x.e.pol) := block_cell (H6.out.1) 7
        have c8 : w6.cell? ⟨tb, 8, none⟩ = some (.slice x.A x.n x.c) := block_cell (H6.out.1) 8
        have c9 : w6.cell? ⟨tb, 9, none⟩ = some (.int .i64 x.e.at_) := block_cell (H6.out.1) 9
        have CP := Lib.hid (rput_any x.e x.A x.n x.c w6 H6.out.2.2.2 HXF.out)
        have hml := put_len HXF.out
        have hbl := putK_len n (by omega) ((ents ss).take k) (fun e he => by
          obtain ⟨j, hj⟩ := List.getElem?_of_mem he
          rw [List.getElem?_take] at hj
          split at hj
          · exact HI.out.2 j e (by omega) hj
          · cases hj)
        rw [List.length_take] at hbl
        have hrl := recE_len HXF.out
        have HBL := Lib.hid (And.intro hbl (And.intro hrl hml))
        clear hbl hrl hml
        go_wp2_with (go_at_call 29; refine held ?_)
        refine Held.go (CP.out.mono ?_)
        rintro e w7 ⟨B7, m7, d7, rfl, o7, x7⟩
        have hm7 : m7 = x.e.put.length := by have := o7.rd.len; rw [u8s_len] at this; exact this.symm
        have hm7b : m7 ≤ 140737488351232 := by have := HBL.out.2.2; omega
        have CB := Lib.hid (refbytes_any B7 m7 d7 x.e.put w7 o7.rd hm7b)
        have hrec : Wr.num m7 ++ x.e.put = recE x.e := by rw [hm7]; rfl
        have hrecl : (Wr.num m7).length + m7 = (recE x.e).length := by rw [← hrec, List.length_append, hm7]
        rw [hrec, hrecl] at CB
        have HX7 := Lib.hid x7
        clear CP o7 x7 hm7 hm7b hrec hrecl
        go_wp2_with (go_at_call 65; refine held ?_)
        refine Held.go (CB.out.mono ?_)
        rintro e w8 ⟨B8, d8, rfl, o8, x8⟩
        have X8 := HX7.out.trans x8
        have hlk : (putK n ((ents ss).take k)).length = L := by have := H6.out.2.1.len; rw [u8s_len] at this; omega
        have hbd : L + (recE x.e).length ≤ 1000000 := by have h1 := HBL.out.1; have h2 := HBL.out.2.1; omega
        go_wp2_with (at_builtin; refine held ?_)
        refine Held.go (wp_app (m := (recE x.e).length) (news := u8s (recE x.e)) eltU8 (H6.out.2.1.ext X8) o8.rd (u8s_one _) (by omega) (.inr ⟨by omega, by omega⟩) (H6.out.2.2.1.trans X8).size _ _ rfl rfl rfl rfl ?_)
        intro A3 c3 w3 o3 g3 _ _
        have hpk : putK n ((ents ss).take (k + 1)) = putK n ((ents ss).take k) ++ recE x.e := by rw [take_succ' (ents_at HX.out), putK_snoc]
        rw [← u8s_append, ← hpk] at o3
        have H9 := Lib.hid (And.intro o3 (g3.ext (H6.out.2.2.1.trans X8) (fun q hq => (H6.out.2.1).base_le q hq)))
        clear o3 g3 o8 x8 X8 CB hpk hlk hbd HBL
        go_wp2_with fail
        go_roundw
        case rel => exact ⟨k + 1, L + (recE x.e).length, c3, A3, by go_num, rfl, by omega, H9.out, fun j e hj he => by
          by_cases ej : j = k
          · rw [ej, ents_at HX.out] at he
            injection he with he
            rw [← he]
            exact HXF.out
          · exact HI.out.2 j e (by omega) he⟩
        case measure => simp [intOf]; omega
      · have hxf2 : x.e.form = false := by simpa using hxf
        have CI := Lib.hid (rform_any x.e x.A x.n x.c V5 H5.out.2.2.2 false (Lib.hid hxf2))
        clear hxf hxf2
        go_wp2_with (go_at_call 27; refine CI.out.mono ?_; rintro e w6 ⟨rfl, x6⟩)
        go_returns
        exact ⟨rfl, H5.out.2.2.1.trans x6⟩
    · exfalso
      obtain ⟨e, he, hef⟩ := HF.out
      obtain ⟨j, hj⟩ := List.getElem?_of_mem he
      have h1 := (List.getElem?_eq_some_iff.1 hj).1
      rw [ents_len] at h1
      rw [HI.out.2 j e (by omega) hj] at hef
      cases hef
end Go.Proofs.YteflnnlihblpgaaDoor
