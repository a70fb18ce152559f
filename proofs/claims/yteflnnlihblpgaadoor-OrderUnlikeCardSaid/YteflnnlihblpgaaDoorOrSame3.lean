/-
  The document's Same, SameLedger, Begins; order.Begins; walked.
-/
import Derived.Test.YteflnnlihblpgaaDoorOrSame
namespace Go.Proofs.YteflnnlihblpgaaDoor
set_option maxRecDepth 100000
open Go.RowKit
set_option linter.unusedVariables false
set_option maxHeartbeats 1600000 in
theorem rsame_any (s t : EnS) (w : World) (hs : s.Lies w) (ht : t.Lies w) (b : Bool) (hb : Hid (decide (s.e = t.e) = b)) : Calls Tryd.prog 24 #[.agg #[.int .i64 s.e.cl, .int .i64 s.e.nu, .int .i64 s.e.kd, .int .i64 s.e.id, .int .i64 s.e.sk, .int .i64 s.e.sq, .int .i64 s.e.st, .int .i64 s.e.pol, .slice s.A s.n s.c, .int .i64 s.e.at_], .agg #[.int .i64 t.e.cl, .int .i64 t.e.nu, .int .i64 t.e.kd, .int .i64 t.e.id, .int .i64 t.e.sk, .int .i64 t.e.sq, .int .i64 t.e.st, .int .i64 t.e.pol, .slice t.A t.n t.c, .int .i64 t.e.at_]] w fun x w' => x = .returned (.bool b) ∧ Ext w w' := by
  have HS := Lib.hid (And.intro hs ht)
  have X1 := (Ext.refl w).alloc (.cells #[.int .i64 s.e.cl, .int .i64 s.e.nu, .int .i64 s.e.kd, .int .i64 s.e.id, .int .i64 s.e.sk, .int .i64 s.e.sq, .int .i64 s.e.st, .int .i64 s.e.pol, .slice s.A s.n s.c, .int .i64 s.e.at_] 29)
  have X2 := X1.alloc (.cells #[.int .i64 t.e.cl, .int .i64 t.e.nu, .int .i64 t.e.kd, .int .i64 t.e.id, .int .i64 t.e.sk, .int .i64 t.e.sq, .int .i64 t.e.st, .int .i64 t.e.pol, .slice t.A t.n t.c, .int .i64 t.e.at_] 29)
  have b1 := heap_alloc_new w (.cells #[.int .i64 s.e.cl, .int .i64 s.e.nu, .int .i64 s.e.kd, .int .i64 s.e.id, .int .i64 s.e.sk, .int .i64 s.e.sq, .int .i64 s.e.st, .int .i64 s.e.pol, .slice s.A s.n s.c, .int .i64 s.e.at_] 29)
  have b2 := heap_alloc_new (w.alloc (.cells #[.int .i64 s.e.cl, .int .i64 s.e.nu, .int .i64 s.e.kd, .int .i64 s.e.id, .int .i64 s.e.sk, .int .i64 s.e.sq, .int .i64 s.e.st, .int .i64 s.e.pol, .slice s.A s.n s.c, .int .i64 s.e.at_] 29)) (.cells #[.int .i64 t.e.cl, .int .i64 t.e.nu, .int .i64 t.e.kd, .int .i64 t.e.id, .int .i64 t.e.sk, .int .i64 t.e.sq, .int .i64 t.e.st, .int .i64 t.e.pol, .slice t.A t.n t.c, .int .i64 t.e.at_] 29)
  rw [World.size_alloc] at b2
  have b3 := (((Ext.refl (w.alloc (.cells #[.int .i64 s.e.cl, .int .i64 s.e.nu, .int .i64 s.e.kd, .int .i64 s.e.id, .int .i64 s.e.sk, .int .i64 s.e.sq, .int .i64 s.e.st, .int .i64 s.e.pol, .slice s.A s.n s.c, .int .i64 s.e.at_] 29))).alloc (.cells #[.int .i64 t.e.cl, .int .i64 t.e.nu, .int .i64 t.e.kd, .int .i64 t.e.id, .int .i64 t.e.sk, .int .i64 t.e.sq, .int .i64 t.e.st, .int .i64 t.e.pol, .slice t.A t.n t.c, .int .i64 t.e.at_] 29)).block _ (block_lt b1)).trans b1
  have HV := Lib.hid (And.intro b3 (And.intro b2 X2))
  clear X1 X2 b1 b2 b3
  clear hs ht
  go_enter Tryd.func24, Tryd.ntmps24
  go_upto_region 1 with (fail)
  generalize (w.alloc (.cells #[.int .i64 s.e.cl, .int .i64 s.e.nu, .int .i64 s.e.kd, .int .i64 s.e.id, .int .i64 s.e.sk, .int .i64 s.e.sq, .int .i64 s.e.st, .int .i64 s.e.pol, .slice s.A s.n s.c, .int .i64 s.e.at_] 29)).alloc (.cells #[.int .i64 t.e.cl, .int .i64 t.e.nu, .int .i64 t.e.kd, .int .i64 t.e.id, .int .i64 t.e.sk, .int .i64 t.e.sq, .int .i64 t.e.st, .int .i64 t.e.pol, .slice t.A t.n t.c, .int .i64 t.e.at_] 29) = V at *
  generalize w.heap.size = ob at *
  have c0 : V.cell? ⟨ob, 0, none⟩ = some (.int .i64 s.e.cl) := block_cell (HV.out.1) 0
  have c1 : V.cell? ⟨ob, 1, none⟩ = some (.int .i64 s.e.nu) := block_cell (HV.out.1) 1
  have c2 : V.cell? ⟨ob, 2, none⟩ = some (.int .i64 s.e.kd) := block_cell (HV.out.1) 2
  have c3 : V.cell? ⟨ob, 3, none⟩ = some (.int .i64 s.e.id) := block_cell (HV.out.1) 3
  have c4 : V.cell? ⟨ob, 4, none⟩ = some (.int .i64 s.e.sk) := block_cell (HV.out.1) 4
  have c5 : V.cell? ⟨ob, 5, none⟩ = some (.int .i64 s.e.sq) := block_cell (HV.out.1) 5
  have c6 : V.cell? ⟨ob, 6, none⟩ = some (.int .i64 s.e.st) := block_cell (HV.out.1) 6
  have c7 : V.cell? ⟨ob, 7, none⟩ = some (.int .i64 s.e.pol) := block_cell (HV.out.1) 7
  have c8 : V.cell? ⟨ob, 8, none⟩ = some (.slice s.A s.n s.c) := block_cell (HV.out.1) 8
  have c9 : V.cell? ⟨ob, 9, none⟩ = some (.int .i64 s.e.at_) := block_cell (HV.out.1) 9
  have d0 : V.cell? ⟨ob + 1, 0, none⟩ = some (.int .i64 t.e.cl) := block_cell (HV.out.2.1) 0
  have d1 : V.cell? ⟨ob + 1, 1, none⟩ = some (.int .i64 t.e.nu) := block_cell (HV.out.2.1) 1
  have d2 : V.cell? ⟨ob + 1, 2, none⟩ = some (.int .i64 t.e.kd) := block_cell (HV.out.2.1) 2
  have d3 : V.cell? ⟨ob + 1, 3, none⟩ = some (.int .i64 t.e.id) := block_cell (HV.out.2.1) 3
  have d4 : V.cell? ⟨ob + 1, 4, none⟩ = some (.int .i64 t.e.sk) := block_cell (HV.out.2.1) 4
  have d5 : V.cell? ⟨ob + 1, 5, none⟩ = some (.int .i64 t.e.sq) := block_cell (HV.out.2.1) 5
  have d6 : V.cell? ⟨ob + 1, 6, none⟩ = some (.int .i64 t.e.st) := block_cell (HV.out.2.1) 6
  have d7 : V.cell? ⟨ob + 1, 7, none⟩ = some (.int .i64 t.e.pol) := block_cell (HV.out.2.1) 7
  have d8 : V.cell? ⟨ob + 1, 8, none⟩ = some (.slice t.A t.n t.c) := block_cell (HV.out.2.1) 8
  have d9 : V.cell? ⟨ob + 1, 9, none⟩ = some (.int .i64 t.e.at_) := block_cell (HV.out.2.1) 9
  by_cases hcl : s.e.cl = t.e.cl
  rotate_left 1
  · have ncl : (s.e.cl == t.e.cl) = false := by simpa using hcl
    obtain rfl : b = false := by rw [← hb.out]; exact decide_eq_false (fun h => hcl ((en_eq _ _).1 h).1)
    clear hcl
    go_wp2_with fail
    go_returns
    exact ⟨rfl, HV.out.2.2⟩
  have ncl : (s.e.cl == t.e.cl) = true := by simpa using hcl
  have Hcl := Lib.hid hcl
  clear hcl
  by_cases hnu : s.e.nu = t.e.nu
  rotate_left 1
  · have nnu : (s.e.nu == t.e.nu) = false := by simpa using hnu
    obtain rfl : b = false := by rw [← hb.out]; exact decide_eq_false (fun h => hnu ((en_eq _ _).1 h).2.1)
    clear hnu
    go_wp2_with fail
    go_returns
    exact ⟨rfl, HV.out.2.2⟩
  have nnu : (s.e.nu == t.e.nu) = true := by simpa using hnu
  have Hnu := Lib.hid hnu
  clear hnu
  have CO := Lib.hid (sameorder_any s t V (HS.out.1.ext HV.out.2.2) (HS.out.2.ext HV.out.2.2) b (Lib.hid (by
    rw [← hb.out]
    exact decide_eq_decide.2 ⟨fun h => (en_eq _ _).2 ⟨Hcl.out, Hnu.out, h⟩, fun h => ((en_eq _ _).1 h).2.2⟩)))
  go_wp2_with (go_at_call 51; refine CO.out.mono ?_; rintro x w1 ⟨rfl, x1⟩)
  go_returns
  exact ⟨rfl, HV.out.2.2.trans x1⟩
set_option maxHeartbeats 1600000 in
theorem rsameledger_any (A : Option Addr) (n c : Nat) (ss : List EnS) (B : Option Addr) (m d : Nat) (tt : List EnS) (w : World) (hs : Led w A n ss) (ht : Led w B m tt) (hn : n ≤ 2000000000000 ∧ m ≤ 2000000000000) (b : Bool) (hb : Hid (decide (ents ss = ents tt) = b)) : Calls Tryd.prog 16 #[.slice A n c, .slice B m d] w fun x w' => x = .returned (.bool b) ∧ Ext w w' := by
  have hsl := hs.len
  have htl := ht.len
  have HR := Lib.hid (And.intro hs ht)
  clear hs ht
  by_cases hnm : n = m
  rotate_left 1
  · have nn : ((n : Int) != (m : Int)) = true := by simp; omega
    obtain rfl : b = false := by rw [← hb.out]; exact decide_eq_false (fun h => hnm (by have := congrArg List.length h; rw [ents_len, ents_len] at this; omega))
    clear hnm
    go_enter Tryd.func16, Tryd.ntmps16
    go_wp2_with fail
    go_returns
    exact ⟨rfl, Ext.refl w⟩
  have nn : ((n : Int) != (m : Int)) = false := by simp; omega
  have hst : n ≤ m ∧ m ≤ n := by omega
  clear hnm
  go_enter Tryd.func16, Tryd.ntmps16
  go_upto_region 4 with (fail)
  clear nn
  go_loopw [5, 13] (fun _ v13 wr => ∃ k : Nat, v13 = .int .i64 (k : Int) ∧ k ≤ n ∧ Hid (Ext w wr ∧ ∀ j, j < k → (ents ss)[j]? = (ents tt)[j]?)) (fun _ v13 _ => n - (intOf v13).toNat)
  case atStart => exact ⟨0, rfl, by omega, Ext.refl w, fun j hj => by omega⟩
  case round =>
    obtain ⟨k, rfl, hk, HI⟩ := hrel
    by_cases hlt : k < n
    · obtain ⟨x, hx⟩ : ∃ x, ss[k]? = some x := ⟨ss[k]'(by omega), List.getElem?_eq_getElem _⟩
      obtain ⟨y, hy⟩ : ∃ y, tt[k]? = some y := ⟨tt[k]'(by omega), List.getElem?_eq_getElem _⟩
      obtain ⟨k10, hk10⟩ : ∃ k10, k * 10 = k10 := ⟨_, rfl⟩
      obtain ⟨ad, rfl, y0, y1, y2, y3, y4, y5, y6, y7, y8, y9⟩ := (HR.out.1.ext HI.out.1).entry hx hk10
      obtain ⟨ae, rfl, z0, z1, z2, z3, z4, z5, z6, z7, z8, z9⟩ := (HR.out.2.ext HI.out.1).entry hy hk10
      have k0 : (0 : Int) ≤ k := by omega
      have k1 : (k : Int) < n := by omega
      have k2 : (k : Int) < m := by omega
      have HX := Lib.hid (And.intro hx hy)
      obtain ⟨bb, hbb⟩ : ∃ bb, decide (x.e = y.e) = bb := ⟨_, rfl⟩
      have HBB := Lib.hid hbb
      have CS := Lib.hid (rsame_any x y wr.drew ((HR.out.1.all x (List.mem_of_getElem? hx)).ext HI.out.1.drew) ((HR.out.2.all y (List.mem_of_getElem? hy)).ext HI.out.1.drew) bb HBB)
      clear hx hy hbb
      go_upto_region 6 with (fail)
      go_still_tail 8, (by kernel_rfl)
      change wpList _ _ _ _ _ wr.drew
      have HI2 := Lib.hid HI.out.1.drew
      generalize wr.drew = wd at *
      clear y0 y1 y2 y3 y4 y5 y6 y7 y8 y9 z0 z1 z2 z3 z4 z5 z6 z7 z8 z9
      cases bb with
      | true =>
        go_wp2_with (go_at_call 24; refine CS.out.mono ?_; rintro e w1 ⟨rfl, x1⟩)
        have H1 := Lib.hid (HI2.out.trans x1)
        clear CS x1
        go_roundw
        case rel => exact ⟨k + 1, by go_num, by omega, H1.out, fun j hj => by
          by_cases e : j = k
          · rw [e, ents_at HX.out.1, ents_at HX.out.2, of_decide_eq_true HBB.out]
          · exact HI.out.2 j (by omega)⟩
        case measure => simp [intOf]; omega
      | false =>
        obtain rfl : b = false := by
          rw [← hb.out]
          exact decide_eq_false (fun h => of_decide_eq_false HBB.out (by have := ents_at HX.out.1; rw [h, ents_at HX.out.2] at this; injection this with this; exact this.symm))
        go_wp2_with (go_at_call 24; refine CS.out.mono ?_; rintro e w1 ⟨rfl, x1⟩)
        go_returns
        exact ⟨rfl, HI2.out.trans x1⟩
    · have e : b = true := by
        rw [← hb.out]
        exact decide_eq_true (List.ext_getElem? fun j => by
          rcases Nat.lt_or_ge j k with h | h
          · exact HI.out.2 j h
          · rw [List.getElem?_eq_none (by rw [ents_len]; omega), List.getElem?_eq_none (by rw [ents_len]; omega)])
      subst e
      go_wp2_with fail
      go_returns
      exact ⟨rfl, HI.out.1⟩
end Go.Proofs.YteflnnlihblpgaaDoor
