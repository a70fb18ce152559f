/-
  Two errors compared by '!='.
-/
import Derived.Test.YteflnnlihblpgaaDoorMgNetPutsProof18
namespace Go.Proofs.YteflnnlihblpgaaDoor
set_option maxRecDepth 100000
open Go.RowKit
set_option linter.unusedVariables false
set_option maxHeartbeats 1600000 in
theorem rsame_any (s t : EnS) (w : World) (hs : s.Lies w) (ht : t.Lies w) (b : Bool) (hb : Hid (decide (s.e = t.e) = b)) : Calls Tryd.prog 24 #[.agg #[.int .i64 s.e.cl, .int .i64 s.e.nu, .int .i64 s.e.kd, .int .i64 s.e.id, .int .i64 s.e.sk, .int .i64 s.e.sq, .int .i64 s.e.st, .int .i64 s.e.pol, .slice s.A s.n s.c, .int .i64 s.e.at_], .agg #[.int .i64 t.e.cl, .int .i64 t.e.nu, .int .i64 t.e.kd, .int .i64 t.e.id, .int .i64 t.e.sk, .int .i64 t.e.sq, .int .i64 t.e.st, .int .i64 t.e.pol, .slice t.A t.n t.c, .int .i64 t.e.at_]] w fun x w' => x = .returned (.bool b) ∧ Ext w w' := by
  have HS := Lib.hid (And.intro hs ht)
  have X1 := (Ext.refl w).alloc (.cells #[.int .i64 s.e.cl, .int .i64 s.e.nu, .int .i64 s.e.kd, .int .i64 s.e.id, .int .i64 s.e.sk, .int .i64 s.e.sq, .int .i64 s.e.st, .int .i64 s.e.pol, .slice s.A s.n s.c, .int .i64 s.e.at_] 29)
  have X2 := X1.alloc (.cells #[.int .i64 t.e.cl, .int .i64 t.e.nu, .int .i64 t.e.kd, .int .i64 t.e.id, .int .i64 t.e.sk, .int .i64 t.e.sq, .int .i64 t.e.st, .int .i64 t.e.pol, .slice t.A t.n t.c, .int .i64 t.e.at_] 29)
  have b1 := heap_alloc_new w (.cells #[.int .i64 s.e.cl, .int .i64 s.e.nu, .int .i64 s.e.kd, .int .i64 s.e.id, .int .i64 s.e.sk, .int .i64 s.e.sq, .int .i64 s.e.st, .int .i64 s.e.pol, .slice s.A s.n s.c, .int .i64 s.e.at_] 29)
  have b2 := heap_alloc_new (w.alloc (.cells #[.int .i64 s.e.cl, .int .i64 s.e.nu, .int .i64 s.e.kd, .int .i64 s.e.id, .int .i64 s.e.sk, .int .i64 s.e.sq, .int .i64 s.e.st, .int .i64 s.e.pol, .slice s.A s.n s.c, .int .i64 s.e.at_] 29)) (.cells #[.int .i64 t.e.cl, .int .i64 t.e.nu, .int .i64 t.e.kd, .int .i64 t.e.id, .int .i64 t.e.sk, .int .i64 t.e.sq, .int .i64 t.e.st, .int .i64 t.e.pol, .slice t.A t.n t.c, .int .i64 t.e.at_] 29)
  rw [World.size_alloc] at b2
  have b3 := (((Ext.refl (w.alloc (.cells #[.int .i64 s.e.cl, .int .i64 s.e.nu, .int .i64 s.e.kd, .int .i64 s.e.id, .int .i64 s.e.sk, .int .i64 s.e.sq, .int .i64 s.e.st, .int .i64 s.e.pol, .slice s.A s.n s.c, .int .i64 s.e.at_] 29))).alloc (.cells #[.int .i64 t.e.cl, .int .i64 t.e.nu, .int .i64 t.e.kd, .int .i64 t.e.id, .int .i64 t.e.sk, .int .i64 t.e.sq, .int .i64 t.e.st, .int .i64 t.e.pol, .slice t.A t.n t.c, .int .i64 t.e.at_] 29)).block _ (block_lt b1)).trans b1
  have HV := Lib.hid (And.intro b3 (And.intro b2 X2))
  clear X1 X2 b1 b2 b3
  clear hs ht
  go_enter Tryd.func24, Tryd.ntmps24
  go_upto_region 1 with (fail)
  generalize (w.alloc (.cells #[.int .i64 s.e.cl, .int .i64 s.e.nu, .int .i64 s.e.kd, .int .i64 s.e.id, .int .i64 s.e.sk, .int .i64 s.e.sq, .int .i64 s.e.st, .int .i64 s.e.pol, .slice s.A s.n s.c, .int .i64 s.e.at_] 29)).alloc (.cells #[.int .i64 t.e.cl, .int .i64 t.e.nu, .int .i64 t.e.kd, .int .i64 t.e.id, .int .i64 t.e.sk, .int .i64 t.e.sq, .int .i64 t.e.st, .int .i64 t.e.pol, .slice t.A t.n t.c, .int .i64 t.e.at_] 29) = V at *
  generalize w.heap.size = ob at *
  have c0 : V.cell? ⟨ob, 0, none⟩ = some (.int .i64 s.e.cl) := block_cell (HV.out.1) 0
  have c1 : V.cell? ⟨ob, 1, none⟩ = some (.int .i64 s.e.nu) := block_cell (HV.out.1) 1
  have c2 : V.cell? ⟨ob, 2, none⟩ = some (.int .i64 s.e.kd) := block_cell (HV.out.1) 2
  have c3 : V.cell? ⟨ob, 3, none⟩ = some (.int .i64 s.e.id) := block_cell (HV.out.1) 3
  have c4 : V.cell? ⟨ob, 4, none⟩ = some (.int .i64 s.e.sk) := block_cell (HV.out.1) 4
  have c5 : V.cell? ⟨ob, 5, none⟩ = some (.int .i64 s.e.sq) := block_cell (HV.out.1) 5
  have c6 : V.cell? ⟨ob, 6, none⟩ = some (.int .i64 s.e.st) := block_cell (HV.out.1) 6
  have c7 : V.cell? ⟨ob, 7, none⟩ = some (.int .i64 s.e.pol) := block_cell (HV.out.1) 7
  have c8 : V.cell? ⟨ob, 8, none⟩ = some (.slice s.A s.n s.c) := block_cell (HV.out.1) 8
  have c9 : V.cell? ⟨ob, 9, none⟩ = some (.int .i64 s.e.at_) := block_cell (HV.out.1) 9
  have d0 : V.cell? ⟨ob + 1, 0, none⟩ = some (.int .i64 t.e.cl) := block_cell (HV.out.2.1) 0
  have d1 : V.cell? ⟨ob + 1, 1, none⟩ = some (.int .i64 t.e.nu) := block_cell (HV.out.2.1) 1
  have d2 : V.cell? ⟨ob + 1, 2, none⟩ = some (.int .i64 t.e.kd) := block_cell (HV.out.2.1) 2
  have d3 : V.cell? ⟨ob + 1, 3, none⟩ = some (.int .i64 t.e.id) := block_cell (HV.out.2.1) 3
  have d4 : V.cell? ⟨ob + 1, 4, none⟩ = some (.int .i64 t.e.sk) := block_cell (HV.out.2.1) 4
  have d5 : V.cell? ⟨ob + 1, 5, none⟩ = some (.int .i64 t.e.sq) := block_cell (HV.out.2.1) 5
  have d6 : V.cell? ⟨ob + 1, 6, none⟩ = some (.int .i64 t.e.st) := block_cell (HV.out.2.1) 6
  have d7 : V.cell? ⟨ob + 1, 7, none⟩ = some (.int .i64 t.e.pol) := block_cell (HV.out.2.1) 7
  have d8 : V.cell? ⟨ob + 1, 8, none⟩ = some (.slice t.A t.n t.c) := block_cell (HV.out.2.1) 8
  have d9 : V.cell? ⟨ob + 1, 9, none⟩ = some (.int .i64 t.e.at_) := block_cell (HV.out.2.1) 9
  by_cases hcl : s.e.cl = t.e.cl
  rotate_left 1
  · have ncl : (s.e.cl == t.e.cl) = false := by simpa using hcl
    obtain rfl : b = false := by rw [← hb.out]; exact decide_eq_false (fun h => hcl ((en_eq _ _).1 h).1)
    clear hcl
    go_wp2_with fail
    go_returns
    exact ⟨rfl, HV.out.2.2⟩
  have ncl : (s.e.cl == t.e.cl) = true := by simpa using hcl
  have Hcl := Lib.hid hcl
  clear hcl
  by_cases hnu : s.e.nu = t.e.nu
  rotate_left 1
  · have nnu : (s.e.nu == t.e.nu) = false := by simpa using hnu
    obtain rfl : b = false := by rw [← hb.out]; exact decide_eq_false (fun h => hnu ((en_eq _ _).1 h).2.1)
    clear hnu
    go_wp2_with fail
    go_returns
    exact ⟨rfl, HV.out.2.2⟩
  have nnu : (s.e.nu == t.e.nu) = true := by simpa using hnu
  have Hnu := Lib.hid hnu
  clear hnu
  have CO := Lib.hid (sameorder_any s t V (HS.out.1.ext HV.out.2.2) (HS.out.2.ext HV.out.2.2) b (Lib.hid (by
    rw [← hb.out]
    exact decide_eq_decide.2 ⟨fun h => (en_eq _ _).2 ⟨Hcl.out, Hnu.out, h⟩, fun h => ((en_eq _ _).1 h).2.2⟩)))
  go_wp2_with (go_at_call 51; refine CO.out.mono ?_; rintro x w1 ⟨rfl, x1⟩)
  go_returns
  exact ⟨rfl, HV.out.2.2.trans x1⟩
set_option maxHeartbeats 1600000 in
theorem rsameledger_any (A : Option Addr) (n c : Nat) (ss : List EnS) (B : Option Addr) (m d : Nat) (tt : List EnS) (w : World) (hs : Led w A n ss) (ht : Led w B m tt) (hn : n ≤ 2000000000000 ∧ m ≤ 2000000000000) (b : Bool) (hb : Hid (decide (ents ss = ents tt) = b)) : Calls Tryd.prog 16 #[.slice A n c, .slice B m d] w fun x w' => x = .returned (.bool b) ∧ Ext w w' := by
  have hsl := hs.len
  have htl := ht.len
  have HR := Lib.hid (And.intro hs ht)
  clear hs ht
  by_cases hnm : n = m
  rotate_left 1
  · have nn : ((n : Int) != (m : Int)) = true := by simp; omega
    obtain rfl : b = false := by rw [← hb.out]; exact decide_eq_false (fun h => hnm (by have := congrArg List.length h; rw [ents_len, ents_len] at this; omega))
    clear hnm
    go_enter Tryd.func16, Tryd.ntmps16
    go_wp2_with fail
    go_returns
    exact ⟨rfl, Ext.refl w⟩
  have nn : ((n : Int) != (m : Int)) = false := by simp; omega
  have hst : n ≤ m ∧ m ≤ n := by omega
  clear hnm
  go_enter Tryd.func16, Tryd.ntmps16
  go_upto_region 4 with (fail)
  clear nn
  go_loopw [5, 13] (fun _ v13 wr => ∃ k : Nat, v13 = .int .i64 (k : Int) ∧ k ≤ n ∧ Hid (Ext w wr ∧ ∀ j, j < k → (ents ss)[j]? = (ents tt)[j]?)) (fun _ v13 _ => n - (intOf v13).toNat)
  case atStart => exact ⟨0, rfl, by omega, Ext.refl w, fun j hj => by omega⟩
  case round =>
    obtain ⟨k, rfl, hk, HI⟩ := hrel
    by_cases hlt : k < n
    · obtain ⟨x, hx⟩ : ∃ x, ss[k]? = some x := ⟨ss[k]'(by omega), List.getElem?_eq_getElem _⟩
      obtain ⟨y, hy⟩ : ∃ y, tt[k]? = some y := ⟨tt[k]'(by omega), List.getElem?_eq_getElem _⟩
      obtain ⟨k10, hk10⟩ : ∃ k10, k * 10 = k10 := ⟨_, rfl⟩
      obtain ⟨ad, rfl, y0, y1, y2, y3, y4, y5, y6, y7, y8, y9⟩ := (HR.out.1.ext HI.out.1).entry hx hk10
      obtain ⟨ae, rfl, z0, z1, z2, z3, z4, z5, z6, z7, z8, z9⟩ := (HR.out.2.ext HI.out.1).entry hy hk10
      have k0 : (0 : Int) ≤ k := by omega
      have k1 : (k : Int) < n := by omega
      have k2 : (k : Int) < m := by omega
      have HX := Lib.hid (And.intro hx hy)
      obtain ⟨bb, hbb⟩ : ∃ bb, decide (x.e = y.e) = bb := ⟨_, rfl⟩
      have HBB := Lib.hid hbb
      have CS := Lib.hid (rsame_any x y wr.drew ((HR.out.1.all x (List.mem_of_getElem? hx)).ext HI.out.1.drew) ((HR.out.2.all y (List.mem_of_getElem? hy)).ext HI.out.1.drew) bb HBB)
      clear hx hy hbb
      go_upto_region 6 with (fail)
      go_still_tail 8, (by kernel_rfl)
      change wpList _ _ _ _ _ wr.drew
      have HI2 := Lib.hid HI.out.1.drew
      generalize wr.drew = wd at *
      clear y0 y1 y2 y3 y4 y5 y6 y7 y8 y9 z0 z1 z2 z3 z4 z5 z6 z7 z8 z9
      cases bb with
      | true =>
        go_wp2_with (go_at_call 24; refine CS.out.mono ?_; rintro e w1 ⟨rfl, x1⟩)
        have H1 := Lib.hid (HI2.out.trans x1)
        clear CS x1
        go_roundw
        case rel => exact ⟨k + 1, by go_num, by omega, H1.out, fun j hj => by
          by_cases e : j = k
          · rw [e, ents_at HX.out.1, ents_at HX.out.2, of_decide_eq_true HBB.out]
          · exact HI.out.2 j (by omega)⟩
        case measure => simp [intOf]; omega
      | false =>
        obtain rfl : b = false := by
          rw [← hb.out]
          exact decide_eq_false (fun h => of_decide_eq_false HBB.out (by have := ents_at HX.out.1; rw [h, ents_at HX.out.2] at this; injection this with this; exact this.symm))
        go_wp2_with (go_at_call 24; refine CS.out.mono ?_; rintro e w1 ⟨rfl, x1⟩)
        go_returns
        exact ⟨rfl, HI2.out.trans x1⟩
    · have e : b = true := by
        rw [← hb.out]
        exact decide_eq_true (List.ext_getElem? fun j => by
          rcases Nat.lt_or_ge j k with h | h
          · exact HI.out.2 j h
          · rw [List.getElem?_eq_none (by rw [ents_len]; omega), List.getElem?_eq_none (by rw [ents_len]; omega)])
      subst e
      go_wp2_with fail
      go_returns
      exact ⟨rfl, HI.out.1⟩
end Go.Proofs.YteflnnlihblpgaaDoor
namespace Go.Proofs.YteflnnlihblpgaaDoor
set_option maxRecDepth 100000
open Go.RowKit
set_option linter.unusedVariables false
theorem ms_eq (m k : Ms) : m = k ↔ m.kd = k.kd ∧ m.fr = k.fr ∧ m.tw = k.tw ∧ m.jb = k.jb ∧ (m.br = k.br ∧ m.bn = k.bn) ∧ m.ar = k.ar ∧ m.an = k.an := by
  cases m; cases k
  simp only [Ms.mk.injEq]
  constructor
  · rintro ⟨h1, h2, h3, h4, h5, h6, h7, h8⟩; exact ⟨h1, h2, h3, h4, ⟨h5, h6⟩, h7, h8⟩
  · rintro ⟨h1, h2, h3, h4, ⟨h5, h6⟩, h7, h8⟩; exact ⟨h1, h2, h3, h4, h5, h6, h7, h8⟩
set_option maxHeartbeats 12800000 in
theorem rsamem_any (m k : Ms) (A : Option Addr) (n c : Nat) (ss : List EnS) (B : Option Addr) (q d : Nat) (tt : List EnS) (w : World) (hs : Led w A n ss) (ht : Led w B q tt) (hn : n ≤ 2000000000000 ∧ q ≤ 2000000000000) (b : Bool) (hb : Hid (decide (m = k ∧ ents ss = ents tt) = b)) : Calls Tryd.prog 40 #[.agg #[.int .i64 m.kd, .int .i64 m.fr, .int .i64 m.tw, .int .i64 m.jb, .int .i64 m.br, .int .i64 m.bn, .int .i64 m.ar, .int .i64 m.an, .slice A n c], .agg #[.int .i64 k.kd, .int .i64 k.fr, .int .i64 k.tw, .int .i64 k.jb, .int .i64 k.br, .int .i64 k.bn, .int .i64 k.ar, .int .i64 k.an, .slice B q d]] w fun x w' => x = .returned (.bool b) ∧ Ext w w' := by
  have HS := Lib.hid (fun W (hx : Ext w W) => And.intro (hs.ext hx) (ht.ext hx))
  have X1 := (Ext.refl w).alloc (.cells #[.int .i64 m.kd, .int .i64 m.fr, .int .i64 m.tw, .int .i64 m.jb, .int .i64 m.br, .int .i64 m.bn, .int .i64 m.ar, .int .i64 m.an, .slice A n c] 76)
  have X2 := (Ext.refl (w.alloc (.cells #[.int .i64 m.kd, .int .i64 m.fr, .int .i64 m.tw, .int .i64 m.jb, .int .i64 m.br, .int .i64 m.bn, .int .i64 m.ar, .int .i64 m.an, .slice A n c] 76))).alloc (.cells #[.int .i64 k.kd, .int .i64 k.fr, .int .i64 k.tw, .int .i64 k.jb, .int .i64 k.br, .int .i64 k.bn, .int .i64 k.ar, .int .i64 k.an, .slice B q d] 76)
  have b2 := heap_alloc_new (w.alloc (.cells #[.int .i64 m.kd, .int .i64 m.fr, .int .i64 m.tw, .int .i64 m.jb, .int .i64 m.br, .int .i64 m.bn, .int .i64 m.ar, .int .i64 m.an, .slice A n c] 76)) (.cells #[.int .i64 k.kd, .int .i64 k.fr, .int .i64 k.tw, .int .i64 k.jb, .int .i64 k.br, .int .i64 k.bn, .int .i64 k.ar, .int .i64 k.an, .slice B q d] 76)
  rw [World.size_alloc] at b2
  have HV := Lib.hid (And.intro ((X2.block _ (block_lt (heap_alloc_new w (.cells #[.int .i64 m.kd, .int .i64 m.fr, .int .i64 m.tw, .int .i64 m.jb, .int .i64 m.br, .int .i64 m.bn, .int .i64 m.ar, .int .i64 m.an, .slice A n c] 76)))).trans (heap_alloc_new w (.cells #[.int .i64 m.kd, .int .i64 m.fr, .int .i64 m.tw, .int .i64 m.jb, .int .i64 m.br, .int .i64 m.bn, .int .i64 m.ar, .int .i64 m.an, .slice A n c] 76))) (And.intro b2 (X1.trans X2)))
  clear X1 X2 b2 hs ht
  go_enter Tryd.func40, Tryd.ntmps40
  go_upto_region 1 with (fail)
  generalize (w.alloc (.cells #[.int .i64 m.kd, .int .i64 m.fr, .int .i64 m.tw, .int .i64 m.jb, .int .i64 m.br, .int .i64 m.bn, .int .i64 m.ar, .int .i64 m.an, .slice A n c] 76)).alloc (.cells #[.int .i64 k.kd, .int .i64 k.fr, .int .i64 k.tw, .int .i64 k.jb, .int .i64 k.br, .int .i64 k.bn, .int .i64 k.ar, .int .i64 k.an, .slice B q d] 76) = V at *
  generalize w.heap.size = ob at *
  have c0 : ∀ W, Ext V W → W.cell? ⟨ob, 0, none⟩ = some (.int .i64 m.kd) := fun W hx => block_cell ((hx.block _ (block_lt (HV.out.1))).trans (HV.out.1)) 0
  have c1 : ∀ W, Ext V W → W.cell? ⟨ob, 1, none⟩ = some (.int .i64 m.fr) := fun W hx => block_cell ((hx.block _ (block_lt (HV.out.1))).trans (HV.out.1)) 1
  have c2 : ∀ W, Ext V W → W.cell? ⟨ob, 2, none⟩ = some (.int .i64 m.tw) := fun W hx => block_cell ((hx.block _ (block_lt (HV.out.1))).trans (HV.out.1)) 2
  have c3 : ∀ W, Ext V W → W.cell? ⟨ob, 3, none⟩ = some (.int .i64 m.jb) := fun W hx => block_cell ((hx.block _ (block_lt (HV.out.1))).trans (HV.out.1)) 3
  have c4 : ∀ W, Ext V W → W.cell? ⟨ob, 4, none⟩ = some (.int .i64 m.br) := fun W hx => block_cell ((hx.block _ (block_lt (HV.out.1))).trans (HV.out.1)) 4
  have c5 : ∀ W, Ext V W → W.cell? ⟨ob, 5, none⟩ = some (.int .i64 m.bn) := fun W hx => block_cell ((hx.block _ (block_lt (HV.out.1))).trans (HV.out.1)) 5
  have c6 : ∀ W, Ext V W → W.cell? ⟨ob, 6, none⟩ = some (.int .i64 m.ar) := fun W hx => block_cell ((hx.block _ (block_lt (HV.out.1))).trans (HV.out.1)) 6
  have c7 : ∀ W, Ext V W → W.cell? ⟨ob, 7, none⟩ = some (.int .i64 m.an) := fun W hx => block_cell ((hx.block _ (block_lt (HV.out.1))).trans (HV.out.1)) 7
  have c8 : ∀ W, Ext V W → W.cell? ⟨ob, 8, none⟩ = some (.slice A n c) := fun W hx => block_cell ((hx.block _ (block_lt (HV.out.1))).trans (HV.out.1)) 8
  have e0 : ∀ W, Ext V W → W.cell? ⟨ob + 1, 0, none⟩ = some (.int .i64 k.kd) := fun W hx => block_cell ((hx.block _ (block_lt (HV.out.2.1))).trans (HV.out.2.1)) 0
  have e1 : ∀ W, Ext V W → W.cell? ⟨ob + 1, 1, none⟩ = some (.int .i64 k.fr) := fun W hx => block_cell ((hx.block _ (block_lt (HV.out.2.1))).trans (HV.out.2.1)) 1
  have e2 : ∀ W, Ext V W → W.cell? ⟨ob + 1, 2, none⟩ = some (.int .i64 k.tw) := fun W hx => block_cell ((hx.block _ (block_lt (HV.out.2.1))).trans (HV.out.2.1)) 2
  have e3 : ∀ W, Ext V W → W.cell? ⟨ob + 1, 3, none⟩ = some (.int .i64 k.jb) := fun W hx => block_cell ((hx.block _ (block_lt (HV.out.2.1))).trans (HV.out.2.1)) 3
  have e4 : ∀ W, Ext V W → W.cell? ⟨ob + 1, 4, none⟩ = some (.int .i64 k.br) := fun W hx => block_cell ((hx.block _ (block_lt (HV.out.2.1))).trans (HV.out.2.1)) 4
  have e5 : ∀ W, Ext V W → W.cell? ⟨ob + 1, 5, none⟩ = some (.int .i64 k.bn) := fun W hx => block_cell ((hx.block _ (block_lt (HV.out.2.1))).trans (HV.out.2.1)) 5
  have e6 : ∀ W, Ext V W → W.cell? ⟨ob + 1, 6, none⟩ = some (.int .i64 k.ar) := fun W hx => block_cell ((hx.block _ (block_lt (HV.out.2.1))).trans (HV.out.2.1)) 6
  have e7 : ∀ W, Ext V W → W.cell? ⟨ob + 1, 7, none⟩ = some (.int .i64 k.an) := fun W hx => block_cell ((hx.block _ (block_lt (HV.out.2.1))).trans (HV.out.2.1)) 7
  have e8 : ∀ W, Ext V W → W.cell? ⟨ob + 1, 8, none⟩ = some (.slice B q d) := fun W hx => block_cell ((hx.block _ (block_lt (HV.out.2.1))).trans (HV.out.2.1)) 8
  have XV := Ext.refl V
  by_cases h1 : m.kd = k.kd
  · by_cases h2 : m.fr = k.fr
    · by_cases h3 : m.tw = k.tw
      · by_cases h4 : m.jb = k.jb
        · by_cases h5 : m.br = k.br ∧ m.bn = k.bn
          · by_cases h6 : m.ar = k.ar ∧ m.an = k.an
            · have hb2 : Hid (decide (ents ss = ents tt) = b) := Lib.hid (by rw [← hb.out]; exact decide_eq_decide.2 ⟨fun h => ⟨(ms_eq m k).2 ⟨h1, h2, h3, h4, h5, h6⟩, h⟩, fun h => h.2⟩)
              have CL := Lib.hid (rsameledger_any A n c ss B q d tt V (HS.out V HV.out.2.2).1 (HS.out V HV.out.2.2).2 hn b hb2)
              have g5 : ∀ W, (binOp .eql 74 (.agg #[.int .i64 m.br, .int .i64 m.bn]) (.agg #[.int .i64 k.br, .int .i64 k.bn])).run Tryd.prog W = .ok (.bool true) W := fun W => by rw [eql_ballot, decide_eq_true h5]
              have g6 : ∀ W, (binOp .eql 74 (.agg #[.int .i64 m.ar, .int .i64 m.an]) (.agg #[.int .i64 k.ar, .int .i64 k.an])).run Tryd.prog W = .ok (.bool true) W := fun W => by rw [eql_ballot, decide_eq_true h6]
              clear hb h5 h6
              go_wp2_with (go_at_call 16; refine CL.out.mono ?_; rintro _ wn ⟨rfl, xn⟩)
              go_returns
              exact ⟨rfl, HV.out.2.2.trans xn⟩
            · obtain rfl : b = false := by rw [← hb.out]; refine decide_eq_false fun h => ?_; have h1 := (ms_eq m k).1 h.1; simp_all
              have g5 : ∀ W, (binOp .eql 74 (.agg #[.int .i64 m.br, .int .i64 m.bn]) (.agg #[.int .i64 k.br, .int .i64 k.bn])).run Tryd.prog W = .ok (.bool true) W := fun W => by rw [eql_ballot, decide_eq_true h5]
              have g6 : ∀ W, (binOp .eql 74 (.agg #[.int .i64 m.ar, .int .i64 m.an]) (.agg #[.int .i64 k.ar, .int .i64 k.an])).run Tryd.prog W = .ok (.bool false) W := fun W => by rw [eql_ballot, decide_eq_false h6]
              clear h5 h6
              clear hb
              go_wp2_with fail
              go_returns
              exact ⟨rfl, HV.out.2.2⟩
          · obtain rfl : b = false := by rw [← hb.out]; refine decide_eq_false fun h => ?_; have h1 := (ms_eq m k).1 h.1; simp_all
            have g5 : ∀ W, (binOp .eql 74 (.agg #[.int .i64 m.br, .int .i64 m.bn]) (.agg #[.int .i64 k.br, .int .i64 k.bn])).run Tryd.prog W = .ok (.bool false) W := fun W => by rw [eql_ballot, decide_eq_false h5]
            clear h5
            clear hb
            go_wp2_with fail
            go_returns
            exact ⟨rfl, HV.out.2.2⟩
        · obtain rfl : b = false := by rw [← hb.out]; refine decide_eq_false fun h => ?_; have h1 := (ms_eq m k).1 h.1; simp_all
          clear hb
          go_wp2_with fail
          go_returns
          exact ⟨rfl, HV.out.2.2⟩
      · obtain rfl : b = false := by rw [← hb.out]; refine decide_eq_false fun h => ?_; have h1 := (ms_eq m k).1 h.1; simp_all
        clear hb
        go_wp2_with fail
        go_returns
        exact ⟨rfl, HV.out.2.2⟩
    · obtain rfl : b = false := by rw [← hb.out]; refine decide_eq_false fun h => ?_; have h1 := (ms_eq m k).1 h.1; simp_all
      clear hb
      go_wp2_with fail
      go_returns
      exact ⟨rfl, HV.out.2.2⟩
  · obtain rfl : b = false := by rw [← hb.out]; refine decide_eq_false fun h => ?_; have h1 := (ms_eq m k).1 h.1; simp_all
    clear hb
    go_wp2_with fail
    go_returns
    exact ⟨rfl, HV.out.2.2⟩
end Go.Proofs.YteflnnlihblpgaaDoor
namespace Go.Proofs.YteflnnlihblpgaaDoor
set_option maxRecDepth 100000
open Go.RowKit
set_option linter.unusedVariables false
set_option maxHeartbeats 6400000 in
theorem rmput_any (m : Ms) (A : Option Addr) (n c : Nat) (ss : List EnS) (w : World) (hs : Led w A n ss) (hf : m.form (ents ss) = true) : Calls Tryd.prog 43 #[.agg #[.int .i64 m.kd, .int .i64 m.fr, .int .i64 m.tw, .int .i64 m.jb, .int .i64 m.br, .int .i64 m.bn, .int .i64 m.ar, .int .i64 m.an, .slice A n c]] w fun x w' => ∃ B k d, x = .returned (.slice B k d) ∧ Own w' w.heap.size 5 1 B k d (u8s (m.put (ents ss))) ∧ Ext w w' := by
  have hsl := hs.len
  have hg := form_good hf
  have h64 : n ≤ 64 := by have := hg.1; rw [ents_len] at this; omega
  have HS := Lib.hid (fun W (hx : Ext w W) => rwrite_ok A n c ss W (hs.ext hx) h64 hg.2)
  have HF := Lib.hid (And.intro (form_nums hf) (And.intro hf hg))
  have XB := (Ext.refl w).alloc (.cells #[.int .i64 m.kd, .int .i64 m.fr, .int .i64 m.tw, .int .i64 m.jb, .int .i64 m.br, .int .i64 m.bn, .int .i64 m.ar, .int .i64 m.an, .slice A n c] 76)
  have HV := Lib.hid (And.intro (heap_alloc_new w (.cells #[.int .i64 m.kd, .int .i64 m.fr, .int .i64 m.tw, .int .i64 m.jb, .int .i64 m.br, .int .i64 m.bn, .int .i64 m.ar, .int .i64 m.an, .slice A n c] 76)) XB)
  clear XB hs hf hg
  go_enter Tryd.func43, Tryd.ntmps43
  go_upto_region 1 with (fail)
  generalize w.alloc (.cells #[.int .i64 m.kd, .int .i64 m.fr, .int .i64 m.tw, .int .i64 m.jb, .int .i64 m.br, .int .i64 m.bn, .int .i64 m.ar, .int .i64 m.an, .slice A n c] 76) = V at *
  obtain ⟨ob, hob⟩ : ∃ ob, w.heap.size = ob := ⟨_, rfl⟩
  rw [hob] at HV
  simp only [hob]
  have HOB := Lib.hid hob
  clear hob
  have o1 : Own (V.alloc (.cells #[] 5)) V.heap.size 5 1 (some ⟨V.heap.size, 0, none⟩) 0 0 (u8s (putN (m.nums.take 0))) := World.ownsRow_lit (size := 1) _ #[] 0 (Nat.le_refl _) (by simp [maxLen]) rfl
  have X1 := (Ext.refl V).alloc (.cells #[] 5)
  have H1 := Lib.hid (And.intro o1 X1)
  clear o1 X1
  go_upto_region 2 with (fail)
  generalize V.alloc (.cells #[] 5) = V1 at *
  obtain ⟨b0, hb0⟩ : ∃ b0, V.heap.size = b0 := ⟨_, rfl⟩
  simp only [hb0]
  have HB0 := Lib.hid hb0
  rw [hb0] at H1
  clear hb0
  have c0 : V1.cell? ⟨ob, 0, none⟩ = some (.int .i64 m.kd) := block_cell (((H1.out.2.block _ (block_lt HV.out.1)).trans HV.out.1)) 0
  have c1 : V1.cell? ⟨ob, 1, none⟩ = some (.int .i64 m.fr) := block_cell (((H1.out.2.block _ (block_lt HV.out.1)).trans HV.out.1)) 1
  have c2 : V1.cell? ⟨ob, 2, none⟩ = some (.int .i64 m.tw) := block_cell (((H1.out.2.block _ (block_lt HV.out.1)).trans HV.out.1)) 2
  have c3 : V1.cell? ⟨ob, 3, none⟩ = some (.int .i64 m.jb) := block_cell (((H1.out.2.block _ (block_lt HV.out.1)).trans HV.out.1)) 3
  have c4 : V1.cell? ⟨ob, 4, none⟩ = some (.int .i64 m.br) := block_cell (((H1.out.2.block _ (block_lt HV.out.1)).trans HV.out.1)) 4
  have c5 : V1.cell? ⟨ob, 5, none⟩ = some (.int .i64 m.bn) := block_cell (((H1.out.2.block _ (block_lt HV.out.1)).trans HV.out.1)) 5
  have c6 : V1.cell? ⟨ob, 6, none⟩ = some (.int .i64 m.ar) := block_cell (((H1.out.2.block _ (block_lt HV.out.1)).trans HV.out.1)) 6
  have c7 : V1.cell? ⟨ob, 7, none⟩ = some (.int .i64 m.an) := block_cell (((H1.out.2.block _ (block_lt HV.out.1)).trans HV.out.1)) 7
  have c8 : V1.cell? ⟨ob, 8, none⟩ = some (.slice A n c) := block_cell (((H1.out.2.block _ (block_lt HV.out.1)).trans HV.out.1)) 8
  have X2 := (Ext.refl V1).alloc (.cells #[.int .i64 m.kd, .int .i64 m.fr, .int .i64 m.tw, .int .i64 m.jb, .int .i64 m.br, .int .i64 m.bn, .int .i64 m.ar, .int .i64 m.an] 3)
  have o2 : Own (V1.alloc (.cells #[.int .i64 m.kd, .int .i64 m.fr, .int .i64 m.tw, .int .i64 m.jb, .int .i64 m.br, .int .i64 m.bn, .int .i64 m.ar, .int .i64 m.an] 3)) b0 3 1 (some ⟨V1.heap.size, 0, none⟩) 8 8 (ints m.nums) := World.ownsRow_lit (base := b0) (e := 3) (size := 1) V1 #[.int .i64 m.kd, .int .i64 m.fr, .int .i64 m.tw, .int .i64 m.jb, .int .i64 m.br, .int .i64 m.bn, .int .i64 m.ar, .int .i64 m.an] 8 (by rw [← HB0.out]; exact H1.out.2.size) (by simp [maxLen]) rfl
  have H2 := Lib.hid (And.intro (H1.out.1.ext X2) (And.intro o2 (H1.out.2.trans X2)))
  clear X2 o2
  go_upto_region 3 with (fail)
  clear c0 c1 c2 c3 c4 c5 c6 c7 c8
  generalize V1.alloc (.cells #[.int .i64 m.kd, .int .i64 m.fr, .int .i64 m.tw, .int .i64 m.jb, .int .i64 m.br, .int .i64 m.bn, .int .i64 m.ar, .int .i64 m.an] 3) = V2 at *
  generalize V1.heap.size = lb at *
  clear H1
  go_loopw [3, 5, 31] (fun v3 _ v31 wr => ∃ (i d2 : Nat) (B2 : Option Addr), v31 = .int .i64 (i : Int) ∧ v3 = .slice B2 (putN (m.nums.take i)).length d2 ∧ i ≤ 8 ∧ Hid (Own wr b0 5 1 B2 (putN (m.nums.take i)).length d2 (u8s (putN (m.nums.take i))) ∧ Own wr b0 3 1 (some ⟨lb, 0, none⟩) 8 8 (ints m.nums) ∧ Ext V wr)) (fun _ _ v31 _ => 8 - (intOf v31).toNat)
  case atStart => exact ⟨0, 0, _, rfl, rfl, by omega, H2.out.1, H2.out.2.1, H2.out.2.2⟩
  case round =>
    obtain ⟨i, d2, B2, rfl, rfl, hi, HJ⟩ := hrel
    clear H2
    by_cases hit : i < 8
    · obtain ⟨x, hx⟩ : ∃ x, m.nums[i]? = some x := ⟨m.nums[i]'(by show i < 8; exact hit), List.getElem?_eq_getElem _⟩
      obtain ⟨ad, had, _, hcell⟩ := HJ.out.2.1.rd.at_ hit
      injection had with had
      subst had
      have y0 := hcell i _ (ints_at' hx)
      rw [show (⟨lb, 0, none⟩ : Addr).add i = ⟨lb, i, none⟩ by unfold Addr.add; split <;> simp_all] at y0
      have hxf := HF.out.1 x (List.mem_of_getElem? hx)
      have i0 : (0 : Int) ≤ i := by omega
      have i1 : (i : Int) < 8 := by omega
      obtain ⟨v, rfl⟩ : ∃ v : Nat, x = (v : Int) := ⟨x.toNat, by omega⟩
      have CN := Lib.hid (refnum_any v wr (by omega))
      have HX := Lib.hid hx
      have HPL : Hid ((putN (m.nums.take i)).length ≤ 72 ∧ (Wr.num v).length ≤ 9) := Lib.hid ⟨putN_le HF.out.2.1 i, numlen9 (by omega)⟩
      clear hcell hx
      go_wp2_with (first | (go_at_call 60; refine CN.out.mono ?_; rintro e w3 ⟨A3, c3, rfl, o3, x3⟩) | (at_builtin; refine held ?_))
      refine Held.go (wp_app (m := (Wr.num v).length) (news := u8s (Wr.num v)) eltU8 (HJ.out.1.ext x3) o3.rd (u8s_one _) (by have := HPL.out; omega) (.inr ⟨by have := HPL.out; omega, by omega⟩) (Nat.le_trans (Nat.le_of_eq HB0.out.symm) (HJ.out.2.2.trans x3).size) _ _ rfl rfl rfl rfl ?_)
      intro A4 c4 w4 o4 g4 hA4 _
      have hpn : putN (m.nums.take (i + 1)) = putN (m.nums.take i) ++ Wr.num v := by rw [take_succ' HX.out, putN_app, putN_one, Int.toNat_natCast]
      have hln : (putN (m.nums.take i)).length + (Wr.num v).length = (putN (m.nums.take (i + 1))).length := by rw [hpn, List.length_append]
      rw [← u8s_append, ← hpn, hln] at o4
      rw [hln]
      have oi : Own w4 b0 3 1 (some ⟨lb, 0, none⟩) 8 8 (ints m.nums) := (Fr.grows g4).own (HJ.out.2.1.ext x3) (fun a ha e => (HJ.out.1.ext x3).other (HJ.out.2.1.ext x3) (by decide) a ha e)
      have H9 := Lib.hid (And.intro o4 (And.intro oi (g4.ext (HJ.out.2.2.trans x3) (fun q hq => Nat.le_trans (Nat.le_of_eq HB0.out) (HJ.out.1.base_le q hq)))))
      clear o4 g4 hA4 oi o3 x3 CN hpn hln HPL y0
      go_wp2_with fail
      go_roundw
      case rel => exact ⟨i + 1, c4, A4, by go_num, rfl, by omega, H9.out.1, H9.out.2.1, H9.out.2.2⟩
      case measure => simp [intOf]; omega
    · obtain rfl : i = 8 := by omega
      have hN : m.nums.take 8 = m.nums := rfl
      rw [hN] at HJ ⊢
      obtain ⟨N, hNN⟩ : ∃ N, (putN m.nums).length = N := ⟨_, rfl⟩
      have hN72 : N ≤ 72 := by rw [← hNN]; exact putN_le HF.out.2.1 8
      rw [hNN] at HJ ⊢
      have HNN := Lib.hid hNN
      clear hNN hN
      have c8 : wr.cell? ⟨ob, 8, none⟩ = some (.slice A n c) := block_cell ((HJ.out.2.2.block _ (block_lt HV.out.1)).trans HV.out.1) 8
      have CW := Lib.hid (HS.out wr (HV.out.2.trans HJ.out.2.2))
      go_upto_region 8 with (go_at_call 36; refine CW.out.mono ?_; rintro _ w5 ⟨B5, k5, d5, rfl, o5, x5⟩)
      clear c8 CW
      have hk5 : k5 = (putL (ents ss)).length := by have h := o5.len; rw [u8s_len] at h; omega
      have hk5b : k5 ≤ 24777 := by rw [hk5]; exact putL_le HF.out.2.2
      have CB := Lib.hid (refbytes_any B5 k5 d5 (putL (ents ss)) w5 o5.rd (by omega))
      have h9 := numlen9 (show k5 ≤ 9223372036854775807 by omega)
      obtain ⟨M, hM⟩ : ∃ M, (Wr.num k5).length + k5 = M := ⟨_, rfl⟩
      rw [hM] at CB
      have hMb : M ≤ 24786 := by omega
      have HM := Lib.hid (And.intro hk5 hM)
      have HJ5 := Lib.hid (And.intro (HJ.out.1.ext x5) (HJ.out.2.2.trans x5))
      clear o5 x5 hk5 h9 hM HJ
      go_wp2_with (first | (go_at_call 65; refine CB.out.mono ?_; rintro e w6 ⟨A6, c6, rfl, o6, x6⟩) | (at_builtin; refine held ?_))
      refine Held.go (wp_app (m := M) (news := u8s (Wr.num k5 ++ putL (ents ss))) eltU8 (HJ5.out.1.ext x6) o6.rd (u8s_one _) (by omega) (.inr ⟨by omega, by omega⟩) (Nat.le_trans (Nat.le_of_eq HB0.out.symm) (HJ5.out.2.trans x6).size) _ _ rfl rfl rfl rfl ?_)
      intro A7 c7 w7 o7 g7 _ _
      have hraw : putN m.nums ++ (Wr.num k5 ++ putL (ents ss)) = m.raw (ents ss) := by unfold Ms.raw; rw [HM.out.1]
      rw [← u8s_append, hraw] at o7
      have X7 := g7.ext (HJ5.out.2.trans x6) (fun q hq => Nat.le_trans (Nat.le_of_eq HB0.out) (HJ5.out.1.base_le q hq))
      have hby : ∀ x ∈ m.raw (ents ss), x < 256 := by
        intro x hx
        unfold Ms.raw at hx
        rcases List.mem_append.1 hx with hx | hx
        · exact putN_byte _ x hx
        · rcases List.mem_append.1 hx with hx | hx
          · exact Wr.num_byte _ x hx
          · exact putL_byte _ x hx
      have CS := Lib.hid (rseal_any A7 (N + M) c7 (m.raw (ents ss)) w7 (by omega) o7.rd hby)
      have HX7 := Lib.hid X7
      clear o7 g7 o6 x6 CB hraw hby X7
      go_wp2_with (go_at_call 74; refine CS.out.mono ?_; rintro _ w8 ⟨A8, c8, rfl, o8, x8⟩)
      go_returns
      exact ⟨A8, _, c8, rfl, o8.base_mono (Nat.le_trans (Nat.le_of_eq HOB.out) (Nat.le_trans (by rw [← HOB.out]; exact HV.out.2.size) HX7.out.size)), HV.out.2.trans (HX7.out.trans x8)⟩
end Go.Proofs.YteflnnlihblpgaaDoor
namespace Go.Proofs.YteflnnlihblpgaaDoor
set_option maxRecDepth 100000
open Go.RowKit
set_option linter.unusedVariables false
theorem ne_same (w : World) (a : Addr) : (binOp .neq 33 (.iface 149 (.pointer (some a))) (.iface 149 (.pointer (some a)))).run Tryd.prog w = .ok (.bool false) w := by
  obtain ⟨i, hi, hc⟩ := info_c 149 (by kernel_rfl)
  obtain ⟨j, hj, hs⟩ := info_s 165 (by kernel_rfl)
  simp only [binOp]
  simp [Op.equal, Op.maxDepth, run_equalIn_iface_ptr_same w 9998 a Tryd.underlying33 Tryd.underlying149 hi hc hj]
theorem ne_other {w : World} {g h : Nat} {a b : Addr} (ha : Sen w g a) (hb : Sen w h b) (hne : a ≠ b) :
    (binOp .neq 33 (.iface 149 (.pointer (some a))) (.iface 149 (.pointer (some b)))).run Tryd.prog w = .ok (.bool true) w := by
  obtain ⟨i, hi, hc⟩ := info_c 149 (by kernel_rfl)
  obtain ⟨j, hj, hs⟩ := info_s 165 (by kernel_rfl)
  obtain ⟨_, _, _, ca, ta, h1⟩ := ha
  obtain ⟨_, _, _, cb, tb, h2⟩ := hb
  simp only [binOp]
  simp [Op.equal, Op.maxDepth, run_equalIn_iface_ptr_other w 9998 Tryd.underlying33 Tryd.underlying149 hi hc hj hs hne h1 h2]
end Go.Proofs.YteflnnlihblpgaaDoor
