/-
  Package disk: Flush, Crash, Lose, New and what is told of a disk, walked.
-/
import Derived.Test.YtchkeclhnbekkaaDoorDkKeep
namespace Go.Proofs.YtchkeclhnbekkaaDoor
set_option maxRecDepth 100000
open Go.RowKit Go.Maps
set_option linter.unusedVariables false
section
variable {w w' : World} {g b m c Z : Nat} {A : Option Addr} {S nw : Int} {f : Int → List Nat} {l : List WrV} {lost : Bool}
theorem KStep.trans {w1 w2 : World} {f1 f2 : Int → List Nat} {Z1 Z2 : Nat} (h : KStep w w1 g b m c A S f1 l nw lost Z1) (k : KStep w1 w2 g b m c A S f2 l nw lost Z2) : KStep w w2 g b m c A S f2 l nw lost Z2 :=
  ⟨k.ds, h.fr.trans k.fr (fun _ _ h => h)⟩
theorem KStep.ext {w1 w2 : World} (h : KStep w w1 g b m c A S f l nw lost Z) (hx : Ext w1 w2) : KStep w w2 g b m c A S f l nw lost Z := ⟨h.ds.ex hx, h.fr.trans (Fr.of_ext hx (· = b)) (fun _ _ h => h)⟩
/-- The cache is emptied. -/
theorem KStep.clear (h : KStep w w' g b m c A S f l nw lost Z) : DStep w (w'.setCell ⟨g, 2, none⟩ (.slice none 0 0)) g b A S f [] nw lost Z := by
  have k1 := heap_setCell_same w' g 2 _ _ (.slice none 0 0) h.ds.blk
  have ff := Fr.store w' ⟨g, 2, none⟩ (.slice none 0 0)
  obtain ⟨h1, n, hm, hn, hx⟩ := h.ds.map
  exact ⟨⟨none, 0, 0, ⟨k1, ⟨h1, n, hm.fr ff h.ds.bg, hn, hx⟩, Own.nil_, h.ds.sec, (fun x hx => by cases hx), (fun x hx => by cases hx), h.ds.srng, h.ds.bg, (fun a ha => by cases ha)⟩, fun a ha => by cases ha⟩, (h.fr.mono (fun q _ e => .inr (.inl e))).trans ff (fun q _ e => .inl e)⟩
set_option maxHeartbeats 1600000 in
theorem flush_lost (h : DS w g b A m c S f l nw true Z) {pl : Addr} (hL : Sen w 2 pl) :
    Calls Tryd.prog 11 #[.pointer (some ⟨g, 0, none⟩)] w fun e w' => e = .returned (errV pl) ∧ Ext w w' := by
  obtain ⟨c0, c1, c2, c3, c4⟩ := h.cells
  have s1 := hL.2.1
  clear h hL
  go_enter Tryd.func11, Tryd.ntmps11
  go_wp2_with fail
  go_returns
  exact ⟨rfl, Ext.refl w⟩
set_option maxHeartbeats 3200000 in
theorem flush_ok (h : DS w g b A m c S f l nw false Z) (hZ : Z + l.length < 4611686018427387904) :
    Calls Tryd.prog 11 #[.pointer (some ⟨g, 0, none⟩)] w fun e w' => e = .returned .nilIface ∧ DStep w w' g b A S (flushW f l) [] nw false (Z + l.length) := by
  obtain ⟨c0, c1, c2, c3, c4⟩ := h.cells
  have hlen := h.len
  have hmm : m < 4611686018427387904 := by omega
  have HD := Lib.hid h
  have HL := Lib.hid (And.intro hlen hZ)
  clear h hlen hZ
  go_enter Tryd.func11, Tryd.ntmps11
  go_wp2_with fail
  clear c0 c1 c2 c3 c4
  go_loopw [15] (fun v15 wr_ => ∃ k : Nat, v15 = .int .i64 (k : Int) ∧ k ≤ m ∧ Hid (KStep w wr_ g b m c A S (flushW f (l.take k)) l nw false (Z + k))) (fun v15 _ => m - (intOf v15).toNat)
  case atStart => exact ⟨0, rfl, by omega, HD.out, Fr.refl w _⟩
  case round =>
    obtain ⟨k, rfl, hk, HI⟩ := hrel
    by_cases hlt : k < m
    · obtain ⟨x, hx⟩ : ∃ x, l[k]? = some x := ⟨l[k]'(by have := HL.out.1; omega), List.getElem?_eq_getElem _⟩
      obtain ⟨k65, h65⟩ : ∃ k65, k * 65 = k65 := ⟨_, rfl⟩
      obtain ⟨T, rfl, hTw, hTg, hTb, hr⟩ := HI.out.ds.cell hx h65
      have hsx := HD.out.lsec x (List.mem_of_getElem? hx)
      have hrx := HD.out.lrng x (List.mem_of_getElem? hx)
      have BX := Lib.hid (boxW wr hsx)
      have hzw := zeroWr
      have HR := Lib.hid hr
      have z0 : (0 : Int) ≤ k := by omega
      have z1 : (k : Int) < m := by omega
      have HX2 := Lib.hid (And.intro hx (And.intro hsx hrx))
      have K1 := Lib.hid (HI.out.ext BX.out.ext)
      clear hx hsx hrx hr hTb hTg hTw
      go_upto_region 6 with (first | (refine wpList_load_mid rfl 63 _ rfl T k65 rfl (wrow x) _ HR.out BX.out.un rfl BX.out.i1 ?_) | (refine wpList_store_mid rfl 63 _ _ rfl wr.heap.size 0 (wrow x).toArray rfl rfl BX.out.th BX.out.i2 BX.out.al ?_))
      have HW := Lib.hid (range_block BX.out.blk (o := 0) (ds := wrow x) (fun j v hv => by rw [Nat.zero_add]; exact hv))
      have HUN := Lib.hid (And.intro BX.out.un BX.out.i1)
      clear hzw BX HR
      try rw [show (wrow x).toArray.toList = wrow x from rfl]
      generalize (wr.alloc (.cells (wrow ⟨0, z64⟩).toArray 63)).setCells wr.heap.size 0 (wrow x) = V2 at *
      generalize wr.heap.size = wb at *
      have KP := Lib.hid (keep_64 K1.out.ds HX2.out.2.1 HX2.out.2.2 (by have := HL.out; omega))
      go_wp2_with (refine wpList_load_mid rfl 63 _ rfl wb 0 rfl (wrow x) _ HW.out HUN.out.1 rfl HUN.out.2 ?_)
      refine KP.out.mono ?_
      rintro e w3 ⟨rfl, k3⟩
      have HN : Hid (KStep w w3 g b m c (some ⟨T, 0, none⟩) S (flushW f (l.take (k + 1))) l nw false (Z + (k + 1))) := Lib.hid (by
        rw [take_succ' HX2.out.1, flushW_snoc]
        exact K1.out.trans k3)
      clear KP k3 HW
      go_wp2_with fail
      go_roundw
      case rel => exact ⟨k + 1, by go_num, by omega, HN.out⟩
      case measure => simp [intOf]; omega
    · obtain rfl : m = k := by omega
      have hcl := HI.out.ds.cells
      obtain ⟨_, _, c2, _, _⟩ := hcl
      have z2 : wr.frozen? ⟨g, 2, none⟩ = false := block_fz HI.out.ds.blk 2
      have HC := Lib.hid (show DStep w (wr.setCell ⟨g, 2, none⟩ (.slice none 0 0)) g b A S (flushW f l) [] nw false (Z + l.length) from by
        have h1 := HI.out.clear
        rwa [List.take_of_length_le (by have := HL.out; omega), ← HL.out.1] at h1)
      go_wp2_with fail
      go_returns
      exact ⟨rfl, HC.out⟩
end
end Go.Proofs.YtchkeclhnbekkaaDoor
