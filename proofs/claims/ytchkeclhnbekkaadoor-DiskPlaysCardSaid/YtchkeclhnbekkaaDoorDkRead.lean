/-
  Package disk: check, Read, walked.
-/
import Derived.Test.YtchkeclhnbekkaaDoorDkState
import Derived.Deep.QuietTactic
import Derived.BigQuiet
import Derived.Handy
import Derived.Deep.Cut
import Derived.Deep.RegionHeld3
import Derived.Deep.RegionLaw
namespace Go.Proofs.YtchkeclhnbekkaaDoor
set_option maxRecDepth 100000
open Go.RowKit Go.Maps
set_option linter.unusedVariables false
abbrev errV (p : Addr) : Value := .iface 71 (.pointer (some p))
section
variable {w w' : World} {g b m c Z : Nat} {A : Option Addr} {S wr : Int} {f : Int → List Nat} {l : List WrV} {lost : Bool}
theorem DS.cells (h : DS w g b A m c S f l wr lost Z) : w.cell? ⟨g, 0, none⟩ = some (.int .i64 S) ∧ w.cell? ⟨g, 1, none⟩ = some (.map (some b)) ∧ w.cell? ⟨g, 2, none⟩ = some (.slice A m c) ∧ w.cell? ⟨g, 3, none⟩ = some (.int .i64 wr) ∧ w.cell? ⟨g, 4, none⟩ = some (.bool lost) :=
  ⟨block_cell h.blk 0, block_cell h.blk 1, block_cell h.blk 2, block_cell h.blk 3, block_cell h.blk 4⟩
/-- What check answers: 0 where the sector may be used. -/
def chkV (pn pl : Addr) (S i : Int) (lost : Bool) : Value := if lost = true then errV pl else if i < 0 ∨ S ≤ i then errV pn else .nilIface
set_option maxHeartbeats 1600000 in
theorem check_any (h : DS w g b A m c S f l wr lost Z) (i : Int) {pn pl : Addr} (hN : Sen w 0 pn) (hL : Sen w 2 pl) :
    Calls Tryd.prog 21 #[.pointer (some ⟨g, 0, none⟩), .int .i64 i] w fun e w' => e = .returned (chkV pn pl S i lost) ∧ Ext w w' := by
  obtain ⟨c0, c1, c2, c3, c4⟩ := h.cells
  have s0 := hN.2.1
  have s1 := hL.2.1
  clear h hN hL
  cases lost with
  | true =>
    go_enter Tryd.func21, Tryd.ntmps21
    go_wp2_with fail
    go_returns
    exact ⟨rfl, Ext.refl w⟩
  | false =>
    by_cases h1 : i < 0
    · have e : chkV pn pl S i false = errV pn := by simp [chkV, h1]
      rw [e]
      clear e
      go_enter Tryd.func21, Tryd.ntmps21
      go_wp2_with fail
      go_returns
      exact ⟨rfl, Ext.refl w⟩
    · by_cases h2 : S ≤ i
      · have e : chkV pn pl S i false = errV pn := by simp [chkV, h2]
        rw [e]
        clear e
        go_enter Tryd.func21, Tryd.ntmps21
        go_wp2_with fail
        go_returns
        exact ⟨rfl, Ext.refl w⟩
      · have e : chkV pn pl S i false = .nilIface := by simp [chkV, h1, h2]
        rw [e]
        clear e
        go_enter Tryd.func21, Tryd.ntmps21
        go_wp2_with fail
        go_returns
        exact ⟨rfl, Ext.refl w⟩
set_option maxHeartbeats 1600000 in
theorem read_err (h : DS w g b A m c S f l wr lost Z) (i : Int) (hi : lost = true ∨ i < 0 ∨ S ≤ i) {pn pl : Addr} (hN : Sen w 0 pn) (hL : Sen w 2 pl) :
    Calls Tryd.prog 13 #[.pointer (some ⟨g, 0, none⟩), .int .i64 i] w fun e w' => e = .returned (.tuple #[.slice none 0 0, chkV pn pl S i lost]) ∧ Ext w w' := by
  have C := Lib.hid (check_any h i hN hL)
  obtain ⟨p, hp⟩ : ∃ p, chkV pn pl S i lost = errV p := by
    unfold chkV
    by_cases e : lost = true
    · rw [if_pos e]; exact ⟨_, rfl⟩
    · rw [if_neg e, if_pos (by rcases hi with h | h; exact absurd h e; exact h)]; exact ⟨_, rfl⟩
  rw [hp] at C ⊢
  clear h hN hL hp hi
  go_enter Tryd.func13, Tryd.ntmps13
  go_wp2_with fail
  refine C.out.mono ?_
  rintro e w1 ⟨rfl, x1⟩
  have X1 := Lib.hid x1
  clear C x1
  go_wp2_with fail
  go_returns
  exact ⟨rfl, X1.out⟩
set_option maxHeartbeats 3200000 in
theorem read_ok (h : DS w g b A m c S f l wr false Z) (i : Int) (h0 : 0 ≤ i) (hS : i < S) {pn pl : Addr} (hN : Sen w 0 pn) (hL : Sen w 2 pl) (hfew : m ≤ 4611686018427387904) :
    Calls Tryd.prog 13 #[.pointer (some ⟨g, 0, none⟩), .int .i64 i] w fun e w' => ∃ sb, e = .returned (.tuple #[.slice (some ⟨sb, 0, none⟩) 64 64, .nilIface]) ∧ w'.heap[sb]? = some (.cells (u8s (readW f l i)).toArray 61 (0, 0)) ∧ w.heap.size ≤ sb ∧ Ext w w' := by
  have C := Lib.hid (check_any h i hN hL)
  rw [show chkV pn pl S i false = .nilIface by simp [chkV]; omega] at C
  have HD := Lib.hid h
  have hsr := h.srng
  clear h hN hL
  go_enter Tryd.func13, Tryd.ntmps13
  go_wp2_with fail
  refine C.out.mono ?_
  rintro e w1 ⟨rfl, x1⟩
  obtain ⟨c0, c1, c2, c3, c4⟩ := (HD.out.ex x1).cells
  have LK := (HD.out.ex x1).look (x := i) (by omega)
  unfold secV at LK
  obtain ⟨C0, hC0⟩ : ∃ C0, (u8s (f i)).toArray = C0 := ⟨_, rfl⟩
  obtain ⟨Z0, hZ0⟩ : ∃ Z0, (u8s z64).toArray = Z0 := ⟨_, rfl⟩
  have hzs := zeroSec
  rw [hC0] at LK
  rw [hZ0] at hzs
  have b1 := heap_alloc_new w1 (.cells Z0 61)
  have hzz : Z0.size = 64 := by rw [← hZ0]; exact sec_size isSec_z64
  have hcc : C0.size = 64 := by rw [← hC0]; exact sec_size (HD.out.sec i)
  have HT := Lib.hid (there_block b1 (o := 0) (n := C0.size) (by omega))
  have HI := Lib.hid (show (Tryd.prog.info? 61).map (·.size) = some C0.size by rw [hcc]; exact infoSec)
  have HO := Lib.hid (show C0.all (·.oneCell') = true by rw [← hC0]; exact u8s_one' _)
  have X1 := Lib.hid x1
  have hC := Lib.hid hC0.symm
  clear C x1 hC0 hZ0
  go_upto_region 5 with (refine wpList_store_mid rfl 61 _ _ rfl w1.heap.size 0 C0 rfl rfl HT.out HI.out HO.out ?_)
  have XV : Ext w ((w1.alloc (.cells Z0 61)).setCells w1.heap.size 0 C0.toList) := Fr.ext (X1.out.trans ((Ext.refl w1).alloc _)) (Fr.setCells (g := w1.heap.size) C0.toList 0 _) (fun i hi => by rw [hi]; exact X1.out.size)
  have hb1 : ((w1.alloc (.cells Z0 61)).setCells w1.heap.size 0 C0.toList).heap[w1.heap.size]? = some (.cells (u8s (f i)).toArray 61 (0, 0)) := by
    have h := set_block b1 (cs := C0.toList) (by simp; omega)
    rw [Array.toArray_toList] at h
    rw [h, hC.out]
  have HB := Lib.hid hb1
  have HS := Lib.hid X1.out.size
  have HX := Lib.hid XV
  have q2 : ((w1.alloc (.cells Z0 61)).setCells w1.heap.size 0 C0.toList).cell? ⟨g, 2, none⟩ = some (.slice A m c) := (HD.out.ex XV).cells.2.2.1
  clear c0 c1 c2 c3 c4 LK b1 hb1 HT HI HO XV hcc hzz hzs X1
  generalize (w1.alloc (.cells Z0 61)).setCells w1.heap.size 0 C0.toList = V at *
  generalize w1.heap.size = sb at *
  go_wp2_with fail
  clear q2
  go_loopw [27] (fun v27 wr => ∃ k : Nat, v27 = .int .i64 (k : Int) ∧ k ≤ m ∧ Hid (Ext w wr ∧ wr.heap[sb]? = some (.cells (u8s (readW f (l.take k) i)).toArray 61 (0, 0)))) (fun v27 _ => m - (intOf v27).toNat)
  case atStart => exact ⟨0, rfl, by omega, HX.out, HB.out⟩
  case round =>
    obtain ⟨k, rfl, hk, HI⟩ := hrel
    by_cases hlt : k < m
    · obtain ⟨x, hx⟩ : ∃ x, l[k]? = some x := ⟨l[k]'(by have := HD.out.len; omega), List.getElem?_eq_getElem _⟩
      obtain ⟨k65, h65⟩ : ∃ k65, k * 65 = k65 := ⟨_, rfl⟩
      obtain ⟨T, rfl, hTw, hTg, hTb, hr⟩ := (HD.out.ex HI.out.1).cell hx h65
      have hsx := HD.out.lsec x (List.mem_of_getElem? hx)
      have BX := Lib.hid (boxW wr hsx)
      have hzw := zeroWr
      have HR := Lib.hid hr
      have z0 : (0 : Int) ≤ k := by omega
      have z1 : (k : Int) < m := by omega
      have HX2 := Lib.hid (And.intro hx hsx)
      have b1 := (BX.out.ext.block sb (block_lt HI.out.2)).trans HI.out.2
      have H3 := Lib.hid (And.intro (HI.out.1.trans BX.out.ext) b1)
      clear hx hsx hr hTb hTg hTw b1
      go_upto_region 8 with (first | (refine wpList_load_mid rfl 63 _ rfl T k65 rfl (wrow x) _ HR.out BX.out.un rfl BX.out.i1 ?_) | (refine wpList_store_mid rfl 63 _ _ rfl wr.heap.size 0 (wrow x).toArray rfl rfl BX.out.th BX.out.i2 BX.out.al ?_))
      have HW := Lib.hid BX.out.blk
      clear hzw BX HR
      generalize (wr.alloc (.cells (wrow ⟨0, z64⟩).toArray 63)).setCells wr.heap.size 0 (wrow x).toArray.toList = V2 at *
      generalize wr.heap.size = wb at *
      have cw : V2.cell? ⟨wb, 0, none⟩ = some (.int .i64 x.i) := by rw [block_cell HW.out]; rfl
      by_cases hxi : x.i = i
      · have hxe : (x.i == i) = true := by simpa using hxi
        have HXI := Lib.hid hxi
        clear hxi
        have HR2 := Lib.hid (range_block HW.out (o := 1) (ds := u8s x.s) (fun j v hv => by rw [Nat.add_comm]; exact hv))
        have HI1 := Lib.hid (show (Tryd.prog.info? 61).map (·.size) = some (u8s x.s).length from by rw [u8s_len, HX2.out.2.1]; exact infoSec)
        have HI2 := Lib.hid (show (Tryd.prog.info? 61).map (·.size) = some (u8s x.s).toArray.size from by rw [sec_size HX2.out.2]; exact infoSec)
        have HT2 := Lib.hid (there_block H3.out.2 (o := 0) (n := (u8s x.s).toArray.size) (by rw [sec_size HX2.out.2, sec_size (readW_sec HD.out.sec (fun z hz => HD.out.lsec z (List.mem_of_mem_take hz)) i)]; omega))
        have HO2 := Lib.hid (u8s_one' x.s)
        have HUS := Lib.hid Tryd.underlying61
        have HN : Hid (Ext w (V2.setCells sb 0 (u8s x.s)) ∧ (V2.setCells sb 0 (u8s x.s)).heap[sb]? = some (.cells (u8s (readW f (l.take (k + 1)) i)).toArray 61 (0, 0))) := Lib.hid (by
          have h1 := set_block H3.out.2 (cs := u8s x.s) (by rw [sec_size (readW_sec HD.out.sec (fun z hz => HD.out.lsec z (List.mem_of_mem_take hz)) i), u8s_len, HX2.out.2.1])
          refine ⟨Fr.ext H3.out.1 (Fr.setCells (g := sb) (u8s x.s) 0 _) (fun i hi => by rw [hi]; exact HS.out), ?_⟩
          rw [h1, take_succ' HX2.out.1, readW_snoc, if_pos HXI.out])
        go_upto_region 10 with (first | (refine wpList_load_mid rfl 61 _ rfl wb 1 rfl (u8s x.s) _ HR2.out HUS.out rfl HI1.out ?_) | (refine wpList_store_mid rfl 61 _ _ rfl sb 0 (u8s x.s).toArray rfl rfl HT2.out HI2.out HO2.out ?_))
        clear HT2
        go_wp2_with fail
        go_roundw
        case rel => exact ⟨k + 1, by go_num, by omega, HN.out⟩
        case measure => simp [intOf]; omega
      · have hxe : (x.i == i) = false := by simpa using hxi
        have HN : Hid (Ext w V2 ∧ V2.heap[sb]? = some (.cells (u8s (readW f (l.take (k + 1)) i)).toArray 61 (0, 0))) := Lib.hid (by
          refine ⟨H3.out.1, ?_⟩
          rw [take_succ' HX2.out.1, readW_snoc, if_neg hxi]
          exact H3.out.2)
        clear hxi
        go_wp2_with fail
        go_roundw
        case rel => exact ⟨k + 1, by go_num, by omega, HN.out⟩
        case measure => simp [intOf]; omega
    · obtain rfl : m = k := by omega
      go_wp2_with fail
      go_returns
      refine ⟨sb, rfl, ?_, HS.out, HI.out.1⟩
      have h1 := HI.out.2
      rwa [List.take_of_length_le (by have := HD.out.len; omega)] at h1
end
end Go.Proofs.YtchkeclhnbekkaaDoor
