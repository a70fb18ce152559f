/-
  Package disk: New, Waiting, Writes, Lost, Sectors; package almonerlaw05: filled; walked.
-/
import Derived.Test.YtchkeclhnbekkaaDoorDkCrash
import Derived.Carry
namespace Go.Proofs.YtchkeclhnbekkaaDoor
set_option maxRecDepth 100000
open Go.RowKit Go.Maps
set_option linter.unusedVariables false
section
variable {w w' : World} {g b m c Z : Nat} {A : Option Addr} {S nw : Int} {f : Int → List Nat} {l : List WrV} {lost : Bool}
set_option maxHeartbeats 1600000 in
theorem new_ok (w : World) (n : Int) (h1 : 1 ≤ n) (h2 : n ≤ 1024) : Calls Tryd.prog 8 #[.int .i64 n] w fun e w' => e = .returned (.tuple #[.pointer (some ⟨w.heap.size + 1, 0, none⟩), .nilIface]) ∧ DS w' (w.heap.size + 1) w.heap.size none 0 0 n (fun _ => z64) [] 0 false 0 ∧ Ext w w' := by
  have hm := MapI.made Tryd.prog 3 w
  have XA := (Ext.refl w).alloc (.map #[] 0)
  have hg := heap_alloc_new (w.alloc (.map #[] 0)) (.cells #[.int .i64 n, .map (some w.heap.size), .slice none 0 0, .int .i64 0, .bool false] 58)
  have XB := (Ext.refl (w.alloc (.map #[] 0))).alloc (.cells #[.int .i64 n, .map (some w.heap.size), .slice none 0 0, .int .i64 0, .bool false] 58)
  rw [World.size_alloc] at hg
  have HR := Lib.hid (show DS _ (w.heap.size + 1) w.heap.size none 0 0 n (fun _ => z64) [] 0 false 0 ∧ Ext w _ from ⟨⟨hg, ⟨_, 0, hm.ext XB, Nat.le_refl _, fun x => rfl⟩, Own.nil_, fun y => isSec_z64, (fun x hx => by cases hx), (fun x hx => by cases hx), ⟨h1, h2⟩, by omega, (fun a ha => by cases ha)⟩, XA.trans XB⟩)
  clear hm XA hg XB
  have hmm := @run_makeMap Tryd.prog
  go_enter Tryd.func8, Tryd.ntmps8
  go_wp2_with fail
  go_returns
  exact ⟨rfl, HR.out⟩
set_option maxHeartbeats 1600000 in
theorem new_err (w : World) (n : Int) (h : n < 1 ∨ 1024 < n) {pn : Addr} (hN : Sen w 0 pn) : Calls Tryd.prog 8 #[.int .i64 n] w fun e w' => e = .returned (.tuple #[.pointer none, errV pn]) ∧ Ext w w' := by
  have s0 := hN.2.1
  clear hN
  by_cases h1 : n < 1
  · go_enter Tryd.func8, Tryd.ntmps8
    go_wp2_with fail
    go_quiet (fail)
    go_wp2_with fail
    go_returns
    exact ⟨rfl, (Ext.refl w).drewN _⟩
  · have h2 : 1024 < n := by omega
    go_enter Tryd.func8, Tryd.ntmps8
    go_wp2_with fail
    go_quiet (fail)
    go_wp2_with fail
    go_returns
    exact ⟨rfl, (Ext.refl w).drewN _⟩
theorem waiting_d (h : DS w g b A m c S f l nw lost Z) : Calls Tryd.prog 14 #[.pointer (some ⟨g, 0, none⟩)] w fun e w' => e = .returned (.int .i64 (l.length : Int)) ∧ Ext w w' := by
  obtain ⟨c0, c1, c2, c3, c4⟩ := h.cells
  rw [h.len]
  clear h
  go_enter Tryd.func14, Tryd.ntmps14
  go_wp2_with fail
  go_returns
  exact ⟨rfl, Ext.refl w⟩
end
/-- filled, so far. -/
def fillK (l : List Nat) (k : Nat) : List Nat := (fillL l).take k ++ z64.drop k
theorem fillK_zero (l : List Nat) : fillK l 0 = z64 := rfl
theorem fillK_all (l : List Nat) : fillK l 64 = fillL l := by
  unfold fillK
  rw [List.take_of_length_le (by rw [fillL_len]; omega), List.drop_eq_nil_of_le (by simp [z64]), List.append_nil]
theorem fillK_len (l : List Nat) {k : Nat} (hk : k ≤ 64) : (fillK l k).length = 64 := by
  unfold fillK
  rw [List.length_append, List.length_take, List.length_drop, fillL_len]
  simp [z64]
  omega
theorem fillL_at {l : List Nat} (h0 : 0 < l.length) {k : Nat} (hk : k < 64) : (fillL l)[k]? = l[k % l.length]? := by
  unfold fillL
  rw [if_neg (by omega), List.getElem?_map, List.getElem?_range hk]
  have hlt : k % l.length < l.length := Nat.mod_lt _ h0
  rw [List.getElem?_eq_getElem hlt]
  simp [List.getD_eq_getElem?_getD, List.getElem?_eq_getElem hlt]
theorem fillK_set {l : List Nat} (h0 : 0 < l.length) {k x : Nat} (hk : k < 64) (hx : l[k % l.length]? = some x) : (u8s (fillK l k)).set k (.int .u8 (x : Int)) = u8s (fillK l (k + 1)) := by
  have h1 : (fillL l)[k]? = some x := by rw [fillL_at h0 hk]; exact hx
  have hl := fillL_len l
  apply List.ext_getElem?
  intro j
  rw [List.getElem?_set]
  unfold fillK
  have hz : z64.length = 64 := rfl
  by_cases e : k = j
  · subst e
    rw [if_pos rfl, if_pos (by rw [u8s_len, List.length_append, List.length_take, List.length_drop, hl, hz]; omega)]
    simp only [u8s, List.getElem?_map]
    rw [List.getElem?_append_left (by rw [List.length_take, hl]; omega), List.getElem?_take, if_pos (by omega), h1]
    rfl
  · rw [if_neg e]
    simp only [u8s, List.getElem?_map]
    congr 1
    rcases Nat.lt_or_ge j k with hj | hj
    · rw [List.getElem?_append_left (by rw [List.length_take, hl]; omega), List.getElem?_append_left (by rw [List.length_take, hl]; omega), List.getElem?_take, List.getElem?_take, if_pos hj, if_pos (by omega)]
    · rw [List.getElem?_append_right (by rw [List.length_take, hl]; omega), List.getElem?_append_right (by rw [List.length_take, hl]; omega), List.getElem?_drop, List.getElem?_drop, List.length_take, List.length_take, hl]
      congr 1
      omega
set_option maxHeartbeats 1600000 in
theorem filled_any (A : Option Addr) (n c : Nat) (l : List Nat) (w : World) (hn : n ≤ 140737488351232) (hr : Rd w 1 A n (u8s l)) :
    Calls Tryd.prog 9 #[.slice A n c] w fun e w' => e = .returned (.slice (some ⟨w.heap.size, 0, none⟩) 64 64) ∧ Own w' w.heap.size 5 1 (some ⟨w.heap.size, 0, none⟩) 64 64 (u8s (fillL l)) ∧ Ext w w' := by
  have hl : l.length = n := by have := hr.len; rwa [u8s_len] at this
  have HR := Lib.hid (And.intro hr hl)
  clear hr hl
  go_enter Tryd.func9, Tryd.ntmps9
  go_wp2_with fail
  obtain ⟨w1, hrun, hown, hx, hsz⟩ := run_mkn (w := w) eltU8 rfl w.heap.size .i64 .i64 64 (by omega) (by omega) (by omega) (Nat.le_refl _)
  refine upon_ok hrun ?_
  clear hrun
  rw [show (64 : Int).toNat = 64 by rfl] at hown ⊢
  have H1 := Lib.hid (And.intro hown (And.intro hx hsz))
  clear hown hx hsz
  generalize hgb : w.heap.size = gb at *
  have HGB := Lib.hid hgb
  clear hgb
  go_wp2_with fail
  go_loopw [8] (fun v8 wr => ∃ k : Nat, v8 = .int .i64 (k : Int) ∧ k ≤ 64 ∧ Hid (Ext w wr ∧ Own wr gb 5 1 (some ⟨gb, 0, none⟩) 64 64 (u8s (if n = 0 then z64 else fillK l k)))) (fun v8 _ => 64 - (intOf v8).toNat)
  case atStart =>
    refine ⟨0, rfl, by omega, H1.out.2.1, ?_⟩
    have h1 := H1.out.1
    rw [show (if n = 0 then z64 else fillK l 0) = z64 by split <;> rfl]
    exact h1
  case round =>
    obtain ⟨k, rfl, hk, HI⟩ := hrel
    by_cases hlt : k < 64
    · by_cases hn0 : n = 0
      · have HN := Lib.hid (show Ext w wr ∧ Own wr gb 5 1 (some ⟨gb, 0, none⟩) 64 64 (u8s (if n = 0 then z64 else fillK l (k + 1))) from by
          have h1 := HI.out
          rw [if_pos hn0] at h1 ⊢
          exact h1)
        subst hn0
        go_wp2_with fail
        go_roundw
        case rel => exact ⟨k + 1, by go_num, by omega, HN.out⟩
        case measure => simp [intOf]; omega
      · have hn1 : 0 < n := by omega
        obtain ⟨j, hj⟩ : ∃ j, k % n = j := ⟨_, rfl⟩
        have hjn : j < n := by rw [← hj]; exact Nat.mod_lt _ hn1
        have hrem : Int.tmod (k : Int) (n : Int) = (j : Int) := by rw [← hj]; rfl
        obtain ⟨x, hx⟩ : ∃ x, l[j]? = some x := ⟨l[j]'(by have := HR.out.2; omega), List.getElem?_eq_getElem _⟩
        obtain ⟨ad, rfl, _, z1⟩ := (HR.out.1.ext HI.out.1).at_ hjn
        have cx := z1 j (.int .u8 (x : Int)) (by simp [u8s, hx])
        have y0 : (0 : Int) ≤ j := by omega
        have y1 : (j : Int) < n := by omega
        have y2 : (0 : Int) ≤ k := by omega
        have y3 : (k : Int) < 64 := by omega
        have fz := HI.out.2.frozenAt k
        obtain ⟨u, cu⟩ : ∃ u, wr.cell? ⟨gb, k, none⟩ = some u := by
          have h1 := HI.out.2.len
          obtain ⟨u, hu⟩ : ∃ u, (u8s (if n = 0 then z64 else fillK l k))[k]? = some u := ⟨_, List.getElem?_eq_getElem (by omega)⟩
          exact ⟨u, HI.out.2.celln hu⟩
        have HN := Lib.hid (show Ext w (wr.setCell ⟨gb, k, none⟩ (.int .u8 (x : Int))) ∧ Own (wr.setCell ⟨gb, k, none⟩ (.int .u8 (x : Int))) gb 5 1 (some ⟨gb, 0, none⟩) 64 64 (u8s (if n = 0 then z64 else fillK l (k + 1))) from by
          refine ⟨Fr.ext HI.out.1 (Fr.store wr ⟨gb, k, none⟩ _) (fun i hi => by rw [hi]; exact Nat.le_of_eq HGB.out), ?_⟩
          have h1 := HI.out.2.stored k (.int .u8 (x : Int))
          rw [if_neg hn0] at h1 ⊢
          rwa [fillK_set (by have := HR.out.2; omega) hlt (by rw [HR.out.2, hj]; exact hx)] at h1)
        have hnb : (0 : Int) < n := by omega
        clear hx z1 hj
        go_wp2_with fail
        go_roundw
        case rel => exact ⟨k + 1, by go_num, by omega, HN.out⟩
        case measure => simp [intOf]; omega
    · obtain rfl : k = 64 := by omega
      have HZ := Lib.hid (show Own wr gb 5 1 (some ⟨gb, 0, none⟩) 64 64 (u8s (fillL l)) ∧ Ext w wr from by
        refine ⟨?_, HI.out.1⟩
        have h1 := HI.out.2
        by_cases hn0 : n = 0
        · rw [if_pos hn0] at h1
          rwa [show fillL l = z64 by unfold fillL; rw [if_pos (by rw [HR.out.2]; exact hn0)]]
        · rw [if_neg hn0, fillK_all] at h1
          exact h1)
      go_wp2_with fail
      go_returns
      rw [HGB.out]
      exact ⟨rfl, HZ.out⟩
end Go.Proofs.YtchkeclhnbekkaaDoor
