/-
  The statement SupplyOrders, walked.
-/
import Derived.Test.YtijlocooooacpaaDoorSupBound
namespace Go.Proofs.YtijlocooooacpaaDoor
open Go.RowKit
set_option linter.unusedVariables false
theorem box3 {w w1 : World} {a b c : Value} {t : TypeId} (hx : Ext (w.alloc (.cells #[a, b, c] t)) w1) :
    w1.cell? ⟨w.heap.size, 0, none⟩ = some a ∧ w1.cell? ⟨w.heap.size, 1, none⟩ = some b ∧ w1.cell? ⟨w.heap.size, 2, none⟩ = some c := by
  have h0 : w.heap.size < (w.alloc (.cells #[a, b, c] t)).heap.size := by show w.heap.size < (w.heap.push _).size; simp
  have h : (w.alloc (.cells #[a, b, c] t)).heap[w.heap.size]? = some (.cells #[a, b, c] t) := heap_alloc_new w _
  refine ⟨(hx.cell h0).trans ?_, (hx.cell h0).trans ?_, (hx.cell h0).trans ?_⟩ <;> simp only [World.cell?, h] <;> rfl
theorem and38 (l : Int) : ∃ L : Int, Go.bits .and .i64 l 274877906943 = L ∧ 0 ≤ L ∧ L < 274877906944 :=
  ⟨_, mask38 l, Int.emod_nonneg _ (by omega), Int.emod_lt_of_pos _ (by omega)⟩

set_option maxHeartbeats 1600000 in
theorem orders_no (K Q T l : Int) (a : Addr) (w : World) (hS : Sen w 0 a) (hK : I64 K) (hQ : I64 Q) (hT : I64 T) (h : NoRow K Q T) :
    Calls Tryd.prog 3 #[srv K Q T, .int .i64 l] w fun e w' => e = .returned (.bool true) ∧ Ext w w' := by
  obtain ⟨L, hM, hL0, hL1⟩ := and38 l
  have SE := Lib.hid (fun w' (hx : Ext w w') => hS.ext hx)
  have B := Lib.hid (fun w' (hx : Ext w w') => bound_no (l := L) a w' (hS.ext hx) hK hQ hT h)
  have ES := err_same
  clear h hS hK hQ hT
  unfold srv NumE at *
  go_enter Tryd.func3, Tryd.ntmps3
  go_wp2_with fail
  refine (alive_any _).mono ?_
  rintro e w1 ⟨rfl, hx⟩
  obtain ⟨c0, c1, c2⟩ := box3 hx
  have hx' := ((Ext.refl w).alloc _).trans hx
  go_wp2_with fail
  refine (B.out _ hx').mono ?_
  rintro e w2 ⟨rfl, hx2⟩
  have g0 := (SE.out _ (hx'.trans hx2)).2.1
  go_wp2_with fail
  go_returns
  exact ⟨rfl, hx'.trans hx2⟩

set_option maxHeartbeats 1600000 in
theorem orders_whole (l : Int) (w : World) :
    Calls Tryd.prog 3 #[srv 0 0 0, .int .i64 l] w fun e w' => e = .returned (.bool true) ∧ Ext w w' := by
  obtain ⟨L, hM, hL0, hL1⟩ := and38 l
  have B := Lib.hid (fun w => bound_row (K := 0) (Q := 0) (T := 0) (l := L) w (.inl ⟨rfl, rfl, rfl, rfl, rfl, rfl⟩) hL0 (by omega))
  generalize given 0 1 1 L = n at B
  unfold srv NumE at *
  go_enter Tryd.func3, Tryd.ntmps3
  go_wp2_with fail
  refine (alive_any _).mono ?_
  rintro e w1 ⟨rfl, hx⟩
  obtain ⟨c0, c1, c2⟩ := box3 hx
  have hx' := ((Ext.refl w).alloc _).trans hx
  go_wp2_with fail
  refine (B.out _).mono ?_
  rintro e w2 ⟨rfl, hx2⟩
  obtain ⟨c0, c1, c2⟩ := box3 (hx.trans hx2)
  go_wp2_with fail
  go_returns
  exact ⟨rfl, hx'.trans hx2⟩

set_option maxHeartbeats 3200000 in
theorem orders_legal (K Q T l : Int) (w : World) (h : Legal K Q T) :
    Calls Tryd.prog 3 #[srv K Q T, .int .i64 l] w fun e w' => e = .returned (.bool true) ∧ Ext w w' := by
  obtain ⟨L, hM, hL0, hL1⟩ := and38 l
  have h' := h
  obtain ⟨h1, h2, h3, h4, h5⟩ := h'
  obtain ⟨Q2, hq2, hq3⟩ : ∃ Q2, (if T < Q + 1 then T else Q + 1) = Q2 ∧ (Q ≤ Q2 ∧ Q2 ≤ T) := ⟨_, rfl, by split <;> omega⟩
  have hk0 : (K == 0) = false := by simp; omega
  have hl2 : Legal K Q2 T := ⟨h1, h2, by omega, hq3.2, h5⟩
  have hl3 : Legal 3 Q T := ⟨by omega, by omega, h3, h4, h5⟩
  obtain ⟨n, hn⟩ : ∃ n, given (gapOf K Q T) Q T L = n := ⟨_, rfl⟩
  obtain ⟨m, hm⟩ : ∃ m, given (gapOf K Q2 T) Q2 T L = m := ⟨_, rfl⟩
  obtain ⟨d, hd⟩ : ∃ d, given (gapOf 3 Q T) Q T L = d := ⟨_, rfl⟩
  have hnm : n ≤ m := by
    rw [← hn, ← hm]
    have a := given_gap (g := gapOf K Q T) (g' := gapOf K Q2 T) (q := Q) (t := T) (l := L) (by unfold gapOf; split <;> omega) h3 h4
    have b := given_more (g := gapOf K Q2 T) (q := Q) (q' := Q2) (t := T) (l := L) h3 hq3.1 hq3.2
    omega
  have hnd : n ≤ d := by
    rw [← hn, ← hd]
    exact given_gap (by unfold gapOf; split <;> omega) h3 h4
  have hdl : 0 ≤ d ∧ d ≤ L := by
    rw [← hd]
    exact given_le (by unfold gapOf; split <;> omega) h3 h4 hL0
  have hn0 : 0 ≤ n := by
    rw [← hn]
    exact (given_le (by unfold gapOf; split <;> omega) h3 h4 hL0).1
  have B1 := Lib.hid (fun w => bound_row (K := K) (Q := Q) (T := T) (l := L) w (.inr ⟨h, rfl, rfl, rfl⟩) hL0 (by omega))
  have B2 := Lib.hid (fun w => bound_row (K := K) (Q := Q2) (T := T) (l := L) w (.inr ⟨hl2, rfl, rfl, rfl⟩) hL0 (by omega))
  have B3 := Lib.hid (fun w => bound_row (K := 3) (Q := Q) (T := T) (l := L) w (.inr ⟨hl3, rfl, rfl, rfl⟩) hL0 (by omega))
  have B4 := Lib.hid (fun w => bound_row (K := 0) (Q := 0) (T := 0) (l := L) w (.inl ⟨rfl, rfl, rfl, rfl, rfl, rfl⟩) hL0 (by omega))
  rw [hn] at B1
  rw [hm] at B2
  rw [hd] at B3
  rw [given_one hL0] at B4
  have HQ := Lib.hid hq2
  clear hn hm hd hl2 hl3 h hq2
  unfold srv NumE at *
  go_enter Tryd.func3, Tryd.ntmps3
  go_wp2_with fail
  refine (alive_any _).mono ?_
  rintro e w1 ⟨rfl, hx⟩
  obtain ⟨c0, c1, c2⟩ := box3 hx
  have hx' := ((Ext.refl w).alloc _).trans hx
  go_wp2_with fail
  refine (B1.out _).mono ?_
  rintro e w2 ⟨rfl, hx2⟩
  have hx3 := hx.trans hx2
  obtain ⟨c0, c1, c2⟩ := box3 hx3
  clear hx hx2 hx'
  have hq2 := HQ.out
  obtain ⟨e0, e1, e2⟩ := box3 (hx3.alloc (.cells #[.int .i64 K, .int .i64 Q, .int .i64 T] 23))
  go_wp2_with fail
  refine (B2.out _).mono ?_
  rintro e w3 ⟨rfl, hx4⟩
  have hx5 := (hx3.alloc _).trans hx4
  clear hx3 hx4 e0 e1 e2
  obtain ⟨e0, e1, e2⟩ := box3 hx5
  go_wp2_with fail
  refine (B3.out _).mono ?_
  rintro e w4 ⟨rfl, hx6⟩
  go_wp2_with fail
  refine (B4.out _).mono ?_
  rintro e w5 ⟨rfl, hx7⟩
  go_wp2_with fail
  go_returns
  exact ⟨rfl, (((Ext.refl w).alloc _).trans hx5).trans (hx6.trans hx7)⟩

theorem orders_any (K Q T l : Int) (a : Addr) (w : World) (hS : Sen w 0 a) (hK : I64 K) (hQ : I64 Q) (hT : I64 T) :
    Calls Tryd.prog 3 #[srv K Q T, .int .i64 l] w fun e w' => e = .returned (.bool true) ∧ Ext w w' := by
  rcases row_or K Q T with h | ⟨g, q, t, ⟨rfl, rfl, rfl, _, _, _⟩ | ⟨h, _, _, _⟩⟩
  · exact orders_no K Q T l a w hS hK hQ hT h
  · exact orders_whole l w
  · exact orders_legal _ _ _ l w h
end Go.Proofs.YtijlocooooacpaaDoor
