/-
  Package wire: Seal, Open; slices.Equal, walked.
-/
import Derived.Test.YtelnnlfbfbbnaaaDoorRSeal
import Derived.Deep.QuietTactic
import Derived.BigQuiet
namespace Go.Proofs.YtelnnlfbfbbnaaaDoor
open Go.RowKit
set_option linter.unusedVariables false
theorem Own.low {w : World} {base base' n c : Nat} {e : TypeId} {size : Nat} {A : Option Addr} {xs : List Value} (h : Own w base e size A n c xs) (hb : base' ≤ base) : Own w base' e size A n c xs := by
  refine ⟨h.1, ?_⟩
  rcases h.2 with hn | ⟨g, cap, cur, h1, hb', rest⟩
  · exact .inl hn
  · exact .inr ⟨g, cap, cur, h1, Nat.le_trans hb hb', rest⟩
set_option maxHeartbeats 1600000 in
theorem seal_any (A : Option Addr) (n c : Nat) (l : List Nat) (w : World) (hn : n ≤ 140737488351232) (hr : Rd w 1 A n (u8s l)) (hl : ∀ x ∈ l, x < 256) :
    Calls Tryd.prog 31 #[.slice A n c] w fun e w' => ∃ A' c', e = .returned (.slice A' (n + 4) c') ∧ Own w' w.heap.size 5 1 A' (n + 4) c' (u8s (sealed l)) ∧ Ext w w' := by
  have S := Lib.hid (sum_any A n c l w (by omega) hr hl)
  have hs := fnv_lt l
  unfold sealed
  generalize fnv l = s at *
  obtain ⟨b3, h3⟩ : ∃ b : Nat, s / 16777216 = b := ⟨_, rfl⟩
  obtain ⟨b2, h2⟩ : ∃ b : Nat, s / 65536 % 256 = b := ⟨_, rfl⟩
  obtain ⟨b1, h1⟩ : ∃ b : Nat, s / 256 % 256 = b := ⟨_, rfl⟩
  obtain ⟨b0, h0⟩ : ∃ b : Nat, s % 256 = b := ⟨_, rfl⟩
  have e3 : (s : Int) / 16777216 % 256 = (b3 : Int) := by omega
  have e3' : (s : Int) / 16777216 = (b3 : Int) := by omega
  have e2 : (s : Int) / 65536 % 256 = (b2 : Int) := by omega
  have e1 : (s : Int) / 256 % 256 = (b1 : Int) := by omega
  have e0 : (s : Int) % 256 = (b0 : Int) := by omega
  have hb3 : b3 < 256 := by omega
  have hf : four s = [b3, b2, b1, b0] := by unfold four; rw [h3, h2, h1, h0]
  rw [hf]
  have C := Lib.hid (fun g w' (ha : Rd w' 1 A n (u8s l)) B (hb : Rd w' 1 B 4 (u8s [b3, b2, b1, b0])) cb h0 h1 hg => concat_any A B n 4 c cb g l [b3, b2, b1, b0] w' ha hb h0 h1 hg (by omega) (by omega))
  clear h0 h1 h2 h3 hf hl
  have HR := Lib.hid hr
  clear hr
  go_enter Tryd.func31, Tryd.ntmps31
  go_wp2_with fail
  refine S.out.mono ?_
  rintro e w1 ⟨rfl, rfl⟩
  go_wp2_with fail
  have q1 : Ext w (w.alloc (.cells #[.int .u8 (b3 : Int), .int .u8 (b2 : Int), .int .u8 (b1 : Int), .int .u8 (b0 : Int)] 5)) := (Ext.refl w).alloc _
  have q2 : Ext w ((w.alloc (.cells #[.int .u8 (b3 : Int), .int .u8 (b2 : Int), .int .u8 (b1 : Int), .int .u8 (b0 : Int)] 5)).alloc (.cells #[.slice A n c, .slice (some ⟨w.heap.size, 0, none⟩) 4 4] 26)) := q1.alloc _
  have hz : (w.alloc (.cells #[.int .u8 (b3 : Int), .int .u8 (b2 : Int), .int .u8 (b1 : Int), .int .u8 (b0 : Int)] 5)).heap.size = w.heap.size + 1 := by simp
  have hcell := heap_alloc_new (w.alloc (.cells #[.int .u8 (b3 : Int), .int .u8 (b2 : Int), .int .u8 (b1 : Int), .int .u8 (b0 : Int)] 5)) (.cells #[.slice A n c, .slice (some ⟨w.heap.size, 0, none⟩) 4 4] 26)
  rw [hz] at hcell
  have hb4 : Rd (w.alloc (.cells #[.int .u8 (b3 : Int), .int .u8 (b2 : Int), .int .u8 (b1 : Int), .int .u8 (b0 : Int)] 5)) 1 (some ⟨w.heap.size, 0, none⟩) 4 (u8s [b3, b2, b1, b0]) := Rd.new w #[.int .u8 (b3 : Int), .int .u8 (b2 : Int), .int .u8 (b1 : Int), .int .u8 (b0 : Int)] 5 (0, 0)
  refine (C.out (w.heap.size + 1) _ (HR.out.ext q2) _ (hb4.ext ((Ext.refl _).alloc _)) 4 (by rw [cell_of_row _ _ _ _ _ _ hcell]; rfl) (by rw [cell_of_row _ _ _ _ _ _ hcell]; rfl) (by simp)).mono ?_
  rintro e w2 ⟨A', c', rfl, ho, hx⟩
  have ho := ho.low (base' := w.heap.size) (by simp; omega)
  clear hcell hb4 hz q1 HR
  go_wp2_with fail
  go_ret
  exact ⟨A', c', rfl, ho, q2.trans hx⟩
set_option maxHeartbeats 1600000 in
theorem equal_any (A B : Option Addr) (n m ca cb : Nat) (la lb : List Nat) (w : World) (hn : n ≤ 140737488351240) (hm : m ≤ 140737488351240) (ha : Rd w 1 A n (u8s la)) (hb : Rd w 1 B m (u8s lb)) :
    Calls Tryd.prog 42 #[.slice A n ca, .slice B m cb] w fun e w' => e = .returned (.bool (decide (la = lb))) ∧ ∃ k, w' = w.drewN k := by
  have hal := ha.len
  have hbl := hb.len
  rw [u8s_len] at hal hbl
  by_cases hnm : n = m
  · subst hnm
    have HA := Lib.hid hal
    have HB := Lib.hid hbl
    clear hal hbl
    go_enter Tryd.func42, Tryd.ntmps42
    go_wp2_with fail
    go_loopw [5, 13] (fun _ vi wr => ∃ k j : Nat, vi = .int .i64 (k : Int) ∧ k ≤ n ∧ wr = w.drewN j ∧ Hid (la.take k = lb.take k)) (fun _ vi _ => n - (intOf vi).toNat)
    case atStart => exact ⟨0, 0, rfl, by omega, rfl, rfl⟩
    case round =>
      obtain ⟨k, j, rfl, hk, rfl, ht⟩ := hrel
      by_cases h1 : k < n
      · obtain ⟨ad1, x, rfl, hx, hc1⟩ := ha.byte h1
        obtain ⟨ad2, y, rfl, hy, hc2⟩ := hb.byte h1
        have i0 : (0 : Int) ≤ k := by omega
        have i1 : (k : Int) < n := by omega
        clear ha hb
        by_cases hxy : x = y
        · subst hxy
          go_wp2_with fail
          go_quiet (fail)
          go_wp2_with fail
          go_roundw
          case rel => exact ⟨k + 1, _, by go_num, by omega, rfl, by show la.take (k + 1) = lb.take (k + 1); rw [take_succ' hx.out, take_succ' hy.out, ht.out]⟩
          case measure => simp [intOf]; omega
        · have hne : ((x : Int) != (y : Int)) = true := by simp; omega
          have hno : Hid (decide (la = lb) = false) := by
            show decide (la = lb) = false
            rw [decide_eq_false_iff_not]
            intro h
            have h2 := hx.out
            rw [h, hy.out] at h2
            exact hxy (Option.some.inj h2).symm
          clear hxy
          go_wp2_with fail
          go_quiet (fail)
          go_wp2_with fail
          go_ret
          exact ⟨by rw [hno.out]; rfl, _, World.drewN_drewN _ _ _⟩
      · obtain rfl : k = n := by omega
        have hyes : Hid (decide (la = lb) = true) := by
          show decide (la = lb) = true
          have h := ht.out
          rw [List.take_of_length_le (by rw [HA.out]; omega), List.take_of_length_le (by rw [HB.out]; omega)] at h
          exact decide_eq_true h
        clear ha hb
        go_wp2_with fail
        go_ret
        exact ⟨by rw [hyes.out]; rfl, _, rfl⟩
  · have hne : ((n : Int) != (m : Int)) = true := by simp; omega
    have hno : decide (la = lb) = false := by
      rw [decide_eq_false_iff_not]
      intro h
      rw [h] at hal
      omega
    rw [hno]
    clear hno hal hbl ha hb hnm
    go_enter Tryd.func42, Tryd.ntmps42
    go_wp2_with fail
    go_ret
    exact ⟨rfl, 0, rfl⟩
/-- Open of fewer than four bytes. -/
theorem open_few (A : Option Addr) (n c : Nat) (w : World) (hn : n < 4) {p : Addr} (hS : Sen w 1 p) :
    Calls Tryd.prog 32 #[.slice A n c] w fun e w' => e = .returned (.tuple #[.slice none 0 0, .iface 86 (.pointer (some p))]) ∧ ∃ k, w' = w.drewN k := by
  have c3 := hS.2.1
  have h : (n : Int) - 4 < 0 := by omega
  clear hS
  go_enter Tryd.func32, Tryd.ntmps32
  go_wp2_with fail
  go_quiet (fail)
  go_wp2_with fail
  go_ret2
  exact ⟨rfl, _, rfl⟩
set_option maxHeartbeats 1600000 in
theorem open_slip (A : Option Addr) (n c : Nat) (l : List Nat) (w : World) (hn : n ≤ 140737488351232) (hc : n + 4 ≤ c) (hr : Rd w 1 A (n + 4) (u8s l)) (hl : ∀ x ∈ l, x < 256) (hbad : sealed (l.take n) ≠ l)
    {p : Addr} (hS : Sen w 2 p) :
    Calls Tryd.prog 32 #[.slice A (n + 4) c] w fun e w' => e = .returned (.tuple #[.slice none 0 0, .iface 86 (.pointer (some p))]) ∧ Ext w w' := by
  have r1 := hr.u8take (k := n) (by omega)
  have SL := Lib.hid (seal_any A n c (l.take n) w hn r1 (fun x hx => hl x (List.mem_of_mem_take hx)))
  have EQ := Lib.hid (fun B cb w' (hb : Rd w' 1 B (n + 4) (u8s (sealed (l.take n)))) (hx : Ext w w') => equal_any B A (n + 4) (n + 4) cb c _ l w' (by omega) (by omega) hb (hr.ext hx))
  have SE := Lib.hid (fun w' (hx : Ext w w') => (hS.ext hx).2.1)
  rw [decide_eq_false hbad] at EQ
  have h1 : (((n + 4 : Nat) : Int)) - 4 = (n : Int) := by omega
  have h2 : ¬ (n : Int) < 0 := by omega
  have h3 : (n : Int) ≤ c := by omega
  have h4 : (0 : Int) ≤ n := by omega
  clear hbad hr hl r1 hS
  go_enter Tryd.func32, Tryd.ntmps32
  go_wp2_with fail
  refine SL.out.mono ?_
  rintro e w1 ⟨B, cb, rfl, ho, hx⟩
  go_wp2_with fail
  refine (EQ.out B cb w1 ho.rd hx).mono ?_
  rintro e w2 ⟨rfl, k, rfl⟩
  have c3 := SE.out _ hx
  clear ho
  go_wp2_with fail
  go_quiet (fail)
  go_wp2_with fail
  go_ret2
  exact ⟨rfl, (hx.drewN k).drewN _⟩
set_option maxHeartbeats 1600000 in
theorem open_good (A : Option Addr) (n c : Nat) (l : List Nat) (w : World) (hn : n ≤ 140737488351232) (hc : n + 4 ≤ c) (hr : Rd w 1 A (n + 4) (u8s l)) (hl : ∀ x ∈ l, x < 256) (hgood : sealed (l.take n) = l) :
    Calls Tryd.prog 32 #[.slice A (n + 4) c] w fun e w' => ∃ A' c', e = .returned (.tuple #[.slice A' n c', .nilIface]) ∧ Own w' w.heap.size 5 1 A' n c' (u8s (l.take n)) ∧ Ext w w' := by
  have r1 := hr.u8take (k := n) (by omega)
  have SL := Lib.hid (seal_any A n c (l.take n) w hn r1 (fun x hx => hl x (List.mem_of_mem_take hx)))
  have EQ := Lib.hid (fun B cb w' (hb : Rd w' 1 B (n + 4) (u8s (sealed (l.take n)))) (hx : Ext w w') => equal_any B A (n + 4) (n + 4) cb c _ l w' (by omega) (by omega) hb (hr.ext hx))
  have CL := Lib.hid (fun w' (hx : Ext w w') => clone_any A n c (l.take n) w' (r1.ext hx) (by omega))
  rw [decide_eq_true hgood] at EQ
  have h1 : (((n + 4 : Nat) : Int)) - 4 = (n : Int) := by omega
  have h2 : ¬ (n : Int) < 0 := by omega
  have h3 : (n : Int) ≤ c := by omega
  have h4 : (0 : Int) ≤ n := by omega
  clear hgood hr hl r1
  go_enter Tryd.func32, Tryd.ntmps32
  go_wp2_with fail
  refine SL.out.mono ?_
  rintro e w1 ⟨B, cb, rfl, ho, hx⟩
  go_wp2_with fail
  refine (EQ.out B cb w1 ho.rd hx).mono ?_
  rintro e w2 ⟨rfl, k, rfl⟩
  clear ho
  go_wp2_with fail
  refine (CL.out _ (hx.drewN k)).mono ?_
  rintro e w3 ⟨A', c', rfl, ho, hy⟩
  go_wp2_with fail
  go_ret2
  exact ⟨A', c', rfl, ho.low (by have := hx.size; exact this), (hx.drewN k).trans hy⟩
end Go.Proofs.YtelnnlfbfbbnaaaDoor
