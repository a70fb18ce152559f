/-
  Package crc: slices.Clone, Read, walked.
-/
import Derived.Test.YtbinimejjenmlaaDoorCrcFrame
import Derived.Lib.SlBytesConst
namespace Go.Proofs.YtbinimejjenmlaaDoor
open Go.RowKit
set_option linter.unusedVariables false
set_option maxHeartbeats 800000 in
theorem clone_any (A : Option Addr) (n c : Nat) (bs : List Nat) (w : World) (h : Rd w 1 A n (u8s bs)) (hn : n ≤ 140737488351232) :
    Calls Tryd.prog 24 #[.slice A n c] w fun e w' => ∃ A' c', e = .returned (.slice A' n c') ∧ Own w' w.heap.size 5 1 A' n c' (u8s bs) ∧ Ext w w' := by
  cases A with
  | none =>
    have h0 : n = 0 := by
      rcases Nat.eq_zero_or_pos n with e | e
      · exact e
      · obtain ⟨_, h1, _⟩ := h.2 e; cases h1
    subst h0
    have hb : bs = [] := List.eq_nil_of_length_eq_zero (by have := h.len; rwa [u8s_len] at this)
    subst hb
    clear h
    have hq := fun (w : World) (a : Option Addr) (n c : Nat) => Lib.run_eql_slice_nil (P := Tryd.prog) w 22 5 a n c 0 0 Tryd.underlying22
    go_enter Tryd.func24, Tryd.ntmps24
    go_wp2_with fail
    go_ret
    exact ⟨none, 0, rfl, Own.nil_, Ext.refl w⟩
  | some ad =>
    have hq := fun (w : World) (a : Option Addr) (n c : Nat) => Lib.run_eql_slice_nil (P := Tryd.prog) w 22 5 a n c 0 0 Tryd.underlying22
    go_enter Tryd.func24, Tryd.ntmps24
    go_wp2_with (at_builtin; refine held ?_)
    have ho : Own (w.alloc (.cells #[] 5)) w.heap.size 5 1 (some ⟨w.heap.size, 0, none⟩) 0 0 [] := World.ownsRow_lit (size := 1) w #[] 0 (Nat.le_refl _) (by simp [maxLen]) rfl
    refine Held.go (wp_app (m := n) (news := u8s bs) eltU8 ho (h.ext ((Ext.refl w).alloc _)) (u8s_one _) (by omega) (.inr ⟨by omega, by omega⟩) (by simp) _ _ rfl rfl rfl rfl ?_)
    intro A2 c2 w2 hown2 hg2 _ _
    rw [Nat.zero_add, List.nil_append] at hown2
    rw [Nat.zero_add]
    have hx2 := hg2.ext ((Ext.refl w).alloc _) ho.base_le
    clear h ho hg2
    go_wp2_with fail
    go_ret
    exact ⟨A2, c2, rfl, hown2, hx2⟩

def RNo (e : Value) : Ending := .returned (.tuple #[.slice none 0 0, .int .i64 0, e])
set_option maxHeartbeats 800000 in
theorem read_short (A : Option Addr) (m c : Nat) (w : World) (hm : m < 4) :
    Calls Tryd.prog 13 #[.slice A m c] w fun e w' => e = RNo .nilIface ∧ Ext w w' := by
  unfold RNo
  go_enter Tryd.func13, Tryd.ntmps13
  go_wp2_with fail
  go_returns
  exact ⟨rfl, Ext.refl w⟩
set_option maxHeartbeats 1600000 in
theorem read_large (A : Option Addr) (m c : Nat) (a b c1 d : Nat) (l : List Nat) (w : World) (hr : Rd w 1 A m (u8s (a :: b :: c1 :: d :: l))) (hs : ∀ x ∈ a :: b :: c1 :: d :: l, x < 256) (hm : 4 ≤ m) (hx : 32768 < bw a b c1 d) {p : Addr} (hS : Sen w 0 p) :
    Calls Tryd.prog 13 #[.slice A m c] w fun e w' => e = RNo (.iface 53 (.pointer (some p))) ∧ Ext w w' := by
  unfold RNo
  have G := Lib.hid (get_any a b c1 d l w (cp := c) hr hm (hs _ (by simp)) (hs _ (by simp)) (hs _ (by simp)) (hs _ (by simp)))
  have cS := hS.2.1
  generalize bw a b c1 d = x at *
  clear hr hs hS
  go_enter Tryd.func13, Tryd.ntmps13
  go_wp2_with fail
  refine G.out.mono ?_
  rintro e w1 ⟨rfl, k, rfl⟩
  go_wp2_with fail
  go_quiet (fail)
  go_wp2_with fail
  go_returns
  exact ⟨rfl, ((Ext.refl w).drewN _).drewN _⟩
set_option maxHeartbeats 1600000 in
theorem read_wait (A : Option Addr) (m c : Nat) (a b c1 d : Nat) (l : List Nat) (w : World) (hr : Rd w 1 A m (u8s (a :: b :: c1 :: d :: l))) (hs : ∀ x ∈ a :: b :: c1 :: d :: l, x < 256) (hm : 4 ≤ m) (hm2 : m ≤ 140737488400000) (hx : bw a b c1 d ≤ 32768) (hw : m < bw a b c1 d + 8) :
    Calls Tryd.prog 13 #[.slice A m c] w fun e w' => e = RNo .nilIface ∧ Ext w w' := by
  unfold RNo
  have G := Lib.hid (get_any a b c1 d l w (cp := c) hr hm (hs _ (by simp)) (hs _ (by simp)) (hs _ (by simp)) (hs _ (by simp)))
  generalize bw a b c1 d = x at *
  clear hr hs
  go_enter Tryd.func13, Tryd.ntmps13
  go_wp2_with fail
  refine G.out.mono ?_
  rintro e w1 ⟨rfl, k, rfl⟩
  go_wp2_with fail
  go_returns
  exact ⟨rfl, (Ext.refl w).drewN _⟩
set_option maxHeartbeats 3200000 in
theorem read_sum (g o m c : Nat) (a b c1 d : Nat) (l : List Nat) (e0 e1 e2 e3 : Nat) (l2 : List Nat) (w : World) (hr : Rd w 1 (some ⟨g, o, none⟩) m (u8s (a :: b :: c1 :: d :: l))) (hs : ∀ x ∈ a :: b :: c1 :: d :: l, x < 256) (hm2 : m ≤ 140737488400000) (hx : bw a b c1 d ≤ 32768) (hw : bw a b c1 d + 8 ≤ m) (hmc : m ≤ c)
    (hd : (a :: b :: c1 :: d :: l).drop (bw a b c1 d + 4) = e0 :: e1 :: e2 :: e3 :: l2) (hne : Crc.sum ((a :: b :: c1 :: d :: l).take (bw a b c1 d + 4)) ≠ bw e0 e1 e2 e3) {p : Addr} (hS : Sen w 4 p) :
    Calls Tryd.prog 13 #[.slice (some ⟨g, o, none⟩) m c] w fun e w' => e = RNo (.iface 53 (.pointer (some p))) ∧ Ext w w' := by
  unfold RNo
  have G := Lib.hid (get_any a b c1 d l w (cp := c) hr (by omega) (hs _ (by simp)) (hs _ (by simp)) (hs _ (by simp)) (hs _ (by simp)))
  have cS := hS.2.1
  have hA := hr.u8take (k := bw a b c1 d + 4) (by omega)
  have hB := hr.u8off (k := bw a b c1 d + 4) (by omega)
  have hl1 : ∀ x ∈ (a :: b :: c1 :: d :: l).take (bw a b c1 d + 4), x < 256 := fun x hx => hs x (List.mem_of_mem_take hx)
  have hl2 : ∀ x ∈ e0 :: e1 :: e2 :: e3 :: l2, x < 256 := fun x hx => hs x (List.mem_of_mem_drop (by rw [hd]; exact hx))
  rw [hd] at hB
  have h4 := hl2 e0 (by simp)
  have h5 := hl2 e1 (by simp)
  have h6 := hl2 e2 (by simp)
  have h7 := hl2 e3 (by simp)
  have hne' : ((Crc.sum ((a :: b :: c1 :: d :: l).take (bw a b c1 d + 4)) : Nat) : Int) ≠ ((bw e0 e1 e2 e3 : Nat) : Int) := by omega
  generalize (a :: b :: c1 :: d :: l).take (bw a b c1 d + 4) = L1 at *
  generalize bw a b c1 d = x at *
  obtain ⟨en, hen⟩ : ∃ en, x + 4 = en := ⟨_, rfl⟩
  have i1 : (4 : Int) + (x : Int) = (en : Int) := by omega
  rw [hen] at hA hB
  have S1 := Lib.hid (fun w' h => sum_any (some ⟨g, o, none⟩) en c L1 w' (by omega) h hl1)
  clear hr hs hS hd hne hl2 hl1
  go_enter Tryd.func13, Tryd.ntmps13
  go_wp2_with fail
  refine G.out.mono ?_
  rintro e w1 ⟨rfl, k, rfl⟩
  have hA := hA.drewN k
  have hB := hB.drewN k
  have hx0 : Ext w (w.drewN k) := (Ext.refl w).drewN k
  have cS : (w.drewN k).cell? ⟨4, 0, none⟩ = some (.iface 53 (.pointer (some p))) := cS
  generalize w.drewN k = W at *
  have j1 : en ≤ m := by omega
  have j2 : en ≤ c := by omega
  have j3 : ¬ c = en := by omega
  have j4 : (0 : Int) ≤ (en : Int) := by omega
  have j5 : (en : Int) ≤ (m : Int) := by omega
  have j6 : (en : Int) ≤ (c : Int) := by omega
  go_wp2_with fail
  go_quiet (first
    | (go_at_call 19; exact qz (S1.out _ (hA.drewN _)))
    | (go_at_call 23; exact Calls.quiet_of (get_any e0 e1 e2 e3 l2 _ (hB.drewN _) (by omega) h4 h5 h6 h7)))
  go_wp2_with fail
  go_quiet (fail)
  go_wp2_with fail
  go_returns
  exact ⟨rfl, (hx0.drewN _).drewN _⟩
set_option maxHeartbeats 3200000 in
theorem read_ok (g o m c : Nat) (a b c1 d : Nat) (l : List Nat) (e0 e1 e2 e3 : Nat) (l2 : List Nat) (w : World) (hr : Rd w 1 (some ⟨g, o, none⟩) m (u8s (a :: b :: c1 :: d :: l))) (hs : ∀ x ∈ a :: b :: c1 :: d :: l, x < 256) (hm2 : m ≤ 140737488400000) (hx : bw a b c1 d ≤ 32768) (hw : bw a b c1 d + 8 ≤ m) (hmc : m ≤ c)
    (hd : (a :: b :: c1 :: d :: l).drop (bw a b c1 d + 4) = e0 :: e1 :: e2 :: e3 :: l2) (hne : Crc.sum ((a :: b :: c1 :: d :: l).take (bw a b c1 d + 4)) = bw e0 e1 e2 e3) :
    Calls Tryd.prog 13 #[.slice (some ⟨g, o, none⟩) m c] w fun e w' => ∃ A' c', e = .returned (.tuple #[.slice A' (bw a b c1 d) c', .int .i64 (((bw a b c1 d : Nat) : Int) + 8), .nilIface]) ∧ (∃ base, w.heap.size ≤ base ∧ Own w' base 5 1 A' (bw a b c1 d) c' (u8s (l.take (bw a b c1 d)))) ∧ Ext w w' := by
  have G := Lib.hid (get_any a b c1 d l w (cp := c) hr (by omega) (hs _ (by simp)) (hs _ (by simp)) (hs _ (by simp)) (hs _ (by simp)))
  have hP := (hr.u8off (k := 4) (by omega)).u8take (k := bw a b c1 d) (by omega)
  rw [show (a :: b :: c1 :: d :: l).drop 4 = l from rfl] at hP
  have hA := hr.u8take (k := bw a b c1 d + 4) (by omega)
  have hB := hr.u8off (k := bw a b c1 d + 4) (by omega)
  have hl1 : ∀ x ∈ (a :: b :: c1 :: d :: l).take (bw a b c1 d + 4), x < 256 := fun x hx => hs x (List.mem_of_mem_take hx)
  have hl2 : ∀ x ∈ e0 :: e1 :: e2 :: e3 :: l2, x < 256 := fun x hx => hs x (List.mem_of_mem_drop (by rw [hd]; exact hx))
  rw [hd] at hB
  have h4 := hl2 e0 (by simp)
  have h5 := hl2 e1 (by simp)
  have h6 := hl2 e2 (by simp)
  have h7 := hl2 e3 (by simp)
  have hne' : ((Crc.sum ((a :: b :: c1 :: d :: l).take (bw a b c1 d + 4)) : Nat) : Int) = ((bw e0 e1 e2 e3 : Nat) : Int) := by rw [hne]
  generalize (a :: b :: c1 :: d :: l).take (bw a b c1 d + 4) = L1 at *
  generalize bw a b c1 d = x at *
  obtain ⟨en, hen⟩ : ∃ en, x + 4 = en := ⟨_, rfl⟩
  have i1 : (4 : Int) + (x : Int) = (en : Int) := by omega
  rw [hen] at hA hB
  have S1 := Lib.hid (fun w' h => sum_any (some ⟨g, o, none⟩) en c L1 w' (by omega) h hl1)
  have i2 : (en : Int) - 4 = (x : Int) := by omega
  have i3 : (en : Int) + 4 = (x : Int) + 8 := by omega
  generalize l.take x = L3 at *
  clear hr hs hd hne hl2 hl1
  go_enter Tryd.func13, Tryd.ntmps13
  go_wp2_with fail
  refine G.out.mono ?_
  rintro e w1 ⟨rfl, k, rfl⟩
  have hA := hA.drewN k
  have hB := hB.drewN k
  have hx0 : Ext w (w.drewN k) := (Ext.refl w).drewN k
  have hP := hP.drewN k
  have hxl : x ≤ 32768 := hx
  generalize w.drewN k = W at *
  have j1 : en ≤ m := by omega
  have j2 : en ≤ c := by omega
  have j3 : ¬ c = en := by omega
  have j4 : (0 : Int) ≤ (en : Int) := by omega
  have j5 : (en : Int) ≤ (m : Int) := by omega
  have j6 : (en : Int) ≤ (c : Int) := by omega
  go_wp2_with fail
  go_quiet (first
    | (go_at_call 19; exact qz (S1.out _ (hA.drewN _)))
    | (go_at_call 23; exact Calls.quiet_of (get_any e0 e1 e2 e3 l2 _ (hB.drewN _) (by omega) h4 h5 h6 h7)))
  go_wp2_with fail
  have q1 : en - 4 = x := by omega
  rw [q1]
  refine (clone_any (some ⟨g, o + 4, none⟩) x _ L3 _ (hP.drewN _) (by omega)).mono ?_
  rintro e w2 ⟨A', c', rfl, ho, hy⟩
  go_wp2_with fail
  go_returns
  exact ⟨A', c', rfl, ⟨_, hx0.size, ho⟩, (hx0.drewN _).trans hy⟩
end Go.Proofs.YtbinimejjenmlaaDoor
