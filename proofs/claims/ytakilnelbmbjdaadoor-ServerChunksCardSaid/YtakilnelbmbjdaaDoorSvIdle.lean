/-
  The statement ServerIdle, walked.
-/
import Derived.Test.YtakilnelbmbjdaaDoorSvRow
namespace Go.Proofs.YtakilnelbmbjdaaDoor
open Go.RowKit
set_option linter.unusedVariables false
theorem err_same_ne (w : World) (a : Addr) : (binOp .neq 31 (.iface 59 (.pointer (some a))) (.iface 59 (.pointer (some a)))).run Tryd.prog w = .ok (.bool false) w := by
  obtain ⟨i, hi, hc⟩ := info_c 59 (by kernel_rfl)
  obtain ⟨j, hj, hs⟩ := info_s 76 (by kernel_rfl)
  simp only [binOp]
  simp [Op.equal, Op.maxDepth, run_equalIn_iface_ptr_same w 9998 a Tryd.underlying31 Tryd.underlying59 hi hc hj]
set_option maxHeartbeats 3200000 in
theorem idle_no (K Q T now : Int) (A : Option Addr) (n c0 : Nat) (w : World) {p : Addr} (hS : Sen w 0 p) (LG : Hid (∀ w, Calls Tryd.prog 10 #[srv K Q T, .int .i64 now] w fun e w' => e = .returned (.bool false) ∧ Ext w w')) :
    Calls Tryd.prog 7 #[srow K Q T now A n c0] w fun e w' => e = .returned (.bool true) ∧ Ext w w' := by
  have AL := Lib.hid (fun w' (hx : Ext w w') => alive_any w' (hS.ext hx))
  clear hS
  unfold srow
  unfold srv at *
  go_enter Tryd.func7, Tryd.ntmps7
  go_wp2_with fail
  have hx : Ext w (w.alloc (.cells #[.int .i64 K, .int .i64 Q, .int .i64 T, .int .i64 now, .slice A n c0] 26)) := (Ext.refl w).alloc _
  have bA := Blk.new w #[.int .i64 K, .int .i64 Q, .int .i64 T, .int .i64 now, .slice A n c0] 26
  refine (AL.out _ hx).mono ?_
  rintro e u0 ⟨rfl, hy⟩
  have hx0 := hx.trans hy
  have bA0 := bA.ext hy
  obtain ⟨b0, b1, b2, b3, b4⟩ := bA0.five
  clear hx hy bA
  go_wp2_with fail
  refine (LG.out _).mono ?_
  rintro e u1 ⟨rfl, hy⟩
  have hx1 := hx0.trans hy
  have bA1 := bA0.ext hy
  clear b0 b1 b2 b3 b4
  obtain ⟨b0, b1, b2, b3, b4⟩ := bA1.five
  clear hx0 hy bA0
  go_wp2_with fail
  go_ret
  exact ⟨rfl, hx1⟩
/-- What holds of a server in a walk over a row. -/
structure InRow (w wr : World) (K Q T now : Int) (A : Option Addr) (n c0 g : Nat) (l : List Int) (c : Ck) (wk : Bool) : Prop where
  sv : Sv wr g ⟨K, Q, T, now⟩ c wk
  bd : 0 ≤ c.b ∧ c.b ≤ 256
  hx : Ext w wr
  blk : Blk wr w.heap.size #[.int .i64 K, .int .i64 Q, .int .i64 T, .int .i64 now, .slice A n c0]
  hg : w.heap.size < g
theorem InRow.step {w wr w1 : World} {K Q T now : Int} {A : Option Addr} {n c0 g : Nat} {l : List Int} {c c' : Ck} {wk wk' : Bool} (h : InRow w wr K Q T now A n c0 g l c wk) (hs : Sv w1 g ⟨K, Q, T, now⟩ c' wk') (hf : Fr wr w1 (· = g)) (hb : 0 ≤ c'.b ∧ c'.b ≤ 256) : InRow w w1 K Q T now A n c0 g l c' wk' :=
  ⟨hs, hb, Fr.ext h.hx hf (fun i hi => by have := h.hg; omega), h.blk.keep hf (by have := h.hg; omega), h.hg⟩
theorem InRow.ext {w wr w1 : World} {K Q T now : Int} {A : Option Addr} {n c0 g : Nat} {l : List Int} {c : Ck} {wk : Bool} (h : InRow w wr K Q T now A n c0 g l c wk) (hx : Ext wr w1) : InRow w w1 K Q T now A n c0 g l c wk :=
  ⟨h.sv.ext hx, h.bd, h.hx.trans hx, h.blk.ext hx, h.hg⟩
set_option maxRecDepth 8000 in
set_option maxHeartbeats 12800000 in
theorem idle_yes (K Q T now : Int) (A : Option Addr) (n c0 : Nat) (l : List Int) (w : World) {p : Addr} (hS : Sen w 0 p) (h : Legal K Q T) (hn : 0 ≤ now ∧ now ≤ 1099511627776) (hr : Rd w 1 A n (ints l)) :
    Calls Tryd.prog 7 #[srow K Q T now A n c0] w fun e w' => e = .returned (.bool true) ∧ Ext w w' := by
  have AL := Lib.hid (fun w' (hx : Ext w w') => alive_any w' (hS.ext hx))
  have SE := Lib.hid (fun w' (hx : Ext w w') => hS.ext hx)
  have LG := Lib.hid (fun w => legal_yes K Q T now w h hn)
  have NW := Lib.hid (fun w => new_ok K Q T now w h hn)
  have HR := Lib.hid hr
  obtain ⟨l1, l2, l3, l4, l5⟩ := h
  clear hS hr
  unfold srow
  unfold srv at *
  go_enter Tryd.func7, Tryd.ntmps7
  go_wp2_with fail
  have hx : Ext w (w.alloc (.cells #[.int .i64 K, .int .i64 Q, .int .i64 T, .int .i64 now, .slice A n c0] 26)) := (Ext.refl w).alloc _
  have bA := Blk.new w #[.int .i64 K, .int .i64 Q, .int .i64 T, .int .i64 now, .slice A n c0] 26
  refine (AL.out _ hx).mono ?_
  rintro e u0 ⟨rfl, hy⟩
  have hx0 := hx.trans hy
  have bA0 := bA.ext hy
  obtain ⟨b0, b1, b2, b3, b4⟩ := bA0.five
  clear hx hy bA
  go_wp2_with fail
  refine (LG.out _).mono ?_
  rintro e u1 ⟨rfl, hy⟩
  have hx1 := hx0.trans hy
  have bA1 := bA0.ext hy
  clear b0 b1 b2 b3 b4
  obtain ⟨b0, b1, b2, b3, b4⟩ := bA1.five
  clear hx0 hy bA0
  go_wp2_with fail
  refine (NW.out _).mono ?_
  rintro e u2 ⟨g, rfl, hs, hy, hg⟩
  have hx2 := hx1.trans hy
  have bA2 := bA1.ext hy
  have hgA : w.heap.size < g := Nat.lt_of_lt_of_le bA1.lt hg
  clear b0 b1 b2 b3 b4 hx1 hy bA1 hg
  have hI0 : InRow w u2 K Q T now A n c0 g l ⟨0, now, false⟩ false := ⟨hs, by simp only; omega, hx2, bA2, hgA⟩
  obtain ⟨b0, b1, b2, b3, b4⟩ := bA2.five
  go_wp2_with fail
  clear b0 b1 b2 b3 b4 hs hx2 bA2
  go_loopw [34] (fun vi wr => ∃ (k : Nat) (c : Ck) (wk : Bool), vi = .int .i64 (k : Int) ∧ k ≤ n ∧ k ≤ 1001 ∧ InRow w wr K Q T now A n c0 g l c wk) (fun vi _ => (1002 - intOf vi).toNat)
  case atStart => exact ⟨0, _, _, rfl, by omega, by omega, hI0⟩
  case round =>
    clear hI0
    obtain ⟨k, c, wk, rfl, hk, hk1, hI⟩ := hrel
    by_cases hkn : k < n
    · obtain ⟨ad, x, rfl, hlx, hcx⟩ := (HR.out.ext hI.hx).int hkn
      obtain ⟨b0, b1, b2, b3, b4⟩ := hI.blk.five
      by_cases h1000 : 1000 < k
      · go_wp2_with fail
        go_ret
        exact ⟨rfl, hI.hx⟩
      · obtain ⟨wb, m1⟩ := bit0 x
        obtain ⟨tb, m2⟩ := bit1 x
        have BG := Lib.hid (begin_any wr (now + (k : Int)) wb hI.sv (by simp only; omega) (by simp only; omega) (by simp only; omega))
        have hb' := beg_bound (K := K) (T := T) (s := now) (now := now + (k : Int)) (wk := wb) (show 1 ≤ Q ∧ Q ≤ 256 by omega) hI.bd
        have w5 : IntKind.i64.wrap (now + (k : Int)) = now + (k : Int) := by rw [IntKind.wrap_i64]; omega
        obtain ⟨c', hc'⟩ : ∃ c', begC ⟨K, Q, T, now⟩ c (now + (k : Int)) wb = c' := ⟨_, rfl⟩
        rw [hc'] at hb' BG
        have EN := err_same_ne
        cases tb
        · skip
          simp only [Bool.false_eq_true, if_false] at m2
          cases wb
          · by_cases hK3 : K = 3
            · skip
              have hrd : (false && decide (0 < c'.b)) = false := rfl
              simp only [hrd] at BG
              simp only [Bool.false_eq_true, if_false] at m1
              subst hK3
              go_wp2_with fail
              refine BG.out.mono ?_
              rintro e w1 ⟨rfl, h1, f1⟩
              have hI1 := hI.step h1 f1 hb'
              clear hI BG f1 b0 b1 b2 b3 b4
              obtain ⟨b0, b1, b2, b3, b4⟩ := hI1.blk.five
              go_wp2_with fail
              refine (ready_any w1 h1).mono ?_
              rintro e w2 ⟨rfl, rfl⟩
              have CN := Lib.hid (fun w' (hx' : Ext w1 w') => charge_no w' (SE.out w' (hI1.hx.trans hx')) (h1.ext hx') hrd)
              have hS1 := SE.out w1 hI1.hx
              have BX := Lib.hid (fun w' (hx' : Ext w1 w') => (⟨(hS1.ext hx').2.1, hx'⟩ : w'.cell? ⟨0, 0, none⟩ = some (.iface 59 (.pointer (some p))) ∧ Ext w1 w'))
              obtain ⟨i0, i1⟩ := BX.out w1 (Ext.refl _)
              go_wp2_with fail
              go_region_held3 (fun w' => w'.cell? ⟨0, 0, none⟩ = some (.iface 59 (.pointer (some p))) ∧ Ext w1 w')
                (first | (refine BX.out _ ?_; first | with_reducible assumption | with_reducible exact Ext.refl _ | with_reducible exact (Ext.refl _).drew))
                (first
                  | (go_at_call 16; (with_reducible refine (CN.out _ (by first | exact Ext.refl _ | exact (Ext.refl _).drew)).mono ?_); rintro en vD ⟨rfl, rfl⟩))
              all_goals
                go_wp2_with fail
                go_roundw
                case rel => exact ⟨k + 1, _, _, by go_num, by omega, by omega, hI1.ext (by first | exact Ext.refl _ | exact (Ext.refl _).drew | exact (Ext.refl _).drewN _)⟩
                case measure => simp [intOf]; omega
            · skip
              have hrd : (false && decide (0 < c'.b)) = false := rfl
              simp only [hrd] at BG
              simp only [Bool.false_eq_true, if_false] at m1
              have hK12 : K = 1 ∨ K = 2 := by omega
              have hcb := congrArg Ck.b ((hc'.symm).trans (beg_idle (Q := Q) (T := T) (s := now) (now := now + (k : Int)) (c := c) hK12))
              have hco := congrArg Ck.on ((hc'.symm).trans (beg_idle (Q := Q) (T := T) (s := now) (now := now + (k : Int)) (c := c) hK12))
              simp only at hcb hco
              clear hc'
              go_wp2_with fail
              refine BG.out.mono ?_
              rintro e w1 ⟨rfl, h1, f1⟩
              have hI1 := hI.step h1 f1 hb'
              clear hI BG f1 b0 b1 b2 b3 b4
              obtain ⟨b0, b1, b2, b3, b4⟩ := hI1.blk.five
              go_wp2_with fail
              refine (ready_any w1 h1).mono ?_
              rintro e w2 ⟨rfl, rfl⟩
              go_wp2_with fail
              refine (getter_budget w1 h1).mono ?_
              rintro e w2 ⟨rfl, rfl⟩
              go_wp2_with fail
              refine (getter_on w1 h1).mono ?_
              rintro e w2 ⟨rfl, rfl⟩
              have CN := Lib.hid (fun w' (hx' : Ext w1 w') => charge_no w' (SE.out w' (hI1.hx.trans hx')) (h1.ext hx') hrd)
              have hS1 := SE.out w1 hI1.hx
              have BX := Lib.hid (fun w' (hx' : Ext w1 w') => (⟨(hS1.ext hx').2.1, hx'⟩ : w'.cell? ⟨0, 0, none⟩ = some (.iface 59 (.pointer (some p))) ∧ Ext w1 w'))
              obtain ⟨i0, i1⟩ := BX.out w1 (Ext.refl _)
              go_wp2_with fail
              go_region_held3 (fun w' => w'.cell? ⟨0, 0, none⟩ = some (.iface 59 (.pointer (some p))) ∧ Ext w1 w')
                (first | (refine BX.out _ ?_; first | with_reducible assumption | with_reducible exact Ext.refl _ | with_reducible exact (Ext.refl _).drew))
                (first
                  | (go_at_call 16; (with_reducible refine (CN.out _ (by first | exact Ext.refl _ | exact (Ext.refl _).drew)).mono ?_); rintro en vD ⟨rfl, rfl⟩))
              all_goals
                go_wp2_with fail
                go_roundw
                case rel => exact ⟨k + 1, _, _, by go_num, by omega, by omega, hI1.ext (by first | exact Ext.refl _ | exact (Ext.refl _).drew | exact (Ext.refl _).drewN _)⟩
                case measure => simp [intOf]; omega
          · by_cases hp : 0 < c'.b
            · skip
              simp only [if_true] at m1
              have hrd : (true && decide (0 < c'.b)) = true := by simp; exact hp
              have hb2 : 0 ≤ c'.b - 1 ∧ c'.b - 1 ≤ 256 := by omega
              simp only [hrd] at BG
              go_wp2_with fail
              refine BG.out.mono ?_
              rintro e w1 ⟨rfl, h1, f1⟩
              have hI1 := hI.step h1 f1 hb'
              clear hI BG f1 b0 b1 b2 b3 b4
              obtain ⟨b0, b1, b2, b3, b4⟩ := hI1.blk.five
              go_wp2_with fail
              refine (ready_any w1 h1).mono ?_
              rintro e w2 ⟨rfl, rfl⟩
              go_wp2_with fail
              refine (getter_budget w1 h1).mono ?_
              rintro e w2 ⟨rfl, rfl⟩
              have CY := Lib.hid (fun w' (hx' : Ext w1 w') => charge_yes w' (h1.ext hx') hrd (by omega))
              go_wp2_with fail
              go_quiet (fail)
              go_wp2_with fail
              go_roundw
              case rel => exact ⟨k + 1, _, _, by go_num, by omega, by omega, hI1.ext (by first | exact Ext.refl _ | exact (Ext.refl _).drew | exact (Ext.refl _).drewN _)⟩
              case measure => simp [intOf]; omega
            · skip
              simp only [if_true] at m1
              have hrd : (true && decide (0 < c'.b)) = false := by simp; omega
              have hcb : c'.b = 0 := by omega
              simp only [hrd] at BG
              go_wp2_with fail
              refine BG.out.mono ?_
              rintro e w1 ⟨rfl, h1, f1⟩
              have hI1 := hI.step h1 f1 hb'
              clear hI BG f1 b0 b1 b2 b3 b4
              obtain ⟨b0, b1, b2, b3, b4⟩ := hI1.blk.five
              go_wp2_with fail
              refine (ready_any w1 h1).mono ?_
              rintro e w2 ⟨rfl, rfl⟩
              go_wp2_with fail
              refine (getter_budget w1 h1).mono ?_
              rintro e w2 ⟨rfl, rfl⟩
              have CN := Lib.hid (fun w' (hx' : Ext w1 w') => charge_no w' (SE.out w' (hI1.hx.trans hx')) (h1.ext hx') hrd)
              go_wp2_with fail
              go_quiet (fail)
              go_wp2_with fail
              go_roundw
              case rel => exact ⟨k + 1, _, _, by go_num, by omega, by omega, hI1.ext (by first | exact Ext.refl _ | exact (Ext.refl _).drew | exact (Ext.refl _).drewN _)⟩
              case measure => simp [intOf]; omega
        · skip
          simp only [if_true] at m2
          cases wb
          · by_cases hK3 : K = 3
            · skip
              have hrd : (false && decide (0 < c'.b)) = false := rfl
              simp only [hrd] at BG
              simp only [Bool.false_eq_true, if_false] at m1
              subst hK3
              go_wp2_with fail
              refine BG.out.mono ?_
              rintro e w1 ⟨rfl, h1, f1⟩
              have hI1 := hI.step h1 f1 hb'
              clear hI BG f1 b0 b1 b2 b3 b4
              obtain ⟨b0, b1, b2, b3, b4⟩ := hI1.blk.five
              go_wp2_with fail
              refine (ready_any w1 h1).mono ?_
              rintro e w2 ⟨rfl, rfl⟩
              have CN := Lib.hid (fun w' (hx' : Ext w1 w') => charge_no w' (SE.out w' (hI1.hx.trans hx')) (h1.ext hx') hrd)
              have hS1 := SE.out w1 hI1.hx
              have BX := Lib.hid (fun w' (hx' : Ext w1 w') => (⟨(hS1.ext hx').2.1, hx'⟩ : w'.cell? ⟨0, 0, none⟩ = some (.iface 59 (.pointer (some p))) ∧ Ext w1 w'))
              obtain ⟨i0, i1⟩ := BX.out w1 (Ext.refl _)
              go_wp2_with fail
              go_region_held3 (fun w' => w'.cell? ⟨0, 0, none⟩ = some (.iface 59 (.pointer (some p))) ∧ Ext w1 w')
                (first | (refine BX.out _ ?_; first | with_reducible assumption | with_reducible exact Ext.refl _ | with_reducible exact (Ext.refl _).drew))
                (first
                  | (go_at_call 16; (with_reducible refine (CN.out _ (by first | exact Ext.refl _ | exact (Ext.refl _).drew)).mono ?_); rintro en vD ⟨rfl, rfl⟩))
              all_goals
                go_wp2_with fail
                refine (CN.out _ (by first | exact Ext.refl _ | exact (Ext.refl _).drew | exact (Ext.refl _).drewN _)).mono ?_
                rintro en vE ⟨rfl, rfl⟩
                go_wp2_with fail
                go_roundw
                case rel => exact ⟨k + 1, _, _, by go_num, by omega, by omega, hI1.ext (by first | exact Ext.refl _ | exact (Ext.refl _).drew | exact (Ext.refl _).drewN _)⟩
                case measure => simp [intOf]; omega
            · skip
              have hrd : (false && decide (0 < c'.b)) = false := rfl
              simp only [hrd] at BG
              simp only [Bool.false_eq_true, if_false] at m1
              have hK12 : K = 1 ∨ K = 2 := by omega
              have hcb := congrArg Ck.b ((hc'.symm).trans (beg_idle (Q := Q) (T := T) (s := now) (now := now + (k : Int)) (c := c) hK12))
              have hco := congrArg Ck.on ((hc'.symm).trans (beg_idle (Q := Q) (T := T) (s := now) (now := now + (k : Int)) (c := c) hK12))
              simp only at hcb hco
              clear hc'
              go_wp2_with fail
              refine BG.out.mono ?_
              rintro e w1 ⟨rfl, h1, f1⟩
              have hI1 := hI.step h1 f1 hb'
              clear hI BG f1 b0 b1 b2 b3 b4
              obtain ⟨b0, b1, b2, b3, b4⟩ := hI1.blk.five
              go_wp2_with fail
              refine (ready_any w1 h1).mono ?_
              rintro e w2 ⟨rfl, rfl⟩
              go_wp2_with fail
              refine (getter_budget w1 h1).mono ?_
              rintro e w2 ⟨rfl, rfl⟩
              go_wp2_with fail
              refine (getter_on w1 h1).mono ?_
              rintro e w2 ⟨rfl, rfl⟩
              have CN := Lib.hid (fun w' (hx' : Ext w1 w') => charge_no w' (SE.out w' (hI1.hx.trans hx')) (h1.ext hx') hrd)
              have hS1 := SE.out w1 hI1.hx
              have BX := Lib.hid (fun w' (hx' : Ext w1 w') => (⟨(hS1.ext hx').2.1, hx'⟩ : w'.cell? ⟨0, 0, none⟩ = some (.iface 59 (.pointer (some p))) ∧ Ext w1 w'))
              obtain ⟨i0, i1⟩ := BX.out w1 (Ext.refl _)
              go_wp2_with fail
              go_region_held3 (fun w' => w'.cell? ⟨0, 0, none⟩ = some (.iface 59 (.pointer (some p))) ∧ Ext w1 w')
                (first | (refine BX.out _ ?_; first | with_reducible assumption | with_reducible exact Ext.refl _ | with_reducible exact (Ext.refl _).drew))
                (first
                  | (go_at_call 16; (with_reducible refine (CN.out _ (by first | exact Ext.refl _ | exact (Ext.refl _).drew)).mono ?_); rintro en vD ⟨rfl, rfl⟩))
              all_goals
                go_wp2_with fail
                refine (CN.out _ (by first | exact Ext.refl _ | exact (Ext.refl _).drew | exact (Ext.refl _).drewN _)).mono ?_
                rintro en vE ⟨rfl, rfl⟩
                go_wp2_with fail
                go_roundw
                case rel => exact ⟨k + 1, _, _, by go_num, by omega, by omega, hI1.ext (by first | exact Ext.refl _ | exact (Ext.refl _).drew | exact (Ext.refl _).drewN _)⟩
                case measure => simp [intOf]; omega
          · by_cases hp : 0 < c'.b
            · skip
              simp only [if_true] at m1
              have hrd : (true && decide (0 < c'.b)) = true := by simp; exact hp
              have hb2 : 0 ≤ c'.b - 1 ∧ c'.b - 1 ≤ 256 := by omega
              simp only [hrd] at BG
              go_wp2_with fail
              refine BG.out.mono ?_
              rintro e w1 ⟨rfl, h1, f1⟩
              have hI1 := hI.step h1 f1 hb'
              clear hI BG f1 b0 b1 b2 b3 b4
              obtain ⟨b0, b1, b2, b3, b4⟩ := hI1.blk.five
              go_wp2_with fail
              refine (ready_any w1 h1).mono ?_
              rintro e w2 ⟨rfl, rfl⟩
              go_wp2_with fail
              refine (getter_budget w1 h1).mono ?_
              rintro e w2 ⟨rfl, rfl⟩
              have CY := Lib.hid (fun w' (hx' : Ext w1 w') => charge_yes w' (h1.ext hx') hrd (by omega))
              go_wp2_with fail
              go_quiet (fail)
              go_wp2_with fail
              refine (CY.out _ (by first | exact Ext.refl _ | exact (Ext.refl _).drew | exact (Ext.refl _).drewN _)).mono ?_
              rintro en vE ⟨rfl, h2, f2⟩
              have hI2 := (hI1.ext (by first | exact Ext.refl _ | exact (Ext.refl _).drew | exact (Ext.refl _).drewN _)).step h2 f2 hb2
              go_wp2_with fail
              go_roundw
              case rel => exact ⟨k + 1, _, _, by go_num, by omega, by omega, hI2⟩
              case measure => simp [intOf]; omega
            · skip
              simp only [if_true] at m1
              have hrd : (true && decide (0 < c'.b)) = false := by simp; omega
              have hcb : c'.b = 0 := by omega
              simp only [hrd] at BG
              go_wp2_with fail
              refine BG.out.mono ?_
              rintro e w1 ⟨rfl, h1, f1⟩
              have hI1 := hI.step h1 f1 hb'
              clear hI BG f1 b0 b1 b2 b3 b4
              obtain ⟨b0, b1, b2, b3, b4⟩ := hI1.blk.five
              go_wp2_with fail
              refine (ready_any w1 h1).mono ?_
              rintro e w2 ⟨rfl, rfl⟩
              go_wp2_with fail
              refine (getter_budget w1 h1).mono ?_
              rintro e w2 ⟨rfl, rfl⟩
              have CN := Lib.hid (fun w' (hx' : Ext w1 w') => charge_no w' (SE.out w' (hI1.hx.trans hx')) (h1.ext hx') hrd)
              go_wp2_with fail
              go_quiet (fail)
              go_wp2_with fail
              refine (CN.out _ (by first | exact Ext.refl _ | exact (Ext.refl _).drew | exact (Ext.refl _).drewN _)).mono ?_
              rintro en vE ⟨rfl, rfl⟩
              go_wp2_with fail
              go_roundw
              case rel => exact ⟨k + 1, _, _, by go_num, by omega, by omega, hI1.ext (by first | exact Ext.refl _ | exact (Ext.refl _).drew | exact (Ext.refl _).drewN _)⟩
              case measure => simp [intOf]; omega
    · obtain ⟨b0, b1, b2, b3, b4⟩ := hI.blk.five
      go_wp2_with fail
      go_ret
      exact ⟨rfl, hI.hx⟩
theorem idle_any (K Q T now : Int) (A : Option Addr) (n c0 : Nat) (l : List Int) (w : World) {p : Addr} (hS : Sen w 0 p) (hr : Rd w 1 A n (ints l)) :
    Calls Tryd.prog 7 #[srow K Q T now A n c0] w fun e w' => e = .returned (.bool true) ∧ Ext w w' := by
  by_cases h : Legal K Q T
  · by_cases hn : 0 ≤ now ∧ now ≤ 1099511627776
    · exact idle_yes K Q T now A n c0 l w hS h hn hr
    · exact idle_no K Q T now A n c0 w hS (Lib.hid (fun w => legal_late K Q T now w h hn))
  · exact idle_no K Q T now A n c0 w hS (Lib.hid (fun w => legal_no K Q T now w h))
end Go.Proofs.YtakilnelbmbjdaaDoor
