/-
  The statement ServerDemands, walked.
-/
import Derived.Test.YtakilnelbmbjdaaDoorSvRan
namespace Go.Proofs.YtakilnelbmbjdaaDoor
open Go.RowKit
set_option linter.unusedVariables false
theorem Rd.bl {w : World} {A : Option Addr} {n k : Nat} {l : List Bool} (h : Rd w 1 A n (bls l)) (hk : k < n) :
    ∃ ad x, A = some ad ∧ l[k]? = some x ∧ w.cell? (ad.add k) = some (.bool x) := by
  obtain ⟨ad, e, _, hc⟩ := h.at_ hk
  have hl : k < l.length := by have := h.len; simp [bls] at this; omega
  exact ⟨ad, l[k], e, List.getElem?_eq_getElem hl, hc k _ (by simp [bls, hl])⟩
/-- How many of a list stand from place a on, ahead of place b. -/
def cb (l : List Bool) (a b : Nat) : Int := (((l.drop a).take (b - a)).count true : Nat)
theorem cb_start (l : List Bool) (a : Nat) : cb l a a = 0 := by simp [cb]
theorem cb_step {l : List Bool} {a b : Nat} {x : Bool} (hab : a ≤ b) (h : l[b]? = some x) : cb l a (b + 1) = cb l a b + (if x then 1 else 0) := by
  unfold cb
  have hb : b < l.length := (List.getElem?_eq_some_iff.1 h).1
  have e : (l.drop a)[b - a]? = some x := by rw [List.getElem?_drop, show a + (b - a) = b by omega, h]
  have hlt : b - a < (l.drop a).length := by rw [List.length_drop]; omega
  rw [show b + 1 - a = (b - a) + 1 by omega, List.take_add_one, e, List.count_append]
  cases x <;> simp
theorem cb_bound (l : List Bool) (a b : Nat) : 0 ≤ cb l a b ∧ cb l a b ≤ l.length := by
  unfold cb
  have h1 := List.count_le_length (a := true) (l := (l.drop a).take (b - a))
  have h2 : ((l.drop a).take (b - a)).length ≤ l.length := by rw [List.length_take, List.length_drop]; omega
  omega
set_option maxHeartbeats 3200000 in
theorem demands_no (K Q T now : Int) (A : Option Addr) (n c0 : Nat) (w : World) {p : Addr} (hS : Sen w 0 p) (LG : Hid (∀ w, Calls Tryd.prog 10 #[srv K Q T, .int .i64 now] w fun e w' => e = .returned (.bool false) ∧ Ext w w')) :
    Calls Tryd.prog 3 #[srow K Q T now A n c0] w fun e w' => e = .returned (.bool true) ∧ Ext w w' := by
  have AL := Lib.hid (fun w' (hx : Ext w w') => alive_any w' (hS.ext hx))
  clear hS
  unfold srow
  unfold srv at *
  go_enter Tryd.func3, Tryd.ntmps3
  go_wp2_with fail
  have hx : Ext w (w.alloc (.cells #[.int .i64 K, .int .i64 Q, .int .i64 T, .int .i64 now, .slice A n c0] 26)) := (Ext.refl w).alloc _
  have bA := Blk.new w #[.int .i64 K, .int .i64 Q, .int .i64 T, .int .i64 now, .slice A n c0] 26
  refine (AL.out _ hx).mono ?_
  rintro e u0 ⟨rfl, hy⟩
  have hx0 := hx.trans hy
  have bA0 := bA.ext hy
  obtain ⟨b0, b1, b2, b3, b4⟩ := bA0.five
  clear hx hy bA
  go_wp2_with fail
  refine (LG.out _).mono ?_
  rintro e u1 ⟨rfl, hy⟩
  have hx1 := hx0.trans hy
  have bA1 := bA0.ext hy
  clear b0 b1 b2 b3 b4
  obtain ⟨b0, b1, b2, b3, b4⟩ := bA1.five
  clear hx0 hy bA0
  go_wp2_with fail
  go_ret
  exact ⟨rfl, hx1⟩
set_option maxRecDepth 100000 in
set_option maxHeartbeats 12800000 in
theorem demands_yes (K Q T now : Int) (A : Option Addr) (n c0 : Nat) (l : List Int) (w : World) {p : Addr} (hS : Sen w 0 p) (h : Legal K Q T) (hn : 0 ≤ now ∧ now ≤ 1099511627776) (hr : Rd w 1 A n (ints l)) :
    Calls Tryd.prog 3 #[srow K Q T now A n c0] w fun e w' => e = .returned (.bool true) ∧ Ext w w' := by
  have AL := Lib.hid (fun w' (hx : Ext w w') => alive_any w' (hS.ext hx))
  have LG := Lib.hid (fun w => legal_yes K Q T now w h hn)
  have NW := Lib.hid (fun w => new_ok K Q T now w h hn)
  have RA := Lib.hid (fun w' g (hx : Ext w w') hs (hg : w.heap.size < g) => ran_any K Q T now A n c0 l w' (g := g) hs (hr.ext hx) (fun hn a ha => by
    obtain ⟨ad, e, hl, _⟩ := hr.2 hn
    rw [e] at ha
    injection ha with ha
    subst ha
    omega) h hn)
  obtain ⟨l1, l2, l3, l4, l5⟩ := h
  clear hS hr
  unfold srow at *
  unfold srv at *
  go_enter Tryd.func3, Tryd.ntmps3
  go_wp2_with fail
  have hx : Ext w (w.alloc (.cells #[.int .i64 K, .int .i64 Q, .int .i64 T, .int .i64 now, .slice A n c0] 26)) := (Ext.refl w).alloc _
  have bA := Blk.new w #[.int .i64 K, .int .i64 Q, .int .i64 T, .int .i64 now, .slice A n c0] 26
  refine (AL.out _ hx).mono ?_
  rintro e u0 ⟨rfl, hy⟩
  have hx0 := hx.trans hy
  have bA0 := bA.ext hy
  obtain ⟨b0, b1, b2, b3, b4⟩ := bA0.five
  clear hx hy bA
  go_wp2_with fail
  refine (LG.out _).mono ?_
  rintro e u1 ⟨rfl, hy⟩
  have hx1 := hx0.trans hy
  have bA1 := bA0.ext hy
  clear b0 b1 b2 b3 b4
  obtain ⟨b0, b1, b2, b3, b4⟩ := bA1.five
  clear hx0 hy bA0
  go_wp2_with fail
  refine (NW.out _).mono ?_
  rintro e u2 ⟨g, rfl, hs, hy, hg⟩
  have hx2 := hx1.trans hy
  have bA2 := bA1.ext hy
  have hgA : w.heap.size < g := Nat.lt_of_lt_of_le bA1.lt hg
  clear b0 b1 b2 b3 b4 hx1 hy bA1 hg
  obtain ⟨b0, b1, b2, b3, b4⟩ := bA2.five
  go_wp2_with fail
  refine (RA.out u2 g hx2 hs hgA).mono ?_
  rintro e w3 ⟨A1, c1, A2, c2, m, hs', rfl, hr2, hD, hlen, hm, hf⟩
  have hx3 := Fr.ext hx2 hf (fun i hi => by omega)
  have bA3 := bA2.keep hf (by omega)
  have HD := Lib.hid hD
  have HR := Lib.hid hr2
  have HB := Lib.hid bA3
  have HX := Lib.hid hx3
  have HL := Lib.hid hlen
  clear b0 b1 b2 b3 b4 hx2 hs bA2 hf hD hr2 bA3 hx3 hlen AL LG NW RA
  go_wp2_with fail
  go_loopw [40] (fun vi wr => ∃ (k : Nat), vi = .int .i64 (k : Int) ∧ k ≤ m ∧ Ext w3 wr) (fun vi _ => (402 - intOf vi).toNat)
  case atStart => exact ⟨0, rfl, by omega, Ext.refl _⟩
  case round =>
    obtain ⟨k, rfl, hk, hx⟩ := hrel
    by_cases hkm : k < m
    · go_wp2_with fail
      go_loopw [8, 9] (fun vn vb wr2 => ∃ (j : Nat) (N : Int), vn = .int .i64 N ∧ vb = .int .i64 (j : Int) ∧ k ≤ j ∧ j ≤ m ∧ Hid (N = cb hs' k j) ∧ Ext w3 wr2) (fun _ vb _ => (402 - intOf vb).toNat)
      case atStart => exact ⟨k, 0, rfl, rfl, by omega, by omega, Lib.hid (cb_start _ _).symm, hx⟩
      case round =>
        clear hx
        obtain ⟨j, N, rfl, rfl, hkj, hjm, hN, hx⟩ := hrel
        by_cases hj : j < m
        · obtain ⟨ad, x, rfl, hlx, hcx⟩ := (HR.out.ext hx).bl hj
          obtain ⟨b0, b1, b2, b3, b4⟩ := (HB.out.ext hx).five
          have hst := cb_step hkj hlx
          rw [← hN.out] at hst
          have hbd := cb_bound hs' k j
          rw [← hN.out, HL.out] at hbd
          obtain ⟨N', hN'⟩ : ∃ N', N + (if x then 1 else 0) = N' := ⟨_, rfl⟩
          have NX : Hid (N' = cb hs' k (j + 1)) := by rw [hst, ← hN']; exact rfl
          have hle := HD.out k j hkj (by rw [HL.out]; exact hj)
          have hle' : N' ≤ (((j : Int) - k + T) / T + 1) * Q := by rw [NX.out]; exact hle
          obtain ⟨q, hq⟩ : ∃ q, ((j : Int) - k + T) / T = q := ⟨_, rfl⟩
          have q0 : 0 ≤ q := by rw [← hq]; exact Int.ediv_nonneg (by omega) (by omega)
          have q1 : q ≤ 1000 := by rw [← hq]; exact Int.le_trans (Int.ediv_le_self _ (by omega)) (by omega)
          rw [hq] at hle'
          obtain ⟨M, hM⟩ : ∃ M, (q + 1) * Q = M := ⟨_, rfl⟩
          have M1 : M ≤ 1001 * 256 := by rw [← hM]; exact Int.mul_le_mul (by omega) (by omega) (by omega) (by omega)
          have M0 : 0 ≤ M := by rw [← hM]; exact Int.mul_nonneg (by omega) (by omega)
          rw [hM] at hle'
          have e1 : IntKind.i64.wrap ((j : Int) - (k : Int)) = (j : Int) - (k : Int) := by rw [IntKind.wrap_i64]; omega
          have e2 : IntKind.i64.wrap ((j : Int) - (k : Int) + T) = (j : Int) - (k : Int) + T := by rw [IntKind.wrap_i64]; omega
          have e3 : ((j : Int) - (k : Int) + T).tdiv T = q := by rw [Int.tdiv_eq_ediv_of_nonneg (by omega), hq]
          have e4 : IntKind.i64.wrap q = q := by rw [IntKind.wrap_i64]; omega
          have e5 : IntKind.i64.wrap (q + 1) = q + 1 := by rw [IntKind.wrap_i64]; omega
          have e6 : IntKind.i64.wrap ((q + 1) * Q) = M := by rw [hM, IntKind.wrap_i64]; omega
          have e7 : (M < N') = False := by simp; omega
          have tn : T ≠ 0 := by omega
          clear hM hle hst hlx hN HD
          cases x
          · simp only [Bool.false_eq_true, if_false, Int.add_zero] at hN'
            subst hN'
            go_wp2_with fail
            go_quiet (fail)
            go_wp2_with fail
            go_roundw
            case rel => exact ⟨j + 1, N, rfl, by go_num, by omega, by omega, NX, hx.drewN _⟩
            case measure => simp [intOf]; omega
          · simp only [if_true] at hN'
            have e8 : IntKind.i64.wrap (N + 1) = N' := by rw [hN', IntKind.wrap_i64]; omega
            clear hN'
            go_wp2_with fail
            go_quiet (fail)
            go_wp2_with fail
            go_roundw
            case rel => exact ⟨j + 1, N', rfl, by go_num, by omega, by omega, NX, hx.drewN _⟩
            case measure => simp [intOf]; omega
        · go_wp2_with fail
          go_roundw
          case rel => exact ⟨k + 1, by go_num, by omega, hx⟩
          case measure => simp [intOf]; omega
    · go_wp2_with fail
      go_ret
      exact ⟨rfl, HX.out.trans hx⟩
theorem demands_any (K Q T now : Int) (A : Option Addr) (n c0 : Nat) (l : List Int) (w : World) {p : Addr} (hS : Sen w 0 p) (hr : Rd w 1 A n (ints l)) :
    Calls Tryd.prog 3 #[srow K Q T now A n c0] w fun e w' => e = .returned (.bool true) ∧ Ext w w' := by
  by_cases h : Legal K Q T
  · by_cases hn : 0 ≤ now ∧ now ≤ 1099511627776
    · exact demands_yes K Q T now A n c0 l w hS h hn hr
    · exact demands_no K Q T now A n c0 w hS (Lib.hid (fun w => legal_late K Q T now w h hn))
  · exact demands_no K Q T now A n c0 w hS (Lib.hid (fun w => legal_no K Q T now w h))
end Go.Proofs.YtakilnelbmbjdaaDoor
