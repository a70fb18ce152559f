/-
  The document's layer 2: Div, walked.
-/
import Derived.Test.YtbclkhkpmdbedaaWSums
import Derived.Test.YtbclkhkpmdbedaaWMinus
import Derived.Deep.Cut
namespace Go.Proofs.Ytbclkhkpmdbedaa
open Go.RowKit
set_option linter.unusedVariables false
/-- A number whose lowest j + 1 binary digits are 0, and digit j. -/
theorem or_bit {x j : Nat} (h : x % 2 ^ (j + 1) = 0) : x ||| 2 ^ j = x + 2 ^ j := by
  obtain ⟨a, rfl⟩ := Nat.dvd_of_mod_eq_zero h
  exact (Nat.two_pow_add_eq_or_of_lt (Nat.pow_lt_pow_right (by omega) (by omega)) a).symm
/-- One round of a division, digit by digit. -/
theorem div_round {N n j Q r : Nat} {b : Bool} (hn : 0 < n) (h : N / 2 ^ (j + 1) = Q * n + r) (hr : r < n) (hb : N.testBit j = b) :
    (¬ n ≤ 2 * r + b.toNat → N / 2 ^ j = (2 * Q) * n + (2 * r + b.toNat)) ∧ (n ≤ 2 * r + b.toNat → N / 2 ^ j = (2 * Q + 1) * n + (2 * r + b.toNat - n) ∧ 2 * r + b.toNat - n < n) := by
  have e : N / 2 ^ j = 2 * (N / 2 ^ (j + 1)) + b.toNat := by
    rw [Nat.pow_succ, ← Nat.div_div_eq_div_mul, ← hb, Nat.testBit_eq_decide_div_mod_eq]
    have := Nat.div_add_mod (N / 2 ^ j) 2
    by_cases h1 : N / 2 ^ j % 2 = 1
    · rw [decide_eq_true h1]; simp; omega
    · rw [decide_eq_false h1]; simp; omega
  rw [e, h]
  have e2 : 2 * (Q * n + r) = 2 * Q * n + 2 * r := by rw [Nat.mul_add, Nat.mul_assoc]
  have hb1 : b.toNat ≤ 1 := by cases b <;> simp
  refine ⟨fun _ => by rw [e2]; omega, fun h1 => ⟨?_, by omega⟩⟩
  rw [e2, Nat.add_mul, Nat.one_mul]
  omega
/-- The quotient's words, behind digit j. -/
theorem quo_hi {qh ql Q j : Nat} (h : N2 qh ql = Q * 2 ^ (64 + j + 1)) (hl : ql < 18446744073709551616) (hj : j < 64) (hh : qh < 18446744073709551616) (hb : N2 qh ql + 2 ^ (64 + j) < 340282366920938463463374607431768211456) :
    qh ||| 2 ^ j = qh + 2 ^ j ∧ N2 (qh + 2 ^ j) ql = (2 * Q + 1) * 2 ^ (64 + j) ∧ qh + 2 ^ j < 18446744073709551616 := by
  have e1 : Q * 2 ^ (64 + j + 1) = (Q * 2 ^ (j + 1)) * 18446744073709551616 := by
    rw [Nat.add_assoc, p64, Nat.mul_left_comm, Nat.mul_comm]
  have h1 : qh = Q * 2 ^ (j + 1) := by
    rw [e1] at h
    unfold N2 at h
    omega
  have e2 : 2 ^ (64 + j) = 2 ^ j * 18446744073709551616 := by rw [p64, Nat.mul_comm]
  refine ⟨or_bit (by rw [h1]; exact Nat.mul_mod_left _ _), ?_, ?_⟩
  · rw [Nat.add_mul, Nat.one_mul, e2]
    have e3 : 2 * Q * (2 ^ j * 18446744073709551616) = Q * 2 ^ (64 + j + 1) := by
      rw [e1, Nat.pow_succ, ← Nat.mul_assoc, Nat.mul_comm 2 Q, Nat.mul_assoc Q 2, Nat.mul_comm 2]
    rw [e3, ← h]
    unfold N2
    rw [Nat.add_mul]
    omega
  · rw [e2] at hb
    unfold N2 at hb
    generalize 2 ^ j = K at *
    omega
theorem quo_lo {qh ql Q j : Nat} (h : N2 qh ql = Q * 2 ^ (j + 1)) (hl : ql < 18446744073709551616) (hj : j < 64) :
    ql ||| 2 ^ j = ql + 2 ^ j ∧ N2 qh (ql + 2 ^ j) = (2 * Q + 1) * 2 ^ j ∧ ql + 2 ^ j < 18446744073709551616 := by
  obtain ⟨m, hm⟩ : ∃ m, 64 = (j + 1) + m := ⟨64 - (j + 1), by omega⟩
  have e0 : (18446744073709551616 : Nat) = 2 ^ (j + 1) * 2 ^ m := by rw [← Nat.pow_add, ← hm, pow64]
  have h1 : ql % 2 ^ (j + 1) = 0 := by
    have h2 : (qh * 18446744073709551616 + ql) % 2 ^ (j + 1) = 0 := by
      have : N2 qh ql % 2 ^ (j + 1) = 0 := by rw [h]; exact Nat.mul_mod_left _ _
      exact this
    rw [e0, Nat.mul_left_comm, Nat.mul_add_mod] at h2
    exact h2
  have h3 : ql + 2 ^ j < 18446744073709551616 := by
    obtain ⟨a, rfl⟩ := Nat.dvd_of_mod_eq_zero h1
    have h4 : a < 2 ^ m := by
      rw [e0] at hl
      exact Nat.lt_of_mul_lt_mul_left hl
    have h5 : 2 ^ (j + 1) * (a + 1) ≤ 2 ^ (j + 1) * 2 ^ m := Nat.mul_le_mul_left _ h4
    rw [← e0, Nat.mul_add, Nat.mul_one, Nat.pow_succ] at h5
    have := Nat.two_pow_pos j
    rw [Nat.pow_succ]
    generalize 2 ^ j * 2 * a = X at *
    omega
  refine ⟨or_bit h1, ?_, h3⟩
  have e3 : (2 * Q + 1) * 2 ^ j = Q * 2 ^ (j + 1) + 2 ^ j := by
    rw [Nat.add_mul, Nat.one_mul, Nat.pow_succ, Nat.mul_comm 2 Q, Nat.mul_assoc, Nat.mul_comm 2]
  rw [e3, ← h]
  unfold N2
  omega
/-- A block of two cells to be written into, one cell at a time. -/
structure BoxW (u : World) (p : Nat) (x y : Value) : Prop where
  c0 : u.cell? ⟨p, 0, none⟩ = some x
  c1 : u.cell? ⟨p, 1, none⟩ = some y
  f0 : u.frozen? ⟨p, 0, none⟩ = false
  f1 : u.frozen? ⟨p, 1, none⟩ = false
  lt : p < u.heap.size
theorem BoxW.ext {u v : World} {p : Nat} {x y : Value} (h : BoxW u p x y) (hx : Ext u v) : BoxW v p x y :=
  ⟨(hx.cell (p := ⟨p, 0, none⟩) h.lt).trans h.c0, (hx.cell (p := ⟨p, 1, none⟩) h.lt).trans h.c1, (hx.frozen (p := ⟨p, 0, none⟩) h.lt).trans h.f0, (hx.frozen (p := ⟨p, 1, none⟩) h.lt).trans h.f1, Nat.lt_of_lt_of_le h.lt hx.size⟩
theorem BoxW.new (u : World) (x y : Value) (t : TypeId) : BoxW (u.alloc (.cells #[x, y] t)) u.heap.size x y :=
  ⟨boxAt (Ext.refl _) rfl, boxAt (Ext.refl _) rfl, boxFree (Ext.refl _) 0, boxFree (Ext.refl _) 1, by simp⟩
theorem BoxW.far {u : World} {p q k : Nat} {x y : Value} (h : BoxW u p x y) (hne : q ≠ p) (v : Value) : BoxW (u.setCell ⟨q, k, none⟩ v) p x y :=
  ⟨(World.cell?_setCell_far u ⟨q, k, none⟩ ⟨p, 0, none⟩ v hne).trans h.c0, (World.cell?_setCell_far u ⟨q, k, none⟩ ⟨p, 1, none⟩ v hne).trans h.c1, by rw [World.frozen?_setCell]; exact h.f0, by rw [World.frozen?_setCell]; exact h.f1, by simpa [World.setCell] using h.lt⟩
theorem BoxW.put0 {u : World} {p : Nat} {x y : Value} (h : BoxW u p x y) (v : Value) : BoxW (u.setCell ⟨p, 0, none⟩ v) p v y :=
  ⟨World.cell?_setCell_same u _ v h.c0, (World.cell?_setCell_other u _ _ v (by simp)).trans h.c1, by rw [World.frozen?_setCell]; exact h.f0, by rw [World.frozen?_setCell]; exact h.f1, by simpa [World.setCell] using h.lt⟩
theorem BoxW.put1 {u : World} {p : Nat} {x y : Value} (h : BoxW u p x y) (v : Value) : BoxW (u.setCell ⟨p, 1, none⟩ v) p x v :=
  ⟨(World.cell?_setCell_other u _ _ v (by simp)).trans h.c0, World.cell?_setCell_same u _ v h.c1, by rw [World.frozen?_setCell]; exact h.f0, by rw [World.frozen?_setCell]; exact h.f1, by simpa [World.setCell] using h.lt⟩
theorem len5 {d o : List Nat} {m : Nat} (hd : m ≤ 5) (ho : o.length ≤ m ∨ o.length = m + 1 ∧ 65536 ^ m ≤ Big.val o) (hv : Big.val o < 36893488147419103232) : o.length ≤ 5 := by
  rcases ho with h | ⟨h, h1⟩
  · omega
  · by_cases h5 : m = 5
    · subst h5
      have : (65536 : Nat) ^ 5 = 1208925819614629174706176 := by decide
      rw [this] at h1
      omega
    · omega
set_option maxRecDepth 100000 in
set_option maxHeartbeats 12800000 in
theorem rdiv_any (h l n : Nat) (w : World) (hh : h < 18446744073709551616) (hl : l < 18446744073709551616) (hn0 : 0 < n) (hn : n < 18446744073709551616) :
    Calls Try.prog 13 #[wv h l, .int .u64 (n : Int)] w fun e w' => e = .returned (.tuple #[wn (N2 h l / n), .int .u64 ((N2 h l % n : Nat) : Int)]) ∧ Ext w w' := by
  have BT := Lib.hid (fun i w hi => bit_any h l i w hh hl hi)
  have OZ := Lib.hid (fun w => of_any 0 w (by omega))
  have O1 := Lib.hid (fun w => of_any 1 w (by omega))
  have ON := Lib.hid (fun w => of_any n w hn)
  have PL := Lib.hid plus_any
  have LS := Lib.hid less_any
  have MI := Lib.hid minus_fresh
  have hN := n2_lt hh hl
  have HN := Lib.hid hN
  clear hN
  unfold wv at *
  go_enter Try.func13, Try.ntmps13
  go_wp2_with fail
  refine (OZ.out _).mono ?_
  rintro e u0 ⟨A0, c0, d0, rfl, r0, g0, v0, m0, m0', n0, hy⟩
  have V0 := Lib.hid v0
  clear v0
  have hx : Ext w u0 := ((((Ext.refl w).alloc _).alloc _).alloc _).trans hy
  have bA : BoxW u0 w.heap.size (.int .u64 (h : Int)) (.int .u64 (l : Int)) := (((BoxW.new w _ _ _).ext ((Ext.refl _).alloc _)).ext ((Ext.refl _).alloc _)).ext hy
  have bR : BoxW u0 (w.heap.size + 1) (.int .u64 0) (.int .u64 0) := by
    have hb := ((BoxW.new (w.alloc (.cells #[.int .u64 (h : Int), .int .u64 (l : Int)] 24)) (.int .u64 0) (.int .u64 0) 24).ext ((Ext.refl _).alloc (.cells #[.int .u64 0, .int .u64 0] 24))).ext hy
    simpa using hb
  have bQ : BoxW u0 (w.heap.size + 1 + 1) (.int .u64 0) (.int .u64 0) := by
    have hb := (BoxW.new ((w.alloc (.cells #[.int .u64 (h : Int), .int .u64 (l : Int)] 24)).alloc (.cells #[.int .u64 0, .int .u64 0] 24)) (.int .u64 0) (.int .u64 0) 24).ext hy
    simpa using hb
  clear hy
  go_wp2_with fail
  go_loopw [7, 8] (fun vr vi wr => ∃ (k Q r qh ql : Nat) (A : Option Addr) (c : Nat) (d : List Nat), vi = .int .i64 ((k : Int) - 1) ∧ k ≤ 128 ∧ vr = .slice A d.length c ∧ Rd wr 1 A d.length (ns .u32 d) ∧ Big.Dig d ∧ Hid (Big.val d = r) ∧ 4 ≤ d.length ∧ d.length ≤ 5 ∧
      Hid (N2 h l / 2 ^ k = Q * n + r) ∧ r < n ∧ Hid (N2 qh ql = Q * 2 ^ k) ∧ qh < 18446744073709551616 ∧ ql < 18446744073709551616 ∧ Ext w wr ∧ BoxW wr w.heap.size (.int .u64 (h : Int)) (.int .u64 (l : Int)) ∧ BoxW wr (w.heap.size + 1) (.int .u64 0) (.int .u64 0) ∧ BoxW wr (w.heap.size + 1 + 1) (.int .u64 (qh : Int)) (.int .u64 (ql : Int))) (fun _ vi _ => (intOf vi + 1).toNat)
  case atStart =>
    refine ⟨128, 0, 0, 0, 0, A0, c0, d0, rfl, by omega, rfl, r0, g0, V0, m0, by omega, ?_, hn0, ?_, by omega, by omega, hx, bA, bR, bQ⟩
    · show N2 h l / 2 ^ 128 = 0 * n + 0
      rw [Nat.zero_mul]
      exact Nat.div_eq_of_lt (by have e : (2 : Nat) ^ 128 = 340282366920938463463374607431768211456 := by decide
                                 rw [e]; exact HN.out)
    · show N2 0 0 = 0 * 2 ^ 128
      rw [Nat.zero_mul]; rfl
  case round =>
    clear hx bA bR bQ r0 g0 V0 m0 m0' n0
    obtain ⟨k, Q, r, qh, ql, A, c, d, rfl, hk, rfl, hr, hg, hv, hd4, hd5, hQ, hrn, hq, bqh, bql, hx, bA, bR, bQ⟩ := hrel
    obtain ⟨bA0, bA1, bA2, bA3, bA4⟩ := bA.ext (Ext.refl _)
    obtain ⟨bR0, bR1, bR2, bR3, bR4⟩ := bR.ext (Ext.refl _)
    obtain ⟨bQ0, bQ1, bQ2, bQ3, bQ4⟩ := bQ.ext (Ext.refl _)
    by_cases hk0 : k = 0
    · subst hk0
      have hQ' : Hid (N2 h l = Q * n + r) := by have := hQ.out; rwa [Nat.pow_zero, Nat.div_one] at this
      have hq' : Hid (N2 qh ql = Q) := by have := hq.out; rwa [Nat.pow_zero, Nat.mul_one] at this
      have hd := fits_any A d.length c d wr hr (by omega) hg
      have FD := Lib.hid hd
      have hf : FitsE (Big.val d) = .returned (.tuple #[.int .u64 (r : Int), .bool true]) := by
        unfold FitsE
        rw [hv.out, if_pos (by omega)]
      have HF := Lib.hid hf
      have hdm : Hid (N2 h l / n = Q ∧ N2 h l % n = r) := by
        have h1 := hQ'.out
        refine ⟨?_, ?_⟩
        · rw [h1, Nat.mul_comm, Nat.mul_add_div hn0, Nat.div_eq_of_lt hrn, Nat.add_zero]
        · rw [h1, Nat.mul_comm, Nat.mul_add_mod, Nat.mod_eq_of_lt hrn]
      clear hd hf
      go_wp2_with fail
      refine FD.out.mono ?_
      rintro e w1 ⟨he, rfl⟩
      rw [HF.out] at he
      subst he
      go_wp2_with fail
      refine bodyPost_ret (v := .tuple #[.agg #[.int .u64 (qh : Int), .int .u64 (ql : Int)], .int .u64 (r : Int)]) (by simp [results, Try.results13, go_sem, bR0, bR1]) rfl ?_
      refine ⟨?_, (hx.setCell (by show w.heap.size ≤ w.heap.size + 1; omega) _).setCell (by show w.heap.size ≤ w.heap.size + 1; omega) _⟩
      rw [hdm.out.1, hdm.out.2, ← hq'.out, wn_of bql]
      rfl
    obtain ⟨j, rfl⟩ : ∃ j, k = j + 1 := ⟨k - 1, by omega⟩
    have ei : (((j + 1 : Nat) : Int) - 1) = (j : Int) := by omega
    rw [ei]
    clear ei hk0
    obtain ⟨b, hb⟩ : ∃ b, bitB h l j = b := ⟨_, rfl⟩
    have C := BT.out j
    rw [hb] at C
    have C := Lib.hid (fun w => C w (by omega))
    have hb' : (N2 h l).testBit j = b := hb
    have RD := Lib.hid (div_round hn0 hQ.out hrn hb')
    clear hb hb' hQ
    go_wp2_with fail
    refine (PL.out A A d.length c d.length c d d wr (by omega) (by omega) hr hr hg hg).mono ?_
    rintro e w1 ⟨A1, c1, d1, rfl, r1, g1, v1, m1, n1, m1', hy⟩
    have V1 : Hid (Big.val d1 = 2 * r) := by show _ = _; rw [v1, hv.out]; omega
    have l5 : d1.length ≤ 5 := len5 (d := d) (m := max d.length d.length) (by omega) m1' (by rw [V1.out]; omega)
    have l4 : 4 ≤ d1.length := by omega
    clear v1 m1 m1' hr hg hv
    have hx' := hx.trans hy
    clear hx
    have hx := hx'
    clear hx'
    clear bA0 bA1 bA2 bA3 bA4
    clear bR0 bR1 bR2 bR3 bR4
    clear bQ0 bQ1 bQ2 bQ3 bQ4
    have bA' := bA.ext hy
    clear bA
    have bA := bA'
    clear bA'
    have bR' := bR.ext hy
    clear bR
    have bR := bR'
    clear bR'
    have bQ' := bQ.ext hy
    clear bQ
    have bQ := bQ'
    clear bQ'
    obtain ⟨bA0, bA1, bA2, bA3, bA4⟩ := bA.ext (Ext.refl _)
    obtain ⟨bR0, bR1, bR2, bR3, bR4⟩ := bR.ext (Ext.refl _)
    obtain ⟨bQ0, bQ1, bQ2, bQ3, bQ4⟩ := bQ.ext (Ext.refl _)
    go_wp2_with fail
    refine (C.out _).mono ?_
    rintro e w2 ⟨rfl, hy⟩
    have r1 := r1.ext hy
    have hx' := hx.trans hy
    clear hx
    have hx := hx'
    clear hx'
    clear bA0 bA1 bA2 bA3 bA4
    clear bR0 bR1 bR2 bR3 bR4
    clear bQ0 bQ1 bQ2 bQ3 bQ4
    have bA' := bA.ext hy
    clear bA
    have bA := bA'
    clear bA'
    have bR' := bR.ext hy
    clear bR
    have bR := bR'
    clear bR'
    have bQ' := bQ.ext hy
    clear bQ
    have bQ := bQ'
    clear bQ'
    obtain ⟨bA0, bA1, bA2, bA3, bA4⟩ := bA.ext (Ext.refl _)
    obtain ⟨bR0, bR1, bR2, bR3, bR4⟩ := bR.ext (Ext.refl _)
    obtain ⟨bQ0, bQ1, bQ2, bQ3, bQ4⟩ := bQ.ext (Ext.refl _)
    cases b
    · have HR : Hid (Big.val d1 = 2 * r + Bool.toNat false) := by show _ = _; rw [V1.out]; rfl
      obtain ⟨R, hR⟩ : ∃ R, 2 * r + Bool.toNat false = R := ⟨_, rfl⟩
      rw [hR] at HR RD
      have RD' := RD
      have hRb : R < 36893488147419103232 := by rw [← hR]; simp; omega
      clear hR RD
      by_cases hge : n ≤ R
      · have LT := Lib.hid (decide_eq_false (show ¬ R < n by omega))
        obtain ⟨hR1, hR2⟩ := RD'.out.2 hge
        have LE : Hid (n ≤ R) := hge
        clear hge RD'
        go_wp2_with fail
        refine (ON.out _).mono ?_
        rintro e w4 ⟨A4, c4, d4, rfl, r4, g4, v4, m4, m4', n4, hy⟩
        have r1 := r1.ext hy
        have V4 := Lib.hid v4
        clear v4
        have hx' := hx.trans hy
        clear hx
        have hx := hx'
        clear hx'
        clear bA0 bA1 bA2 bA3 bA4
        clear bR0 bR1 bR2 bR3 bR4
        clear bQ0 bQ1 bQ2 bQ3 bQ4
        have bA' := bA.ext hy
        clear bA
        have bA := bA'
        clear bA'
        have bR' := bR.ext hy
        clear bR
        have bR := bR'
        clear bR'
        have bQ' := bQ.ext hy
        clear bQ
        have bQ := bQ'
        clear bQ'
        obtain ⟨bA0, bA1, bA2, bA3, bA4⟩ := bA.ext (Ext.refl _)
        obtain ⟨bR0, bR1, bR2, bR3, bR4⟩ := bR.ext (Ext.refl _)
        obtain ⟨bQ0, bQ1, bQ2, bQ3, bQ4⟩ := bQ.ext (Ext.refl _)
        go_wp2_with fail
        refine (LS.out A1 A4 d1.length c1 d4.length c4 d1 d4 w4 (by omega) (by omega) r1 r4 g1 g4).mono ?_
        rintro e w5 ⟨he, rfl⟩
        rw [HR.out, V4.out, LT.out] at he
        subst he
        clear r4 g4 V4 m4 m4' n4
        go_wp2_with fail
        refine (ON.out _).mono ?_
        rintro e w5 ⟨A5, c5, d5, rfl, r5, g5, v5, m5, m5', n5, hy⟩
        have r1 := r1.ext hy
        have V5 := Lib.hid v5
        clear v5
        have hx' := hx.trans hy
        clear hx
        have hx := hx'
        clear hx'
        clear bA0 bA1 bA2 bA3 bA4
        clear bR0 bR1 bR2 bR3 bR4
        clear bQ0 bQ1 bQ2 bQ3 bQ4
        have bA' := bA.ext hy
        clear bA
        have bA := bA'
        clear bA'
        have bR' := bR.ext hy
        clear bR
        have bR := bR'
        clear bR'
        have bQ' := bQ.ext hy
        clear bQ
        have bQ := bQ'
        clear bQ'
        obtain ⟨bA0, bA1, bA2, bA3, bA4⟩ := bA.ext (Ext.refl _)
        obtain ⟨bR0, bR1, bR2, bR3, bR4⟩ := bR.ext (Ext.refl _)
        obtain ⟨bQ0, bQ1, bQ2, bQ3, bQ4⟩ := bQ.ext (Ext.refl _)
        go_wp2_with fail
        refine (MI.out A1 A5 d1.length c1 d5.length c5 d1 d5 w5 (by omega) (by omega) r1 r5 g1 g5 (by rw [HR.out, V5.out]; exact LE.out)).mono ?_
        rintro e w6 ⟨A6, c6, d6, rfl, r6, g6, v6, m6, m6', n6, hy⟩
        have V6 : Hid (Big.val d6 = R - n) := by show _ = _; rw [v6, HR.out, V5.out]
        have l64 : 4 ≤ d6.length := by omega
        have l65 : d6.length ≤ 5 := by omega
        have b5 := bQ.lt
        have fr6 : ∀ a, A6 = some a → w.heap.size + 1 + 1 ≠ a.block := fun a ea e => by have := n6 a ea; omega
        clear b5 v6 m5 m5' n5 m6 m6' n6 r1 g1 r5 g5 V5 l4 l5
        have hx' := hx.trans hy
        clear hx
        have hx := hx'
        clear hx'
        clear bA0 bA1 bA2 bA3 bA4
        clear bR0 bR1 bR2 bR3 bR4
        clear bQ0 bQ1 bQ2 bQ3 bQ4
        have bA' := bA.ext hy
        clear bA
        have bA := bA'
        clear bA'
        have bR' := bR.ext hy
        clear bR
        have bR := bR'
        clear bR'
        have bQ' := bQ.ext hy
        clear bQ
        have bQ := bQ'
        clear bQ'
        obtain ⟨bA0, bA1, bA2, bA3, bA4⟩ := bA.ext (Ext.refl _)
        obtain ⟨bR0, bR1, bR2, bR3, bR4⟩ := bR.ext (Ext.refl _)
        obtain ⟨bQ0, bQ1, bQ2, bQ3, bQ4⟩ := bQ.ext (Ext.refl _)
        have hQb : (2 * Q + 1) * 2 ^ j ≤ N2 h l := by
          have h1 : 2 * Q + 1 ≤ N2 h l / 2 ^ j := by
            rw [hR1]
            have : (2 * Q + 1) * 1 ≤ (2 * Q + 1) * n := Nat.mul_le_mul_left _ hn0
            omega
          exact Nat.le_trans (Nat.mul_le_mul_right _ h1) (Nat.div_mul_le_self _ _)
        have HR1 := Lib.hid hR1
        clear hR1
        by_cases h64 : 64 ≤ j
        · obtain ⟨i, rfl⟩ : ∃ i, j = 64 + i := ⟨j - 64, by omega⟩
          have hqq : Hid (N2 qh ql + 2 ^ (64 + i) < 340282366920938463463374607431768211456) := by
            show _ < _
            have e : N2 qh ql + 2 ^ (64 + i) = (2 * Q + 1) * 2 ^ (64 + i) := by
              rw [hq.out, Nat.add_mul, Nat.one_mul, Nat.pow_succ, Nat.mul_comm 2 Q, Nat.mul_assoc Q 2, Nat.mul_comm 2]
            rw [e]
            exact Nat.lt_of_le_of_lt hQb HN.out
          obtain ⟨q1, q2, q3⟩ := quo_hi hq.out bql (by omega) bqh hqq.out
          have Q2 := Lib.hid q2
          obtain ⟨K, hK⟩ : ∃ K : Nat, 2 ^ i = K := ⟨_, rfl⟩
          have hKI : (2 : Int) ^ i = (K : Int) := by rw [← hK]; norm_cast
          rw [hK] at q1 q3 Q2
          have hKb : K < 18446744073709551616 := by omega
          have e1 : (((64 + i : Nat) : Int) - 64) = (i : Int) := by omega
          have e2 : Go.bits .or .u64 (qh : Int) (K : Int) = ((qh + K : Nat) : Int) := by rw [u64_or_nat qh K bqh hKb, q1]
          have hi63 : i ≤ 63 := by omega
          clear q1 q2 hqq hQb hK
          go_wp2_with fail
          go_roundw
          case rel =>
            have rs : Rd (w6.setCell ⟨w.heap.size + 1 + 1, 0, none⟩ (.int .u64 (((qh + K : Nat) : Int) : Int))) 1 A6 d6.length (ns .u32 d6) := ⟨r6.1, fun h0 => by
              obtain ⟨ad, ea, hlt, hc⟩ := r6.2 h0
              exact ⟨ad, ea, by simpa [World.setCell] using hlt, fun z u hu => (World.cell?_setCell_far _ _ _ _ (by rw [add_block]; exact fr6 ad ea)).trans (hc z u hu)⟩⟩
            refine ⟨64 + i, 2 * Q + 1, R - n, qh + K, ql, A6, c6, d6, by go_num, by omega, rfl, rs, g6, V6, l64, l65, HR1, hR2, Q2, q3, bql, hx.setCell (by show w.heap.size ≤ w.heap.size + 1 + 1; omega) _, bA.far (by omega) _, bR.far (by omega) _, bQ.put0 _⟩
          case measure => simp [intOf]; omega
        · obtain ⟨q1, q2, q3⟩ := quo_lo hq.out bql (by omega)
          have Q2 := Lib.hid q2
          obtain ⟨K, hK⟩ : ∃ K : Nat, 2 ^ j = K := ⟨_, rfl⟩
          have hKI : (2 : Int) ^ j = (K : Int) := by rw [← hK]; norm_cast
          rw [hK] at q1 q3 Q2
          have hKb : K < 18446744073709551616 := by omega
          have e2 : Go.bits .or .u64 (ql : Int) (K : Int) = ((ql + K : Nat) : Int) := by rw [u64_or_nat ql K bql hKb, q1]
          have hj63 : j ≤ 63 := by omega
          have HKK := Lib.hid hK
          clear q1 q2 hQb hK
          go_wp2_with fail
          go_roundw
          case rel =>
            have rs : Rd (w6.setCell ⟨w.heap.size + 1 + 1, 1, none⟩ (.int .u64 (((ql + K : Nat) : Int) : Int))) 1 A6 d6.length (ns .u32 d6) := ⟨r6.1, fun h0 => by
              obtain ⟨ad, ea, hlt, hc⟩ := r6.2 h0
              exact ⟨ad, ea, by simpa [World.setCell] using hlt, fun z u hu => (World.cell?_setCell_far _ _ _ _ (by rw [add_block]; exact fr6 ad ea)).trans (hc z u hu)⟩⟩
            refine ⟨j, 2 * Q + 1, R - n, qh, ql + K, A6, c6, d6, by go_num, by omega, rfl, rs, g6, V6, l64, l65, HR1, hR2, (by show _ = _; rw [HKK.out]; exact Q2.out), bqh, q3, hx.setCell (by show w.heap.size ≤ w.heap.size + 1 + 1; omega) _, bA.far (by omega) _, bR.far (by omega) _, bQ.put1 _⟩
          case measure => simp [intOf]
      · have LT := Lib.hid (decide_eq_true (show R < n by omega))
        have hR1 := Lib.hid (RD'.out.1 hge)
        have hlt : R < n := by omega
        clear hge RD'
        go_wp2_with fail
        refine (ON.out _).mono ?_
        rintro e w4 ⟨A4, c4, d4, rfl, r4, g4, v4, m4, m4', n4, hy⟩
        have r1 := r1.ext hy
        have V4 := Lib.hid v4
        clear v4
        have hx' := hx.trans hy
        clear hx
        have hx := hx'
        clear hx'
        clear bA0 bA1 bA2 bA3 bA4
        clear bR0 bR1 bR2 bR3 bR4
        clear bQ0 bQ1 bQ2 bQ3 bQ4
        have bA' := bA.ext hy
        clear bA
        have bA := bA'
        clear bA'
        have bR' := bR.ext hy
        clear bR
        have bR := bR'
        clear bR'
        have bQ' := bQ.ext hy
        clear bQ
        have bQ := bQ'
        clear bQ'
        obtain ⟨bA0, bA1, bA2, bA3, bA4⟩ := bA.ext (Ext.refl _)
        obtain ⟨bR0, bR1, bR2, bR3, bR4⟩ := bR.ext (Ext.refl _)
        obtain ⟨bQ0, bQ1, bQ2, bQ3, bQ4⟩ := bQ.ext (Ext.refl _)
        go_wp2_with fail
        refine (LS.out A1 A4 d1.length c1 d4.length c4 d1 d4 w4 (by omega) (by omega) r1 r4 g1 g4).mono ?_
        rintro e w5 ⟨he, rfl⟩
        rw [HR.out, V4.out, LT.out] at he
        subst he
        clear r4 g4 V4 m4 m4' n4
        go_wp2_with fail
        go_roundw
        case rel =>
          refine ⟨j, 2 * Q, R, qh, ql, A1, c1, d1, rfl, by omega, rfl, r1, g1, HR, by omega, by omega, hR1, hlt, ?_, bqh, bql, hx, bA, bR, bQ⟩
          show N2 qh ql = 2 * Q * 2 ^ j
          rw [hq.out, Nat.pow_succ, Nat.mul_comm 2 Q, Nat.mul_assoc Q 2, Nat.mul_comm 2]
        case measure => simp [intOf]
    · go_wp2_with fail
      refine (O1.out _).mono ?_
      rintro e w3 ⟨A2, c2, d2, rfl, r2, g2, v2, m2, m2', n2, hy⟩
      have r1 := r1.ext hy
      have V2 := Lib.hid v2
      clear v2
      have hx' := hx.trans hy
      clear hx
      have hx := hx'
      clear hx'
      clear bA0 bA1 bA2 bA3 bA4
      clear bR0 bR1 bR2 bR3 bR4
      clear bQ0 bQ1 bQ2 bQ3 bQ4
      have bA' := bA.ext hy
      clear bA
      have bA := bA'
      clear bA'
      have bR' := bR.ext hy
      clear bR
      have bR := bR'
      clear bR'
      have bQ' := bQ.ext hy
      clear bQ
      have bQ := bQ'
      clear bQ'
      obtain ⟨bA0, bA1, bA2, bA3, bA4⟩ := bA.ext (Ext.refl _)
      obtain ⟨bR0, bR1, bR2, bR3, bR4⟩ := bR.ext (Ext.refl _)
      obtain ⟨bQ0, bQ1, bQ2, bQ3, bQ4⟩ := bQ.ext (Ext.refl _)
      go_wp2_with fail
      refine (PL.out A1 A2 d1.length c1 d2.length c2 d1 d2 w3 (by omega) (by omega) r1 r2 g1 g2).mono ?_
      rintro e w3b ⟨A3, c3, d3, rfl, r3, g3, v3, m3, n3, m3', hy⟩
      have V3 : Hid (Big.val d3 = 2 * r + 1) := by show _ = _; rw [v3, V1.out, V2.out]
      have l35 : d3.length ≤ 5 := len5 (d := d1) (m := max d1.length d2.length) (by omega) m3' (by rw [V3.out]; omega)
      have l34 : 4 ≤ d3.length := by omega
      clear v3 m3 m3' n3 r1 g1 V1 r2 g2 V2 m2 m2' n2 l4 l5
      have hx' := hx.trans hy
      clear hx
      have hx := hx'
      clear hx'
      clear bA0 bA1 bA2 bA3 bA4
      clear bR0 bR1 bR2 bR3 bR4
      clear bQ0 bQ1 bQ2 bQ3 bQ4
      have bA' := bA.ext hy
      clear bA
      have bA := bA'
      clear bA'
      have bR' := bR.ext hy
      clear bR
      have bR := bR'
      clear bR'
      have bQ' := bQ.ext hy
      clear bQ
      have bQ := bQ'
      clear bQ'
      obtain ⟨bA0, bA1, bA2, bA3, bA4⟩ := bA.ext (Ext.refl _)
      obtain ⟨bR0, bR1, bR2, bR3, bR4⟩ := bR.ext (Ext.refl _)
      obtain ⟨bQ0, bQ1, bQ2, bQ3, bQ4⟩ := bQ.ext (Ext.refl _)
      have HR : Hid (Big.val d3 = 2 * r + Bool.toNat true) := by show _ = _; rw [V3.out]; rfl
      obtain ⟨R, hR⟩ : ∃ R, 2 * r + Bool.toNat true = R := ⟨_, rfl⟩
      rw [hR] at HR RD
      have RD' := RD
      have hRb : R < 36893488147419103232 := by rw [← hR]; simp; omega
      clear hR RD
      by_cases hge : n ≤ R
      · have LT := Lib.hid (decide_eq_false (show ¬ R < n by omega))
        obtain ⟨hR1, hR2⟩ := RD'.out.2 hge
        have LE : Hid (n ≤ R) := hge
        clear hge RD'
        go_wp2_with fail
        refine (ON.out _).mono ?_
        rintro e w4 ⟨A4, c4, d4, rfl, r4, g4, v4, m4, m4', n4, hy⟩
        have r3 := r3.ext hy
        have V4 := Lib.hid v4
        clear v4
        have hx' := hx.trans hy
        clear hx
        have hx := hx'
        clear hx'
        clear bA0 bA1 bA2 bA3 bA4
        clear bR0 bR1 bR2 bR3 bR4
        clear bQ0 bQ1 bQ2 bQ3 bQ4
        have bA' := bA.ext hy
        clear bA
        have bA := bA'
        clear bA'
        have bR' := bR.ext hy
        clear bR
        have bR := bR'
        clear bR'
        have bQ' := bQ.ext hy
        clear bQ
        have bQ := bQ'
        clear bQ'
        obtain ⟨bA0, bA1, bA2, bA3, bA4⟩ := bA.ext (Ext.refl _)
        obtain ⟨bR0, bR1, bR2, bR3, bR4⟩ := bR.ext (Ext.refl _)
        obtain ⟨bQ0, bQ1, bQ2, bQ3, bQ4⟩ := bQ.ext (Ext.refl _)
        go_wp2_with fail
        refine (LS.out A3 A4 d3.length c3 d4.length c4 d3 d4 w4 (by omega) (by omega) r3 r4 g3 g4).mono ?_
        rintro e w5 ⟨he, rfl⟩
        rw [HR.out, V4.out, LT.out] at he
        subst he
        clear r4 g4 V4 m4 m4' n4
        go_wp2_with fail
        refine (ON.out _).mono ?_
        rintro e w5 ⟨A5, c5, d5, rfl, r5, g5, v5, m5, m5', n5, hy⟩
        have r3 := r3.ext hy
        have V5 := Lib.hid v5
        clear v5
        have hx' := hx.trans hy
        clear hx
        have hx := hx'
        clear hx'
        clear bA0 bA1 bA2 bA3 bA4
        clear bR0 bR1 bR2 bR3 bR4
        clear bQ0 bQ1 bQ2 bQ3 bQ4
        have bA' := bA.ext hy
        clear bA
        have bA := bA'
        clear bA'
        have bR' := bR.ext hy
        clear bR
        have bR := bR'
        clear bR'
        have bQ' := bQ.ext hy
        clear bQ
        have bQ := bQ'
        clear bQ'
        obtain ⟨bA0, bA1, bA2, bA3, bA4⟩ := bA.ext (Ext.refl _)
        obtain ⟨bR0, bR1, bR2, bR3, bR4⟩ := bR.ext (Ext.refl _)
        obtain ⟨bQ0, bQ1, bQ2, bQ3, bQ4⟩ := bQ.ext (Ext.refl _)
        go_wp2_with fail
        refine (MI.out A3 A5 d3.length c3 d5.length c5 d3 d5 w5 (by omega) (by omega) r3 r5 g3 g5 (by rw [HR.out, V5.out]; exact LE.out)).mono ?_
        rintro e w6 ⟨A6, c6, d6, rfl, r6, g6, v6, m6, m6', n6, hy⟩
        have V6 : Hid (Big.val d6 = R - n) := by show _ = _; rw [v6, HR.out, V5.out]
        have l64 : 4 ≤ d6.length := by omega
        have l65 : d6.length ≤ 5 := by omega
        have b5 := bQ.lt
        have fr6 : ∀ a, A6 = some a → w.heap.size + 1 + 1 ≠ a.block := fun a ea e => by have := n6 a ea; omega
        clear b5 v6 m5 m5' n5 m6 m6' n6 r3 g3 r5 g5 V5 l34 l35
        have hx' := hx.trans hy
        clear hx
        have hx := hx'
        clear hx'
        clear bA0 bA1 bA2 bA3 bA4
        clear bR0 bR1 bR2 bR3 bR4
        clear bQ0 bQ1 bQ2 bQ3 bQ4
        have bA' := bA.ext hy
        clear bA
        have bA := bA'
        clear bA'
        have bR' := bR.ext hy
        clear bR
        have bR := bR'
        clear bR'
        have bQ' := bQ.ext hy
        clear bQ
        have bQ := bQ'
        clear bQ'
        obtain ⟨bA0, bA1, bA2, bA3, bA4⟩ := bA.ext (Ext.refl _)
        obtain ⟨bR0, bR1, bR2, bR3, bR4⟩ := bR.ext (Ext.refl _)
        obtain ⟨bQ0, bQ1, bQ2, bQ3, bQ4⟩ := bQ.ext (Ext.refl _)
        have hQb : (2 * Q + 1) * 2 ^ j ≤ N2 h l := by
          have h1 : 2 * Q + 1 ≤ N2 h l / 2 ^ j := by
            rw [hR1]
            have : (2 * Q + 1) * 1 ≤ (2 * Q + 1) * n := Nat.mul_le_mul_left _ hn0
            omega
          exact Nat.le_trans (Nat.mul_le_mul_right _ h1) (Nat.div_mul_le_self _ _)
        have HR1 := Lib.hid hR1
        clear hR1
        by_cases h64 : 64 ≤ j
        · obtain ⟨i, rfl⟩ : ∃ i, j = 64 + i := ⟨j - 64, by omega⟩
          have hqq : Hid (N2 qh ql + 2 ^ (64 + i) < 340282366920938463463374607431768211456) := by
            show _ < _
            have e : N2 qh ql + 2 ^ (64 + i) = (2 * Q + 1) * 2 ^ (64 + i) := by
              rw [hq.out, Nat.add_mul, Nat.one_mul, Nat.pow_succ, Nat.mul_comm 2 Q, Nat.mul_assoc Q 2, Nat.mul_comm 2]
            rw [e]
            exact Nat.lt_of_le_of_lt hQb HN.out
          obtain ⟨q1, q2, q3⟩ := quo_hi hq.out bql (by omega) bqh hqq.out
          have Q2 := Lib.hid q2
          obtain ⟨K, hK⟩ : ∃ K : Nat, 2 ^ i = K := ⟨_, rfl⟩
          have hKI : (2 : Int) ^ i = (K : Int) := by rw [← hK]; norm_cast
          rw [hK] at q1 q3 Q2
          have hKb : K < 18446744073709551616 := by omega
          have e1 : (((64 + i : Nat) : Int) - 64) = (i : Int) := by omega
          have e2 : Go.bits .or .u64 (qh : Int) (K : Int) = ((qh + K : Nat) : Int) := by rw [u64_or_nat qh K bqh hKb, q1]
          have hi63 : i ≤ 63 := by omega
          clear q1 q2 hqq hQb hK
          go_wp2_with fail
          go_roundw
          case rel =>
            have rs : Rd (w6.setCell ⟨w.heap.size + 1 + 1, 0, none⟩ (.int .u64 (((qh + K : Nat) : Int) : Int))) 1 A6 d6.length (ns .u32 d6) := ⟨r6.1, fun h0 => by
              obtain ⟨ad, ea, hlt, hc⟩ := r6.2 h0
              exact ⟨ad, ea, by simpa [World.setCell] using hlt, fun z u hu => (World.cell?_setCell_far _ _ _ _ (by rw [add_block]; exact fr6 ad ea)).trans (hc z u hu)⟩⟩
            refine ⟨64 + i, 2 * Q + 1, R - n, qh + K, ql, A6, c6, d6, by go_num, by omega, rfl, rs, g6, V6, l64, l65, HR1, hR2, Q2, q3, bql, hx.setCell (by show w.heap.size ≤ w.heap.size + 1 + 1; omega) _, bA.far (by omega) _, bR.far (by omega) _, bQ.put0 _⟩
          case measure => simp [intOf]; omega
        · obtain ⟨q1, q2, q3⟩ := quo_lo hq.out bql (by omega)
          have Q2 := Lib.hid q2
          obtain ⟨K, hK⟩ : ∃ K : Nat, 2 ^ j = K := ⟨_, rfl⟩
          have hKI : (2 : Int) ^ j = (K : Int) := by rw [← hK]; norm_cast
          rw [hK] at q1 q3 Q2
          have hKb : K < 18446744073709551616 := by omega
          have e2 : Go.bits .or .u64 (ql : Int) (K : Int) = ((ql + K : Nat) : Int) := by rw [u64_or_nat ql K bql hKb, q1]
          have hj63 : j ≤ 63 := by omega
          have HKK := Lib.hid hK
          clear q1 q2 hQb hK
          go_wp2_with fail
          go_roundw
          case rel =>
            have rs : Rd (w6.setCell ⟨w.heap.size + 1 + 1, 1, none⟩ (.int .u64 (((ql + K : Nat) : Int) : Int))) 1 A6 d6.length (ns .u32 d6) := ⟨r6.1, fun h0 => by
              obtain ⟨ad, ea, hlt, hc⟩ := r6.2 h0
              exact ⟨ad, ea, by simpa [World.setCell] using hlt, fun z u hu => (World.cell?_setCell_far _ _ _ _ (by rw [add_block]; exact fr6 ad ea)).trans (hc z u hu)⟩⟩
            refine ⟨j, 2 * Q + 1, R - n, qh, ql + K, A6, c6, d6, by go_num, by omega, rfl, rs, g6, V6, l64, l65, HR1, hR2, (by show _ = _; rw [HKK.out]; exact Q2.out), bqh, q3, hx.setCell (by show w.heap.size ≤ w.heap.size + 1 + 1; omega) _, bA.far (by omega) _, bR.far (by omega) _, bQ.put1 _⟩
          case measure => simp [intOf]
      · have LT := Lib.hid (decide_eq_true (show R < n by omega))
        have hR1 := Lib.hid (RD'.out.1 hge)
        have hlt : R < n := by omega
        clear hge RD'
        go_wp2_with fail
        refine (ON.out _).mono ?_
        rintro e w4 ⟨A4, c4, d4, rfl, r4, g4, v4, m4, m4', n4, hy⟩
        have r3 := r3.ext hy
        have V4 := Lib.hid v4
        clear v4
        have hx' := hx.trans hy
        clear hx
        have hx := hx'
        clear hx'
        clear bA0 bA1 bA2 bA3 bA4
        clear bR0 bR1 bR2 bR3 bR4
        clear bQ0 bQ1 bQ2 bQ3 bQ4
        have bA' := bA.ext hy
        clear bA
        have bA := bA'
        clear bA'
        have bR' := bR.ext hy
        clear bR
        have bR := bR'
        clear bR'
        have bQ' := bQ.ext hy
        clear bQ
        have bQ := bQ'
        clear bQ'
        obtain ⟨bA0, bA1, bA2, bA3, bA4⟩ := bA.ext (Ext.refl _)
        obtain ⟨bR0, bR1, bR2, bR3, bR4⟩ := bR.ext (Ext.refl _)
        obtain ⟨bQ0, bQ1, bQ2, bQ3, bQ4⟩ := bQ.ext (Ext.refl _)
        go_wp2_with fail
        refine (LS.out A3 A4 d3.length c3 d4.length c4 d3 d4 w4 (by omega) (by omega) r3 r4 g3 g4).mono ?_
        rintro e w5 ⟨he, rfl⟩
        rw [HR.out, V4.out, LT.out] at he
        subst he
        clear r4 g4 V4 m4 m4' n4
        go_wp2_with fail
        go_roundw
        case rel =>
          refine ⟨j, 2 * Q, R, qh, ql, A3, c3, d3, rfl, by omega, rfl, r3, g3, HR, by omega, by omega, hR1, hlt, ?_, bqh, bql, hx, bA, bR, bQ⟩
          show N2 qh ql = 2 * Q * 2 ^ j
          rw [hq.out, Nat.pow_succ, Nat.mul_comm 2 Q, Nat.mul_assoc Q 2, Nat.mul_comm 2]
        case measure => simp [intOf]
end Go.Proofs.Ytbclkhkpmdbedaa
