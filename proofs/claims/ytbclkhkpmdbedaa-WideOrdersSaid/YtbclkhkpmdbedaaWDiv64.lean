/-
  The library's Div64 (two words by one), walked.
-/
import Derived.Test.YtbclkhkpmdbedaaWShift2
import Derived.Test.YtbclkhkpmdbedaaWShelf
import Derived.Test.YtbclkhkpmdbedaaWKnuth
import Derived.BigQuiet
import Derived.Handy
namespace Go.Proofs.Ytbclkhkpmdbedaa
open Go.RowKit
set_option linter.unusedVariables false
theorem nat_tdiv (a b : Nat) : Int.tdiv (a : Int) (b : Int) = ((a / b : Nat) : Int) := by
  rw [Int.tdiv_eq_ediv_of_nonneg (by omega)]
  exact (Int.natCast_ediv a b).symm
theorem nat_tmod (a b : Nat) : Int.tmod (a : Int) (b : Int) = ((a % b : Nat) : Int) := by
  rw [Int.tmod_eq_emod_of_nonneg (by omega)]
  exact (Int.natCast_emod a b).symm
theorem down_at {u q z v r rv : Nat} (hr : r + v = rv) (hz : z + 1 = q) (hu : u = q * v + r) : u = z * v + rv := by
  subst hz hr
  exact Knuth.down hu
theorem wrap_mul (a b : Nat) : IntKind.u64.wrap ((a : Int) * (b : Int)) = ((a * b % 18446744073709551616 : Nat) : Int) := by
  have : (a : Int) * b = ((a * b : Nat) : Int) := by push_cast; rfl
  rw [this, IntKind.wrap_u64]
  omega
theorem wrap_mul_of {a b : Nat} (h : a * b < 18446744073709551616) : IntKind.u64.wrap ((a : Int) * (b : Int)) = ((a * b : Nat) : Int) := by
  rw [wrap_mul, Nat.mod_eq_of_lt h]
/-- What a digit leaves, as the machine computes it. -/
theorem rest_aux {P d q Y U : Nat} (hU : P + d = U) (hY : Y < 18446744073709551616) (hY0 : 0 < Y) (hq : U / Y = q) :
    IntKind.u64.wrap ((((P % 18446744073709551616 + d) % 18446744073709551616 : Nat) : Int) - ((q * Y % 18446744073709551616 : Nat) : Int)) = ((U % Y : Nat) : Int) := by
  have h1 : U % Y < Y := Nat.mod_lt _ hY0
  have h2 : q * Y + U % Y = U := by
    rw [← hq, Nat.mul_comm]
    exact Nat.div_add_mod _ _
  generalize U % Y = R at *
  generalize q * Y = M at *
  rw [IntKind.wrap_u64]
  omega
theorem rest_facts {u d q Y v1 v0 : Nat} (hYv : Y = v1 * 4294967296 + v0) (hY : Y < 18446744073709551616) (hd : d < 18446744073709551616) (hY0 : 0 < Y) (hq : Knuth.dig u d v1 v0 = q) : ∃ A C D R : Nat, A < 18446744073709551616 ∧ IntKind.u64.wrap ((u : Int) * 4294967296) = (A : Int) ∧ IntKind.u64.wrap ((A : Int) + (d : Int)) = (C : Int) ∧
    IntKind.u64.wrap ((q : Int) * (Y : Int)) = (D : Int) ∧ IntKind.u64.wrap ((C : Int) - (D : Int)) = (R : Int) ∧ R = (u * 4294967296 + d) % Y ∧ R < Y := by
  unfold Knuth.dig at hq
  rw [← hYv] at hq
  refine ⟨u * 4294967296 % 18446744073709551616, (u * 4294967296 % 18446744073709551616 + d) % 18446744073709551616, q * Y % 18446744073709551616, (u * 4294967296 + d) % Y, Nat.mod_lt _ (by omega), wrap_mul u 4294967296, ?_, wrap_mul _ _, rest_aux rfl hY hY0 hq, rfl, Nat.mod_lt _ hY0⟩
  generalize u * 4294967296 % 18446744073709551616 = A
  rw [IntKind.wrap_u64]; omega
/-- A digit's first guess, as the machine computes it. -/
theorem guess_facts (u v : Nat) (hu : u < 18446744073709551616) : ∃ q r E : Nat, (u : Int) / (v : Int) = (q : Int) ∧ IntKind.u64.wrap ((q : Int) * (v : Int)) = (E : Int) ∧ IntKind.u64.wrap ((u : Int) - (E : Int)) = (r : Int) ∧ q = u / v ∧ u = q * v + r ∧ (0 < v → r < v) := by
  have h1 : u / v * v + u % v = u := by rw [Nat.mul_comm]; exact Nat.div_add_mod _ _
  refine ⟨u / v, u % v, u / v * v, (Int.natCast_ediv u v).symm, wrap_mul_of (by omega), ?_, rfl, h1.symm, fun h => Nat.mod_lt _ h⟩
  rw [IntKind.wrap_u64]
  generalize u / v * v = a at *
  generalize u % v = b at *
  omega
theorem moved_fin {N y s : Nat} (hy : 0 < y) : N * 2 ^ s / (y * 2 ^ s) = N / y ∧ N * 2 ^ s % (y * 2 ^ s) / 2 ^ s = N % y := Knuth.moved hy
theorem knuth_fin {QQ RR s u L Y v1 v0 d1 d0 q z R : Nat} (MV : N2 u L / Y = QQ ∧ N2 u L % Y / 2 ^ s = RR) (hYv : Y = v1 * 4294967296 + v0) (hLv : L = d1 * 4294967296 + d0) (hun : u < Y) (hd1 : d1 < 4294967296) (hd0 : d0 < 4294967296)
    (h1 : Knuth.dig u d1 v1 v0 = q) (h2 : R = (u * 4294967296 + d1) % Y) (h3 : Knuth.dig R d0 v1 v0 = z) : (q < 4294967296 ∧ z < 4294967296 ∧ q * 4294967296 + z = QQ) ∧ (R * 4294967296 + d0) % Y / 2 ^ s = RR := by
  unfold Knuth.dig at h1 h3
  rw [← hYv] at h1 h3
  have hY0 : 0 < Y := by omega
  have e : N2 u L = (u * 4294967296 + d1) * 4294967296 + d0 := by unfold N2; omega
  obtain ⟨b1, b2⟩ := Knuth.both (U := u * 4294967296 + d1) (d0 := d0) hY0
  rw [e, b1, b2, h1, ← h2, h3] at MV
  refine ⟨⟨?_, ?_, MV.1⟩, MV.2⟩
  · rw [← h1, Nat.div_lt_iff_lt_mul hY0]
    omega
  · have : R < Y := by rw [h2]; exact Nat.mod_lt _ hY0
    rw [← h3, Nat.div_lt_iff_lt_mul hY0]
    omega
set_option maxRecDepth 100000 in
set_option maxHeartbeats 12800000 in
theorem div64_big (hi lo y s : Nat) (w : World) (hhi : 0 < hi) (hlt : hi < y) (hlo : lo < 18446744073709551616) (hy : y < 18446744073709551616) (hs : s ≤ 63) (LZ : Hid (∀ w, Calls Try.prog 51 #[.int .u64 (y : Int)] w fun e w' => e = .returned (.int .i64 (s : Int)) ∧ w' = w))
    (s1 : y * 2 ^ s < 18446744073709551616) (s2 : 9223372036854775808 ≤ y * 2 ^ s) :
    Calls Try.prog 48 #[.int .u64 (hi : Int), .int .u64 (lo : Int), .int .u64 (y : Int)] w fun e w' => e = .returned (.tuple #[.int .u64 ((N2 hi lo / y : Nat) : Int), .int .u64 ((N2 hi lo % y : Nat) : Int)]) ∧ w' = w := by
  have HS : Hid (((2 : Int) ^ s) = ((2 ^ s : Nat) : Int)) := by show _ = _; norm_cast
  obtain ⟨t, ht⟩ : ∃ t, t + s = 64 := ⟨64 - s, by omega⟩
  have hp : 1 ≤ 2 ^ s := Nat.two_pow_pos s
  have hN : N2 hi lo * 2 ^ s < 18446744073709551616 * (y * 2 ^ s) := by
    have h1 : N2 hi lo < y * 18446744073709551616 := by unfold N2; omega
    have h2 : N2 hi lo * 2 ^ s < y * 18446744073709551616 * 2 ^ s := Nat.mul_lt_mul_of_pos_right h1 hp
    rw [Nat.mul_comm y, Nat.mul_assoc] at h2
    exact h2
  obtain ⟨p1, p2, p3⟩ := left_lo (h := hi) (l := lo) (s := t) (n := s) ht hlo (by omega)
  have f1 : IntKind.u64.wrap ((y : Int) * 2 ^ s) = ((y * 2 ^ s : Nat) : Int) := by
    have : (y : Int) * 2 ^ s = ((y * 2 ^ s : Nat) : Int) := by push_cast; rfl
    rw [this, IntKind.wrap_u64]
    omega
  have hX2 : hi * 2 ^ s < 18446744073709551616 := Nat.lt_of_le_of_lt (Nat.le_add_right _ _) p3
  have f4 : IntKind.u64.wrap ((hi : Int) * 2 ^ s) = ((hi * 2 ^ s : Nat) : Int) := by
    have : (hi : Int) * 2 ^ s = ((hi * 2 ^ s : Nat) : Int) := by push_cast; rfl
    rw [this, IntKind.wrap_u64]
    omega
  have f5 : (lo : Int) / 2 ^ t = ((lo / 2 ^ t : Nat) : Int) := by
    have : ((2 : Int) ^ t) = ((2 ^ t : Nat) : Int) := by norm_cast
    rw [this, Int.natCast_ediv]
  have f6 := u64_or_nat (hi * 2 ^ s) (lo / 2 ^ t) hX2 (Nat.lt_of_le_of_lt (Nat.div_le_self _ _) hlo)
  rw [p1] at f6
  have f7 : IntKind.u64.wrap ((lo : Int) * 2 ^ s) = ((lo * 2 ^ s % 18446744073709551616 : Nat) : Int) := by
    have : (lo : Int) * 2 ^ s = ((lo * 2 ^ s : Nat) : Int) := by push_cast; rfl
    rw [this, IntKind.wrap_u64]
    omega
  have MV := moved_fin (N := N2 hi lo) (y := y) (s := s) (by omega)
  have hun : hi * 2 ^ s + lo / 2 ^ t < y * 2 ^ s := by
    rw [p2] at hN
    unfold N2 at hN
    omega
  rw [p2] at MV
  obtain ⟨RR, hRR⟩ : ∃ RR, N2 hi lo % y = RR := ⟨_, rfl⟩
  obtain ⟨QQ, hQQ⟩ : ∃ QQ, N2 hi lo / y = QQ := ⟨_, rfl⟩
  rw [hRR, hQQ] at MV
  rw [hRR, hQQ]
  clear hRR hQQ
  clear p1 p2 hN hp hX2
  obtain ⟨Y, hY'⟩ : ∃ Y, y * 2 ^ s = Y := ⟨_, rfl⟩
  obtain ⟨H, hH⟩ : ∃ H, hi * 2 ^ s = H := ⟨_, rfl⟩
  obtain ⟨G, hG⟩ : ∃ G, lo / 2 ^ t = G := ⟨_, rfl⟩
  obtain ⟨L, hL⟩ : ∃ L, lo * 2 ^ s % 18446744073709551616 = L := ⟨_, rfl⟩
  have hLb : L < 18446744073709551616 := by omega
  rw [hY'] at f1 s1 s2 hun MV
  rw [hH] at f4 f6 p3 hun MV
  rw [hG] at f5 f6 p3 hun MV
  rw [hL] at f7 MV
  obtain ⟨u, hu'⟩ : ∃ u, H + G = u := ⟨_, rfl⟩
  rw [hu'] at f6 p3 hun MV
  clear hY' hH hG hL hu'
  obtain ⟨v1, hv1'⟩ : ∃ v1, Y / 4294967296 = v1 := ⟨_, rfl⟩
  obtain ⟨v0, hv0'⟩ : ∃ v0, Y % 4294967296 = v0 := ⟨_, rfl⟩
  obtain ⟨d1, hd1'⟩ : ∃ d1, L / 4294967296 = d1 := ⟨_, rfl⟩
  obtain ⟨d0, hd0'⟩ : ∃ d0, L % 4294967296 = d0 := ⟨_, rfl⟩
  have f2 : (Y : Int) / 4294967296 = (v1 : Int) := by omega
  have f3 : Go.bits .and .u64 (Y : Int) 4294967295 = (v0 : Int) := by rw [and32_u64 Y s1, hv0']
  have f8 : (L : Int) / 4294967296 = (d1 : Int) := by omega
  have f9 : Go.bits .and .u64 (L : Int) 4294967295 = (d0 : Int) := by rw [and32_u64 L hLb, hd0']
  have hYv : Y = v1 * 4294967296 + v0 := by omega
  have HYv := Lib.hid hYv
  have hLv : L = d1 * 4294967296 + d0 := by omega
  have hv0 : v0 < 4294967296 := by omega
  have hd1 : d1 < 4294967296 := by omega
  have hd0 : d0 < 4294967296 := by omega
  have hvb : 2147483648 ≤ v1 := by omega
  have hv1 : 0 < v1 := by omega
  have hv2 : v1 < 4294967296 := by omega
  have hY : Y < 18446744073709551616 := s1
  have hY0 : 0 < Y := by omega
  have FIN := Lib.hid (fun q z R h1 h2 h3 => knuth_fin (QQ := QQ) (RR := RR) (s := s) (u := u) (L := L) (Y := Y) (v1 := v1) (v0 := v0) (d1 := d1) (d0 := d0) (q := q) (z := z) (R := R) MV hYv hLv hun hd1 hd0 h1 h2 h3)
  clear MV hv1' hv0' hd1' hd0' hLv s1 s2 hYv
  obtain ⟨q1, r1, E1, k1, k2, k3, k4, k5, k6⟩ := guess_facts u v1 (by omega)
  have k6 := k6 hv1
  have HL1 : Hid (u < v1 * 4294967296 + v0) := by show u < v1 * 4294967296 + v0; rw [← HYv.out]; exact hun
  have HD1 : Hid (Knuth.dig u d1 v1 v0 ≤ q1) := by show _ ≤ _; rw [k4]; exact (Knuth.start hvb hd1 hv0 HL1.out).1
  have h1 : q1 ≤ 4294967297 := by rw [k4]; exact (Knuth.start hvb hd1 hv0 HL1.out).2
  have HU1 := Lib.hid k5
  clear k4 k5
  have e1 : (64 : Int) - (s : Int) = (t : Int) := by omega
  have HV0 := Lib.hid hv0
  have HD1' := Lib.hid hd1
  have HD0' := Lib.hid hd0
  have HVB := Lib.hid hvb
  have HV1 := Lib.hid hv1
  have hv0i : (v0 : Int) < 4294967296 := by omega
  have hd1i : (d1 : Int) < 4294967296 := by omega
  have hd0i : (d0 : Int) < 4294967296 := by omega
  have hvbi : (2147483648 : Int) ≤ (v1 : Int) := by omega
  have hv2i : (v1 : Int) < 4294967296 := by omega
  have hYi : (Y : Int) < 18446744073709551616 := by omega
  have hLi : (L : Int) < 18446744073709551616 := by omega
  have p3i : (u : Int) < 18446744073709551616 := by omega
  have h1i : (q1 : Int) ≤ 4294967297 := by omega
  have k6i : (r1 : Int) < (v1 : Int) := by omega
  have HY := Lib.hid hY
  have HY0 := Lib.hid hY0
  clear hYi hLi p3i hv0i hd1i hd0i hvbi hv2i h1i k6i
  go_enter Try.func48, Try.ntmps48
  go_wp2_with fail
  refine (LZ.out _).mono ?_
  rintro e w1 ⟨rfl, rfl⟩
  go_wp2_with fail
  go_loopw [15, 16] (fun vq vr wr => ∃ (q r : Nat), vq = .int .u64 (q : Int) ∧ vr = .int .u64 (r : Int) ∧ Hid (u = q * v1 + r) ∧ r < 4294967296 ∧ q ≤ 4294967297 ∧ Hid (Knuth.dig u d1 v1 v0 ≤ q) ∧ w1 = wr) (fun vq _ _ => (intOf vq).toNat)
  case atStart => exact ⟨q1, r1, rfl, rfl, HU1, by omega, by omega, HD1, rfl⟩
  case round =>
    clear HU1 HD1
    obtain ⟨qq1, rr1, rfl, rfl, hu, hr, hq, hd, rfl⟩ := hrel
    have SM := Lib.hid (Knuth.more (u := u) (d := d1) (q := qq1) (r := rr1) HV1.out (by omega) HL1.out hu.out)
    have SS := Lib.hid (Knuth.stop (u := u) (d := d1) (q := qq1) (r := rr1) HV1.out hu.out hd.out)
    by_cases hc : (4294967296 : Int) ≤ (qq1 : Int)
    · have HM := SM.out (Or.inl (by omega))
      clear SM SS
      obtain ⟨zz1, hzq⟩ : ∃ z, z + 1 = qq1 := ⟨qq1 - 1, by omega⟩
      have hz : Knuth.dig u d1 v1 v0 ≤ zz1 := by omega
      have HZ := Lib.hid hz
      have ez : (qq1 : Int) - 1 = (zz1 : Int) := by omega
      have zlt : (zz1 : Int) < (qq1 : Int) := by omega
      have zle : (zz1 : Int) ≤ 4294967296 := by omega
      obtain ⟨rv1, hrv⟩ : ∃ rv, rr1 + v1 = rv := ⟨_, rfl⟩
      have erv : (rr1 : Int) + (v1 : Int) = (rv1 : Int) := by omega
      have rvb : (rv1 : Int) < 8589934592 := by omega
      have HU' := Lib.hid (down_at hrv hzq hu.out)
      clear HM hz hu hd hzq hrv
      by_cases hb : (4294967296 : Int) ≤ (rv1 : Int)
      · have HQ0 : Hid (Knuth.dig u d1 v1 v0 = zz1) := Lib.hid (Knuth.stop (u := u) (d := d1) (q := zz1) (r := rv1) HV1.out HU'.out HZ.out (Knuth.brk HV0.out (by omega) (by omega)))
        clear HU' HZ
        obtain ⟨A, C, D, R, hA, ea, ec, ed, er, hR, hRY⟩ := rest_facts (u := u) (d := d1) (q := zz1) (Y := Y) HYv.out HY.out (by omega) HY0.out HQ0.out
        obtain ⟨q2, r2, E, g1, g2, g3, g4, g5, g6⟩ := guess_facts R v1 (Nat.lt_trans hRY HY.out)
        have g6 := g6 HV1.out
        have HL2 : Hid (R < v1 * 4294967296 + v0) := by show R < v1 * 4294967296 + v0; rw [← HYv.out]; exact hRY
        have HD2 : Hid (Knuth.dig R d0 v1 v0 ≤ q2) := by show _ ≤ _; rw [g4]; exact (Knuth.start HVB.out HD0'.out HV0.out HL2.out).1
        have h2 : q2 ≤ 4294967297 := by rw [g4]; exact (Knuth.start HVB.out HD0'.out HV0.out HL2.out).2
        have HU2 := Lib.hid g5
        have h2i : (q2 : Int) ≤ 4294967297 := by omega
        have g6i : (r2 : Int) < (v1 : Int) := by omega
        have hRi : (R : Int) < 18446744073709551616 := by have := HY.out; omega
        have hAi : (A : Int) < 18446744073709551616 := by omega
        have HR := Lib.hid hR
        clear g4 g5 hR h2 g6 hRY hA
        go_wp2_with fail
        go_loopw [18, 16] (fun vq vr wr => ∃ (q r : Nat), vq = .int .u64 (q : Int) ∧ vr = .int .u64 (r : Int) ∧ Hid (R = q * v1 + r) ∧ r < 4294967296 ∧ q ≤ 4294967297 ∧ Hid (Knuth.dig R d0 v1 v0 ≤ q) ∧ w1 = wr) (fun vq _ _ => (intOf vq).toNat)
        case atStart => exact ⟨q2, r2, rfl, rfl, HU2, by omega, by omega, HD2, rfl⟩
        case round =>
          clear HU2 HD2
          obtain ⟨qq2, rr2, rfl, rfl, hu, hr, hq, hd, rfl⟩ := hrel
          have SM := Lib.hid (Knuth.more (u := R) (d := d0) (q := qq2) (r := rr2) HV1.out (by omega) HL2.out hu.out)
          have SS := Lib.hid (Knuth.stop (u := R) (d := d0) (q := qq2) (r := rr2) HV1.out hu.out hd.out)
          by_cases hc : (4294967296 : Int) ≤ (qq2 : Int)
          · have HM := SM.out (Or.inl (by omega))
            clear SM SS
            obtain ⟨zz2, hzq⟩ : ∃ z, z + 1 = qq2 := ⟨qq2 - 1, by omega⟩
            have hz : Knuth.dig R d0 v1 v0 ≤ zz2 := by omega
            have HZ := Lib.hid hz
            have ez : (qq2 : Int) - 1 = (zz2 : Int) := by omega
            have zlt : (zz2 : Int) < (qq2 : Int) := by omega
            have zle : (zz2 : Int) ≤ 4294967296 := by omega
            obtain ⟨rv2, hrv⟩ : ∃ rv, rr2 + v1 = rv := ⟨_, rfl⟩
            have erv : (rr2 : Int) + (v1 : Int) = (rv2 : Int) := by omega
            have rvb : (rv2 : Int) < 8589934592 := by omega
            have HU' := Lib.hid (down_at hrv hzq hu.out)
            clear HM hz hu hd hzq hrv
            by_cases hb : (4294967296 : Int) ≤ (rv2 : Int)
            · have HQ' : Hid (Knuth.dig R d0 v1 v0 = zz2) := Lib.hid (Knuth.stop (u := R) (d := d0) (q := zz2) (r := rv2) HV1.out HU'.out HZ.out (Knuth.brk HV0.out (by omega) (by omega)))
              clear HU' HZ
              obtain ⟨A', C', D', R', hA', ea', ec', ed', er', hR', hRY'⟩ := rest_facts (u := R) (d := d0) (q := zz2) (Y := Y) HYv.out HY.out (by omega) HY0.out HQ'.out
              have FN := FIN.out zz1 zz2 R HQ0.out HR.out HQ'.out
              clear FIN
              have e9 : ((R' : Int) / 2 ^ s) = (RR : Int) := by
                rw [← FN.2, ← hR']
                rw [HS.out, Int.natCast_ediv]
              have q1b : (zz1 : Int) < 4294967296 := by have := FN.1.1; omega
              have q2b : (zz2 : Int) < 4294967296 := by have := FN.1.2.1; omega
              have hAi' : (A' : Int) < 18446744073709551616 := by omega
              have hRi' : (R' : Int) < 18446744073709551616 := by have := HY.out; omega
              have e8 : (zz1 : Int) * 4294967296 + (zz2 : Int) = (QQ : Int) := by have := FN.1.2.2; omega
              have e7 : (zz2 : Int) + (zz1 : Int) * 4294967296 = (QQ : Int) := by have := FN.1.2.2; omega
              clear hA' hRY' hR'
              clear FN
              go_wp2_with fail
              go_returns
              exact ⟨rfl, rfl⟩
            · go_wp2_with fail
              go_roundw
              case rel => exact ⟨zz2, rv2, by go_num, by go_num, HU', by omega, by omega, HZ, by trivial⟩
              case measure => simp [intOf]; omega
          · obtain ⟨b2, hbq⟩ : ∃ b, qq2 * v0 = b := ⟨_, rfl⟩
            have eb : IntKind.u64.wrap ((qq2 : Int) * (v0 : Int)) = (b2 : Int) := by
              have h1 : qq2 * v0 ≤ 4294967295 * v0 := Nat.mul_le_mul_right _ (by omega)
              rw [wrap_mul_of (by omega), hbq]
            rw [hbq] at SM SS
            clear hbq
            by_cases hg : (4294967296 : Int) * (rr2 : Int) + (d0 : Int) < (b2 : Int)
            · have HM := SM.out (Or.inr (by omega))
              clear SM SS
              obtain ⟨zz2, hzq⟩ : ∃ z, z + 1 = qq2 := ⟨qq2 - 1, by omega⟩
              have hz : Knuth.dig R d0 v1 v0 ≤ zz2 := by omega
              have HZ := Lib.hid hz
              have ez : (qq2 : Int) - 1 = (zz2 : Int) := by omega
              have zlt : (zz2 : Int) < (qq2 : Int) := by omega
              have zle : (zz2 : Int) ≤ 4294967296 := by omega
              obtain ⟨rv2, hrv⟩ : ∃ rv, rr2 + v1 = rv := ⟨_, rfl⟩
              have erv : (rr2 : Int) + (v1 : Int) = (rv2 : Int) := by omega
              have rvb : (rv2 : Int) < 8589934592 := by omega
              have HU' := Lib.hid (down_at hrv hzq hu.out)
              clear HM hz hu hd hzq hrv
              by_cases hb : (4294967296 : Int) ≤ (rv2 : Int)
              · have HQ' : Hid (Knuth.dig R d0 v1 v0 = zz2) := Lib.hid (Knuth.stop (u := R) (d := d0) (q := zz2) (r := rv2) HV1.out HU'.out HZ.out (Knuth.brk HV0.out (by omega) (by omega)))
                clear HU' HZ
                obtain ⟨A', C', D', R', hA', ea', ec', ed', er', hR', hRY'⟩ := rest_facts (u := R) (d := d0) (q := zz2) (Y := Y) HYv.out HY.out (by omega) HY0.out HQ'.out
                have FN := FIN.out zz1 zz2 R HQ0.out HR.out HQ'.out
                clear FIN
                have e9 : ((R' : Int) / 2 ^ s) = (RR : Int) := by
                  rw [← FN.2, ← hR']
                  rw [HS.out, Int.natCast_ediv]
                have q1b : (zz1 : Int) < 4294967296 := by have := FN.1.1; omega
                have q2b : (zz2 : Int) < 4294967296 := by have := FN.1.2.1; omega
                have hAi' : (A' : Int) < 18446744073709551616 := by omega
                have hRi' : (R' : Int) < 18446744073709551616 := by have := HY.out; omega
                have e8 : (zz1 : Int) * 4294967296 + (zz2 : Int) = (QQ : Int) := by have := FN.1.2.2; omega
                have e7 : (zz2 : Int) + (zz1 : Int) * 4294967296 = (QQ : Int) := by have := FN.1.2.2; omega
                clear hA' hRY' hR'
                clear FN
                go_wp2_with fail
                go_returns
                exact ⟨rfl, rfl⟩
              · go_wp2_with fail
                go_roundw
                case rel => exact ⟨zz2, rv2, by go_num, by go_num, HU', by omega, by omega, HZ, by trivial⟩
                case measure => simp [intOf]; omega
            · have HQ' := Lib.hid (SS.out (by omega))
              clear SM SS hu hd
              obtain ⟨A', C', D', R', hA', ea', ec', ed', er', hR', hRY'⟩ := rest_facts (u := R) (d := d0) (q := qq2) (Y := Y) HYv.out HY.out (by omega) HY0.out HQ'.out
              have FN := FIN.out zz1 qq2 R HQ0.out HR.out HQ'.out
              clear FIN
              have e9 : ((R' : Int) / 2 ^ s) = (RR : Int) := by
                rw [← FN.2, ← hR']
                rw [HS.out, Int.natCast_ediv]
              have q1b : (zz1 : Int) < 4294967296 := by have := FN.1.1; omega
              have q2b : (qq2 : Int) < 4294967296 := by have := FN.1.2.1; omega
              have hAi' : (A' : Int) < 18446744073709551616 := by omega
              have hRi' : (R' : Int) < 18446744073709551616 := by have := HY.out; omega
              have e8 : (zz1 : Int) * 4294967296 + (qq2 : Int) = (QQ : Int) := by have := FN.1.2.2; omega
              have e7 : (qq2 : Int) + (zz1 : Int) * 4294967296 = (QQ : Int) := by have := FN.1.2.2; omega
              clear hA' hRY' hR'
              clear FN
              go_wp2_with fail
              go_returns
              exact ⟨rfl, rfl⟩
      · go_wp2_with fail
        go_roundw
        case rel => exact ⟨zz1, rv1, by go_num, by go_num, HU', by omega, by omega, HZ, by trivial⟩
        case measure => simp [intOf]; omega
    · obtain ⟨b1, hbq⟩ : ∃ b, qq1 * v0 = b := ⟨_, rfl⟩
      have eb : IntKind.u64.wrap ((qq1 : Int) * (v0 : Int)) = (b1 : Int) := by
        have h1 : qq1 * v0 ≤ 4294967295 * v0 := Nat.mul_le_mul_right _ (by omega)
        rw [wrap_mul_of (by omega), hbq]
      rw [hbq] at SM SS
      clear hbq
      by_cases hg : (4294967296 : Int) * (rr1 : Int) + (d1 : Int) < (b1 : Int)
      · have HM := SM.out (Or.inr (by omega))
        clear SM SS
        obtain ⟨zz1, hzq⟩ : ∃ z, z + 1 = qq1 := ⟨qq1 - 1, by omega⟩
        have hz : Knuth.dig u d1 v1 v0 ≤ zz1 := by omega
        have HZ := Lib.hid hz
        have ez : (qq1 : Int) - 1 = (zz1 : Int) := by omega
        have zlt : (zz1 : Int) < (qq1 : Int) := by omega
        have zle : (zz1 : Int) ≤ 4294967296 := by omega
        obtain ⟨rv1, hrv⟩ : ∃ rv, rr1 + v1 = rv := ⟨_, rfl⟩
        have erv : (rr1 : Int) + (v1 : Int) = (rv1 : Int) := by omega
        have rvb : (rv1 : Int) < 8589934592 := by omega
        have HU' := Lib.hid (down_at hrv hzq hu.out)
        clear HM hz hu hd hzq hrv
        by_cases hb : (4294967296 : Int) ≤ (rv1 : Int)
        · have HQ0 : Hid (Knuth.dig u d1 v1 v0 = zz1) := Lib.hid (Knuth.stop (u := u) (d := d1) (q := zz1) (r := rv1) HV1.out HU'.out HZ.out (Knuth.brk HV0.out (by omega) (by omega)))
          clear HU' HZ
          obtain ⟨A, C, D, R, hA, ea, ec, ed, er, hR, hRY⟩ := rest_facts (u := u) (d := d1) (q := zz1) (Y := Y) HYv.out HY.out (by omega) HY0.out HQ0.out
          obtain ⟨q2, r2, E, g1, g2, g3, g4, g5, g6⟩ := guess_facts R v1 (Nat.lt_trans hRY HY.out)
          have g6 := g6 HV1.out
          have HL2 : Hid (R < v1 * 4294967296 + v0) := by show R < v1 * 4294967296 + v0; rw [← HYv.out]; exact hRY
          have HD2 : Hid (Knuth.dig R d0 v1 v0 ≤ q2) := by show _ ≤ _; rw [g4]; exact (Knuth.start HVB.out HD0'.out HV0.out HL2.out).1
          have h2 : q2 ≤ 4294967297 := by rw [g4]; exact (Knuth.start HVB.out HD0'.out HV0.out HL2.out).2
          have HU2 := Lib.hid g5
          have h2i : (q2 : Int) ≤ 4294967297 := by omega
          have g6i : (r2 : Int) < (v1 : Int) := by omega
          have hRi : (R : Int) < 18446744073709551616 := by have := HY.out; omega
          have hAi : (A : Int) < 18446744073709551616 := by omega
          have HR := Lib.hid hR
          clear g4 g5 hR h2 g6 hRY hA
          go_wp2_with fail
          go_loopw [18, 16] (fun vq vr wr => ∃ (q r : Nat), vq = .int .u64 (q : Int) ∧ vr = .int .u64 (r : Int) ∧ Hid (R = q * v1 + r) ∧ r < 4294967296 ∧ q ≤ 4294967297 ∧ Hid (Knuth.dig R d0 v1 v0 ≤ q) ∧ w1 = wr) (fun vq _ _ => (intOf vq).toNat)
          case atStart => exact ⟨q2, r2, rfl, rfl, HU2, by omega, by omega, HD2, rfl⟩
          case round =>
            clear HU2 HD2
            obtain ⟨qq2, rr2, rfl, rfl, hu, hr, hq, hd, rfl⟩ := hrel
            have SM := Lib.hid (Knuth.more (u := R) (d := d0) (q := qq2) (r := rr2) HV1.out (by omega) HL2.out hu.out)
            have SS := Lib.hid (Knuth.stop (u := R) (d := d0) (q := qq2) (r := rr2) HV1.out hu.out hd.out)
            by_cases hc : (4294967296 : Int) ≤ (qq2 : Int)
            · have HM := SM.out (Or.inl (by omega))
              clear SM SS
              obtain ⟨zz2, hzq⟩ : ∃ z, z + 1 = qq2 := ⟨qq2 - 1, by omega⟩
              have hz : Knuth.dig R d0 v1 v0 ≤ zz2 := by omega
              have HZ := Lib.hid hz
              have ez : (qq2 : Int) - 1 = (zz2 : Int) := by omega
              have zlt : (zz2 : Int) < (qq2 : Int) := by omega
              have zle : (zz2 : Int) ≤ 4294967296 := by omega
              obtain ⟨rv2, hrv⟩ : ∃ rv, rr2 + v1 = rv := ⟨_, rfl⟩
              have erv : (rr2 : Int) + (v1 : Int) = (rv2 : Int) := by omega
              have rvb : (rv2 : Int) < 8589934592 := by omega
              have HU' := Lib.hid (down_at hrv hzq hu.out)
              clear HM hz hu hd hzq hrv
              by_cases hb : (4294967296 : Int) ≤ (rv2 : Int)
              · have HQ' : Hid (Knuth.dig R d0 v1 v0 = zz2) := Lib.hid (Knuth.stop (u := R) (d := d0) (q := zz2) (r := rv2) HV1.out HU'.out HZ.out (Knuth.brk HV0.out (by omega) (by omega)))
                clear HU' HZ
                obtain ⟨A', C', D', R', hA', ea', ec', ed', er', hR', hRY'⟩ := rest_facts (u := R) (d := d0) (q := zz2) (Y := Y) HYv.out HY.out (by omega) HY0.out HQ'.out
                have FN := FIN.out zz1 zz2 R HQ0.out HR.out HQ'.out
                clear FIN
                have e9 : ((R' : Int) / 2 ^ s) = (RR : Int) := by
                  rw [← FN.2, ← hR']
                  rw [HS.out, Int.natCast_ediv]
                have q1b : (zz1 : Int) < 4294967296 := by have := FN.1.1; omega
                have q2b : (zz2 : Int) < 4294967296 := by have := FN.1.2.1; omega
                have hAi' : (A' : Int) < 18446744073709551616 := by omega
                have hRi' : (R' : Int) < 18446744073709551616 := by have := HY.out; omega
                have e8 : (zz1 : Int) * 4294967296 + (zz2 : Int) = (QQ : Int) := by have := FN.1.2.2; omega
                have e7 : (zz2 : Int) + (zz1 : Int) * 4294967296 = (QQ : Int) := by have := FN.1.2.2; omega
                clear hA' hRY' hR'
                clear FN
                go_wp2_with fail
                go_returns
                exact ⟨rfl, rfl⟩
              · go_wp2_with fail
                go_roundw
                case rel => exact ⟨zz2, rv2, by go_num, by go_num, HU', by omega, by omega, HZ, by trivial⟩
                case measure => simp [intOf]; omega
            · obtain ⟨b2, hbq⟩ : ∃ b, qq2 * v0 = b := ⟨_, rfl⟩
              have eb : IntKind.u64.wrap ((qq2 : Int) * (v0 : Int)) = (b2 : Int) := by
                have h1 : qq2 * v0 ≤ 4294967295 * v0 := Nat.mul_le_mul_right _ (by omega)
                rw [wrap_mul_of (by omega), hbq]
              rw [hbq] at SM SS
              clear hbq
              by_cases hg : (4294967296 : Int) * (rr2 : Int) + (d0 : Int) < (b2 : Int)
              · have HM := SM.out (Or.inr (by omega))
                clear SM SS
                obtain ⟨zz2, hzq⟩ : ∃ z, z + 1 = qq2 := ⟨qq2 - 1, by omega⟩
                have hz : Knuth.dig R d0 v1 v0 ≤ zz2 := by omega
                have HZ := Lib.hid hz
                have ez : (qq2 : Int) - 1 = (zz2 : Int) := by omega
                have zlt : (zz2 : Int) < (qq2 : Int) := by omega
                have zle : (zz2 : Int) ≤ 4294967296 := by omega
                obtain ⟨rv2, hrv⟩ : ∃ rv, rr2 + v1 = rv := ⟨_, rfl⟩
                have erv : (rr2 : Int) + (v1 : Int) = (rv2 : Int) := by omega
                have rvb : (rv2 : Int) < 8589934592 := by omega
                have HU' := Lib.hid (down_at hrv hzq hu.out)
                clear HM hz hu hd hzq hrv
                by_cases hb : (4294967296 : Int) ≤ (rv2 : Int)
                · have HQ' : Hid (Knuth.dig R d0 v1 v0 = zz2) := Lib.hid (Knuth.stop (u := R) (d := d0) (q := zz2) (r := rv2) HV1.out HU'.out HZ.out (Knuth.brk HV0.out (by omega) (by omega)))
                  clear HU' HZ
                  obtain ⟨A', C', D', R', hA', ea', ec', ed', er', hR', hRY'⟩ := rest_facts (u := R) (d := d0) (q := zz2) (Y := Y) HYv.out HY.out (by omega) HY0.out HQ'.out
                  have FN := FIN.out zz1 zz2 R HQ0.out HR.out HQ'.out
                  clear FIN
                  have e9 : ((R' : Int) / 2 ^ s) = (RR : Int) := by
                    rw [← FN.2, ← hR']
                    rw [HS.out, Int.natCast_ediv]
                  have q1b : (zz1 : Int) < 4294967296 := by have := FN.1.1; omega
                  have q2b : (zz2 : Int) < 4294967296 := by have := FN.1.2.1; omega
                  have hAi' : (A' : Int) < 18446744073709551616 := by omega
                  have hRi' : (R' : Int) < 18446744073709551616 := by have := HY.out; omega
                  have e8 : (zz1 : Int) * 4294967296 + (zz2 : Int) = (QQ : Int) := by have := FN.1.2.2; omega
                  have e7 : (zz2 : Int) + (zz1 : Int) * 4294967296 = (QQ : Int) := by have := FN.1.2.2; omega
                  clear hA' hRY' hR'
                  clear FN
                  go_wp2_with fail
                  go_returns
                  exact ⟨rfl, rfl⟩
                · go_wp2_with fail
                  go_roundw
                  case rel => exact ⟨zz2, rv2, by go_num, by go_num, HU', by omega, by omega, HZ, by trivial⟩
                  case measure => simp [intOf]; omega
              · have HQ' := Lib.hid (SS.out (by omega))
                clear SM SS hu hd
                obtain ⟨A', C', D', R', hA', ea', ec', ed', er', hR', hRY'⟩ := rest_facts (u := R) (d := d0) (q := qq2) (Y := Y) HYv.out HY.out (by omega) HY0.out HQ'.out
                have FN := FIN.out zz1 qq2 R HQ0.out HR.out HQ'.out
                clear FIN
                have e9 : ((R' : Int) / 2 ^ s) = (RR : Int) := by
                  rw [← FN.2, ← hR']
                  rw [HS.out, Int.natCast_ediv]
                have q1b : (zz1 : Int) < 4294967296 := by have := FN.1.1; omega
                have q2b : (qq2 : Int) < 4294967296 := by have := FN.1.2.1; omega
                have hAi' : (A' : Int) < 18446744073709551616 := by omega
                have hRi' : (R' : Int) < 18446744073709551616 := by have := HY.out; omega
                have e8 : (zz1 : Int) * 4294967296 + (qq2 : Int) = (QQ : Int) := by have := FN.1.2.2; omega
                have e7 : (qq2 : Int) + (zz1 : Int) * 4294967296 = (QQ : Int) := by have := FN.1.2.2; omega
                clear hA' hRY' hR'
                clear FN
                go_wp2_with fail
                go_returns
                exact ⟨rfl, rfl⟩
        · go_wp2_with fail
          go_roundw
          case rel => exact ⟨zz1, rv1, by go_num, by go_num, HU', by omega, by omega, HZ, by trivial⟩
          case measure => simp [intOf]; omega
      · have HQ0 := Lib.hid (SS.out (by omega))
        clear SM SS hu hd
        obtain ⟨A, C, D, R, hA, ea, ec, ed, er, hR, hRY⟩ := rest_facts (u := u) (d := d1) (q := qq1) (Y := Y) HYv.out HY.out (by omega) HY0.out HQ0.out
        obtain ⟨q2, r2, E, g1, g2, g3, g4, g5, g6⟩ := guess_facts R v1 (Nat.lt_trans hRY HY.out)
        have g6 := g6 HV1.out
        have HL2 : Hid (R < v1 * 4294967296 + v0) := by show R < v1 * 4294967296 + v0; rw [← HYv.out]; exact hRY
        have HD2 : Hid (Knuth.dig R d0 v1 v0 ≤ q2) := by show _ ≤ _; rw [g4]; exact (Knuth.start HVB.out HD0'.out HV0.out HL2.out).1
        have h2 : q2 ≤ 4294967297 := by rw [g4]; exact (Knuth.start HVB.out HD0'.out HV0.out HL2.out).2
        have HU2 := Lib.hid g5
        have h2i : (q2 : Int) ≤ 4294967297 := by omega
        have g6i : (r2 : Int) < (v1 : Int) := by omega
        have hRi : (R : Int) < 18446744073709551616 := by have := HY.out; omega
        have hAi : (A : Int) < 18446744073709551616 := by omega
        have HR := Lib.hid hR
        clear g4 g5 hR h2 g6 hRY hA
        go_wp2_with fail
        go_loopw [18, 16] (fun vq vr wr => ∃ (q r : Nat), vq = .int .u64 (q : Int) ∧ vr = .int .u64 (r : Int) ∧ Hid (R = q * v1 + r) ∧ r < 4294967296 ∧ q ≤ 4294967297 ∧ Hid (Knuth.dig R d0 v1 v0 ≤ q) ∧ w1 = wr) (fun vq _ _ => (intOf vq).toNat)
        case atStart => exact ⟨q2, r2, rfl, rfl, HU2, by omega, by omega, HD2, rfl⟩
        case round =>
          clear HU2 HD2
          obtain ⟨qq2, rr2, rfl, rfl, hu, hr, hq, hd, rfl⟩ := hrel
          have SM := Lib.hid (Knuth.more (u := R) (d := d0) (q := qq2) (r := rr2) HV1.out (by omega) HL2.out hu.out)
          have SS := Lib.hid (Knuth.stop (u := R) (d := d0) (q := qq2) (r := rr2) HV1.out hu.out hd.out)
          by_cases hc : (4294967296 : Int) ≤ (qq2 : Int)
          · have HM := SM.out (Or.inl (by omega))
            clear SM SS
            obtain ⟨zz2, hzq⟩ : ∃ z, z + 1 = qq2 := ⟨qq2 - 1, by omega⟩
            have hz : Knuth.dig R d0 v1 v0 ≤ zz2 := by omega
            have HZ := Lib.hid hz
            have ez : (qq2 : Int) - 1 = (zz2 : Int) := by omega
            have zlt : (zz2 : Int) < (qq2 : Int) := by omega
            have zle : (zz2 : Int) ≤ 4294967296 := by omega
            obtain ⟨rv2, hrv⟩ : ∃ rv, rr2 + v1 = rv := ⟨_, rfl⟩
            have erv : (rr2 : Int) + (v1 : Int) = (rv2 : Int) := by omega
            have rvb : (rv2 : Int) < 8589934592 := by omega
            have HU' := Lib.hid (down_at hrv hzq hu.out)
            clear HM hz hu hd hzq hrv
            by_cases hb : (4294967296 : Int) ≤ (rv2 : Int)
            · have HQ' : Hid (Knuth.dig R d0 v1 v0 = zz2) := Lib.hid (Knuth.stop (u := R) (d := d0) (q := zz2) (r := rv2) HV1.out HU'.out HZ.out (Knuth.brk HV0.out (by omega) (by omega)))
              clear HU' HZ
              obtain ⟨A', C', D', R', hA', ea', ec', ed', er', hR', hRY'⟩ := rest_facts (u := R) (d := d0) (q := zz2) (Y := Y) HYv.out HY.out (by omega) HY0.out HQ'.out
              have FN := FIN.out qq1 zz2 R HQ0.out HR.out HQ'.out
              clear FIN
              have e9 : ((R' : Int) / 2 ^ s) = (RR : Int) := by
                rw [← FN.2, ← hR']
                rw [HS.out, Int.natCast_ediv]
              have q1b : (qq1 : Int) < 4294967296 := by have := FN.1.1; omega
              have q2b : (zz2 : Int) < 4294967296 := by have := FN.1.2.1; omega
              have hAi' : (A' : Int) < 18446744073709551616 := by omega
              have hRi' : (R' : Int) < 18446744073709551616 := by have := HY.out; omega
              have e8 : (qq1 : Int) * 4294967296 + (zz2 : Int) = (QQ : Int) := by have := FN.1.2.2; omega
              have e7 : (zz2 : Int) + (qq1 : Int) * 4294967296 = (QQ : Int) := by have := FN.1.2.2; omega
              clear hA' hRY' hR'
              clear FN
              go_wp2_with fail
              go_returns
              exact ⟨rfl, rfl⟩
            · go_wp2_with fail
              go_roundw
              case rel => exact ⟨zz2, rv2, by go_num, by go_num, HU', by omega, by omega, HZ, by trivial⟩
              case measure => simp [intOf]; omega
          · obtain ⟨b2, hbq⟩ : ∃ b, qq2 * v0 = b := ⟨_, rfl⟩
            have eb : IntKind.u64.wrap ((qq2 : Int) * (v0 : Int)) = (b2 : Int) := by
              have h1 : qq2 * v0 ≤ 4294967295 * v0 := Nat.mul_le_mul_right _ (by omega)
              rw [wrap_mul_of (by omega), hbq]
            rw [hbq] at SM SS
            clear hbq
            by_cases hg : (4294967296 : Int) * (rr2 : Int) + (d0 : Int) < (b2 : Int)
            · have HM := SM.out (Or.inr (by omega))
              clear SM SS
              obtain ⟨zz2, hzq⟩ : ∃ z, z + 1 = qq2 := ⟨qq2 - 1, by omega⟩
              have hz : Knuth.dig R d0 v1 v0 ≤ zz2 := by omega
              have HZ := Lib.hid hz
              have ez : (qq2 : Int) - 1 = (zz2 : Int) := by omega
              have zlt : (zz2 : Int) < (qq2 : Int) := by omega
              have zle : (zz2 : Int) ≤ 4294967296 := by omega
              obtain ⟨rv2, hrv⟩ : ∃ rv, rr2 + v1 = rv := ⟨_, rfl⟩
              have erv : (rr2 : Int) + (v1 : Int) = (rv2 : Int) := by omega
              have rvb : (rv2 : Int) < 8589934592 := by omega
              have HU' := Lib.hid (down_at hrv hzq hu.out)
              clear HM hz hu hd hzq hrv
              by_cases hb : (4294967296 : Int) ≤ (rv2 : Int)
              · have HQ' : Hid (Knuth.dig R d0 v1 v0 = zz2) := Lib.hid (Knuth.stop (u := R) (d := d0) (q := zz2) (r := rv2) HV1.out HU'.out HZ.out (Knuth.brk HV0.out (by omega) (by omega)))
                clear HU' HZ
                obtain ⟨A', C', D', R', hA', ea', ec', ed', er', hR', hRY'⟩ := rest_facts (u := R) (d := d0) (q := zz2) (Y := Y) HYv.out HY.out (by omega) HY0.out HQ'.out
                have FN := FIN.out qq1 zz2 R HQ0.out HR.out HQ'.out
                clear FIN
                have e9 : ((R' : Int) / 2 ^ s) = (RR : Int) := by
                  rw [← FN.2, ← hR']
                  rw [HS.out, Int.natCast_ediv]
                have q1b : (qq1 : Int) < 4294967296 := by have := FN.1.1; omega
                have q2b : (zz2 : Int) < 4294967296 := by have := FN.1.2.1; omega
                have hAi' : (A' : Int) < 18446744073709551616 := by omega
                have hRi' : (R' : Int) < 18446744073709551616 := by have := HY.out; omega
                have e8 : (qq1 : Int) * 4294967296 + (zz2 : Int) = (QQ : Int) := by have := FN.1.2.2; omega
                have e7 : (zz2 : Int) + (qq1 : Int) * 4294967296 = (QQ : Int) := by have := FN.1.2.2; omega
                clear hA' hRY' hR'
                clear FN
                go_wp2_with fail
                go_returns
                exact ⟨rfl, rfl⟩
              · go_wp2_with fail
                go_roundw
                case rel => exact ⟨zz2, rv2, by go_num, by go_num, HU', by omega, by omega, HZ, by trivial⟩
                case measure => simp [intOf]; omega
            · have HQ' := Lib.hid (SS.out (by omega))
              clear SM SS hu hd
              obtain ⟨A', C', D', R', hA', ea', ec', ed', er', hR', hRY'⟩ := rest_facts (u := R) (d := d0) (q := qq2) (Y := Y) HYv.out HY.out (by omega) HY0.out HQ'.out
              have FN := FIN.out qq1 qq2 R HQ0.out HR.out HQ'.out
              clear FIN
              have e9 : ((R' : Int) / 2 ^ s) = (RR : Int) := by
                rw [← FN.2, ← hR']
                rw [HS.out, Int.natCast_ediv]
              have q1b : (qq1 : Int) < 4294967296 := by have := FN.1.1; omega
              have q2b : (qq2 : Int) < 4294967296 := by have := FN.1.2.1; omega
              have hAi' : (A' : Int) < 18446744073709551616 := by omega
              have hRi' : (R' : Int) < 18446744073709551616 := by have := HY.out; omega
              have e8 : (qq1 : Int) * 4294967296 + (qq2 : Int) = (QQ : Int) := by have := FN.1.2.2; omega
              have e7 : (qq2 : Int) + (qq1 : Int) * 4294967296 = (QQ : Int) := by have := FN.1.2.2; omega
              clear hA' hRY' hR'
              clear FN
              go_wp2_with fail
              go_returns
              exact ⟨rfl, rfl⟩
end Go.Proofs.Ytbclkhkpmdbedaa
