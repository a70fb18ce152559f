/-
  Fractions put together in a row and in the other order; Plus and Against of small fractions.
-/
import Derived.Test.YtbclkhkpmdbedaaWPlus
import Derived.Test.YtbclkhkpmdbedaaWDivW
import Derived.Test.YtbclkhkpmdbedaaMask
namespace Go.Proofs.Ytbclkhkpmdbedaa
open Go.RowKit
set_option linter.unusedVariables false
/-- A fraction and one more. -/
def stp (s : Nat × Nat) (n d : Nat) : Nat × Nat := (s.1 * d + s.2 * n, s.2 * d)
/-- The first i of a row of fractions put together. -/
def frac (n d : Nat → Nat) : Nat → Nat × Nat
  | 0 => (0, 1)
  | i + 1 => stp (frac n d i) (n i) (d i)
theorem frac_low {n d : Nat → Nat} (hn : ∀ i, n i ≤ 1023) (hd : ∀ i, 1 ≤ d i ∧ d i ≤ 1024) (i : Nat) :
    1 ≤ (frac n d i).2 ∧ (frac n d i).2 ≤ 1024 ^ i ∧ (frac n d i).1 ≤ (frac n d i).2 * (1023 * i) := by
  induction i with
  | zero => simp [frac]
  | succ i ih =>
    obtain ⟨h1, h2, h3⟩ := ih
    obtain ⟨d1, d2⟩ := hd i
    have n1 := hn i
    simp only [frac, stp]
    generalize (frac n d i).2 = D at *
    generalize (frac n d i).1 = N at *
    generalize d i = e at *
    generalize n i = m at *
    refine ⟨Nat.mul_pos h1 d1, ?_, ?_⟩
    · rw [Nat.pow_succ]
      exact Nat.mul_le_mul h2 d2
    · have g1 : N * e ≤ D * (1023 * i) * e := Nat.mul_le_mul_right _ h3
      have g2 : D * m ≤ D * e * 1023 := by
        rw [Nat.mul_assoc]
        exact Nat.mul_le_mul_left _ (by omega)
      have g3 : D * e * (1023 * (i + 1)) = D * (1023 * i) * e + D * e * 1023 := by grind
      omega
theorem frac_fit {n d : Nat → Nat} (hn : ∀ i, n i ≤ 1023) (hd : ∀ i, 1 ≤ d i ∧ d i ≤ 1024) {i : Nat} (hi : i ≤ 4) :
    1 ≤ (frac n d i).2 ∧ (frac n d i).2 ≤ 1099511627776 ∧ (frac n d i).1 ≤ (frac n d i).2 * 4092 := by
  obtain ⟨h1, h2, h3⟩ := frac_low hn hd i
  have h4 : (1024 : Nat) ^ i ≤ 1024 ^ 4 := Nat.pow_le_pow_right (by decide) hi
  have h5 : (1024 : Nat) ^ 4 = 1099511627776 := by decide
  refine ⟨h1, by omega, Nat.le_trans h3 (Nat.mul_le_mul_left _ (by omega))⟩
/-- The row turned round comes to the same. -/
theorem frac_back (n d : Nat → Nat) : frac (fun i => n (3 - i)) (fun i => d (3 - i)) 4 = frac n d 4 := by
  simp only [frac, stp]
  generalize n 0 = n0
  generalize n 1 = n1
  generalize n 2 = n2
  generalize n 3 = n3
  generalize d 0 = d0
  generalize d 1 = d1
  generalize d 2 = d2
  generalize d 3 = d3
  apply Prod.ext
  · grind
  · grind
theorem n2_low (r : Nat) : N2 0 r = r := by unfold N2; omega
theorem plus_small (N D n d N1 D1 : Nat) (w : World) (hN : N < 18446744073709551616) (hD : D < 18446744073709551616) (h0 : 1 ≤ D) (hn : n ≤ 1023) (hd : 1 ≤ d ∧ d ≤ 1024) (e1 : N * d + D * n = N1) (e2 : D * d = D1) (b1 : N1 < 18446744073709551616) (b2 : D1 < 18446744073709551616) :
    Calls Try.prog 23 #[pv 0 N 0 D, .int .i64 (n : Int), .int .i64 (d : Int)] w fun e w' => e = .returned (.tuple #[pv 0 N1 0 D1, .bool true]) ∧ Ext w w' := by
  have h := wplus_any 0 N 0 D n d w (by omega) hN (by omega) hD (by omega) (by omega) hd.1 (by omega)
  rw [n2_low, n2_low, e1, e2] at h
  have k := plusE_yes (a := 0) (b := N1) (c := 0) (d := D1) (by omega) b1 (by omega) b2
  rw [n2_low, n2_low] at k
  rw [k] at h
  exact h
theorem against_small (N D q t : Nat) (c : Int) (w : World) (hN : N < 18446744073709551616) (hD : D < 18446744073709551616) (h0 : 1 ≤ D) (hq : q ≤ 9223372036854775807) (ht : 1 ≤ t ∧ t ≤ 9223372036854775807) (hc : cmpI (N * t) (D * q) = c) (b1 : N * t < 340282366920938463463374607431768211456) (b2 : D * q < 340282366920938463463374607431768211456) :
    Calls Try.prog 25 #[pv 0 N 0 D, .int .i64 (q : Int), .int .i64 (t : Int)] w fun e w' => e = .returned (.tuple #[.int .i64 c, .bool true]) ∧ Ext w w' := by
  have h := against_any 0 N 0 D q t w (by omega) hN (by omega) hD (by omega) hq ht.1 ht.2
  unfold Ag at h
  rw [n2_low, n2_low, if_pos ⟨b1, b2⟩, hc] at h
  exact h
theorem div_small (N D : Nat) (w : World) (hN : N < 18446744073709551616) (h0 : 1 ≤ D) (hD : D < 18446744073709551616) :
    Calls Try.prog 28 #[wv 0 N, .int .u64 (D : Int)] w fun e w' => e = .returned (.tuple #[wv 0 (N / D), .int .u64 ((N % D : Nat) : Int), .bool true]) ∧ Ext w w' := by
  have h := wdiv_any 0 N D w (by omega) hN h0 hD
  have k := wn_of (h := 0) (l := N / D) (Nat.lt_of_le_of_lt (Nat.div_le_self _ _) hN)
  rw [n2_low] at k
  rw [n2_low, k] at h
  exact h
theorem mask10 (x : Int) : Go.bits .and .i64 x 1023 = x % 1024 := mask_core x 10 1024 (by decide) (by decide)
/-- An array of four ints in a block. -/
structure Arr4 (u : World) (p : Nat) (f : Nat → Int) : Prop where
  at_ : ∀ j, j < 4 → u.cell? ⟨p, j, none⟩ = some (.int .i64 (f j))
  lt : p < u.heap.size
theorem Arr4.ext {u v : World} {p : Nat} {f : Nat → Int} (h : Arr4 u p f) (hx : Ext u v) : Arr4 v p f :=
  ⟨fun j hj => (hx.cell (p := ⟨p, j, none⟩) h.lt).trans (h.at_ j hj), Nat.lt_of_lt_of_le h.lt hx.size⟩
theorem Arr4.new (u : World) (f : Nat → Int) (t : TypeId) : Arr4 (u.alloc (.cells #[.int .i64 (f 0), .int .i64 (f 1), .int .i64 (f 2), .int .i64 (f 3)] t)) u.heap.size f :=
  ⟨fun j hj => by
    match j, hj with
    | 0, _ => exact boxAt (Ext.refl _) rfl
    | 1, _ => exact boxAt (Ext.refl _) rfl
    | 2, _ => exact boxAt (Ext.refl _) rfl
    | 3, _ => exact boxAt (Ext.refl _) rfl, by simp⟩
theorem Arr4.far {u : World} {p q k : Nat} {f : Nat → Int} (h : Arr4 u p f) (hne : q ≠ p) (v : Value) : Arr4 (u.setCell ⟨q, k, none⟩ v) p f :=
  ⟨fun j hj => (World.cell?_setCell_far u ⟨q, k, none⟩ ⟨p, j, none⟩ v hne).trans (h.at_ j hj), by simpa [World.setCell] using h.lt⟩
theorem Box4.far {u : World} {p q k : Nat} {a b c d : Value} (h : Box4 u p a b c d) (hne : q ≠ p) (v : Value) : Box4 (u.setCell ⟨q, k, none⟩ v) p a b c d :=
  ⟨(World.cell?_setCell_far u ⟨q, k, none⟩ ⟨p, 0, none⟩ v hne).trans h.c0, (World.cell?_setCell_far u ⟨q, k, none⟩ ⟨p, 1, none⟩ v hne).trans h.c1, (World.cell?_setCell_far u ⟨q, k, none⟩ ⟨p, 2, none⟩ v hne).trans h.c2, (World.cell?_setCell_far u ⟨q, k, none⟩ ⟨p, 3, none⟩ v hne).trans h.c3,
   by rw [World.frozen?_setCell]; exact h.f0, by rw [World.frozen?_setCell]; exact h.f1, by rw [World.frozen?_setCell]; exact h.f2, by rw [World.frozen?_setCell]; exact h.f3, by simpa [World.setCell] using h.lt⟩
theorem Box4.put0 {u : World} {p : Nat} {a b c d : Value} (h : Box4 u p a b c d) (v : Value) : Box4 (u.setCell ⟨p, 0, none⟩ v) p v b c d :=
  ⟨World.cell?_setCell_same u _ v h.c0, (World.cell?_setCell_other u _ _ v (by simp)).trans h.c1, (World.cell?_setCell_other u _ _ v (by simp)).trans h.c2, (World.cell?_setCell_other u _ _ v (by simp)).trans h.c3,
   by rw [World.frozen?_setCell]; exact h.f0, by rw [World.frozen?_setCell]; exact h.f1, by rw [World.frozen?_setCell]; exact h.f2, by rw [World.frozen?_setCell]; exact h.f3, by simpa [World.setCell] using h.lt⟩
theorem Box4.put1 {u : World} {p : Nat} {a b c d : Value} (h : Box4 u p a b c d) (v : Value) : Box4 (u.setCell ⟨p, 1, none⟩ v) p a v c d :=
  ⟨(World.cell?_setCell_other u _ _ v (by simp)).trans h.c0, World.cell?_setCell_same u _ v h.c1, (World.cell?_setCell_other u _ _ v (by simp)).trans h.c2, (World.cell?_setCell_other u _ _ v (by simp)).trans h.c3,
   by rw [World.frozen?_setCell]; exact h.f0, by rw [World.frozen?_setCell]; exact h.f1, by rw [World.frozen?_setCell]; exact h.f2, by rw [World.frozen?_setCell]; exact h.f3, by simpa [World.setCell] using h.lt⟩
theorem Box4.put2 {u : World} {p : Nat} {a b c d : Value} (h : Box4 u p a b c d) (v : Value) : Box4 (u.setCell ⟨p, 2, none⟩ v) p a b v d :=
  ⟨(World.cell?_setCell_other u _ _ v (by simp)).trans h.c0, (World.cell?_setCell_other u _ _ v (by simp)).trans h.c1, World.cell?_setCell_same u _ v h.c2, (World.cell?_setCell_other u _ _ v (by simp)).trans h.c3,
   by rw [World.frozen?_setCell]; exact h.f0, by rw [World.frozen?_setCell]; exact h.f1, by rw [World.frozen?_setCell]; exact h.f2, by rw [World.frozen?_setCell]; exact h.f3, by simpa [World.setCell] using h.lt⟩
theorem Box4.put3 {u : World} {p : Nat} {a b c d : Value} (h : Box4 u p a b c d) (v : Value) : Box4 (u.setCell ⟨p, 3, none⟩ v) p a b c v :=
  ⟨(World.cell?_setCell_other u _ _ v (by simp)).trans h.c0, (World.cell?_setCell_other u _ _ v (by simp)).trans h.c1, (World.cell?_setCell_other u _ _ v (by simp)).trans h.c2, World.cell?_setCell_same u _ v h.c3,
   by rw [World.frozen?_setCell]; exact h.f0, by rw [World.frozen?_setCell]; exact h.f1, by rw [World.frozen?_setCell]; exact h.f2, by rw [World.frozen?_setCell]; exact h.f3, by simpa [World.setCell] using h.lt⟩
end Go.Proofs.Ytbclkhkpmdbedaa
