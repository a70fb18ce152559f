/-
  Arguments of layer 2 opened: a number of two words, arrays of ints, a fraction with four ints.
-/
import Derived.Test.YtbclkhkpmdbedaaWide
import Derived.Test.YtbclkhkpmdbedaaOpen
import Derived.Lib.SmallJoins
namespace Go.Proofs.Ytbclkhkpmdbedaa
open Go.ChangeShapes Go.WideShapes Go.ChangeAt Go.RowKit Go.Lib Go.Joins
theorem oneWide : Try.prog.cellsOf 24 = 2 := by kernel_rfl
section
variable {H : Type} {enc : TypeId × Value → H} {W : World} {base : Nat} {v : Value} {d : DataW H} {p : List MemPlace}
theorem u64_nat {x : Int} (h : (Lit.int .u64 x).wf = true) : ∃ n : Nat, x = n ∧ n < 18446744073709551616 := by
  obtain ⟨h0, h1⟩ := wf_u64b h
  obtain ⟨n, rfl⟩ := Int.eq_ofNat_of_zero_le h0
  exact ⟨n, rfl, by omega⟩
theorem open_wide (hv : Value.okWide Try.prog W .any base 24 v) (h : DataW.Trod enc Try.prog W 0 (fun _ => true) true 24 v d p) :
    ∃ a b : Nat, v = wv a b ∧ a < 18446744073709551616 ∧ b < 18446744073709551616 := by
  obtain ⟨v0, v1, y0, y1, n, rfl, _, _, h0, h1⟩ := open_agg2 Try.underlying24 (by kernel_rfl) oneWide hv h
  obtain ⟨k0, e0, _, w0⟩ := DataW.trod_int Try.underlying22 h0
  obtain ⟨k1, e1, _, w1⟩ := DataW.trod_int Try.underlying22 h1
  simp only [List.cons.injEq, and_true] at e0 e1
  subst e0 e1
  obtain ⟨a, rfl, ha⟩ := u64_nat w0
  obtain ⟨b, rfl, hb⟩ := u64_nat w1
  exact ⟨a, b, rfl, ha, hb⟩
theorem okWide_array {P : Program} {w : World} {r : Reach} {t : TypeId} {n : Nat} {e : TypeId} (ht : P.underlying t = some (.array n e)) (h : Value.okWide P w r base t v) : ∃ cs, v = .agg cs ∧ cs.size = P.cellsOf t := by
  simp only [Value.okWide, ht] at h
  obtain ⟨cs, h1, h2, _⟩ := h
  exact ⟨cs, h1, h2⟩
theorem oneInt : Try.prog.cellsOf 3 = 1 := by kernel_rfl
theorem one2 : Try.prog.cellsOf 36 = 2 := by kernel_rfl
theorem one4 : Try.prog.cellsOf 54 = 4 := by kernel_rfl
theorem one8 : Try.prog.cellsOf 43 = 8 := by kernel_rfl
def I64 (x : Int) : Prop := -9223372036854775808 ≤ x ∧ x ≤ 9223372036854775807
theorem cell_int {P : Program} {w : World} {t : TypeId} {sp : Nat → Bool} {b : Nat} {held : Bool} {fuel : Nat} {c : Value} {y : DataW H × List MemPlace} (ht : P.underlying t = some (.int .i64)) (h : DataW.trod enc P w b sp held fuel t [c] = some y) : ∃ x, c = .int .i64 x ∧ I64 x := by
  obtain ⟨k0, e0, _, w0⟩ := DataW.trod_int ht h
  simp only [List.cons.injEq, and_true] at e0
  exact ⟨k0, e0, wf_i64b w0⟩
theorem cell_u64 {P : Program} {w : World} {t : TypeId} {sp : Nat → Bool} {b : Nat} {held : Bool} {fuel : Nat} {c : Value} {y : DataW H × List MemPlace} (ht : P.underlying t = some (.int .u64)) (h : DataW.trod enc P w b sp held fuel t [c] = some y) : ∃ x : Nat, c = .int .u64 (x : Int) ∧ x < 18446744073709551616 := by
  obtain ⟨k0, e0, _, w0⟩ := DataW.trod_int ht h
  simp only [List.cons.injEq, and_true] at e0
  obtain ⟨a, rfl, ha⟩ := u64_nat w0
  exact ⟨a, e0, ha⟩
theorem open_two (hv : Value.okWide Try.prog W .any base 36 v) (h : DataW.Trod enc Try.prog W 0 (fun _ => true) true 36 v d p) :
    ∃ a b : Int, v = .agg #[.int .i64 a, .int .i64 b] ∧ I64 a ∧ I64 b := by
  obtain ⟨cs, rfl, hsz⟩ := okWide_array Try.underlying36 hv
  obtain ⟨l⟩ := cs
  match l, hsz.trans one2 with
  | [c0, c1], _ =>
    obtain ⟨fuel, hf⟩ := h
    obtain ⟨xs, n, _, hx, _, hlen, hg⟩ := DataW.trod_array Try.underlying36 hf
    match xs, hlen with
    | [y0, y1], _ =>
      have g0 := hg 0 (by omega)
      have g1 := hg 1 (by omega)
      simp only [oneInt, Value.cells] at g0 g1
      obtain ⟨a, rfl, ha⟩ := cell_int Try.underlying3 g0
      obtain ⟨b, rfl, hb⟩ := cell_int Try.underlying3 g1
      exact ⟨a, b, rfl, ha, hb⟩
theorem open_four (hv : Value.okWide Try.prog W .any base 54 v) (h : DataW.Trod enc Try.prog W 0 (fun _ => true) true 54 v d p) :
    ∃ a b c e : Int, v = .agg #[.int .i64 a, .int .i64 b, .int .i64 c, .int .i64 e] ∧ I64 a ∧ I64 b ∧ I64 c ∧ I64 e := by
  obtain ⟨cs, rfl, hsz⟩ := okWide_array Try.underlying54 hv
  obtain ⟨l⟩ := cs
  match l, hsz.trans one4 with
  | [c0, c1, c2, c3], _ =>
    obtain ⟨fuel, hf⟩ := h
    obtain ⟨xs, n, _, hx, _, hlen, hg⟩ := DataW.trod_array Try.underlying54 hf
    match xs, hlen with
    | [y0, y1, y2, y3], _ =>
      have g0 := hg 0 (by omega)
      have g1 := hg 1 (by omega)
      have g2 := hg 2 (by omega)
      have g3 := hg 3 (by omega)
      simp only [oneInt, Value.cells] at g0 g1 g2 g3
      obtain ⟨a, rfl, ha⟩ := cell_int Try.underlying3 g0
      obtain ⟨b, rfl, hb⟩ := cell_int Try.underlying3 g1
      obtain ⟨c, rfl, hc⟩ := cell_int Try.underlying3 g2
      obtain ⟨e, rfl, he⟩ := cell_int Try.underlying3 g3
      exact ⟨a, b, c, e, rfl, ha, hb, hc, he⟩
/-- Four words: a fraction. -/
theorem open_words {n : Nat} {cs : List Value} {y : DataW H × List MemPlace} (hl : cs.length = 4) (h : DataW.trod enc Try.prog W 0 (fun _ => true) true n 41 cs = some y) :
    ∃ a b c e : Nat, cs = [.int .u64 (a : Int), .int .u64 (b : Int), .int .u64 (c : Int), .int .u64 (e : Int)] ∧ a < 18446744073709551616 ∧ b < 18446744073709551616 ∧ c < 18446744073709551616 ∧ e < 18446744073709551616 := by
  match cs, hl with
  | [c0, c1, c2, c3], _ =>
    obtain ⟨y0, y1, m, hx, _, h0, h1⟩ := trod_struct2 Try.underlying41 h
    simp only [oneWide] at h0 h1
    obtain ⟨z0, z1, m0, _, _, g0, g1⟩ := trod_struct2 Try.underlying24 h0
    obtain ⟨z2, z3, m1, _, _, g2, g3⟩ := trod_struct2 Try.underlying24 h1
    have oneU : Try.prog.cellsOf 22 = 1 := by kernel_rfl
    simp only [oneU] at g0 g1 g2 g3
    obtain ⟨a, rfl, ha⟩ := cell_u64 Try.underlying22 g0
    obtain ⟨b, rfl, hb⟩ := cell_u64 Try.underlying22 g1
    obtain ⟨c, rfl, hc⟩ := cell_u64 Try.underlying22 g2
    obtain ⟨e, rfl, he⟩ := cell_u64 Try.underlying22 g3
    exact ⟨a, b, c, e, rfl, ha, hb, hc, he⟩
end
end Go.Proofs.Ytbclkhkpmdbedaa
