/-
  A fraction with four ints, that came in, opened.
-/
import Derived.Test.YtbclkhkpmdbedaaWOpen
namespace Go.Proofs.Ytbclkhkpmdbedaa
open Go.ChangeShapes Go.WideShapes Go.ChangeAt Go.RowKit Go.Lib Go.Joins
section
variable {H : Type} {enc : TypeId × Value → H} {W : World} {base : Nat}
theorem open_parts {v : Value} {d : DataW H} {p : List MemPlace} (hv : Value.okWide Try.prog W .any base 43 v) (h : DataW.Trod enc Try.prog W 0 (fun _ => true) true 43 v d p) :
    ∃ (a b c e : Nat) (q t x y : Int), v = .agg #[.int .u64 (a : Int), .int .u64 (b : Int), .int .u64 (c : Int), .int .u64 (e : Int), .int .i64 q, .int .i64 t, .int .i64 x, .int .i64 y] ∧
      a < 18446744073709551616 ∧ b < 18446744073709551616 ∧ c < 18446744073709551616 ∧ e < 18446744073709551616 ∧ I64 q ∧ I64 t ∧ I64 x ∧ I64 y := by
  obtain ⟨cs, rfl, hsz⟩ := okWide_struct Try.underlying43 hv
  obtain ⟨l⟩ := cs
  match l, hsz.trans one8 with
  | [c0, c1, c2, c3, c4, c5, c6, c7], _ =>
    obtain ⟨fuel, hf⟩ := h
    obtain ⟨xs, n, _, hx, _, hlen, hg⟩ := DataW.trod_struct Try.underlying43 hf
    match xs, hlen with
    | [y0, y1, y2, y3, y4], _ =>
      have onePart : Try.prog.cellsOf 41 = 4 := by kernel_rfl
      have g0 : DataW.trod enc Try.prog W 0 (fun _ => true) true n 41 [c0, c1, c2, c3] = some y0 := by have h := hg 0 _ rfl; simpa [Value.cells, onePart] using h
      have g1 : DataW.trod enc Try.prog W 0 (fun _ => true) true n 3 [c4] = some y1 := by have h := hg 1 _ rfl; simpa [Value.cells, oneInt] using h
      have g2 : DataW.trod enc Try.prog W 0 (fun _ => true) true n 3 [c5] = some y2 := by have h := hg 2 _ rfl; simpa [Value.cells, oneInt] using h
      have g3 : DataW.trod enc Try.prog W 0 (fun _ => true) true n 3 [c6] = some y3 := by have h := hg 3 _ rfl; simpa [Value.cells, oneInt] using h
      have g4 : DataW.trod enc Try.prog W 0 (fun _ => true) true n 3 [c7] = some y4 := by have h := hg 4 _ rfl; simpa [Value.cells, oneInt] using h
      obtain ⟨a, b, c, e, hcs, ha, hb, hc, he⟩ := open_words rfl g0
      have hcs' : [c0, c1, c2, c3] = [.int .u64 (a : Int), .int .u64 (b : Int), .int .u64 (c : Int), .int .u64 (e : Int)] := hcs
      simp only [List.cons.injEq, and_true] at hcs'
      obtain ⟨rfl, rfl, rfl, rfl⟩ := hcs'
      obtain ⟨q, rfl, hq⟩ := cell_int Try.underlying3 g1
      obtain ⟨t, rfl, ht⟩ := cell_int Try.underlying3 g2
      obtain ⟨x, rfl, hx⟩ := cell_int Try.underlying3 g3
      obtain ⟨y, rfl, hy⟩ := cell_int Try.underlying3 g4
      exact ⟨a, b, c, e, q, t, x, y, rfl, ha, hb, hc, he, hq, ht, hx, hy⟩
end
end Go.Proofs.Ytbclkhkpmdbedaa
