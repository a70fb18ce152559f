/-
  A server's row that comes in: its server, its tick, its list of ticks.
-/
import Derived.Test.YtakilnelbmbjdaaDoorSvOpen
import Derived.Deep.Slices
import Derived.ChangeSame
namespace Go.Proofs.YtakilnelbmbjdaaDoor
open Go.ChangeShapes Go.WideShapes Go.ChangeAt Go.RowKit Go.Lib Go.Joins Go.Deep
section
variable {H : Type} {enc : TypeId × Value → H} {W : World} {base : Nat}
theorem oneI : Tryd.prog.cellsOf 3 = 1 := by kernel_rfl
theorem oneSl : Tryd.prog.cellsOf 24 = 1 := by kernel_rfl
theorem fiveRow : Tryd.prog.cellsOf 26 = 5 := by kernel_rfl
theorem cell_int {P : Program} {w : World} {t : TypeId} {sp : Nat → Bool} {b : Nat} {held : Bool} {fuel : Nat} {c : Value} {y : DataW H × List MemPlace} (ht : P.underlying t = some (.int .i64)) (h : DataW.trod enc P w b sp held fuel t [c] = some y) : ∃ x, c = .int .i64 x ∧ I64 x := by
  obtain ⟨k0, e0, _, w0⟩ := DataW.trod_int ht h
  simp only [List.cons.injEq, and_true] at e0
  exact ⟨k0, e0, wf_i64b w0⟩
theorem cell_ints {P : Program} {w : World} {held : Bool} {b0 : Nat} {t e : TypeId} {fuel : Nat} {v : Value} {y : DataW H × List MemPlace} (ht : P.underlying t = some (.slice e)) (he : P.underlying e = some (.int .i64)) (hc : P.cellsOf e = 1) (h : DataW.trod enc P w b0 (fun _ => true) held fuel t [v] = some y) :
    ∃ (a : Option Addr) (n c : Nat) (l : List Int), v = .slice a n c ∧ Rd w 1 a n (ints l) ∧ Fits64 l := by
  rcases open_ints ht he hc h with ⟨hcs, hx⟩ | ⟨x, l, c', zs, hcs, _, hl, hm, hz, hx, hcell, hwz⟩
  · simp at hcs
    subst hcs
    exact ⟨none, 0, 0, [], rfl, Rd.nil_, by intro x hx; simp at hx⟩
  · simp at hcs
    subst hcs
    simp only [if_true] at hz
    refine ⟨some x, l, c', zs.take l, rfl, ?_, ?_⟩
    · refine ⟨by simp [ints]; omega, fun hn => ⟨x, rfl, ?_, ?_⟩⟩
      · have h0 := hcell 0 (by omega)
        have h1 : (x.add 0).block = x.block := add_block _ _
        rw [← h1]
        refine Nat.lt_of_not_le fun hge => ?_
        simp [World.cell?, Array.getElem?_eq_none hge] at h0
      · intro j u hu
        rw [ints, List.getElem?_map] at hu
        cases hj : (zs.take l)[j]? with
        | none => rw [hj] at hu; cases hu
        | some y =>
          rw [hj] at hu
          injection hu with hu
          subst hu
          rw [List.getElem?_take] at hj
          split at hj
          · rw [hcell j (by omega), List.getD, hj]; rfl
          · cases hj
    · intro z hzm
      exact wf_i64b (hwz z (List.mem_of_mem_take hzm))
theorem open_srow {v : Value} {d : DataW H} {p : List MemPlace} (hv : Value.okWide Tryd.prog W .any base 26 v) (h : DataW.Trod enc Tryd.prog W 0 (fun _ => true) true 26 v d p) :
    ∃ (K Q T now : Int) (A : Option Addr) (n c : Nat) (l : List Int), v = .agg #[.int .i64 K, .int .i64 Q, .int .i64 T, .int .i64 now, .slice A n c] ∧ I64 K ∧ I64 Q ∧ I64 T ∧ I64 now ∧ Rd W 1 A n (ints l) ∧ Fits64 l := by
  obtain ⟨cs, rfl, hsz⟩ := okWide_struct Tryd.underlying26 hv
  obtain ⟨l⟩ := cs
  match l, hsz.trans fiveRow with
  | [c0, c1, c2, c3, c4], _ =>
    obtain ⟨fuel, hf⟩ := h
    obtain ⟨xs, n, _, hx, _, hlen, hg⟩ := DataW.trod_struct Tryd.underlying26 hf
    match xs, hlen with
    | [y0, y1, y2], _ =>
      have g0 : DataW.trod enc Tryd.prog W 0 (fun _ => true) true n 23 [c0, c1, c2] = some y0 := by have h := hg 0 _ rfl; simpa [Value.cells, oneSrv] using h
      have g1 : DataW.trod enc Tryd.prog W 0 (fun _ => true) true n 3 [c3] = some y1 := by have h := hg 1 _ rfl; simpa [Value.cells, oneI] using h
      have g2 : DataW.trod enc Tryd.prog W 0 (fun _ => true) true n 24 [c4] = some y2 := by have h := hg 2 _ rfl; simpa [Value.cells, oneSl] using h
      obtain ⟨ys, m, _, hx', _, hlen', hg'⟩ := DataW.trod_struct Tryd.underlying23 g0
      match ys, hlen' with
      | [z0, z1, z2], _ =>
        have k0 : DataW.trod enc Tryd.prog W 0 (fun _ => true) true m 3 [c0] = some z0 := by have h := hg' 0 _ rfl; simpa [Value.cells, oneI] using h
        have k1 : DataW.trod enc Tryd.prog W 0 (fun _ => true) true m 3 [c1] = some z1 := by have h := hg' 1 _ rfl; simpa [Value.cells, oneI] using h
        have k2 : DataW.trod enc Tryd.prog W 0 (fun _ => true) true m 3 [c2] = some z2 := by have h := hg' 2 _ rfl; simpa [Value.cells, oneI] using h
        obtain ⟨K, rfl, hK⟩ := cell_int Tryd.underlying3 k0
        obtain ⟨Q, rfl, hQ⟩ := cell_int Tryd.underlying3 k1
        obtain ⟨T, rfl, hT⟩ := cell_int Tryd.underlying3 k2
        obtain ⟨now, rfl, hN⟩ := cell_int Tryd.underlying3 g1
        obtain ⟨A, n', c', l, rfl, hr, hf⟩ := cell_ints Tryd.underlying24 Tryd.underlying3 oneI g2
        exact ⟨K, Q, T, now, A, n', c', l, rfl, hK, hQ, hT, hN, hr, hf⟩
end
end Go.Proofs.YtakilnelbmbjdaaDoor
