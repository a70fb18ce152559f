/-
  Package almonerlaw07: a slice of slices of ints opened, within the bound of the second form.
-/
import Derived.Test.YtocjbllkgbjihaaDoorOpenS
import Derived.Test.YtocjbllkgbjihaaDoorBulk
import Derived.Test.YtocjbllkgbjihaaDoorQuMergeS
namespace Go.Proofs.YtocjbllkgbjihaaDoor
set_option maxRecDepth 100000
open Go.ChangeShapes Go.WideShapes Go.Deep Go.RowKit Go.ChangeAt
set_option linter.unusedVariables false
theorem sum_bulk {H : Type} : ∀ (ss : List SlI) (ds : List (DataW H)), ss.length = ds.length → (∀ (i : Nat) (s : SlI) (d : DataW H), ss[i]? = some s → ds[i]? = some d → s.l.length + 1 ≤ Rows.uptoBulk d) → ((lists ss).map List.length).sum + ss.length ≤ Rows.uptoBulkAll ds
  | [], [], _, _ => by simp [Rows.uptoBulkAll]
  | s :: ss, d :: ds, h, hb => by
    have h1 := hb 0 s d rfl rfl
    have h2 := sum_bulk ss ds (by simpa using h) (fun i s d h3 h4 => hb (i + 1) s d (by simpa using h3) (by simpa using h4))
    simp only [lists, List.map_cons, List.sum_cons, List.length_cons, Rows.uptoBulkAll] at *
    omega
  | [], _ :: _, h, _ => by simp at h
  | _ :: _, [], h, _ => by simp at h
section
variable {H : Type} {enc : TypeId × Value → H} {P : Program} {W : World} {t e s : TypeId} {v : Value} {d : DataW H} {p : List MemPlace} {b0 : Nat} {r : Reach}
/-- A cell that is a slice of ints. -/
theorem cell_ints {fuel : Nat} {u : Value} {y : DataW H × List MemPlace} (ht : P.underlying t = some (.slice e)) (he : P.underlying e = some (.int .i64)) (hc : P.cellsOf e = 1) (hf : DataW.trod enc P W 0 (fun _ => true) true fuel t [u] = some y) :
    ∃ (a : Option Addr) (n c : Nat) (l : List Int), u = .slice a n c ∧ n ≤ c ∧ l.length = n ∧ Rd W 1 a n (ints l) ∧ n + 1 ≤ Rows.uptoBulk y.1 := by
  rcases open_ints ht he hc hf with ⟨hcs, hx⟩ | ⟨x, l, c', zs, hcs, _, hl, hm, hz, hx, hcell, hwz⟩
  · simp at hcs
    subst hcs
    rw [hx]
    exact ⟨none, 0, 0, [], rfl, Nat.le_refl _, rfl, Rd.nil_, bulk_one _⟩
  · simp at hcs
    subst hcs
    simp only [if_true] at hz
    refine ⟨some x, l, c', zs.take l, rfl, hl, by simp; omega, ⟨by simp [ints]; omega, fun hn => ⟨x, rfl, ?_, ?_⟩⟩, ?_⟩
    · have h0 := hcell 0 (by omega)
      have h1 : (x.add 0).block = x.block := add_block _ _
      rw [← h1]
      refine Nat.lt_of_not_le fun hge => ?_
      simp [World.cell?, Array.getElem?_eq_none hge] at h0
    · intro j u hu
      rw [ints, List.getElem?_map] at hu
      cases hj : (zs.take l)[j]? with
      | none => rw [hj] at hu; cases hu
      | some y =>
        rw [hj] at hu
        injection hu with hu
        subst hu
        rw [List.getElem?_take] at hj
        split at hj
        · rw [hcell j (by omega), List.getD, hj]; rfl
        · cases hj
    · rw [hx]
      have h1 := bulk_len (lits (H := H) .i64 (zs.take l))
      have h3 : (lits (H := H) .i64 (zs.take l)).length = l := by simp [lits]; omega
      simp only [Rows.uptoBulk]
      omega
theorem open_islists (ht : P.underlying t = some (.slice s)) (hs : P.underlying s = some (.slice e)) (he : P.underlying e = some (.int .i64)) (hcs : P.cellsOf s = 1) (hce : P.cellsOf e = 1)
    (hv : Value.okWide P W r b0 t v) (h : DataW.Trod enc P W 0 (fun _ => true) true t v d p) (hb : Rows.uptoBulk d ≤ 1048576) :
    ∃ (a : Option Addr) (n c : Nat) (ss : List SlI), v = .slice a n c ∧ n ≤ c ∧ LS W a n ss ∧ n ≤ 1048576 ∧ ((lists ss).map List.length).sum ≤ 1048576 := by
  obtain ⟨a, n, c, rfl⟩ := okWide_slice ht hv
  obtain ⟨fuel, hf⟩ := h
  rcases open_slice ht hf with ⟨hcs', hx⟩ | ⟨x, len, cap, m, k, D, Pl, hcs', _, hl, _, hm, hx, hi⟩
  · simp [Value.cells] at hcs'
    obtain ⟨rfl, rfl, rfl⟩ := hcs'
    exact ⟨none, 0, 0, [], rfl, Nat.le_refl _, ⟨Rd.nil_, fun s hs => by cases hs⟩, by omega, by simp⟩
  · simp [Value.cells] at hcs'
    obtain ⟨rfl, rfl, rfl⟩ := hcs'
    simp only [if_true] at hm
    subst hm
    injection hx with hx _
    obtain ⟨ss, hsl, hq⟩ := all_at (Q := fun i (y : SlI) => W.cell? (x.add i) = some y.v ∧ Rd W 1 y.A y.n (ints y.l) ∧ y.l.length = y.n ∧ y.n + 1 ≤ Rows.uptoBulk (D i)) n (fun i hil => by
      obtain ⟨cs, hc, ht'⟩ := hi i (by omega)
      rw [hcs, Nat.mul_one] at hc
      obtain ⟨_, hcl, hat⟩ := World.cells?_some hc
      obtain ⟨u, rfl⟩ : ∃ u, cs = [u] := by
        match cs, hcl with
        | [u], _ => exact ⟨u, rfl⟩
      obtain ⟨B, nb, cb, l, rfl, h1, h2, h3, h4⟩ := cell_ints hs he hce ht'
      have h0 := hat 0 (by omega)
      have e0 : (x.add i).add 0 = x.add i := rfl
      rw [e0] at h0
      exact ⟨⟨B, nb, cb, l⟩, h0, h3, h2, h4⟩)
    rw [hx] at hb
    simp only [Rows.uptoBulk] at hb
    have hsum := sum_bulk ss ((List.range n).map D) (by simp [hsl]) (fun i y dd h1 h2 => by
      rw [List.getElem?_map] at h2
      have hil : i < n := by have := (List.getElem?_eq_some_iff.1 h1).1; omega
      rw [List.getElem?_range hil] at h2
      injection h2 with h2
      subst h2
      have := hq i y h1
      omega)
    refine ⟨some x, n, m, ss, rfl, hl, ⟨⟨by rw [slcells_len, hsl]; omega, fun hn => ⟨x, rfl, ?_, fun j u hu => ?_⟩⟩, fun y hy => ?_⟩, by omega, by omega⟩
    · obtain ⟨y, hy⟩ : ∃ y, ss[0]? = some y := ⟨ss[0]'(by omega), List.getElem?_eq_getElem _⟩
      exact block_of_cell (hq 0 y hy).1
    · simp only [slcells, List.getElem?_map, Option.map_eq_some_iff] at hu
      obtain ⟨y, hy, rfl⟩ := hu
      exact (hq j y hy).1
    · obtain ⟨j, hj⟩ := List.getElem?_of_mem hy
      exact (hq j y hj).2.1
end
end Go.Proofs.YtocjbllkgbjihaaDoor
