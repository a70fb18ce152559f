/-
  slices.SortFunc of things by 'ahead': the row of the call's own holds them sorted.
-/
import Derived.Test.YtocjbllkgbjihaaDoorQuSortQ
import Derived.Test.YtocjbllkgbjihaaDoorQuOps
import Derived.Test.YtocjbllkgbjihaaDoorQuLeastP
import Derived.Sort.OwnSorted
namespace Go.Proofs.YtocjbllkgbjihaaDoor
set_option maxRecDepth 100000
open Go.RowKit Go.Maps Go.Sort Go.Shelf
set_option linter.unusedVariables false
instance : Inhabited Th := ⟨⟨0, 0⟩⟩
theorem flat_things (L : List Th) : flatK trow 2 L.toArray = (trows L).flatten.toArray := by
  have hlen : (trows L).flatten.length = L.length * 2 := by rw [(trows_even L).len, trows_len]
  apply ext_get!
  · simp only [size_flatK, List.size_toArray, hlen]
  · intro t h1
    simp only [size_flatK, List.size_toArray] at h1
    have hk : t / 2 < L.length := by omega
    have hs : L[t / 2]? = some L[t / 2] := List.getElem?_eq_getElem hk
    have h3 := (trows_even L).at_ (trows_at hs) (Nat.mod_lt t (by omega))
    have e : t / 2 * 2 + t % 2 = t := by omega
    rw [e] at h3
    have h4 : (trow L[t / 2])[t % 2]? = some ((trow L[t / 2])[t % 2]!) := by
      rcases Nat.mod_two_eq_zero_or_one t with h | h <;> rw [h] <;> rfl
    rw [h4] at h3
    have h5 := (List.getElem?_eq_some_iff.1 h3).2
    rw [get_flatK _ _ _ _ h1, getElem!_pos _ t (by simpa [hlen] using h1), List.getElem_toArray, h5]
    simp [hk]
/-- The order that the closure tells. -/
def cfT (x y : Th) : Int := if ah x y then -1 else 1
theorem lt_cfT (x y : Th) : ltOf cfT x y = ah x y := by
  unfold ltOf cfT
  cases ah x y <;> simp
theorem swoT : SWO (ltOf cfT) where
  irrefl x := by rw [lt_cfT]; exact ah_self x
  trans x y z h1 h2 := by
    rw [lt_cfT] at *
    simp only [ah, decide_eq_true_eq] at *
    omega
  ntrans x y z h1 h2 := by
    rw [lt_cfT] at *
    simp only [ah, decide_eq_false_iff_not] at *
    omega
theorem totT (x y : Th) (h1 : ltOf cfT x y = false) (h2 : ltOf cfT y x = false) : x = y := by
  rw [lt_cfT] at *
  obtain ⟨xi, xr⟩ := x
  obtain ⟨yi, yr⟩ := y
  simp only [ah, decide_eq_false_iff_not] at *
  have e1 : xi = yi := by omega
  have e2 : xr = yr := by omega
  rw [e1, e2]
theorem sort_same (L : List Th) : L.mergeSort (fun x y => !(ltOf cfT) y x) = sortT L := by
  unfold sortT
  congr 1
  funext x y
  rw [lt_cfT]
  rfl
section
variable {w : World} {base g n c m : Nat} {L D : List Th} {os : Array Obj}
theorem holds_own (o : Own w base 34 2 (some ⟨g, 0, none⟩) n c (trows L).flatten) : HoldsK trow 2 w g 0 L.toArray := by
  unfold HoldsK
  rw [flat_things]
  intro j hj
  simp only [List.size_toArray] at hj
  refine ⟨?_, by rw [Nat.zero_add]; exact o.frozenAt j⟩
  rw [Nat.zero_add, getElem!_pos _ j (by simpa using hj), List.getElem_toArray]
  exact o.celln (List.getElem?_eq_getElem hj)
theorem heap_sortQ {cur : Array Value} {e : TypeId} {fr : Nat × Nat} (hb : w.heap[g]? = some (.cells cur e fr)) :
    (sortWorldK trow 2 w g 0 m D.toArray os).heap[g]? = some (.cells (putCells id 0 (trows D).flatten.toArray cur) e fr) := by
  have hg : g < w.heap.size := (Array.getElem?_eq_some_iff.1 hb).1
  unfold sortWorldK putRowK
  rw [flat_things, heap_grow_old _ _ (by simpa using hg)]
  simp [putRow, mapBlock, Sort.ahead, Array.getElem?_modify, hb, onCells]
theorem grows_sortQ : Grows w (sortWorldK trow 2 w g 0 m D.toArray os) (some ⟨g, 0, none⟩) := by
  refine ⟨rfl, rfl, rfl, by simp [sortWorldK, putRowK], fun k hk hne => ?_⟩
  unfold sortWorldK putRowK
  rw [heap_grow_old _ _ (by simpa using hk)]
  have : g ≠ k := fun e => hne (by rw [← e]; rfl)
  simp [putRow, mapBlock, Sort.ahead, Array.getElem?_modify, this]
theorem take_put (cur : Array Value) (xs : List Value) (h : xs.length ≤ cur.size) : (putCells id 0 xs.toArray cur).toList.take xs.length = xs := by
  apply List.ext_getElem?
  intro j
  by_cases hj : j < xs.length
  · rw [List.getElem?_take_of_lt hj, Array.getElem?_toList]
    simp [putCells, hj, show j < cur.size by omega]
  · rw [List.getElem?_take_eq_none (by omega), List.getElem?_eq_none (by omega)]
theorem own_sortQ (o : Own w base 34 2 (some ⟨g, 0, none⟩) n c (trows L).flatten) (hD : D.length = L.length) :
    Own (sortWorldK trow 2 w g 0 m D.toArray os) base 34 2 (some ⟨g, 0, none⟩) n c (trows D).flatten := by
  have hl := o.len
  rw [(trows_even L).len, trows_len] at hl
  have hl2 : (trows D).flatten.length = n * 2 := by rw [(trows_even D).len, trows_len, hD, hl]
  refine ⟨hl2, .inr ?_⟩
  rcases o.2 with ⟨h0, _⟩ | ⟨g', cap, cur, hv, hb, hg, h1, h2, h3, h4⟩
  · cases h0
  · cases hv
    exact ⟨g, c, _, rfl, hb, heap_sortQ hg, h1, h2, by simpa [putCells] using h3, by
      rw [← hl2]
      refine take_put cur _ ?_
      rw [hl2, h3]
      exact Nat.mul_le_mul_right _ h1⟩
end
set_option maxHeartbeats 1600000 in
theorem ahead_grow2 (a c : Th) (w : World) : Calls Tryd.prog 38 #[.agg #[.int .i64 a.id, .int .i64 a.rank], .agg #[.int .i64 c.id, .int .i64 c.rank]] w fun e w' => e = .returned (.bool (ah a c)) ∧ w' = grow w (#[.cells #[.int .i64 a.id, .int .i64 a.rank] 34] ++ #[.cells #[.int .i64 c.id, .int .i64 c.rank] 34]) := by
  have HX := Lib.hid (show (w.alloc (.cells #[.int .i64 a.id, .int .i64 a.rank] 34)).alloc (.cells #[.int .i64 c.id, .int .i64 c.rank] 34) = grow w (#[.cells #[.int .i64 a.id, .int .i64 a.rank] 34] ++ #[.cells #[.int .i64 c.id, .int .i64 c.rank] 34]) from by rw [alloc_eq_grow, alloc_eq_grow, grow_grow])
  obtain ⟨ai, ar⟩ := a
  obtain ⟨ci, cr⟩ := c
  have H := Lib.hid (show ah ⟨ai, ar⟩ ⟨ci, cr⟩ = decide (ar < cr ∨ ar = cr ∧ ai < ci) from rfl)
  generalize ah ⟨ai, ar⟩ ⟨ci, cr⟩ = r at *
  dsimp only at *
  by_cases h1 : ar < cr
  · have e : r = true := by rw [H.out]; simp [h1]
    subst e
    clear H
    go_enter Tryd.func38, Tryd.ntmps38
    go_wp2_with fail
    go_returns
    exact ⟨rfl, HX.out⟩
  · by_cases h2 : ar = cr
    · have h2' : (ar == cr) = true := by simpa using h2
      by_cases h3 : ai < ci
      · have e : r = true := by rw [H.out]; simp [h2, h3]
        subst e
        clear H h2
        go_enter Tryd.func38, Tryd.ntmps38
        go_wp2_with fail
        go_returns
        exact ⟨rfl, HX.out⟩
      · have e : r = false := by rw [H.out]; simp [h1, h3]
        subst e
        clear H h2
        go_enter Tryd.func38, Tryd.ntmps38
        go_wp2_with fail
        go_returns
        exact ⟨rfl, HX.out⟩
    · have h2' : (ar == cr) = false := by simpa using h2
      have e : r = false := by rw [H.out]; simp [h1, h2]
      subst e
      clear H h2
      go_enter Tryd.func38, Tryd.ntmps38
      go_wp2_with fail
      go_returns
      exact ⟨rfl, HX.out⟩
set_option maxHeartbeats 1600000 in
theorem closure_any (a c : Th) (w : World) : Calls Tryd.prog 37 #[.agg #[.int .i64 a.id, .int .i64 a.rank], .agg #[.int .i64 c.id, .int .i64 c.rank]] w fun e w' => e = .returned (.int .i64 (cfT a c)) ∧ ∃ q os', w' = grow (w.drewN q) os' := by
  have C1 := Lib.hid (ahead_grow2 a c ((w.alloc (.cells #[.int .i64 a.id, .int .i64 a.rank] 34)).alloc (.cells #[.int .i64 c.id, .int .i64 c.rank] 34)))
  have H := Lib.hid (show cfT a c = if ah a c then -1 else 1 from rfl)
  generalize ah a c = r at *
  generalize cfT a c = v at *
  have HX : Hid (∀ os, ∃ q os', grow ((w.alloc (.cells #[.int .i64 a.id, .int .i64 a.rank] 34)).alloc (.cells #[.int .i64 c.id, .int .i64 c.rank] 34)) os = grow (w.drewN q) os') := Lib.hid (fun os => ⟨0, _, by rw [alloc_eq_grow, alloc_eq_grow, grow_grow, grow_grow]; rfl⟩)
  cases r with
  | true =>
    obtain rfl : v = -1 := H.out
    go_enter Tryd.func37, Tryd.ntmps37
    go_wp2_with (refine C1.out.mono ?_; rintro e w1 ⟨rfl, rfl⟩)
    go_returns
    exact ⟨rfl, HX.out _⟩
  | false =>
    obtain rfl : v = 1 := H.out
    go_enter Tryd.func37, Tryd.ntmps37
    go_wp2_with (refine C1.out.mono ?_; rintro e w1 ⟨rfl, rfl⟩)
    go_returns
    exact ⟨rfl, HX.out _⟩
end Go.Proofs.YtocjbllkgbjihaaDoor
