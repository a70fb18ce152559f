/-
  SENTINELS ('var ErrX = errors.New(..)'): what the row's list gives a walk; comparisons of two.
-/
import Derived.Test.YteflnnlihblpgaaDoorLib
import Derived.Test.YteflnnlihblpgaaDoorRows
import Derived.Stop.LaidErr
import Derived.LaidEql
import Derived.Stop.Joined
namespace Go.Proofs.YteflnnlihblpgaaDoor
set_option maxRecDepth 100000
open Go.RowKit Go.ChangeShapes
set_option linter.unusedVariables false

/-- The variable g holds an error that points to a; nothing of that block is frozen. -/
def Sen (w : World) (g : Nat) (a : Addr) : Prop :=
  g < w.heap.size ∧ w.cell? ⟨g, 0, none⟩ = some (.iface 149 (.pointer (some a))) ∧ a.block < w.heap.size ∧ ∃ c t, w.heap[a.block]? = some (.cells c t (0, 0))
theorem Sen.ext {w w' : World} {g : Nat} {a : Addr} (h : Sen w g a) (hx : Ext w w') : Sen w' g a := by
  obtain ⟨h1, h2, h3, c, t, h4⟩ := h
  exact ⟨Nat.lt_of_lt_of_le h1 hx.size, (hx.cell h1).trans h2, Nat.lt_of_lt_of_le h3 hx.size, c, t, (hx.block _ h3).trans h4⟩
theorem Sen.drewN {w : World} {g : Nat} {a : Addr} (h : Sen w g a) (k : Nat) : Sen (w.drewN k) g a := h

theorem cellsES : Tryd.prog.cellsOf 165 = 1 := by kernel_rfl
theorem cellsSt : Tryd.prog.cellsOf 9 = 1 := by kernel_rfl
theorem star : Tryd.prog.typeName? 2 165 = some "errors.errorString" := by kernel_rfl
theorem rowES (u : TypeId) (h : Tryd.prog.typeName? 3 u = some "*errors.errorString") : u = 149 :=
  typeName_ptr_named (nm := "errors.errorString") (by kernel_rfl) (by kernel_rfl) (by decide) u h
/-- A listed error: its name, its text, its variable's number. -/
def entry (x : String × List UInt8 × Nat) : String × DataW Unit := (x.1, .iface "*errors.errorString" (.ptr (.agg [.lit (.string x.2.1)])))
theorem sens_go : ∀ (l : List (String × List UInt8 × Nat)) {W : World} {ps : List MemPlace}, DataW.LaidVars Tryd.prog W (l.map entry) ps → ps.Nodup →
    (∀ b off, MemPlace.cell b off ∈ ps → (∃ c t, W.heap[b]? = some (.cells c t (0, 0))) ∧ ∀ u v, W.cell? ⟨b, off, none⟩ = some (.iface u v) → Value.okWide Tryd.prog W .any 0 u v) →
    (∀ x ∈ l, Tryd.prog.globalNamed x.1 = some x.2.2 ∧ (Tryd.prog.globals[x.2.2]?).map (·.type) = some 33) →
    ∃ E : Nat → Addr, (∀ x ∈ l, Sen W x.2.2 (E x.2.2) ∧ MemPlace.cell (E x.2.2).block (E x.2.2).off ∈ ps) ∧ ∀ x ∈ l, ∀ y ∈ l, x.2.2 ≠ y.2.2 → E x.2.2 ≠ E y.2.2
  | [], _, _, _, _, _, _ => ⟨fun _ => ⟨0, 0, none⟩, by simp, by simp⟩
  | (nm, text, k) :: l, W, ps, hv, hnd, hrows, hall => by
    obtain ⟨g, t, cs, f, p, q, hg, ht, hvar, hd, hrest, rfl⟩ := hv
    obtain ⟨hk1, hk2⟩ := hall (nm, text, k) (by simp)
    obtain rfl : k = g := Option.some.inj (hk1.symm.trans hg)
    obtain rfl : 33 = t := Option.some.inj (hk2.symm.trans ht)
    obtain ⟨l0⟩ := cs
    have ok0 : ∀ u v, l0 = [.iface u v] → Value.okWide Tryd.prog W .any 0 u v := fun u v e => by
      subst e
      exact (hrows k 0 (by simp [MemPlace.row])).2 u v (by simpa using World.var?_cell hg hvar 0)
    obtain ⟨a, s, rfl, hc, hs, hz, rfl⟩ := errorString_of_trod Tryd.underlying33 rowES Tryd.underlying149 Tryd.underlying165 rfl rfl Tryd.underlying9 cellsES cellsSt hd ok0
    have hc0 : W.cell? ⟨k, 0, none⟩ = some (.iface 149 (.pointer (some a))) := by simpa using World.var?_cell hg hvar 0
    have lt_of : ∀ b, (∃ c t, W.heap[b]? = some (.cells c t (0, 0))) → b < W.heap.size := fun b ⟨c, t, h⟩ => by
      rcases Nat.lt_or_ge b W.heap.size with h' | h'
      · exact h'
      · simp [Array.getElem?_eq_none h'] at h
    have hb := (hrows a.block a.off (by simp [MemPlace.row])).1
    have hk := (hrows k 0 (by simp [MemPlace.row])).1
    have hS : Sen W k a := ⟨lt_of _ hk, hc0, lt_of _ hb, hb⟩
    obtain ⟨E, hE, hdis⟩ := sens_go l hrest (hnd.sublist (List.sublist_append_right _ _)) (fun b off hm => hrows b off (List.mem_append_right _ hm)) (fun x hx => hall x (by simp [hx]))
    have hap : MemPlace.cell a.block a.off ∈ MemPlace.row ⟨k, 0, none⟩ (List.toArray [Value.iface 149 (.pointer (some a))]).size ++ MemPlace.row a 1 := by simp [MemPlace.row]
    have hne : ∀ y ∈ l, E y.2.2 ≠ a := fun y hy e => by
      have h1 := (hE y hy).2
      rw [e] at h1
      exact (List.nodup_append.1 hnd).2.2 _ hap _ h1 rfl
    refine ⟨fun j => if j = k then a else E j, fun x hx => ?_, fun x hx y hy hxy => ?_⟩
    · by_cases e : x.2.2 = k
      · simp only [e, if_true]
        exact ⟨hS, List.mem_append_left _ hap⟩
      · simp only [e, if_false]
        have hx' : x ∈ l := by
          rcases List.mem_cons.1 hx with rfl | h
          · exact absurd rfl e
          · exact h
        exact ⟨(hE x hx').1, List.mem_append_right _ (hE x hx').2⟩
    · have inl : ∀ z ∈ (nm, text, k) :: l, z.2.2 ≠ k → z ∈ l := fun z hz e => by
        rcases List.mem_cons.1 hz with rfl | h
        · exact absurd rfl e
        · exact h
      by_cases e : x.2.2 = k
      · have e2 : y.2.2 ≠ k := fun h => hxy (e.trans h.symm)
        simp only [e, e2, if_true, if_false]
        exact fun h => hne y (inl y hy e2) h.symm
      · by_cases e2 : y.2.2 = k
        · simp only [e, e2, if_true, if_false]
          exact hne x (inl x hx e)
        · simp only [e, e2, if_false]
          exact hdis x (inl x hx e) y (inl y hy e2) hxy
/-- FROM THE ROW's CONDITION: each listed error's variable points somewhere, and no two to one place. -/
theorem sens_of (l : List (String × List UInt8 × Nat)) {W : World} (h : laidMet Tryd.prog (l.map entry) W)
    (hall : ∀ x ∈ l, Tryd.prog.globalNamed x.1 = some x.2.2 ∧ (Tryd.prog.globals[x.2.2]?).map (·.type) = some 33) :
    ∃ E : Nat → Addr, (∀ x ∈ l, Sen W x.2.2 (E x.2.2)) ∧ ∀ x ∈ l, ∀ y ∈ l, x.2.2 ≠ y.2.2 → E x.2.2 ≠ E y.2.2 := by
  obtain ⟨ps, hv, hnd, hrows⟩ := h
  obtain ⟨E, h1, h2⟩ := sens_go l hv hnd hrows hall
  exact ⟨E, fun x hx => (h1 x hx).1, h2⟩

/-- TWO ERRORS COMPARED. -/
theorem info_c (t : TypeId) (h : (match Tryd.prog.info? t with | some i => i.comparable | none => false) = true) : ∃ i, Tryd.prog.info? t = some i ∧ i.comparable = true := by
  cases e : Tryd.prog.info? t with
  | none => rw [e] at h; cases h
  | some i => rw [e] at h; exact ⟨i, rfl, h⟩
theorem info_s (t : TypeId) (h : (match Tryd.prog.info? t with | some i => i.size != 0 | none => false) = true) : ∃ i, Tryd.prog.info? t = some i ∧ i.size ≠ 0 := by
  cases e : Tryd.prog.info? t with
  | none => rw [e] at h; cases h
  | some i => rw [e] at h; exact ⟨i, rfl, by simpa using h⟩
theorem err_same (w : World) (a : Addr) : (binOp .eql 33 (.iface 149 (.pointer (some a))) (.iface 149 (.pointer (some a)))).run Tryd.prog w = .ok (.bool true) w := by
  obtain ⟨i, hi, hc⟩ := info_c 149 (by kernel_rfl)
  obtain ⟨j, hj, hs⟩ := info_s 165 (by kernel_rfl)
  exact run_eql_iface_ptr_same w a Tryd.underlying33 Tryd.underlying149 hi hc hj
theorem err_other {w : World} {g h : Nat} {a b : Addr} (ha : Sen w g a) (hb : Sen w h b) (hne : a ≠ b) :
    (binOp .eql 33 (.iface 149 (.pointer (some a))) (.iface 149 (.pointer (some b)))).run Tryd.prog w = .ok (.bool false) w := by
  obtain ⟨i, hi, hc⟩ := info_c 149 (by kernel_rfl)
  obtain ⟨j, hj, hs⟩ := info_s 165 (by kernel_rfl)
  obtain ⟨_, _, _, ca, ta, h1⟩ := ha
  obtain ⟨_, _, _, cb, tb, h2⟩ := hb
  exact run_eql_iface_ptr_other w Tryd.underlying33 Tryd.underlying149 hi hc hj hs hne h1 h2
end Go.Proofs.YteflnnlihblpgaaDoor
