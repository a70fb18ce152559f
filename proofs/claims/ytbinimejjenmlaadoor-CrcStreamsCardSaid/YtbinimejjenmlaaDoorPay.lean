/-
  Rows of byte lists: what they read as, and which blocks they keep off; a list of byte lists that came in.
-/
import Derived.Test.YtbinimejjenmlaaDoorLists
import Derived.Test.YtbinimejjenmlaaDoorOpen
import Derived.Deep.Slices
import Derived.ChangeSame
namespace Go.Proofs.YtbinimejjenmlaaDoor
open Go.RowKit Go.ChangeShapes Go.WideShapes Go.Deep
set_option linter.unusedVariables false
/-- The cells vs are slices that read as the lists ps; none with a byte lies in a block that meets Av. -/
def Pay (w : World) (Av : Nat → Prop) (vs : List Value) (ps : List (List Nat)) : Prop :=
  vs.length = ps.length ∧ ∀ (i : Nat) (p : List Nat), ps[i]? = some p → ∃ B d, vs[i]? = some (Value.slice B p.length d) ∧ Rd w 1 B p.length (u8s p) ∧ (0 < p.length → ∀ b, B = some b → ¬ Av b.block)
theorem Pay.nil_ (w : World) (Av : Nat → Prop) : Pay w Av [] [] := ⟨rfl, fun i p h => by simp at h⟩
theorem Pay.at_ {w : World} {Av : Nat → Prop} {vs : List Value} {ps : List (List Nat)} (h : Pay w Av vs ps) : At w none vs ps :=
  ⟨h.1, fun i p hp => by
    obtain ⟨B, d, h1, h2, h3⟩ := h.2 i p hp
    exact ⟨B, d, h1, h2, fun _ b _ e => by cases e⟩⟩
theorem Pay.of_at {w : World} {A : Option Addr} {vs : List Value} {ps : List (List Nat)} (h : At w A vs ps) : Pay w (fun g => A.map (·.block) = some g) vs ps := h
theorem Pay.grow {w w' : World} {Av Av' Q : Nat → Prop} {vs : List Value} {ps : List (List Nat)} (h : Pay w Av vs ps) (hf : Fr w w' Q) (hQ : ∀ g, g < w.heap.size → Q g → Av g) (hAv : ∀ g, g < w.heap.size → Av' g → Av g) : Pay w' Av' vs ps :=
  ⟨h.1, fun i p hp => by
    obtain ⟨B, d, h1, h2, h3⟩ := h.2 i p hp
    rcases Nat.eq_zero_or_pos p.length with h0 | h0
    · have := List.eq_nil_of_length_eq_zero h0
      subst this
      exact ⟨B, d, h1, Rd.nil_any, fun h => absurd h (by simp)⟩
    · obtain ⟨ad, rfl, hlt, _⟩ := h2.2 h0
      refine ⟨_, d, h1, hf.rd h2 (fun a ha hq => ?_), fun _ b hb hA => ?_⟩
      · injection ha with ha
        subst ha
        exact h3 h0 _ rfl (hQ _ hlt hq)
      · injection hb with hb
        subst hb
        exact h3 h0 _ rfl (hAv _ hlt hA)⟩
theorem Pay.append {w : World} {Av : Nat → Prop} {vs us : List Value} {ps qs : List (List Nat)} (h : Pay w Av vs ps) (k : Pay w Av us qs) : Pay w Av (vs ++ us) (ps ++ qs) := by
  refine ⟨by simp [h.1, k.1], fun i q hq => ?_⟩
  rcases Nat.lt_or_ge i ps.length with hi | hi
  · rw [List.getElem?_append_left hi] at hq
    rw [List.getElem?_append_left (by rw [h.1]; exact hi)]
    exact h.2 i q hq
  · rw [List.getElem?_append_right hi] at hq
    rw [List.getElem?_append_right (by rw [h.1]; exact hi), h.1]
    exact k.2 _ q hq
theorem Pay.one {w : World} {Av : Nat → Prop} {B : Option Addr} {d : Nat} {p : List Nat} (h : Rd w 1 B p.length (u8s p)) (hA : 0 < p.length → ∀ b, B = some b → ¬ Av b.block) : Pay w Av [.slice B p.length d] [p] := by
  refine ⟨rfl, fun i q hq => ?_⟩
  cases i with
  | zero => simp at hq; subst hq; exact ⟨B, d, rfl, h, hA⟩
  | succ i => simp at hq
theorem Pay.cells {w : World} {Av : Nat → Prop} {vs : List Value} {ps : List (List Nat)} (h : Pay w Av vs ps) : ∀ u ∈ vs, u.oneCell' = true := by
  intro u hu
  obtain ⟨i, hi⟩ := List.getElem?_of_mem hu
  have hl : i < ps.length := by rw [← h.1]; exact (List.getElem?_eq_some_iff.1 hi).1
  obtain ⟨B, d, h1, _⟩ := h.2 i _ (List.getElem?_eq_getElem hl)
  rw [hi] at h1
  injection h1 with h1
  subst h1
  rfl
/-- No slice among the cells lies below base. -/
def Fre (base : Nat) (vs : List Value) : Prop := ∀ B n c, Value.slice (some B) n c ∈ vs → base ≤ B.block
theorem Pay.fresh {w : World} {A : Option Addr} {base : Nat} {vs : List Value} {ps : List (List Nat)} (h : At w A vs ps) (hf : Fre base vs) : Pay w (fun g => A.map (·.block) = some g ∨ g < base) vs ps :=
  ⟨h.1, fun i p hp => by
    obtain ⟨B, d, h1, h2, h3⟩ := h.2 i p hp
    refine ⟨B, d, h1, h2, fun h0 b hb hA => ?_⟩
    rcases hA with hA | hA
    · exact h3 h0 b hb hA
    · subst hb
      have := hf b _ _ (List.mem_of_getElem? h1)
      omega⟩
theorem all_of {α : Type} {Q : Nat → α → Prop} (n : Nat) (h : ∀ i, i < n → ∃ x, Q i x) : ∃ l : List α, l.length = n ∧ ∀ i x, l[i]? = some x → Q i x := by
  induction n with
  | zero => exact ⟨[], rfl, fun i x h => by simp at h⟩
  | succ n ih =>
    obtain ⟨l, hl, hq⟩ := ih (fun i hi => h i (by omega))
    obtain ⟨y, hy⟩ := h n (by omega)
    refine ⟨l ++ [y], by simp [hl], fun i x hx => ?_⟩
    rcases Nat.lt_or_ge i n with hi | hi
    · rw [List.getElem?_append_left (by omega)] at hx
      exact hq i x hx
    · rw [List.getElem?_append_right (by omega), hl] at hx
      obtain ⟨j, hj⟩ : ∃ j, i - n = j := ⟨_, rfl⟩
      rw [hj] at hx
      cases j with
      | zero =>
        simp at hx
        subst hx
        obtain rfl : i = n := by omega
        exact hy
      | succ j => simp at hx
section
variable {H : Type} {enc : TypeId × Value → H} {P : Program} {W : World} {t s e : TypeId} {v : Value} {d : DataW H} {p : List MemPlace} {b0 : Nat} {r : Reach}
theorem cell_u8s {fuel : Nat} {y : DataW H × List MemPlace} {held : Bool} (ht : P.underlying t = some (.slice e)) (he : P.underlying e = some (.int .u8)) (hc : P.cellsOf e = 1) (h : DataW.trod enc P W b0 (fun _ => true) held fuel t [v] = some y) :
    ∃ (a : Option Addr) (n c : Nat) (l : List Nat), v = .slice a n c ∧ n ≤ c ∧ l.length = n ∧ Rd W 1 a n (u8s l) ∧ (∀ x ∈ l, x < 256) := by
  rcases open_ints ht he hc h with ⟨hcs, hx⟩ | ⟨x, l, c', zs, hcs, _, hl, hm, hz, hx, hcell, hwz⟩
  · simp at hcs
    subst hcs
    exact ⟨none, 0, 0, [], rfl, Nat.le_refl _, rfl, Rd.nil_, by simp⟩
  · simp at hcs
    subst hcs
    simp only [if_true] at hz
    have hwf : ∀ z ∈ zs, 0 ≤ z ∧ z < 256 := fun z hzm => by have := wf_u8b (hwz z hzm); omega
    have e1 : u8s ((zs.take l).map Int.toNat) = (zs.take l).map (Value.int .u8) := by
      rw [u8s, List.map_map]
      refine List.map_congr_left fun z hzm => ?_
      have := hwf z (List.mem_of_mem_take hzm)
      simp only [Function.comp, Int.toNat_of_nonneg this.1]
    refine ⟨some x, l, c', (zs.take l).map Int.toNat, rfl, hl, by simp; omega, ?_, ?_⟩
    · rw [e1]
      refine ⟨by simp; omega, fun hn => ⟨x, rfl, ?_, ?_⟩⟩
      · have h0 := hcell 0 (by omega)
        have h1 : (x.add 0).block = x.block := add_block _ _
        rw [← h1]
        refine Nat.lt_of_not_le fun hge => ?_
        simp [World.cell?, Array.getElem?_eq_none hge] at h0
      · intro j u hu
        rw [List.getElem?_map] at hu
        cases hj : (zs.take l)[j]? with
        | none => rw [hj] at hu; cases hu
        | some y =>
          rw [hj] at hu
          injection hu with hu
          subst hu
          rw [List.getElem?_take] at hj
          split at hj
          · rw [hcell j (by omega), List.getD, hj]; rfl
          · cases hj
    · intro z hzm
      obtain ⟨y, hy, rfl⟩ := List.mem_map.1 hzm
      have := hwf y (List.mem_of_mem_take hy)
      omega
/-- A list of byte lists that came in. -/
theorem open_lists (ht : P.underlying t = some (.slice s)) (hs : P.underlying s = some (.slice e)) (he : P.underlying e = some (.int .u8)) (hcs : P.cellsOf s = 1) (hce : P.cellsOf e = 1)
    (hv : Value.okWide P W r b0 t v) (h : DataW.Trod enc P W 0 (fun _ => true) true t v d p) :
    ∃ (a : Option Addr) (n c : Nat) (vs : List Value) (ps : List (List Nat)), v = .slice a n c ∧ n ≤ c ∧ Rd W 1 a n vs ∧ At W none vs ps ∧ (∀ p ∈ ps, ∀ x ∈ p, x < 256) ∧ (d = .nil ∧ c = 0 ∨ ∃ elems spare, d = .slice elems spare ∧ elems.length + spare.length = c) := by
  obtain ⟨a, n, c, rfl⟩ := okWide_slice ht hv
  obtain ⟨fuel, hf⟩ := h
  rcases open_slice ht hf with ⟨hcs, hx⟩ | ⟨x, len, cap, m, k, D, Pl, hcs', _, hl, _, hm, hx, hi⟩
  · simp [Value.cells] at hcs
    obtain ⟨rfl, rfl, rfl⟩ := hcs
    injection hx with hx _
    exact ⟨none, 0, 0, [], [], rfl, Nat.le_refl _, Rd.nil_, ⟨rfl, fun i p h => by simp at h⟩, by simp, .inl ⟨hx, rfl⟩⟩
  · simp [Value.cells] at hcs'
    obtain ⟨rfl, rfl, rfl⟩ := hcs'
    simp only [if_true] at hm
    subst hm
    injection hx with hx _
    have hD : ∀ i, i < n → ∃ y : Value × List Nat, W.cell? (x.add i) = some y.1 ∧ (∃ B d, y.1 = Value.slice B y.2.length d ∧ Rd W 1 B y.2.length (u8s y.2)) ∧ ∀ z ∈ y.2, z < 256 := fun i hin => by
      obtain ⟨cs, hc, ht'⟩ := hi i (by omega)
      rw [hcs, Nat.mul_one] at hc
      obtain ⟨_, hcl, hat⟩ := World.cells?_some hc
      obtain ⟨u, rfl⟩ : ∃ u, cs = [u] := by
        match cs, hcl with
        | [u], _ => exact ⟨u, rfl⟩
      obtain ⟨B, nb, cb, l, rfl, h1, h2, h3, h4⟩ := cell_u8s hs he hce ht'
      subst h2
      have h0 := hat 0 (by omega)
      have e0 : (x.add i).add 0 = x.add i := rfl
      rw [e0] at h0
      exact ⟨(.slice B l.length cb, l), h0, ⟨B, cb, rfl, h3⟩, h4⟩
    obtain ⟨ys, hyl, hy⟩ := all_of n hD
    refine ⟨some x, n, m, ys.map (·.1), ys.map (·.2), rfl, hl, ⟨by simp [hyl], fun hn => ⟨x, rfl, ?_, fun j u hu => ?_⟩⟩, ⟨by simp, fun i p hp => ?_⟩, fun p hp z hz => ?_, .inr ⟨_, _, hx, by simp; omega⟩⟩
    · obtain ⟨y, h1, _⟩ := hD 0 hn
      have h2 : (x.add 0).block = x.block := add_block _ _
      rw [← h2]
      refine Nat.lt_of_not_le fun hge => ?_
      simp [World.cell?, Array.getElem?_eq_none hge] at h1
    · rw [List.getElem?_map] at hu
      cases hj : ys[j]? with
      | none => rw [hj] at hu; cases hu
      | some y =>
        rw [hj] at hu
        injection hu with hu
        subst hu
        exact (hy j y hj).1
    · rw [List.getElem?_map] at hp
      cases hj : ys[i]? with
      | none => rw [hj] at hp; cases hp
      | some y =>
        rw [hj] at hp
        injection hp with hp
        subst hp
        obtain ⟨B, dd, h1, h2⟩ := (hy i y hj).2.1
        refine ⟨B, dd, ?_, h2, fun _ b _ e => by cases e⟩
        rw [List.getElem?_map, hj]
        exact congrArg some h1
    · obtain ⟨y, hym, rfl⟩ := List.mem_map.1 hp
      obtain ⟨j, hj⟩ := List.getElem?_of_mem hym
      exact (hy j y hj).2.2 z hz
end
end Go.Proofs.YtbinimejjenmlaaDoor
