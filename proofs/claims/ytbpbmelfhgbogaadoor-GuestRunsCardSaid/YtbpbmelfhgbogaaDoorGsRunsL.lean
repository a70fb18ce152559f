/-
  The statement GuestRuns: what the law keeps beside the guest: of each task the jobs that are to run, and how long the first of them has run.
-/
import Derived.Test.YtbpbmelfhgbogaaDoorGsAlive
import Derived.Test.YtbpbmelfhgbogaaDoorGsOpen
import Derived.Test.YtbpbmelfhgbogaaDoorRowAt
import Derived.Test.YtbpbmelfhgbogaaDoorOpen
namespace Go.Proofs.YtbpbmelfhgbogaaDoor
set_option maxRecDepth 100000
open Go.RowKit
set_option linter.unusedVariables false
structure LD (w : World) (base n wb rb : Nat) (Vs : List Value) (wl : Nat → List JobV) (Rs : List Int) : Prop where
  wow : Own w base 36 1 (some ⟨wb, 0, none⟩) n n Vs
  row : Own w base 3 1 (some ⟨rb, 0, none⟩) n n (ints Rs)
  wsl : ∀ t, t < n → ∃ A l c, Vs[t]? = some (.slice A l c) ∧ l = (wl t).length ∧ OwnA w base 46 5 A l c (jrows (wl t)).flatten
  wne : wb ≠ rb
  apart : ∀ (t : Nat) A l c a, Vs[t]? = some (.slice A l c) → A = some a → a.block ≠ wb ∧ a.block ≠ rb
  dis : ∀ (t s : Nat) A l c A' l' c' a a', t ≠ s → Vs[t]? = some (.slice A l c) → A = some a → Vs[s]? = some (.slice A' l' c') → A' = some a' → a.block ≠ a'.block
/-- The law's own blocks. -/
def LB (wb rb : Nat) (Vs : List Value) (b : Nat) : Prop := b = wb ∨ b = rb ∨ ∃ (t : Nat) (A : Option Addr) (l c : Nat) (a : Addr), Vs[t]? = some (.slice A l c) ∧ A = some a ∧ a.block = b
section
variable {w w' : World} {base n wb rb : Nat} {Vs : List Value} {wl : Nat → List JobV} {Rs : List Int}
theorem LD.vlen (h : LD w base n wb rb Vs wl Rs) : Vs.length = n := by have := h.wow.len; omega
theorem LD.lt (h : LD w base n wb rb Vs wl Rs) {b : Nat} (hb : LB wb rb Vs b) : b < w.heap.size ∧ base ≤ b := by
  rcases hb with rfl | rfl | ⟨t, A, l, c, a, h1, h2, rfl⟩
  · exact ⟨h.wow.lt, h.wow.base_le _ rfl⟩
  · exact ⟨h.row.lt, h.row.base_le _ rfl⟩
  · have ht : t < n := by have := (List.getElem?_eq_some_iff.1 h1).1; have := h.vlen; omega
    obtain ⟨A', l', c', e1, _, e2⟩ := h.wsl t ht
    rw [h1] at e1
    injection e1 with e1
    injection e1 with e1
    subst e1
    exact e2.lt_at h2
theorem LD.fr {P : Nat → Prop} (h : LD w base n wb rb Vs wl Rs) (hf : Fr w w' P) (hne : ∀ b, LB wb rb Vs b → ¬ P b) : LD w' base n wb rb Vs wl Rs :=
  ⟨hf.own h.wow (fun a ha => by injection ha with ha; subst ha; exact hne _ (.inl rfl)), hf.own h.row (fun a ha => by injection ha with ha; subst ha; exact hne _ (.inr (.inl rfl))), fun t ht => by
    obtain ⟨A, l, c, e1, e2, e3⟩ := h.wsl t ht
    exact ⟨A, l, c, e1, e2, e3.fr hf (fun a ha => hne _ (.inr (.inr ⟨t, A, l, c, a, e1, ha, rfl⟩)))⟩, h.wne, h.apart, h.dis⟩
theorem LD.ext (h : LD w base n wb rb Vs wl Rs) (hx : Ext w w') : LD w' base n wb rb Vs wl Rs := h.fr (Fr.of_ext hx (fun _ => False)) (fun _ _ h => h)
theorem set_at {α : Type} {l : List α} {t s : Nat} {x y : α} (h : (l.set t x)[s]? = some y) : (s = t ∧ y = x) ∨ (s ≠ t ∧ l[s]? = some y) := by
  rw [List.getElem?_set] at h
  split at h
  · split at h
    · injection h with h; exact .inl ⟨by omega, h.symm⟩
    · cases h
  · exact .inr ⟨by omega, h⟩
theorem LD.push {w1 w2 : World} {t l c c' : Nat} {A A' : Option Addr} {nj : JobV} {wl' : Nat → List JobV} (h : LD w base n wb rb Vs wl Rs) (ht : t < n) (hV : Vs[t]? = some (.slice A l c)) (hx : Ext w w1) (o : OwnA w2 base 46 5 A' (l + 1) c' ((jrows (wl t)).flatten ++ nj.cells)) (g : Grows w1 w2 A)
    (hA : A' = A ∨ A' = some ⟨w1.heap.size, 0, none⟩) (hw : wl' t = wl t ++ [nj]) (hw2 : ∀ s, s ≠ t → wl' s = wl s) :
    LD (w2.setCell ⟨wb, t, none⟩ (.slice A' (l + 1) c')) base n wb rb (Vs.set t (.slice A' (l + 1) c')) wl' Rs ∧ Fr w (w2.setCell ⟨wb, t, none⟩ (.slice A' (l + 1) c')) (LB wb rb Vs) ∧ ∀ b, LB wb rb (Vs.set t (.slice A' (l + 1) c')) b → LB wb rb Vs b ∨ w.heap.size ≤ b := by
  have f2 : Fr w w2 (fun b => A.map (·.block) = some b) := (Fr.of_ext hx _).trans (Fr.grows g) (fun _ _ h => h)
  have fs := Fr.store w2 ⟨wb, t, none⟩ (.slice A' (l + 1) c')
  have h1 := h.ext hx
  have hAn : ∀ a, A = some a → a.block ≠ wb ∧ a.block ≠ rb := fun a ha => h.apart t A l c a hV ha
  have hA' : ∀ a, A' = some a → (∃ a0, A = some a0 ∧ a0.block = a.block) ∨ w.heap.size ≤ a.block := fun a ha => by
    rcases hA with e | e
    · exact .inl ⟨a, by rw [← e]; exact ha, rfl⟩
    · rw [ha] at e; injection e with e; rw [e]; exact .inr hx.size
  have hzw := (h.lt (b := wb) (.inl rfl)).1
  have hzr := (h.lt (b := rb) (.inr (.inl rfl))).1
  have hAn' : ∀ a, A' = some a → a.block ≠ wb ∧ a.block ≠ rb := fun a ha => by
    rcases hA' a ha with ⟨a0, e0, e1⟩ | e
    · rw [← e1]; exact hAn a0 e0
    · exact ⟨by omega, by omega⟩
  have hother : ∀ s A2 l2 c2 a2, s ≠ t → Vs[s]? = some (.slice A2 l2 c2) → A2 = some a2 → A.map (·.block) ≠ some a2.block := fun s A2 l2 c2 a2 hs h2 h3 e => by
    obtain ⟨a, ha, e⟩ := Option.map_eq_some_iff.1 e
    exact h.dis s t A2 l2 c2 A l c a2 a hs h2 h3 hV ha e.symm
  have hother' : ∀ s A2 l2 c2 a2 a, s ≠ t → Vs[s]? = some (.slice A2 l2 c2) → A2 = some a2 → A' = some a → a2.block ≠ a.block := fun s A2 l2 c2 a2 a hs h2 h3 ha e => by
    rcases hA' a ha with ⟨a0, e0, e1⟩ | e1
    · exact hother s A2 l2 c2 a2 hs h2 h3 (by rw [e0, Option.map_some, e1, e])
    · have := (h.lt (b := a2.block) (.inr (.inr ⟨s, A2, l2, c2, a2, h2, h3, rfl⟩))).1
      omega
  have hvl := h.vlen
  have hself : (Vs.set t (.slice A' (l + 1) c'))[t]? = some (.slice A' (l + 1) c') := List.getElem?_set_self (by omega)
  refine ⟨⟨(f2.own h.wow (fun a ha e => by injection ha with ha; subst ha; obtain ⟨a, ha, e⟩ := Option.map_eq_some_iff.1 e; exact (hAn a ha).1 e)).stored t _, fs.own (f2.own h.row (fun a ha e => by injection ha with ha; subst ha; obtain ⟨a, ha, e⟩ := Option.map_eq_some_iff.1 e; exact (hAn a ha).2 e)) (fun a ha e => by injection ha with ha; subst ha; exact h.wne e.symm), fun s hs => ?_, h.wne, fun s A2 l2 c2 a2 h2 h3 => ?_, fun s s' A2 l2 c2 A3 l3 c3 a2 a3 hne h2 h3 h4 h5 => ?_⟩, (f2.mono (fun i _ e => ?_)).trans fs (fun i _ e => .inl e), fun b hb => ?_⟩
  · by_cases e : s = t
    · subst e
      refine ⟨A', l + 1, c', hself, ?_, ?_⟩
      · obtain ⟨A0, l0, c0, e1, e2, _⟩ := h.wsl s ht
        rw [hV] at e1
        injection e1 with e1
        injection e1 with _ e1 _
        rw [hw, List.length_append, e1, e2]; rfl
      · have e3 : (jrows (wl' s)).flatten = (jrows (wl s)).flatten ++ nj.cells := by rw [hw]; simp [jrows]
        rw [e3]
        exact o.fr fs (fun a ha => (hAn' a ha).1)
    · obtain ⟨A0, l0, c0, e1, e2, e3⟩ := h.wsl s hs
      refine ⟨A0, l0, c0, by rw [List.getElem?_set_ne (fun e2 => e e2.symm)]; exact e1, by rw [hw2 s e]; exact e2, by
        rw [hw2 s e]
        exact (e3.fr f2 (fun a ha => hother s A0 l0 c0 a e e1 ha)).fr fs (fun a ha => (h.apart s A0 l0 c0 a e1 ha).1)⟩
  · rcases set_at h2 with ⟨_, h2⟩ | ⟨_, h2⟩
    · injection h2 with h2
      subst h2
      exact hAn' a2 h3
    · exact h.apart s A2 l2 c2 a2 h2 h3
  · rcases set_at h2 with ⟨e1, g2⟩ | ⟨e1, g2⟩
    · rcases set_at h4 with ⟨e2, g4⟩ | ⟨e2, g4⟩
      · omega
      · injection g2 with g2
        subst g2
        exact fun e => hother' s' A3 l3 c3 a3 a2 e2 g4 h5 h3 e.symm
    · rcases set_at h4 with ⟨e2, g4⟩ | ⟨e2, g4⟩
      · injection g4 with g4
        subst g4
        exact hother' s A2 l2 c2 a2 a3 e1 g2 h3 h5
      · exact h.dis s s' A2 l2 c2 A3 l3 c3 a2 a3 hne g2 h3 g4 h5
  · obtain ⟨a, ha, rfl⟩ := Option.map_eq_some_iff.1 e
    exact .inr (.inr ⟨t, A, l, c, a, hV, ha, rfl⟩)
  · rcases hb with hb | hb | ⟨s, A2, l2, c2, a2, h2, h3, rfl⟩
    · exact .inl (.inl hb)
    · exact .inl (.inr (.inl hb))
    · rcases set_at h2 with ⟨_, h2⟩ | ⟨_, h2⟩
      · injection h2 with h2
        subst h2
        rcases hA' a2 h3 with ⟨a0, e0, e1⟩ | e
        · exact .inl (.inr (.inr ⟨t, A, l, c, a0, hV, e0, e1⟩))
        · exact .inr e
      · exact .inl (.inr (.inr ⟨s, A2, l2, c2, a2, h2, h3, rfl⟩))
theorem LD.ran {t : Nat} (h : LD w base n wb rb Vs wl Rs) (x : Int) : LD (w.setCell ⟨rb, t, none⟩ (.int .i64 x)) base n wb rb Vs wl (Rs.set t x) := by
  have fs := Fr.store w ⟨rb, t, none⟩ (.int .i64 x)
  refine ⟨fs.own h.wow (fun a ha e => by injection ha with ha; subst ha; exact h.wne e), ?_, fun s hs => ?_, h.wne, h.apart, h.dis⟩
  · have := h.row.stored t (.int .i64 x)
    have e : (ints Rs).set t (.int .i64 x) = ints (Rs.set t x) := by simp [ints, List.map_set]
    rw [e] at this
    exact this
  · obtain ⟨A, l, c, e1, e2, e3⟩ := h.wsl s hs
    exact ⟨A, l, c, e1, e2, e3.fr fs (fun a ha => (h.apart s A l c a e1 ha).2)⟩
/-- The first job of a task is struck. -/
theorem LD.pop {t l c : Nat} {A : Option Addr} {X : Option Addr} {wl' : Nat → List JobV} {j : JobV} {r : List JobV} (h : LD w base n wb rb Vs wl Rs) (ht : t < n) (hV : Vs[t]? = some (.slice A l c)) (hX : (if c = 1 then A else A.map (·.add 5)) = X) (hw0 : wl t = j :: r) (hw : wl' t = r) (hw2 : ∀ s, s ≠ t → wl' s = wl s) :
    LD (w.setCell ⟨wb, t, none⟩ (.slice X (l - 1) (c - 1))) base n wb rb (Vs.set t (.slice X (l - 1) (c - 1))) wl' Rs ∧ ∀ b, LB wb rb (Vs.set t (.slice X (l - 1) (c - 1))) b → LB wb rb Vs b := by
  have fs := Fr.store w ⟨wb, t, none⟩ (.slice X (l - 1) (c - 1))
  obtain ⟨A0, l0, c0, e1, e2, e3⟩ := h.wsl t ht
  rw [hV] at e1
  injection e1 with e1
  injection e1 with e1 e4 e5
  subst e1 e4 e5
  have hl : 1 ≤ l := by rw [e2, hw0]; simp
  have hXb : ∀ a, X = some a → ∃ a0, A = some a0 ∧ a0.block = a.block := fun a ha => by
    rw [← hX] at ha
    split at ha
    · exact ⟨a, ha, rfl⟩
    · obtain ⟨a0, h0, rfl⟩ := Option.map_eq_some_iff.1 ha
      exact ⟨a0, h0, (add_block _ _).symm⟩
  have ot := e3.tail (k := 1) hl
  rw [Nat.one_mul, hX] at ot
  have hr : (jrows (wl t)).flatten.drop 5 = (jrows r).flatten := by rw [hw0]; simp [jrows, JobV.cells]
  rw [hr] at ot
  have hvl := h.vlen
  refine ⟨⟨h.wow.stored t _, fs.own h.row (fun a ha e => by injection ha with ha; subst ha; exact h.wne e.symm), fun s hs => ?_, h.wne, fun s A2 l2 c2 a2 h2 h3 => ?_, fun s s' A2 l2 c2 A3 l3 c3 a2 a3 hne h2 h3 h4 h5 => ?_⟩, fun b hb => ?_⟩
  · by_cases e : s = t
    · subst e
      refine ⟨X, l - 1, c - 1, List.getElem?_set_self (by omega), by rw [hw, e2, hw0]; simp, by
        rw [hw]
        exact ot.fr fs (fun a ha e => by
          obtain ⟨a0, h0, h1⟩ := hXb a ha
          exact (h.apart s A l c a0 hV h0).1 (h1.trans e))⟩
    · obtain ⟨A0, l0, c0, k1, k2, k3⟩ := h.wsl s hs
      exact ⟨A0, l0, c0, by rw [List.getElem?_set_ne (fun e2 => e e2.symm)]; exact k1, by rw [hw2 s e]; exact k2, by
        rw [hw2 s e]
        exact k3.fr fs (fun a ha => (h.apart s A0 l0 c0 a k1 ha).1)⟩
  · rcases set_at h2 with ⟨_, h2⟩ | ⟨_, h2⟩
    · injection h2 with h2
      subst h2
      obtain ⟨a0, h0, h1⟩ := hXb a2 h3
      rw [← h1]
      exact h.apart t A l c a0 hV h0
    · exact h.apart s A2 l2 c2 a2 h2 h3
  · rcases set_at h2 with ⟨k1, g2⟩ | ⟨k1, g2⟩
    · rcases set_at h4 with ⟨k2, g4⟩ | ⟨k2, g4⟩
      · omega
      · injection g2 with g2
        subst g2
        obtain ⟨a0, h0, h1⟩ := hXb a2 h3
        rw [← h1]
        exact h.dis t s' A l c A3 l3 c3 a0 a3 (by omega) hV h0 g4 h5
    · rcases set_at h4 with ⟨k2, g4⟩ | ⟨k2, g4⟩
      · injection g4 with g4
        subst g4
        obtain ⟨a0, h0, h1⟩ := hXb a3 h5
        rw [← h1]
        exact h.dis s t A2 l2 c2 A l c a2 a0 (by omega) g2 h3 hV h0
      · exact h.dis s s' A2 l2 c2 A3 l3 c3 a2 a3 hne g2 h3 g4 h5
  · rcases hb with hb | hb | ⟨s, A2, l2, c2, a2, h2, h3, rfl⟩
    · exact .inl hb
    · exact .inr (.inl hb)
    · rcases set_at h2 with ⟨_, h2⟩ | ⟨_, h2⟩
      · injection h2 with h2
        subst h2
        obtain ⟨a0, h0, h1⟩ := hXb a2 h3
        exact .inr (.inr ⟨t, A, l, c, a0, hV, h0, h1⟩)
      · exact .inr (.inr ⟨s, A2, l2, c2, a2, h2, h3, rfl⟩)
end
end Go.Proofs.YtbpbmelfhgbogaaDoor
