/-
  container/heap.Init and queue.Least, walked.
-/
import Derived.Test.YtocjbllkgbjihaaDoorQuHeap
import Derived.Test.YtocjbllkgbjihaaDoorQuLeastP
import Derived.Test.YtocjbllkgbjihaaDoorOpen
namespace Go.Proofs.YtocjbllkgbjihaaDoor
set_option maxRecDepth 100000
open Go.RowKit Go.Maps
set_option linter.unusedVariables false
section
variable {w w' : World} {g b n c Z : Nat} {A : Option Addr} {L : List Th} {ty : TypeId}
set_option maxHeartbeats 1600000 in
theorem hinit_any (h : TS w g b A n c L Z ty) (hn : n ≤ 1000000000) (hZ : Z + n * (2 * n) < 4611686018427387900) :
    Calls Tryd.prog 32 #[.iface 68 (.pointer (some ⟨g, 0, none⟩))] w fun e w' => e = .returned (.tuple #[]) ∧ TK w w' g b A n c (initF (n / 2) L n) (Z + n * (2 * n)) ty := by
  have C1 := Lib.hid (tlen_any h)
  obtain ⟨X, hX⟩ : ∃ X, 2 * n = X := ⟨_, rfl⟩
  obtain ⟨q, hq⟩ : ∃ q, n / 2 = q := ⟨_, rfl⟩
  rw [hX] at hZ
  rw [hX, hq]
  have hqn : q * X ≤ n * X := Nat.mul_le_mul_right _ (by omega)
  have HD := Lib.hid (And.intro h (And.intro hn (And.intro hZ (And.intro hX (And.intro hq hqn)))))
  have w2 : (n : Int).tdiv 2 = (q : Int) := by rw [Int.tdiv_eq_ediv_of_nonneg (by omega)]; omega
  have b1 : q ≤ 1000000000 := by omega
  clear h hZ hqn
  go_enter Tryd.func32, Tryd.ntmps32
  go_wp2_with (refine C1.out.mono ?_; rintro e w0 ⟨rfl, rfl⟩)
  clear C1 w2
  go_loopw [3] (fun v3 wr => ∃ (s : Nat) (L' : List Th) (Zs : Nat), v3 = .int .i64 ((s : Int) - 1) ∧ s ≤ q ∧ Hid (TK w wr g b A n c L' Zs ty ∧ Zs + s * X ≤ Z + q * X ∧ initF s L' n = initF q L n)) (fun v3 _ => (intOf v3 + 1).toNat)
  case atStart => exact ⟨q, L, Z, (by have := HD.out; first | rfl | (congr 1; omega)), Nat.le_refl _, ⟨HD.out.1, Fr.refl w _⟩, Nat.le_refl _, rfl⟩
  case round =>
    obtain ⟨s, L', Zs, rfl, hs, HI⟩ := hrel
    cases s with
    | zero =>
      go_wp2_with fail
      go_returns
      obtain ⟨h1, h2, h3⟩ := HI.out
      have e : initF 0 L' n = L' := rfl
      rw [e] at h3
      rw [← h3]
      exact ⟨rfl, h1.ts.mono (by have := HD.out; omega), h1.fr⟩
    | succ s =>
      have e1 : (((s + 1 : Nat) : Int) - 1) = (s : Int) := by omega
      have e2 : (s + 1) * X = s * X + X := Nat.succ_mul _ _
      obtain ⟨d, hd⟩ : ∃ d, d = decide (s < (downF (n + 1) L' s n).2) := ⟨_, rfl⟩
      have C3 := Lib.hid (down_any HI.out.1.ts (i0 := s) (N := n) (by have := HD.out; omega) (Nat.le_refl _) (by have := HD.out; omega) (by have := HD.out; have := HI.out.2.1; omega) (Lib.hid hd))
      have HS := Lib.hid (And.intro hs e2)
      rw [e1]
      have b2 : s ≤ 1000000000 := by omega
      clear hd hs e1 e2
      go_wp2_with (go_at_call 47; refine C3.out.mono ?_; rintro e w2 ⟨rfl, k2⟩)
      go_roundw
      case rel => exact ⟨s, _, Zs + 2 * n, rfl, by have := HS.out; omega, HI.out.1.trans k2, by have := HD.out; have := HS.out; have := HI.out.2.1; omega, HI.out.2.2⟩
      case measure => simp [intOf] <;> omega
/-- Things of a call's own, whose blocks are among F. -/
structure LP (w : World) (g : Nat) (F : Nat → Prop) (L : List Th) (Z : Nat) : Prop where
  ex : ∃ b A n c, TS w g b A n c L Z 63 ∧ F b ∧ ∀ a, A = some a → F a.block
  fg : F g
  lt : ∀ b, F b → b < w.heap.size
structure LN (w w' : World) (g : Nat) (F F' : Nat → Prop) (L' : List Th) (Z' : Nat) : Prop where
  lp : LP w' g F' L' Z'
  fr : Fr w w' F
  fo : ∀ b, F' b → F b ∨ w.heap.size ≤ b
theorem LP.fr {F : Nat → Prop} (h : LP w g F L Z) {P : Nat → Prop} (hf : Fr w w' P) (hne : ∀ b, F b → ¬ P b) : LP w' g F L Z := by
  obtain ⟨⟨b, A, n, c, h1, h2, h3⟩, h4, h5⟩ := h
  exact ⟨⟨b, A, n, c, h1.fr hf (hne _ h4) (hne _ h2) (fun a ha => hne _ (h3 a ha)), h2, h3⟩, h4, fun b hb => Nat.lt_of_lt_of_le (h5 b hb) hf.size⟩
theorem LP.ext {F : Nat → Prop} (h : LP w g F L Z) (hx : Ext w w') : LP w' g F L Z := h.fr (Fr.of_ext hx (fun _ => False)) (fun _ _ h => h)
theorem ln_of {F : Nat → Prop} {L' : List Th} {Z' : Nat} (hlt : ∀ b, F b → b < w.heap.size) (hg : F g) (hb : F b) (hA : ∀ a, A = some a → F a.block) (ht : TN w w' g b A L' Z' 63) : ∃ F', LN w w' g F F' L' Z' := by
  obtain ⟨⟨A', n', c', h1, h2⟩, hf⟩ := ht
  refine ⟨fun k => F k ∨ A'.map (·.block) = some k, ⟨⟨b, A', n', c', h1, .inl hb, fun a ha => .inr (by rw [ha]; rfl)⟩, .inl hg, fun k hk => ?_⟩, hf.mono (fun k _ e => ?_), fun k hk => ?_⟩
  · rcases hk with hk | hk
    · exact Nat.lt_of_lt_of_le (hlt k hk) hf.size
    · obtain ⟨a, ha, rfl⟩ := Option.map_eq_some_iff.1 hk
      exact h1.own.lt_at ha
  · rcases e with rfl | rfl | e
    · exact hg
    · exact hb
    · obtain ⟨a, ha, rfl⟩ := Option.map_eq_some_iff.1 e
      exact hA a ha
  · rcases hk with hk | hk
    · exact .inl hk
    · obtain ⟨a, ha, rfl⟩ := Option.map_eq_some_iff.1 hk
      rcases h2 a ha with e | e
      · obtain ⟨a2, ha2, e2⟩ := Option.map_eq_some_iff.1 e
        exact .inl (by rw [← e2]; exact hA a2 ha2)
      · exact .inr e
theorem LN.from_ {a : World} {F F' : Nat → Prop} (h : LN w w' g F F' L Z) (hx : Ext a w) (hF : ∀ b, F b → a.heap.size ≤ b) : Ext a w' ∧ ∀ b, F' b → a.heap.size ≤ b :=
  ⟨Fr.ext hx h.fr hF, fun b hb => (h.fo b hb).elim (hF b) (fun h1 => Nat.le_trans hx.size h1)⟩
theorem LN.out {F F' : Nat → Prop} (h : LN w w' g F F' L Z) {b : Nat} (hb : b < w.heap.size) (hF : ¬ F b) : ¬ F' b := fun e => by rcases h.fo b e with h1 | h1; exact hF h1; omega
theorem LN.trans {w1 : World} {F F1 F2 : Nat → Prop} {L1 L2 : List Th} {Z1 Z2 : Nat} (h : LN w w1 g F F1 L1 Z1) (k : LN w1 w' g F1 F2 L2 Z2) : LN w w' g F F2 L2 Z2 :=
  ⟨k.lp, h.fr.trans k.fr (fun i hi e => (h.fo i e).elim id (fun h1 => by omega)), fun b hb => (k.fo b hb).elim (fun e => h.fo b e) (fun e => .inr (Nat.le_trans h.fr.size e))⟩
/-- What the calls do, at things of a call's own. -/
theorem lpush {F : Nat → Prop} (h : LP w g F L Z) (x : Th) (hx : i64 x.id) (hnew : ∀ y ∈ L, y.id ≠ x.id) (hn : L.length ≤ 100000000000) (hZ : Z < 4611686018427387904) :
    Calls Tryd.prog 31 #[.pointer (some ⟨g, 0, none⟩), .iface 34 (.agg #[.int .i64 x.id, .int .i64 x.rank])] w fun e w' => e = .returned (.tuple #[]) ∧ ∃ F', LN w w' g F F' (L ++ [x]) (Z + 1) := by
  obtain ⟨⟨b, A, n, c, h1, h2, h3⟩, h4, h5⟩ := h
  have hl := h1.len
  exact (tpush_any h1 x hx hnew (by omega) hZ).mono fun e w' ⟨he, ht⟩ => ⟨he, ln_of h5 h4 h2 h3 ht⟩
theorem lhpush {F : Nat → Prop} (h : LP w g F L Z) (x : Th) (hx : i64 x.id) (hnew : ∀ y ∈ L, y.id ≠ x.id) (hn : L.length ≤ 100000000000) (hZ : Z + 2 * L.length < 4611686018427387900) (hH : HeapN L L.length) :
    Calls Tryd.prog 26 #[.iface 68 (.pointer (some ⟨g, 0, none⟩)), .iface 34 (.agg #[.int .i64 x.id, .int .i64 x.rank])] w fun e w' => e = .returned (.tuple #[]) ∧ ∃ F' L', LN w w' g F F' L' (Z + 1 + 2 * L.length) ∧ L'.Perm (x :: L) ∧ HeapN L' L'.length := by
  obtain ⟨⟨b, A, n, c, h1, h2, h3⟩, h4, h5⟩ := h
  have hl := h1.len
  refine (hpush_any h1 x hx hnew (by omega) (by omega)).mono fun e w' ⟨he, ht⟩ => ⟨he, ?_⟩
  obtain ⟨F', hF⟩ := ln_of h5 h4 h2 h3 ht
  have hp := push_perm L x
  have hh := push_heap hH x
  rw [← pushL_eq hl] at hp hh
  rw [hl]
  exact ⟨F', _, hF, hp, by rw [hp.length_eq]; exact hh⟩
theorem linit {F : Nat → Prop} (h : LP w g F L Z) (hn : L.length ≤ 1000000000) (hZ : Z + L.length * (2 * L.length) < 4611686018427387900) :
    Calls Tryd.prog 32 #[.iface 68 (.pointer (some ⟨g, 0, none⟩))] w fun e w' => e = .returned (.tuple #[]) ∧ ∃ L', LN w w' g F F L' (Z + L.length * (2 * L.length)) ∧ L'.Perm L ∧ HeapN L' L'.length := by
  obtain ⟨⟨b, A, n, c, h1, h2, h3⟩, h4, h5⟩ := h
  have hl := h1.len
  rw [hl] at hn hZ ⊢
  refine (hinit_any h1 hn hZ).mono fun e w' ⟨he, ht⟩ => ⟨he, _, ⟨⟨⟨b, A, n, c, ht.ts, h2, h3⟩, h4, fun k hk => Nat.lt_of_lt_of_le (h5 k hk) ht.fr.size⟩, ht.fr.mono (fun k _ e => ?_), fun k hk => .inl hk⟩, (init_heap hl).1, ?_⟩
  · rcases e with rfl | e
    · exact h2
    · obtain ⟨a, ha, rfl⟩ := Option.map_eq_some_iff.1 e
      exact h3 a ha
  · rw [(init_heap hl).1.length_eq, hl]; exact (init_heap hl).2
theorem lhpop {F : Nat → Prop} (h : LP w g F L Z) {m : Nat} (hm : L.length = m + 1) (hH : HeapN L L.length) (hn : m ≤ 100000000000) (hZ : Z + 2 * m < 4611686018427387890) {x : Th} (hx : Hid (x = at_ L 0)) :
    Calls Tryd.prog 29 #[.iface 68 (.pointer (some ⟨g, 0, none⟩))] w fun e w' => e = .returned (.iface 34 (.agg #[.int .i64 x.id, .int .i64 x.rank])) ∧ ∃ L', LN w w' g F F L' (Z + 4 + 2 * m) ∧ (x :: L').Perm L ∧ HeapN L' L'.length := by
  obtain ⟨⟨b, A, n, c, h1, h2, h3⟩, h4, h5⟩ := h
  have hl := h1.len
  obtain rfl : n = m + 1 := by omega
  have sp := popL_spec hm hH
  rw [hx.out]
  refine (hpop_any h1 hH (by omega) (by omega)).mono fun e w' ⟨he, ht, hf⟩ => ⟨he, _, ⟨⟨⟨b, A, m, c, ht, h2, h3⟩, h4, fun k hk => Nat.lt_of_lt_of_le (h5 k hk) hf.size⟩, hf.mono (fun k _ e => ?_), fun k hk => .inl hk⟩, sp.2.2.1, by rw [sp.2.2.2.2]; exact sp.2.2.2.1⟩
  rcases e with rfl | rfl | e
  · exact h4
  · exact h2
  · obtain ⟨a, ha, rfl⟩ := Option.map_eq_some_iff.1 e
    exact h3 a ha
/-- A new heap. -/
theorem lnew (w : World) : LP ((w.alloc (.map #[] 0)).alloc (.cells #[.slice none 0 0, .map (some w.heap.size)] 63)) (w.heap.size + 1) (fun k => k = w.heap.size ∨ k = w.heap.size + 1) [] 0 := by
  have m0 := MapI.made Tryd.prog 3 w
  have hg := heap_alloc_new (w.alloc (.map #[] 0)) (.cells #[.slice none 0 0, .map (some w.heap.size)] 63)
  rw [World.size_alloc] at hg
  refine ⟨⟨w.heap.size, none, 0, 0, ⟨hg, ⟨_, 0, m0.ext ((Ext.refl _).alloc _), Nat.le_refl _, Ix.nil_⟩, Own.nil_, fun x hx => (by cases hx), by omega, fun a ha => (by cases ha)⟩, .inl rfl, fun a ha => (by cases ha)⟩, .inr rfl, fun k hk => ?_⟩
  simp only [World.size_alloc]
  omega
end
end Go.Proofs.YtocjbllkgbjihaaDoor
