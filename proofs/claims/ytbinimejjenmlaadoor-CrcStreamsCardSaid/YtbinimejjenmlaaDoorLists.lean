/-
  Slices of slices of bytes; almonernum.SameLists, walked.
-/
import Derived.Test.YtbinimejjenmlaaDoorBytes
import Derived.Test.YtbinimejjenmlaaDoorFr
import Derived.Handy
namespace Go.Proofs.YtbinimejjenmlaaDoor
open Go.RowKit
set_option linter.unusedVariables false
theorem eltLs : Elt Tryd.prog 37 22 1 24 (.slice none 0 0) := ⟨Tryd.underlying37, by kernel_rfl, rfl, by omega⟩
/-- The cells vs are slices that read as the lists ps; none with a byte lies in the block of A. -/
def At (w : World) (A : Option Addr) (vs : List Value) (ps : List (List Nat)) : Prop :=
  vs.length = ps.length ∧ ∀ (i : Nat) (p : List Nat), ps[i]? = some p → ∃ B d, vs[i]? = some (Value.slice B p.length d) ∧ Rd w 1 B p.length (u8s p) ∧ (0 < p.length → ∀ b, B = some b → A.map (·.block) ≠ some b.block)
theorem At.nil_ (w : World) (A : Option Addr) : At w A [] [] := ⟨rfl, fun i p h => by simp at h⟩
theorem At.ext {w w' : World} {A : Option Addr} {vs : List Value} {ps : List (List Nat)} (h : At w A vs ps) (hx : Ext w w') : At w' A vs ps :=
  ⟨h.1, fun i p hp => by
    obtain ⟨B, d, h1, h2, h3⟩ := h.2 i p hp
    exact ⟨B, d, h1, h2.ext hx, h3⟩⟩
theorem Rd.nil_any {w : World} {size : Nat} {A : Option Addr} : Rd w size A 0 [] := ⟨by simp, fun h => absurd h (by omega)⟩
theorem At.grows {w w' : World} {A : Option Addr} {vs : List Value} {ps : List (List Nat)} (h : At w A vs ps) (hg : Grows w w' A) : At w' A vs ps :=
  ⟨h.1, fun i p hp => by
    obtain ⟨B, d, h1, h2, h3⟩ := h.2 i p hp
    refine ⟨B, d, h1, ?_, h3⟩
    rcases Nat.eq_zero_or_pos p.length with h0 | h0
    · have := List.eq_nil_of_length_eq_zero h0
      subst this
      exact Rd.nil_any
    · exact hg.rd h2 (h3 h0)⟩
/-- The row moved to a new block. -/
theorem At.moved {w : World} {A A' : Option Addr} {vs : List Value} {ps : List (List Nat)} {g : Nat} (h : At w A vs ps) (hA : A' = A ∨ ∃ g, A' = some ⟨g, 0, none⟩ ∧ ∀ b : Nat, b < w.heap.size → b ≠ g) : At w A' vs ps := by
  rcases hA with rfl | ⟨g, rfl, hg⟩
  · exact h
  · refine ⟨h.1, fun i p hp => ?_⟩
    obtain ⟨B, d, h1, h2, h3⟩ := h.2 i p hp
    refine ⟨B, d, h1, h2, fun h0 b hb e => ?_⟩
    obtain ⟨ad, h4, h5, _⟩ := h2.2 h0
    rw [hb] at h4
    injection h4 with h4
    subst h4
    injection e with e
    exact hg _ h5 e.symm
theorem At.snoc {w : World} {A B : Option Addr} {d : Nat} {vs : List Value} {ps : List (List Nat)} {p : List Nat} (h : At w A vs ps) (hp : Rd w 1 B p.length (u8s p)) (hne : 0 < p.length → ∀ b, B = some b → A.map (·.block) ≠ some b.block) : At w A (vs ++ [.slice B p.length d]) (ps ++ [p]) := by
  refine ⟨by simp [h.1], fun i q hq => ?_⟩
  rcases Nat.lt_or_ge i ps.length with hi | hi
  · rw [List.getElem?_append_left hi] at hq
    rw [List.getElem?_append_left (by rw [h.1]; exact hi)]
    exact h.2 i q hq
  · rw [List.getElem?_append_right hi] at hq
    rw [List.getElem?_append_right (by rw [h.1]; exact hi), h.1]
    obtain ⟨j, hj⟩ : ∃ j, i - ps.length = j := ⟨_, rfl⟩
    rw [hj] at hq ⊢
    cases j with
    | zero =>
      simp at hq
      subst hq
      exact ⟨B, d, rfl, hp, hne⟩
    | succ j => simp at hq
/-- A row of the call's own of such slices. -/
structure Ls (w : World) (base : Nat) (A : Option Addr) (n c : Nat) (vs : List Value) (ps : List (List Nat)) : Prop where
  own : Own w base 22 1 A n c vs
  at_ : At w A vs ps
theorem Ls.nil_ (w : World) (base : Nat) : Ls w base none 0 0 [] [] := ⟨Own.nil_, At.nil_ w none⟩
theorem Ls.ext {w w' : World} {base n c : Nat} {A : Option Addr} {vs : List Value} {ps : List (List Nat)} (h : Ls w base A n c vs ps) (hx : Ext w w') : Ls w' base A n c vs ps := ⟨h.own.ext hx, h.at_.ext hx⟩
theorem Ls.len {w : World} {base n c : Nat} {A : Option Addr} {vs : List Value} {ps : List (List Nat)} (h : Ls w base A n c vs ps) : ps.length = n := by
  have h1 := h.own.len
  have h2 := h.at_.1
  omega
theorem slice_one (B : Option Addr) (m d : Nat) : ∀ u ∈ [Value.slice B m d], u.oneCell' = true := by
  intro u hu
  simp at hu
  subst hu
  rfl
/-- One list more is appended. -/
theorem Ls.snoc {w w1 w2 : World} {base n c c2 d : Nat} {A A2 B : Option Addr} {vs : List Value} {ps : List (List Nat)} {p : List Nat} (h : Ls w base A n c vs ps) (hx : Ext w w1) (hp : Rd w1 1 B p.length (u8s p))
    (hne : 0 < p.length → ∀ b, B = some b → A.map (·.block) ≠ some b.block) (ho : Own w2 base 22 1 A2 (n + 1) c2 (vs ++ [.slice B p.length d])) (hg : Grows w1 w2 A) (hA : A2 = A ∨ A2 = some ⟨w1.heap.size, 0, none⟩) :
    Ls w2 base A2 (n + 1) c2 (vs ++ [.slice B p.length d]) (ps ++ [p]) := by
  refine ⟨ho, ?_⟩
  have h1 : At w1 A (vs ++ [.slice B p.length d]) (ps ++ [p]) := (h.at_.ext hx).snoc hp hne
  have h2 := h1.grows hg
  rcases hA with rfl | rfl
  · exact h2
  · refine ⟨h2.1, fun i q hq => ?_⟩
    obtain ⟨B', d', e1, e2, e3⟩ := h2.2 i q hq
    obtain ⟨B1, d1, f1, f2, f3⟩ := h1.2 i q hq
    rw [e1] at f1
    injection f1 with f1
    injection f1 with f1 _ f4
    subst f1 f4
    refine ⟨B', d', e1, e2, fun h0 b hb e => ?_⟩
    obtain ⟨ad, h4, h5, _⟩ := f2.2 h0
    rw [hb] at h4
    injection h4 with h4
    subst h4
    injection e with e
    simp at e
    omega
set_option maxHeartbeats 1600000 in
theorem same_lists (A B : Option Addr) (n c d : Nat) (va vb : List Value) (C D : Option Addr) (ps : List (List Nat)) (w : World) (ha : Rd w 1 A n va) (hb : Rd w 1 B n vb) (h1 : At w C va ps) (h2 : At w D vb ps) (hn : n ≤ 9223372036854775807) :
    Calls Tryd.prog 18 #[.slice A n c, .slice B n d] w fun e w' => e = .returned (.bool true) ∧ Ext w w' := by
  have HA := Lib.hid (And.intro (And.intro ha hb) (And.intro h1 h2))
  clear ha hb h1 h2
  go_enter Tryd.func18, Tryd.ntmps18
  go_wp2_with fail
  go_loopw [13] (fun vi wr => ∃ k : Nat, vi = .int .i64 (k : Int) ∧ k ≤ n ∧ Ext w wr) (fun vi _ => n - (intOf vi).toNat)
  case atStart => exact ⟨0, rfl, by omega, Ext.refl w⟩
  case round =>
    obtain ⟨k, rfl, hk, hx⟩ := hrel
    by_cases hlt : k < n
    · obtain ⟨⟨ha, hb⟩, ⟨l1, a1⟩, ⟨l2, a2⟩⟩ := HA.out
      have hl1 := ha.len
      obtain ⟨p, hp⟩ : ∃ p, ps[k]? = some p := ⟨ps[k]'(by omega), List.getElem?_eq_getElem _⟩
      obtain ⟨B1, d1, e1, r1, _⟩ := a1 k p hp
      obtain ⟨B2, d2, e2, r2, _⟩ := a2 k p hp
      obtain ⟨ad1, rfl, q1, z1⟩ := (ha.ext hx).at_ hlt
      obtain ⟨ad2, rfl, q2, z2⟩ := (hb.ext hx).at_ hlt
      have y1 := z1 k _ e1
      have y2 := z2 k _ e2
      have s1 := fun j => run_str (P := Tryd.prog) (w := wr.drewN j) (s := 9) Tryd.underlying22 Tryd.underlying5 Tryd.underlying9 d1 ((r1.ext hx).drewN j)
      have s2 := fun j => run_str (P := Tryd.prog) (w := wr.drewN j) (s := 9) Tryd.underlying22 Tryd.underlying5 Tryd.underlying9 d2 ((r2.ext hx).drewN j)
      have k0 : (0 : Int) ≤ k := by omega
      have k1 : (k : Int) < n := by omega
      generalize str p = s at *
      generalize p.length = m at *
      have HX := Lib.hid hx
      clear ha hb a1 a2 l1 l2 hl1 hp e1 e2 r1 r2 q1 q2 z1 z2 hx
      go_wp2_with fail
      go_quiet (fail)
      go_wp2_with fail
      go_roundw
      case rel => exact ⟨k + 1, by go_num, by omega, HX.out.drewN _⟩
      case measure => simp [intOf]; omega
    · obtain rfl : n = k := by omega
      go_wp2_with fail
      go_returns
      exact ⟨rfl, hx⟩
end Go.Proofs.YtbinimejjenmlaaDoor
