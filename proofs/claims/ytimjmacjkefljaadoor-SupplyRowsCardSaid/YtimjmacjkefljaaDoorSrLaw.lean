/-
  A loop over an iterator that gives a k-th thing for every k: it ends because the body leaves it.
-/
import Derived.RangeFuncNested
import Derived.RangeFuncBound
import Derived.RangeFuncCalls
import Derived.RangeFuncLeaves
import Derived.RangeFuncFrom
import Derived.Shelf.Abstract
import Derived.Shelf.RegionOpen
import Derived.WalkKit
import Derived.OwnWalkIn
import Derived.TacticsInMore
import Derived.LoopNIn
import Derived.LoopIn
import Derived.Test.YtimjmacjkefljaaDoorSrAt
namespace Go.Proofs.YtimjmacjkefljaaDoor
open Go.RowKit Go.Shelf
set_option linter.unusedVariables false
/-- How round k may be left. -/
def leftBy (n₀ : Nat) (I : Nat → World → Prop) (Ix : Code → Nat → World → Prop) (k : Nat) (W : World) : Exit → Act → World → Prop
  | .normal, _, V => KeepsOthers W V ∧ Below n₀ W V ∧ I (k + 1) V
  | .ret, _, V => KeepsOthers W V ∧ Ix .ret (k + 1) V
  | .exit id, _, V => KeepsOthers W V ∧ Ix (.exit id) (k + 1) V
  | .goto t, _, V => KeepsOthers W V ∧ Ix (.goto t) (k + 1) V
  | _, _, _ => False
/-- What the iterator's value owes: at each call of yield the next thing; it ends where a round says so, or at once where Z. -/
def GivesAt (F : Fence) (m : Nat) (P : Program) (gf : Nat) (lb : Array Value) (enc : Nat → Value) (n₀ : Nat) (Z : Prop) (I : Nat → World → Prop) (w : World) : Prop :=
  ∀ (l : Nat) (J Jx : Nat → World → Prop) (W : World), Below w.heap.size w W → (∀ k V, J k V → I k V) →
    (∀ k V, J k V → YieldAt F (m - 1) P l #[enc k] V fun e V' => (e = .returned (.bool true) ∧ J (k + 1) V' ∧ Below n₀ V V') ∨ (e = .returned (.bool false) ∧ Jx (k + 1) V')) →
    J 0 W → CallsIn F m P gf (#[.func (.yield l) #[] #[]] ++ lb) W fun e V => (∃ v, e = .returned v) ∧ ((∃ k, Jx k V) ∨ (Z ∧ J 0 V))
theorem range_idx {F : Fence} {n : Nat} {P : Program} {g : Operand} {p : Tmp} {assign body : Code} {Q : Exit → Act → World → Prop} {a : Act} {w : World}
    (hro : F.round = none) (h1 : 1 ≤ n) {gf : Nat} {lb : Array Value} (hg : a.eval g = .func (.func gf) #[] lb) (hFg : F.fn gf) (eg : ∀ args w, (callFunc gf args).run P w = .ok (.enter gf args) w)
    {enc : Nat → Value} {n₀ : Nat} (hn0 : n₀ ≤ w.heap.size) {Z : Prop} (I : Nat → World → Prop) (Ix : Code → Nat → World → Prop) (hseq : GivesAt F (n - 1) P gf lb enc n₀ Z I w)
    (hI : OwnFrom w.heap.size I) (hIx : ∀ c, OwnFrom w.heap.size (Ix c)) (h0 : I 0 w) (a₁ : Nat → Act)
    (hassign : ∀ (l k : Nat) (W : World) (K : Act → World → Prop), K (a₁ k) W → assign.wpIn (F.inRound l) (n - 1 - 1) P (Exit.then K (fun _ _ _ => False)) { tmps := a.tmps.setIfInBounds p (enc k), defers := [] } W)
    (hbody : ∀ (l k : Nat) (W : World), I k W → body.wpIn (F.inRound l) (n - 1 - 1) P (leftBy n₀ I Ix k W) (a₁ k) W)
    (hdone : Z → ∀ (D : Nat) (W : World), w.heap.size ≤ D → I 0 W → W.heap[D]? = some (.deferred (some [])) → Q .normal { a with defers := { target := .collected D, args := #[] } :: a.defers } W)
    (hstop : ∀ (D : Nat) (c : Code) (k : Nat) (W : World), w.heap.size ≤ D → Ix c k W → W.heap[D]? = some (.deferred (some [])) → c.wpIn F n P Q { a with defers := { target := .collected D, args := #[] } :: a.defers } W) :
    (Code.rangeFunc g #[p] assign body).wpIn F n P Q a w := by
  refine wpIn_rangeFunc fun fn hfn => ?_
  rw [hro]
  obtain ⟨R, hR⟩ : ∃ R : LoopState → Option Code → Loop, R = fun st pe => { state := st, pending := pe, fn, tmps := a.tmps, params := #[p], assign, body, defers := w.heap.size } := ⟨_, rfl⟩
  obtain ⟨L, hL⟩ : ∃ L, w.heap.size + 1 = L := ⟨_, rfl⟩
  obtain ⟨V1, hV1⟩ : ∃ V1, (w.alloc (.deferred (some []))).alloc (.loop (R .ready none)) = V1 := ⟨_, rfl⟩
  have s1 : (w.alloc (.deferred (some []))).heap.size = L := by rw [← hL]; exact World.size_alloc _ _
  have lB : V1.heap[L]? = some (.loop (R .ready none)) := by
    have h := World.alloc_heap_new (w.alloc (.deferred (some []))) (.loop (R .ready none))
    rw [s1, hV1] at h
    exact h
  have dB : V1.heap[w.heap.size]? = some (.deferred (some [])) := by
    rw [← hV1]
    exact (Below.heap_alloc _ _ _ (by rw [s1]; omega)).trans (World.alloc_heap_new w _)
  have bB : Below w.heap.size w V1 := by
    rw [← hV1]
    exact ((Below.refl _ w).alloc (Nat.le_refl _) _).alloc (by rw [s1]; omega) _
  have i1 : I 0 V1 := by rw [← hV1]; exact hI.alloc _ (hI.alloc _ h0)
  have keepD : ∀ (V : World) (o : Obj), V.heap[w.heap.size]? = some (.deferred (some [])) → (V.putObj L o).heap[w.heap.size]? = some (.deferred (some [])) := fun V o h => (World.putObj_heap_other (by omega)).trans h
  have turn : ∀ (V : World) (r r' : Loop), V.heap[L]? = some (.loop r) → Below n₀ V (V.putObj L (.loop r')) := fun V r r' h => belowK_b hn0 V L _ _ (by omega) h rfl rfl
  have put : ∀ {Y : Nat → World → Prop}, OwnFrom w.heap.size Y → ∀ {k : Nat} {V : World} {r : Loop} (r' : Loop), Y k V → V.heap[L]? = some (.loop r) → Y k (V.putObj L (.loop r')) := fun {Y} hY {k V r} r' h hl => OwnFrom.putObj hY _ h (by omega) hl rfl
  -- one round
  have round : ∀ k V, (I k V ∧ V.heap[L]? = some (.loop (R .ready none)) ∧ V.heap[w.heap.size]? = some (.deferred (some []))) →
      YieldAt F (n - 1 - 1) P L #[enc k] V fun e V' => (e = .returned (.bool true) ∧ (I (k + 1) V' ∧ V'.heap[L]? = some (.loop (R .ready none)) ∧ V'.heap[w.heap.size]? = some (.deferred (some []))) ∧ Below n₀ V V') ∨
        (e = .returned (.bool false) ∧ ∃ c, Ix c (k + 1) V' ∧ V'.heap[L]? = some (.loop (R .done (some c))) ∧ V'.heap[w.heap.size]? = some (.deferred (some []))) := by
    rintro k V ⟨hi, hl, hd⟩
    have hlt : L < V.heap.size := (Array.getElem?_eq_some_iff.1 hl).1
    have hy := run_yield (P := P) (args := #[enc k]) hl (by rw [hR]; rfl)
    rw [hR] at hy
    simp only [List.zip_toArray, List.zip_cons_cons, List.zip_nil_right, List.foldl_toArray, List.foldl_cons, List.foldl_nil] at hy
    have hl2 : (V.putObj L (.loop { R .ready none with state := .busy })).heap[L]? = some (.loop { R .ready none with state := .busy }) := World.putObj_heap_same hlt
    have hb2 := turn V _ { R .ready none with state := .busy } hl
    have hd2 := keepD V (.loop { R .ready none with state := .busy }) hd
    refine ⟨fn, _, assign, body, hy, roundIn_of_wpIn hfn (hassign _ k V _ ⟨_, run_beginRound hl (by rw [hR]), ?_⟩)⟩
    refine wpIn_mono (hbody _ k _ (put hI _ hi hl)) ?_
    have leave : ∀ (jump : Option Code) (V3 : World), KeepsOthers (V.putObj L (.loop { R .ready none with state := .busy })) V3 →
        (Instr.endRound L jump).run P V3 = .ok (.bool jump.isNone) (V3.putObj L (.loop (R (if jump.isNone then .ready else .done) jump))) ∧ V3.heap[L]? = some (.loop { R .ready none with state := .busy }) ∧
        (V3.putObj L (.loop (R (if jump.isNone then .ready else .done) jump))).heap[L]? = some (.loop (R (if jump.isNone then .ready else .done) jump)) ∧ V3.heap[w.heap.size]? = some (.deferred (some [])) := fun jump V3 hk => by
      have e1 := hk.same _ _ hl2 rfl
      have e2 := run_endRound (P := P) jump e1
      rw [hR] at e1 e2 ⊢
      exact ⟨e2, e1, World.putObj_heap_same (Array.getElem?_eq_some_iff.1 e1).1, hk.same _ _ hd2 rfl⟩
    rintro e a3 V3 hp
    cases e with
    | normal =>
      obtain ⟨e1, e2, e3, e4⟩ := leave none V3 hp.1
      exact ⟨_, _, e1, .inl ⟨rfl, ⟨put hI _ hp.2.2 e2, e3, keepD V3 _ e4⟩, (hb2.trans hp.2.1).trans (turn V3 _ _ e2)⟩⟩
    | ret =>
      obtain ⟨e1, e2, e3, e4⟩ := leave (some .ret) V3 hp.1
      exact ⟨_, _, e1, .inr ⟨rfl, .ret, put (hIx _) _ hp.2 e2, e3, keepD V3 _ e4⟩⟩
    | exit id =>
      obtain ⟨e1, e2, e3, e4⟩ := leave (some (.exit id)) V3 hp.1
      exact ⟨_, _, e1, .inr ⟨rfl, .exit id, put (hIx _) _ hp.2 e2, e3, keepD V3 _ e4⟩⟩
    | goto t =>
      obtain ⟨e1, e2, e3, e4⟩ := leave (some (.goto t)) V3 hp.1
      exact ⟨_, _, e1, .inr ⟨rfl, .goto t, put (hIx _) _ hp.2 e2, e3, keepD V3 _ e4⟩⟩
    | panic ch => exact hp.elim
    | outgrown => exact hp.elim
  have call := hseq L (fun k V => I k V ∧ V.heap[L]? = some (.loop (R .ready none)) ∧ V.heap[w.heap.size]? = some (.deferred (some [])))
    (fun k V => ∃ c, Ix c k V ∧ V.heap[L]? = some (.loop (R .done (some c))) ∧ V.heap[w.heap.size]? = some (.deferred (some []))) V1 bB (fun k V h => h.1) round ⟨i1, lB, dB⟩
  have ent : (Instr.enterLoop fn a.tmps #[p] assign body none).run P w = .ok (L, [{ target := .collected w.heap.size, args := #[] }]) ((w.alloc (.deferred (some []))).alloc (.loop (R .ready none))) := by
    rw [← hL, hR]
    exact run_enterLoop_outer _ _ _ _ _
  rw [hV1] at ent
  refine ⟨L, [{ target := .collected w.heap.size, args := #[] }], V1, { target := .fn (.func gf) lb, args := #[.func (.yield L) #[] #[]] }, V1, gf, #[.func (.yield L) #[] #[]] ++ lb, V1, ?_, ?_, ?_, ?_, fun _ => h1, ?_⟩
  · exact ent
  · simp only [resolve, hg]
    simp [go_sem]
  · intro f' hf'
    simp [Target.leads] at hf'
    subst hf'
    exact hFg
  · simp [invoke, go_sem, eg]
  · refine call.mono ?_
    rintro e V2 ⟨⟨v, rfl⟩, ⟨k, c, hx, hl, hd⟩ | ⟨hz, hi, hl, hd⟩⟩
    · have e1 := run_endLoop (P := P) hl (by rw [hR]; simp)
      rw [hR] at e1
      exact ⟨some c, _, e1, hstop _ c k _ (Nat.le_refl _) (put (hIx c) _ hx hl) (keepD V2 _ hd)⟩
    · have e1 := run_endLoop (P := P) hl (by rw [hR]; simp)
      rw [hR] at e1
      exact ⟨none, _, e1, hdone hz _ _ (Nat.le_refl _) (put hI _ hi hl) (keepD V2 _ hd)⟩
/-- An iterator that gives nothing. -/
theorem range_none {F : Fence} {n : Nat} {P : Program} {g : Operand} {ps : Array Tmp} {assign body : Code} {Q : Exit → Act → World → Prop} {a : Act} {w : World}
    (hro : F.round = none) (h1 : 1 ≤ n) {gf : Nat} {lb : Array Value} (hg : a.eval g = .func (.func gf) #[] lb) (hFg : F.fn gf) (eg : ∀ args w, (callFunc gf args).run P w = .ok (.enter gf args) w)
    (hseq : ∀ (l : Nat) (W : World), Below w.heap.size w W → CallsIn F (n - 1) P gf (#[.func (.yield l) #[] #[]] ++ lb) W fun e V => (∃ v, e = .returned v) ∧ V = W)
    (hdone : ∀ (D : Nat) (W : World), w.heap.size ≤ D → Below w.heap.size w W → W.heap[D]? = some (.deferred (some [])) → Q .normal { a with defers := { target := .collected D, args := #[] } :: a.defers } W) :
    (Code.rangeFunc g ps assign body).wpIn F n P Q a w := by
  refine wpIn_rangeFunc fun fn hfn => ?_
  rw [hro]
  obtain ⟨R, hR⟩ : ∃ R : Loop, R = { state := .ready, pending := none, fn, tmps := a.tmps, params := ps, assign, body, defers := w.heap.size } := ⟨_, rfl⟩
  have s1 : (w.alloc (.deferred (some []))).heap.size = w.heap.size + 1 := World.size_alloc _ _
  have lB := World.alloc_heap_new (w.alloc (.deferred (some []))) (.loop R)
  have dB : ((w.alloc (.deferred (some []))).alloc (.loop R)).heap[w.heap.size]? = some (.deferred (some [])) := (Below.heap_alloc _ _ _ (by rw [s1]; omega)).trans (World.alloc_heap_new w _)
  have bB : Below w.heap.size w ((w.alloc (.deferred (some []))).alloc (.loop R)) := ((Below.refl _ w).alloc (Nat.le_refl _) _).alloc (by rw [s1]; omega) _
  have ent := run_enterLoop_outer (P := P) (w := w) fn a.tmps ps assign body
  rw [← hR] at ent
  rw [s1] at lB
  generalize (w.alloc (.deferred (some []))).alloc (.loop R) = V1 at *
  have call := hseq (w.heap.size + 1) V1 bB
  refine ⟨w.heap.size + 1, [{ target := .collected w.heap.size, args := #[] }], V1, { target := .fn (.func gf) lb, args := #[.func (.yield (w.heap.size + 1)) #[] #[]] }, V1, gf, #[.func (.yield (w.heap.size + 1)) #[] #[]] ++ lb, V1, ?_, ?_, ?_, ?_, fun _ => h1, ?_⟩
  · exact ent
  · simp only [resolve, hg]
    simp [go_sem]
  · intro f' hf'
    simp [Target.leads] at hf'
    subst hf'
    exact hFg
  · simp [invoke, go_sem, eg]
  · refine call.mono ?_
    rintro e V2 ⟨⟨v, rfl⟩, rfl⟩
    have e1 := run_endLoop (P := P) lB (by rw [hR]; simp)
    rw [hR] at e1
    refine ⟨none, _, e1, hdone _ _ (Nat.le_refl _) (bB.trans (belowK_b (w := w) (Nat.le_refl _) V2 (w.heap.size + 1) _ _ (by omega) lB rfl rfl)) ((World.putObj_heap_other (by omega)).trans dB)⟩
/-- The same, where the thing is assigned to variable d. -/
theorem range_idx2 {F : Fence} {n : Nat} {P : Program} {g : Operand} {p : Tmp} (d : Tmp) {assign body : Code} {Q : Exit → Act → World → Prop} {a : Act} {w : World}
    (hro : F.round = none) (h1 : 1 ≤ n) {gf : Nat} {lb : Array Value} (hg : a.eval g = .func (.func gf) #[] lb) (hFg : F.fn gf) (eg : ∀ args w, (callFunc gf args).run P w = .ok (.enter gf args) w)
    {enc : Nat → Value} {n₀ : Nat} (hn0 : n₀ ≤ w.heap.size) {Z : Prop} (I : Nat → World → Prop) (Ix : Code → Nat → World → Prop) (hseq : GivesAt F (n - 1) P gf lb enc n₀ Z I w)
    (hI : OwnFrom w.heap.size I) (hIx : ∀ c, OwnFrom w.heap.size (Ix c)) (h0 : I 0 w)
    (hassign : ∀ (l k : Nat) (W : World) (K : Act → World → Prop), K { tmps := (a.tmps.setIfInBounds p (enc k)).setIfInBounds d (enc k), defers := [] } W → assign.wpIn (F.inRound l) (n - 1 - 1) P (Exit.then K (fun _ _ _ => False)) { tmps := a.tmps.setIfInBounds p (enc k), defers := [] } W)
    (hbody : ∀ (l k : Nat) (W : World), I k W → body.wpIn (F.inRound l) (n - 1 - 1) P (leftBy n₀ I Ix k W) { tmps := (a.tmps.setIfInBounds p (enc k)).setIfInBounds d (enc k), defers := [] } W)
    (hdone : Z → ∀ (D : Nat) (W : World), w.heap.size ≤ D → I 0 W → W.heap[D]? = some (.deferred (some [])) → Q .normal { a with defers := { target := .collected D, args := #[] } :: a.defers } W)
    (hstop : ∀ (D : Nat) (c : Code) (k : Nat) (W : World), w.heap.size ≤ D → Ix c k W → W.heap[D]? = some (.deferred (some [])) → c.wpIn F n P Q { a with defers := { target := .collected D, args := #[] } :: a.defers } W) :
    (Code.rangeFunc g #[p] assign body).wpIn F n P Q a w :=
  range_idx hro h1 hg hFg eg hn0 I Ix hseq hI hIx h0 _ hassign hbody hdone hstop
end Go.Proofs.YtimjmacjkefljaaDoor
