/-
  WireReads: the first loop's round, in plain words.
-/
import Derived.Test.YtelnnlfbfbbnaaaDoorRdState
import Derived.Test.YtelnnlfbfbbnaaaDoorRdOpen
import Derived.Test.YtelnnlfbfbbnaaaDoorErrV
namespace Go.Proofs.YtelnnlfbfbbnaaaDoor
open Go.RowKit
set_option linter.unusedVariables false
theorem upd_zero (k : Nat) : upd (fun _ => 0) k 0 = fun _ => 0 := by funext j; simp [upd]
def extraR : List OpV := [opK 4 0 0, opK 4 1 0]
/-- Two cells of a block of the law's own. -/
def Two (w : World) (q : Nat) (t : TypeId) : Prop := ∃ u0 u1, w.heap[q]? = some (.cells #[u0, u1] t (0, 0))
theorem Two.lt {w : World} {q : Nat} {t : TypeId} (h : Two w q t) : q < w.heap.size := by obtain ⟨u0, u1, h⟩ := h; exact (Array.getElem?_eq_some_iff.1 h).1
theorem Two.fr {w w' : World} {q : Nat} {t : TypeId} {P : Nat → Prop} (h : Two w q t) (hf : Fr w w' P) (hp : ¬ P q) : Two w' q t := by obtain ⟨u0, u1, h⟩ := h; exact ⟨u0, u1, (hf.block q (Array.getElem?_eq_some_iff.1 h).1 hp).trans h⟩
theorem Two.ext {w w' : World} {q : Nat} {t : TypeId} (h : Two w q t) (hx : Ext w w') : Two w' q t := h.fr (Fr.of_ext hx (fun _ => False)) (fun h => h)
theorem Two.fz {w : World} {q : Nat} {t : TypeId} (h : Two w q t) (k : Nat) : w.frozen? ⟨q, k, none⟩ = false := by obtain ⟨u0, u1, h⟩ := h; simp only [World.frozen?, h]; simp
theorem Two.cell {w : World} {q : Nat} {t : TypeId} (h : Two w q t) {k : Nat} (hk : k < 2) : ∃ v, w.cell? ⟨q, k, none⟩ = some v := by
  obtain ⟨u0, u1, h⟩ := h
  obtain rfl | rfl : k = 0 ∨ k = 1 := by omega
  · exact ⟨u0, by rw [cell_of_row _ _ _ _ _ _ h]; rfl⟩
  · exact ⟨u1, by rw [cell_of_row _ _ _ _ _ _ h]; rfl⟩
theorem Two.put {w : World} {q : Nat} {t : TypeId} (h : Two w q t) {k : Nat} (hk : k < 2) (v : Value) : Two (w.setCell ⟨q, k, none⟩ v) q t := by
  obtain ⟨u0, u1, h⟩ := h
  obtain rfl | rfl : k = 0 ∨ k = 1 := by omega
  · exact ⟨v, u1, heap_setCell_same w q 0 _ _ _ h⟩
  · exact ⟨u0, v, heap_setCell_same w q 1 _ _ _ h⟩
/-- The first loop. -/
structure Rd1 (w wr : World) (D : RD) (t q2 : Nat) : Prop where
  inv : RInv w wr D t (fun _ => 0) (fun _ => 0)
  t5 : Two wr D.q5 46
  t6 : Two wr D.q6 48
  bx : wr.heap[q2]? = some (.cells #[.slice (D.B 0) (D.n 0) (D.d 0), .slice (D.B 1) (D.n 1) (D.d 1)] 35 (0, 0))
  q25 : q2 < D.q5
  q56 : D.q5 < D.q6
theorem box_cell {wr : World} {q2 : Nat} {B : Nat → Option Addr} {n d : Nat → Nat} (h : wr.heap[q2]? = some (.cells #[.slice (B 0) (n 0) (d 0), .slice (B 1) (n 1) (d 1)] 35 (0, 0))) {t : Nat} (ht : t < 2) : wr.cell? ⟨q2, t, none⟩ = some (.slice (B t) (n t) (d t)) := by
  rw [cell_of_row _ _ _ _ _ _ h]
  obtain rfl | rfl : t = 0 ∨ t = 1 := by omega
  · rfl
  · rfl
theorem heap_other {w : World} {q k b : Nat} (v : Value) (h : b ≠ q) : (w.setCell ⟨q, k, none⟩ v).heap[b]? = w.heap[b]? := heap_setCell_other w ⟨q, k, none⟩ b v h
theorem cell_same {w : World} {q k : Nat} {u : Value} (v : Value) (h : w.cell? ⟨q, k, none⟩ = some u) : (w.setCell ⟨q, k, none⟩ v).cell? ⟨q, k, none⟩ = some v := World.cell?_setCell_same _ _ _ h
theorem cell_other {w : World} {q k b j : Nat} (v : Value) (h : q ≠ b ∨ k ≠ j) : (w.setCell ⟨q, k, none⟩ v).cell? ⟨b, j, none⟩ = w.cell? ⟨b, j, none⟩ :=
  World.cell?_setCell_other _ _ _ _ (by intro e; injection e with e1 e2; rcases h with h | h; exact h e1; exact h e2)
theorem round1 {w wr Wb We : World} {D : RD} {t q2 gz gr c' : Nat} {A' : Option Addr} (I : Rd1 w wr D t q2) (hlt : t < 2) (hoz : Own Wb wr.heap.size 5 1 (some ⟨gz, 0, none⟩) (D.n t + 6) (D.n t + 6) (u8s (D.l t ++ marks6))) (hgz : gz = wr.heap.size) (xz : Ext wr Wb)
    (hgr : Wb.heap.size ≤ gr) (hrs : RdS We gr A' (D.n t) c' 0 (D.l t)) (hA' : ∀ a, A' = some a → Wb.heap.size ≤ a.block) (xe : Ext Wb We) (hr : Rd w 1 (D.B t) (D.n t) (u8s (D.l t))) (hnd : D.n t ≤ D.d t) {W3 W4 W5 : World} (e3 : W3 = We.setCell ⟨D.q5, t, none⟩ (.pointer (some ⟨gr, 0, none⟩)))
    (e4 : W4 = W3.alloc (.cells #[.slice (D.B t) (D.n t) (D.d t), .int .i64 0] 51)) (e5 : W5 = W4.setCell ⟨D.q6, t, none⟩ (.pointer (some ⟨W3.heap.size, 0, none⟩))) :
    (∃ v, We.cell? ⟨D.q5, t, none⟩ = some v) ∧ We.frozen? ⟨D.q5, t, none⟩ = false ∧ W3.cell? ⟨q2, t, none⟩ = some (.slice (D.B t) (D.n t) (D.d t)) ∧ (∃ v, W4.cell? ⟨D.q6, t, none⟩ = some v) ∧ W4.frozen? ⟨D.q6, t, none⟩ = false ∧
    W5.cell? ⟨D.q5, t, none⟩ = some (.pointer (some ⟨gr, 0, none⟩)) ∧ W5.cell? ⟨q2, t, none⟩ = some (.slice (D.B t) (D.n t) (D.d t)) ∧ Own W5 wr.heap.size 5 1 (some ⟨gz, 0, none⟩) (D.n t + 6) (D.n t + 6) (u8s (D.l t ++ marks6)) ∧ Ext w W5 ∧
    ∀ W7, Fr W5 W7 (· = gz) → Rd1 w W7 (D.more t gr W3.heap.size A' c') (t + 1) q2 := by
  have z1 := xz.size
  have z2 := xe.size
  have q5 := I.inv.q5
  have q6 := I.inv.q6
  have q25 := I.q25
  have q56 := I.q56
  have zw := I.inv.ext.size
  have hge := hrs.lt
  have hzb := hoz.lt
  have te5 := (I.t5.ext xz).ext xe
  have te6 := (I.t6.ext xz).ext xe
  have be := (xe.block q2 (by omega)).trans ((xz.block q2 (by omega)).trans I.bx)
  obtain ⟨v5, s5⟩ := te5.cell hlt
  obtain ⟨v6, s6⟩ := te6.cell hlt
  have sz3 : W3.heap.size = We.heap.size := by rw [e3]; exact World.size_setCell _ _ _
  have sz4 : W4.heap.size = We.heap.size + 1 := by rw [e4, World.size_alloc, sz3]
  have sz5 : W5.heap.size = We.heap.size + 1 := by rw [e5]; exact (World.size_setCell _ _ _).trans sz4
  have f3 : Fr We W3 (· = D.q5) := by rw [e3]; exact Fr.store We _ _
  have x4 : Ext W3 W4 := by rw [e4]; exact (Ext.refl W3).alloc _
  have f5 : Fr W4 W5 (· = D.q6) := by rw [e5]; exact Fr.store W4 _ _
  have n34 : W4.heap[W3.heap.size]? = some (.cells #[.slice (D.B t) (D.n t) (D.d t), .int .i64 0] 51 (0, 0)) := by rw [e4]; exact heap_alloc_new W3 _
  have b3 := (f3.block q2 (by omega) (by omega)).trans be
  have b4 := (x4.block q2 (by omega)).trans b3
  have b5 := (f5.block q2 (by omega) (by omega)).trans b4
  have t63 : Two W3 D.q6 48 := te6.fr f3 (by omega)
  have t64 := t63.ext x4
  have t65 : Two W5 D.q6 48 := by rw [e5]; exact t64.put hlt _
  have t53 : Two W3 D.q5 46 := by rw [e3]; exact te5.put hlt _
  have t54 := t53.ext x4
  have t55 : Two W5 D.q5 46 := t54.fr f5 (by omega)
  obtain ⟨v64, s64⟩ := t64.cell hlt
  have c53 : W3.cell? ⟨D.q5, t, none⟩ = some (.pointer (some ⟨gr, 0, none⟩)) := by rw [e3]; exact cell_same _ s5
  have c55 : W5.cell? ⟨D.q5, t, none⟩ = some (.pointer (some ⟨gr, 0, none⟩)) := by
    rw [e5, cell_other _ (.inl (by omega))]
    exact (x4.cell (p := ⟨D.q5, t, none⟩) (by show D.q5 < _; omega)).trans c53
  have c65 : W5.cell? ⟨D.q6, t, none⟩ = some (.pointer (some ⟨W3.heap.size, 0, none⟩)) := by rw [e5]; exact cell_same _ s64
  have F5 : Fr We W5 (fun b => b = D.q5 ∨ b = D.q6) := ((f3.mono (fun i _ h => .inl h)).trans (Fr.of_ext x4 (fun b => b = D.q5 ∨ b = D.q6)) (fun _ _ h => h)).trans f5 (fun i _ h => .inr h)
  have X5 : Ext w We := (I.inv.ext.trans xz).trans xe
  have al : 0 < D.n t → ∀ a, A' = some a → a.block < We.heap.size := fun h0 a ha => by
    obtain ⟨ad, e, h2, _⟩ := hrs.rd.2 h0
    rw [ha] at e
    injection e with e
    subst e
    exact h2
  refine ⟨⟨v5, s5⟩, te5.fz t, box_cell b3 hlt, ⟨v64, s64⟩, t64.fz t, c55, box_cell b5 hlt, F5.own (hoz.ext xe) (fun a ha h => ?_), Fr.ext X5 F5 (fun i hi => by rcases hi with h | h <;> omega), fun W7 f7 => ?_⟩
  · injection ha with ha
    subst ha
    have h : gz = D.q5 ∨ gz = D.q6 := h
    omega
  · have F7 : Fr We W7 (fun b => b = D.q5 ∨ b = D.q6 ∨ b = gz) := (F5.mono (fun i _ h => h.elim .inl (fun h => .inr (.inl h)))).trans f7 (fun i _ h => .inr (.inr h))
    have F0 : Fr wr W7 (fun b => b = D.q5 ∨ b = D.q6) := (Fr.of_ext (xz.trans xe) (fun b => b = D.q5 ∨ b = D.q6)).trans F7 (fun i hi h => by
      rcases h with h | h | h
      · exact .inl h
      · exact .inr h
      · omega)
    have k5 : ∀ j, W7.cell? ⟨D.q5, j, none⟩ = W5.cell? ⟨D.q5, j, none⟩ := fun j => World.cell?_of_block (f7.block D.q5 (by omega) (by omega))
    have k6 : ∀ j, W7.cell? ⟨D.q6, j, none⟩ = W5.cell? ⟨D.q6, j, none⟩ := fun j => World.cell?_of_block (f7.block D.q6 (by omega) (by omega))
    have h5 : ∀ k, k < t → W5.cell? ⟨D.q5, k, none⟩ = wr.cell? ⟨D.q5, k, none⟩ := fun k hk => by
      rw [e5, cell_other _ (.inl (by omega))]
      refine (x4.cell (p := ⟨D.q5, k, none⟩) (by show D.q5 < _; omega)).trans ?_
      rw [e3, cell_other _ (.inr (by omega))]
      exact (xe.cell (p := ⟨D.q5, k, none⟩) (by show D.q5 < _; omega)).trans (xz.cell (p := ⟨D.q5, k, none⟩) q5.2)
    have h6 : ∀ k, k < t → W5.cell? ⟨D.q6, k, none⟩ = wr.cell? ⟨D.q6, k, none⟩ := fun k hk => by
      rw [e5, cell_other _ (.inr (by omega))]
      refine (x4.cell (p := ⟨D.q6, k, none⟩) (by show D.q6 < _; omega)).trans ?_
      rw [e3, cell_other _ (.inl (by omega))]
      exact (xe.cell (p := ⟨D.q6, k, none⟩) (by show D.q6 < _; omega)).trans (xz.cell (p := ⟨D.q6, k, none⟩) q6.2)
    have hB : 0 < D.n t → ∀ b, D.B t = some b → b.block < w.heap.size := fun h0 b hb => by
      obtain ⟨ad, e, h2, _⟩ := hr.2 h0
      rw [hb] at e
      injection e with e
      subst e
      exact h2
    have hm5 : RmS W7 W3.heap.size (D.B t) (D.n t) (D.d t) 0 (D.l t) :=
      ⟨(f7.block _ (by omega) (by omega)).trans ((f5.block _ (by omega) (by omega)).trans n34), Rd.fr0 F0 (hr.ext I.inv.ext) (fun h0 b hb => by have := hB h0 b hb; omega), hnd, fun h0 b hb => by have := hB h0 b hb; omega, Nat.zero_le _, hrs.byte, hrs.small⟩
    have hs5 : RdS W7 gr A' (D.n t) c' 0 (D.l t) := hrs.frm F7 (by omega) (fun h0 a ha => by have := hA' a ha; omega)
    refine ⟨?_, t55.fr f7 (by show ¬ D.q5 = gz; omega), t65.fr f7 (by show ¬ D.q6 = gz; omega), (f7.block q2 (by omega) (by omega)).trans b5, q25, q56⟩
    have := I.inv.more hs5 hm5 F0 (fun i h => h) ((k5 t).trans c55) ((k6 t).trans c65) (fun k hk => (k5 k).trans (h5 k hk)) (fun k hk => (k6 k).trans (h6 k hk)) (by omega) (by omega) (by omega) (fun h0 a ha => ⟨by have := hA' a ha; omega, fun h => by have := al h0 a ha; omega⟩) hB
    rw [upd_zero] at this
    exact this
/-- The state of the second loop: the readers, the calls, the box of the call at hand. -/
structure RSt (w0 w : World) (D : RD) (s m : Nat → Nat) (S M cap : Nat) (os : List OpV) (ob : Nat) (o : OpV) : Prop where
  inv : RInv w0 w D 2 s m
  own : Own w w0.heap.size 38 4 (some ⟨S, 0, none⟩) M cap (opCells os)
  far : ∀ k, k < 2 → S ≠ D.g k ∧ S ≠ D.h k
  bx : w.heap[ob]? = some (.cells #[.int .i64 o.K, .int .i64 o.Q, .int .i64 o.N, .slice o.A o.n o.c] 38 (0, 0))
  bfar : ∀ k, k < 2 → ob ≠ D.g k ∧ ob ≠ D.h k
section
variable {w0 w w' W : World} {D : RD} {s m s' m' : Nat → Nat} {S M cap ob : Nat} {os : List OpV} {o : OpV}
theorem RSt.lt (h : RSt w0 w D s m S M cap os ob o) : ob < w.heap.size := (Array.getElem?_eq_some_iff.1 h.bx).1
theorem RSt.ex (h : RSt w0 w D s m S M cap os ob o) (hx : Ext w w') : RSt w0 w' D s m S M cap os ob o := ⟨h.inv.ex hx, h.own.ext hx, h.far, (hx.block ob h.lt).trans h.bx, h.bfar⟩
theorem RSt.b2 (h : RSt w0 w D s m S M cap os ob o) : w.cell? ⟨ob, 2, none⟩ = some (.int .i64 o.N) := by rw [cell_of_row _ _ _ _ _ _ h.bx]; rfl
theorem RSt.b0 (h : RSt w0 w D s m S M cap os ob o) : w.cell? ⟨ob, 0, none⟩ = some (.int .i64 o.K) := by rw [cell_of_row _ _ _ _ _ _ h.bx]; rfl
theorem RSt.rcall (h : RSt w0 w D s m S M cap os ob o) {k p : Nat} (hk : k < 2) (hr : RdS w' (D.g k) (D.A k) (D.n k) (D.c k) p (D.l k)) (hf : Fr w w' (· = D.g k)) : RSt w0 w' D (upd s k p) m S M cap os ob o :=
  ⟨h.inv.rcall hk hr hf, hf.own h.own (fun a ha e => by injection ha with ha; subst ha; exact (h.far k hk).1 e), h.far, (hf.block ob h.lt (fun e => (h.bfar k hk).1 e)).trans h.bx, h.bfar⟩
theorem RSt.mcall (h : RSt w0 w D s m S M cap os ob o) {k p : Nat} (hk : k < 2) (hr : RmS w' (D.h k) (D.B k) (D.n k) (D.d k) p (D.l k)) (hf : Fr w w' (· = D.h k)) : RSt w0 w' D s (upd m k p) S M cap os ob o :=
  ⟨h.inv.mcall hk hr hf, hf.own h.own (fun a ha e => by injection ha with ha; subst ha; exact (h.far k hk).2 e), h.far, (hf.block ob h.lt (fun e => (h.bfar k hk).2 e)).trans h.bx, h.bfar⟩
/-- What writes above an elder state's world leaves the state. -/
theorem RSt.off (hW : RSt w0 W D s' m' S M cap os ob o) (h : RSt w0 w D s m S M cap os ob o) {P : Nat → Prop} (hf : Fr w w' P) (hP : ∀ i, P i → W.heap.size ≤ i) : RSt w0 w' D s m S M cap os ob o := by
  have lo : ∀ i, i < W.heap.size → ¬ P i := fun i hi hp => by have := hP i hp; omega
  have x0 := hW.inv.ext.size
  have hB : ∀ k, k < 2 → 0 < D.n k → ∀ b, D.B k = some b → b.block < W.heap.size := fun k hk h0 b hb => Nat.lt_of_lt_of_le (hW.inv.Bl k hk h0 b hb) x0
  have hA : ∀ k, k < 2 → 0 < D.n k → ∀ a, D.A k = some a → a.block < W.heap.size := fun k hk h0 a ha => by
    obtain ⟨ad, e, h2, _⟩ := (hW.inv.rs k hk).rd.2 h0
    rw [ha] at e
    injection e with e
    subst e
    exact h2
  exact ⟨⟨Fr.ext h.inv.ext hf (fun i hi => Nat.le_trans x0 (hP i hi)), fun k hk => (h.inv.rs k hk).frm hf (lo _ (hW.inv.rs k hk).lt) (fun h0 a ha => lo _ (hA k hk h0 a ha)), fun k hk => (h.inv.rm k hk).frm hf (lo _ (hW.inv.rm k hk).lt) (fun h0 a ha => lo _ (hB k hk h0 a ha)),
      fun k hk => (World.cell?_of_block (hf.block D.q5 h.inv.q5.2 (lo _ hW.inv.q5.2))).trans (h.inv.c5 k hk), fun k hk => (World.cell?_of_block (hf.block D.q6 h.inv.q6.2 (lo _ hW.inv.q6.2))).trans (h.inv.c6 k hk),
      ⟨h.inv.q5.1, Nat.lt_of_lt_of_le h.inv.q5.2 hf.size⟩, ⟨h.inv.q6.1, Nat.lt_of_lt_of_le h.inv.q6.2 hf.size⟩, h.inv.gq, h.inv.gh, h.inv.gg, h.inv.Aq, h.inv.Ah, h.inv.Bl⟩,
    hf.own h.own (fun a ha e => by injection ha with ha; subst ha; exact lo _ hW.own.lt e), h.far, (hf.block ob h.lt (lo _ hW.lt)).trans h.bx, h.bfar⟩
end
end Go.Proofs.YtelnnlfbfbbnaaaDoor
