/-
  Entries and ledgers in memory.
-/
import Derived.Test.YteflnnlihblpgaaDoorOrPut
namespace Go.Proofs.YteflnnlihblpgaaDoor
set_option maxRecDepth 100000
open Go.RowKit
set_option linter.unusedVariables false
/-- An entry as a value: its numbers, and the slice of its tasks. -/
structure EnS where
  e : En
  A : Option Addr
  n : Nat
  c : Nat
def EnS.vals (s : EnS) : List Value := [.int .i64 s.e.cl, .int .i64 s.e.nu, .int .i64 s.e.kd, .int .i64 s.e.id, .int .i64 s.e.sk, .int .i64 s.e.sq, .int .i64 s.e.st, .int .i64 s.e.pol, .slice s.A s.n s.c, .int .i64 s.e.at_]
/-- The entries. -/
def ents (ss : List EnS) : List En := ss.map EnS.e
def erows (ss : List EnS) : List (List Value) := ss.map EnS.vals
theorem erows_even (ss : List EnS) : Even 10 (erows ss) := by
  intro r hr
  obtain ⟨x, _, rfl⟩ := List.mem_map.1 hr
  rfl
theorem erows_at {ss : List EnS} {k : Nat} {x : EnS} (h : ss[k]? = some x) : (erows ss)[k]? = some x.vals := by simp [erows, h]
theorem erows_len (ss : List EnS) : (erows ss).length = ss.length := by simp [erows]
theorem ents_len (ss : List EnS) : (ents ss).length = ss.length := by simp [ents]
theorem ents_at {ss : List EnS} {k : Nat} {x : EnS} (h : ss[k]? = some x) : (ents ss)[k]? = some x.e := by simp [ents, h]
theorem erows_app (ss tt : List EnS) : (erows (ss ++ tt)).flatten = (erows ss).flatten ++ (erows tt).flatten := by simp [erows]
theorem vals_one (s : EnS) : ∀ u ∈ s.vals, u.oneCell' = true := by
  intro u hu
  simp only [EnS.vals, List.mem_cons, List.not_mem_nil, or_false] at hu
  rcases hu with rfl | rfl | rfl | rfl | rfl | rfl | rfl | rfl | rfl | rfl <;> rfl
theorem erows_one (ss : List EnS) : ∀ u ∈ (erows ss).flatten, u.oneCell' = true := by
  intro u hu
  obtain ⟨r, hr, hur⟩ := List.mem_flatten.1 hu
  obtain ⟨x, _, rfl⟩ := List.mem_map.1 hr
  exact vals_one x u hur
/-- Its tasks lie in memory. -/
structure EnS.Lies (s : EnS) (w : World) : Prop where
  rd : Rd w 4 s.A s.n (trows s.e.ts).flatten
  le : s.n ≤ 4398046511104
  cap : s.n ≤ s.c
theorem EnS.Lies.ext {s : EnS} {w w' : World} (h : s.Lies w) (hx : Ext w w') : s.Lies w' := ⟨h.rd.ext hx, h.le, h.cap⟩
theorem EnS.Lies.len {s : EnS} {w : World} (h : s.Lies w) : s.e.ts.length = s.n := rd_tlen h.rd
/-- A ledger in memory. -/
structure Led (w : World) (A : Option Addr) (n : Nat) (ss : List EnS) : Prop where
  rd : Rd w 10 A n (erows ss).flatten
  all : ∀ s ∈ ss, s.Lies w
section
variable {w w' : World} {A : Option Addr} {n : Nat} {ss : List EnS}
theorem Led.ext (h : Led w A n ss) (hx : Ext w w') : Led w' A n ss := ⟨h.rd.ext hx, fun s hs => (h.all s hs).ext hx⟩
theorem Led.len (h : Led w A n ss) : ss.length = n := by
  have h1 := h.rd.1
  rw [(erows_even ss).len, erows_len] at h1
  omega
theorem Led.nil_ : Led w none 0 [] := ⟨Rd.nil_, by simp⟩
/-- An entry's cells. -/
theorem Led.entry (h : Led w A n ss) {k k10 : Nat} {x : EnS} (hk : ss[k]? = some x) (h10 : k * 10 = k10) : ∃ ad, A = some ad ∧
    w.cell? (ad.add k10) = some (.int .i64 x.e.cl) ∧ w.cell? ⟨(ad.add k10).block, (ad.add k10).off + 1, none⟩ = some (.int .i64 x.e.nu) ∧ w.cell? ⟨(ad.add k10).block, (ad.add k10).off + 2, none⟩ = some (.int .i64 x.e.kd) ∧ w.cell? ⟨(ad.add k10).block, (ad.add k10).off + 3, none⟩ = some (.int .i64 x.e.id) ∧
    w.cell? ⟨(ad.add k10).block, (ad.add k10).off + 4, none⟩ = some (.int .i64 x.e.sk) ∧ w.cell? ⟨(ad.add k10).block, (ad.add k10).off + 5, none⟩ = some (.int .i64 x.e.sq) ∧ w.cell? ⟨(ad.add k10).block, (ad.add k10).off + 6, none⟩ = some (.int .i64 x.e.st) ∧ w.cell? ⟨(ad.add k10).block, (ad.add k10).off + 7, none⟩ = some (.int .i64 x.e.pol) ∧
    w.cell? ⟨(ad.add k10).block, (ad.add k10).off + 8, none⟩ = some (.slice x.A x.n x.c) ∧ w.cell? ⟨(ad.add k10).block, (ad.add k10).off + 9, none⟩ = some (.int .i64 x.e.at_) := by
  have hkl := (List.getElem?_eq_some_iff.1 hk).1
  have hl := h.len
  have h := h.rd
  obtain ⟨ad, rfl, _, _⟩ := h.2 (by omega)
  have k0 := h.rowAt (erows_even ss) (erows_at hk) h10 (i := 0) rfl
  have k1 := h.rowAt (erows_even ss) (erows_at hk) h10 (i := 1) rfl
  have k2 := h.rowAt (erows_even ss) (erows_at hk) h10 (i := 2) rfl
  have k3 := h.rowAt (erows_even ss) (erows_at hk) h10 (i := 3) rfl
  have k4 := h.rowAt (erows_even ss) (erows_at hk) h10 (i := 4) rfl
  have k5 := h.rowAt (erows_even ss) (erows_at hk) h10 (i := 5) rfl
  have k6 := h.rowAt (erows_even ss) (erows_at hk) h10 (i := 6) rfl
  have k7 := h.rowAt (erows_even ss) (erows_at hk) h10 (i := 7) rfl
  have k8 := h.rowAt (erows_even ss) (erows_at hk) h10 (i := 8) rfl
  have k9 := h.rowAt (erows_even ss) (erows_at hk) h10 (i := 9) rfl
  have lit : ∀ (a : Addr) {j : Nat}, j ≠ 0 → a.add j = ⟨a.block, a.off + j, none⟩ := fun a j hj => by unfold Addr.add; rw [if_neg hj]
  rw [Nat.add_zero] at k0
  rw [← add_add', lit _ (by omega)] at k1 k2 k3 k4 k5 k6 k7 k8 k9
  exact ⟨ad, rfl, k0, k1, k2, k3, k4, k5, k6, k7, k8, k9⟩
theorem Led.take_ (h : Led w A n ss) {k : Nat} (hk : k ≤ n) : Led w A k (ss.take k) := by
  refine ⟨?_, fun s hs => h.all s (List.mem_of_mem_take hs)⟩
  have h1 := h.rd.take_ hk
  rwa [(erows_even ss).take, show (erows ss).take k = erows (ss.take k) by simp [erows, List.map_take]] at h1
end
/-- Tasks of a call's own. -/
def EnS.Mine (s : EnS) (base : Nat) (w : World) : Prop := Own w base 47 4 s.A s.n s.c (trows s.e.ts).flatten
/-- A ledger of a call's own. -/
structure OLed (w : World) (base : Nat) (B : Option Addr) (m d : Nat) (ss : List EnS) : Prop where
  own : Own w base 29 10 B m d (erows ss).flatten
  all : ∀ s ∈ ss, s.Lies w ∧ s.Mine base w
section
variable {w w' : World} {base m d : Nat} {B : Option Addr} {ss : List EnS}
theorem OLed.led (h : OLed w base B m d ss) : Led w B m ss := ⟨h.own.rd, fun s hs => (h.all s hs).1⟩
theorem OLed.ext (h : OLed w base B m d ss) (hx : Ext w w') : OLed w' base B m d ss := ⟨h.own.ext hx, fun s hs => ⟨(h.all s hs).1.ext hx, ((h.all s hs).2 : Own ..).ext hx⟩⟩
theorem OLed.nil_ : OLed w base none 0 0 [] := ⟨Own.nil_, by simp⟩
theorem OLed.base_mono (h : OLed w base B m d ss) {b : Nat} (hb : b ≤ base) : OLed w b B m d ss := ⟨h.own.base_mono hb, fun s hs => ⟨(h.all s hs).1, ((h.all s hs).2 : Own ..).base_mono hb⟩⟩
end
theorem eltTk : Elt Tryd.prog 25 47 4 32 (.agg #[.int .i64 0, .int .i64 0, .int .i64 0, .int .i64 0]) := ⟨Tryd.underlying25, by kernel_rfl, rfl, by omega⟩
theorem eltEn : Elt Tryd.prog 22 29 10 96 (.agg #[.int .i64 0, .int .i64 0, .int .i64 0, .int .i64 0, .int .i64 0, .int .i64 0, .int .i64 0, .int .i64 0, .slice none 0 0, .int .i64 0]) := ⟨Tryd.underlying22, by kernel_rfl, rfl, by omega⟩
theorem run_slice_hi {P : Program} {t e : TypeId} {size bytes : Nat} {z : Value} (E : Elt P t e size bytes z) (A : Option Addr) (n c : Nat) (k : IntKind) (j : Nat) (h1 : j ≤ c) (w : World) :
    (Instr.slice t (.slice A n c) none (some (.int k (j : Int))) none).run P w = .ok (.slice A j c) w := by
  obtain ⟨i, hi, hz, hs, hby⟩ := info_parts E.info
  have e1 : (if c = 0 then A else A.map (·.add (0 * i.size))) = A := by
    split
    · rfl
    · cases A with
      | none => rfl
      | some a => simp [Addr.add]
  simp [Instr.slice, run_underlying E.under, Instr.sliceBounds, run_sliceBound, sizeOf, typeInfo, hi, h1] at e1 ⊢
  exact e1
end Go.Proofs.YteflnnlihblpgaaDoor
