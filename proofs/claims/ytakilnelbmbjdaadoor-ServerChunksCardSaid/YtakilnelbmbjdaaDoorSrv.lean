/-
  Package server: a server's block; its small functions, walked.
-/
import Derived.Test.YtakilnelbmbjdaaDoorErr
import Derived.Test.YtakilnelbmbjdaaDoorMem
import Derived.BigRegion
import Derived.Handy
import Derived.BigQuiet
import Derived.Deep.QuietTactic
import Derived.Laws.EntriesVeiled
import Derived.Deep.RegionHeld3
namespace Go.Proofs.YtakilnelbmbjdaaDoor
open Go.RowKit
set_option linter.unusedVariables false

def I64 (x : Int) : Prop := -9223372036854775808 ≤ x ∧ x ≤ 9223372036854775807
/-- A server's value. -/
def srv (K Q T : Int) : Value := .agg #[.int .i64 K, .int .i64 Q, .int .i64 T]
/-- A legal server (not the whole). -/
def Legal (K Q T : Int) : Prop := 1 ≤ K ∧ K ≤ 3 ∧ 1 ≤ Q ∧ Q ≤ T ∧ T ≤ 256

set_option maxHeartbeats 800000 in
theorem check_ok (K Q T : Int) (w : World) (h : Legal K Q T) :
    Calls Tryd.prog 26 #[srv K Q T] w fun e w' => e = .returned .nilIface ∧ w' = w.alloc (.cells #[.int .i64 K, .int .i64 Q, .int .i64 T] 23) := by
  obtain ⟨h1, h2, h3, h4, h5⟩ := h
  unfold srv
  go_enter Tryd.func26, Tryd.ntmps26
  go_wp2_with fail
  go_ret
  exact ⟨rfl, rfl⟩
set_option maxHeartbeats 1600000 in
theorem check_no (K Q T : Int) (a : Addr) (w : World) (hS : Sen w 10 a) (hK : I64 K) (hQ : I64 Q) (hT : I64 T) (h : ¬ Legal K Q T) :
    Calls Tryd.prog 26 #[srv K Q T] w fun e w' => e = .returned (.iface 59 (.pointer (some a))) ∧ w' = w.alloc (.cells #[.int .i64 K, .int .i64 Q, .int .i64 T] 23) := by
  unfold Legal at h
  unfold I64 at hK hQ hT
  unfold srv
  have hc := ((hS.ext ((Ext.refl w).alloc (.cells #[.int .i64 K, .int .i64 Q, .int .i64 T] 23))).2.1)
  by_cases h1 : K < 1
  · clear h
    go_enter Tryd.func26, Tryd.ntmps26
    go_wp2_with fail
    go_ret
    exact ⟨rfl, rfl⟩
  by_cases h2 : K > 3
  · clear h
    go_enter Tryd.func26, Tryd.ntmps26
    go_wp2_with fail
    go_ret
    exact ⟨rfl, rfl⟩
  by_cases h3 : Q < 1
  · clear h
    go_enter Tryd.func26, Tryd.ntmps26
    go_wp2_with fail
    go_ret
    exact ⟨rfl, rfl⟩
  by_cases h4 : Q > T
  · clear h
    go_enter Tryd.func26, Tryd.ntmps26
    go_wp2_with fail
    go_ret
    exact ⟨rfl, rfl⟩
  have h5 : T > 256 := by omega
  clear h
  go_enter Tryd.func26, Tryd.ntmps26
  go_wp2_with fail
  go_ret
  exact ⟨rfl, rfl⟩

set_option maxHeartbeats 1600000 in
theorem rlegal8_yes (K Q T : Int) (w : World) (h : Legal K Q T) :
    Calls Tryd.prog 13 #[srv K Q T] w fun e w' => e = .returned (.bool true) ∧ Ext w w' := by
  unfold srv
  obtain ⟨h1, h2, h3, h4, h5⟩ := h
  by_cases e1 : K = 1
  · subst e1
    go_enter Tryd.func13, Tryd.ntmps13
    go_wp2_with fail
    go_returns
    exact ⟨rfl, (Ext.refl w).alloc _⟩
  · by_cases e2 : K = 2
    · subst e2
      go_enter Tryd.func13, Tryd.ntmps13
      go_wp2_with fail
      go_returns
      exact ⟨rfl, (Ext.refl w).alloc _⟩
    · obtain rfl : K = 3 := by omega
      go_enter Tryd.func13, Tryd.ntmps13
      go_wp2_with fail
      go_returns
      exact ⟨rfl, (Ext.refl w).alloc _⟩
set_option maxHeartbeats 1600000 in
theorem rlegal8_no (K Q T : Int) (w : World) (h : ¬ Legal K Q T) :
    Calls Tryd.prog 13 #[srv K Q T] w fun e w' => e = .returned (.bool false) ∧ Ext w w' := by
  unfold Legal at h
  unfold srv
  by_cases h0 : K < 1 ∨ K > 3
  · have k1 : (K == 1) = false := by simp; omega
    have k2 : (K == 2) = false := by simp; omega
    have k3 : (K == 3) = false := by simp; omega
    clear h h0
    go_enter Tryd.func13, Tryd.ntmps13
    go_wp2_with fail
    go_returns
    exact ⟨rfl, (Ext.refl w).alloc _⟩
  · have hk : K = 1 ∨ K = 2 ∨ K = 3 := by omega
    have hq : Q < 1 ∨ (1 ≤ Q ∧ Q > T) ∨ (1 ≤ Q ∧ Q ≤ T ∧ T > 256) := by omega
    clear h h0
    rcases hk with rfl | rfl | rfl <;> rcases hq with h | ⟨h1, h⟩ | ⟨h1, h2, h⟩
    all_goals
      go_enter Tryd.func13, Tryd.ntmps13
      go_wp2_with fail
      go_returns
      first
        | exact ⟨rfl, (Ext.refl w).alloc _⟩
        | (refine ⟨?_, (Ext.refl w).alloc _⟩; simp; omega)
/-- w' is w, but for new blocks and for writes to blocks that meet P. -/
structure Fr (w w' : World) (P : Nat → Prop) : Prop where
  os : w'.os = w.os
  tape : w'.tape = w.tape
  output : w'.output = w.output
  size : w.heap.size ≤ w'.heap.size
  block : ∀ k, k < w.heap.size → ¬ P k → w'.heap[k]? = w.heap[k]?
theorem Fr.refl (w : World) (P : Nat → Prop) : Fr w w P := ⟨rfl, rfl, rfl, Nat.le_refl _, fun _ _ _ => rfl⟩
theorem Fr.trans {a b c : World} {P Q : Nat → Prop} (h : Fr a b P) (k : Fr b c Q) (hQ : ∀ i, i < a.heap.size → Q i → P i) : Fr a c P :=
  ⟨k.os.trans h.os, k.tape.trans h.tape, k.output.trans h.output, Nat.le_trans h.size k.size, fun i hi hp => (k.block i (Nat.lt_of_lt_of_le hi h.size) (fun hq => hp (hQ i hi hq))).trans (h.block i hi hp)⟩
theorem Fr.of_ext {a b : World} (h : Ext a b) (P : Nat → Prop) : Fr a b P := ⟨h.os, h.tape, h.output, h.size, fun k hk _ => h.block k hk⟩
theorem Fr.ext {a b c : World} {P : Nat → Prop} (h : Ext a b) (k : Fr b c P) (hP : ∀ i, P i → a.heap.size ≤ i) : Ext a c :=
  ⟨k.os.trans h.os, k.tape.trans h.tape, k.output.trans h.output, Nat.le_trans h.size k.size, fun i hi => (k.block i (Nat.lt_of_lt_of_le hi h.size) (fun hp => by have := hP i hp; omega)).trans (h.block i hi)⟩
theorem Fr.store (w : World) (a : Addr) (v : Value) : Fr w (w.setCell a v) (· = a.block) := ⟨rfl, rfl, rfl, by simp [World.setCell], fun k _ hp => heap_setCell_other w a k v hp⟩


/-- A budget, its deadline, whether it is on. -/
structure Ck where
  (b d : Int)
  (on : Bool)
/-- What a server is: kind, budget, period, when it was made. -/
structure Kd where
  (k q t s : Int)
/-- The function that begins a tick. -/
def fnOf (k : Int) : Nat := if k = 1 then 27 else if k = 2 then 28 else 29
/-- A server at block g. -/
def Sv (w : World) (g : Nat) (x : Kd) (c : Ck) (wk : Bool) : Prop :=
  w.heap[g]? = some (.cells #[.int .i64 c.b, .int .i64 c.d, .bool c.on, .int .i64 x.k, .int .i64 x.q, .int .i64 x.t, .int .i64 x.s, .bool wk, .func (.func (fnOf x.k)) #[] #[]] 54 (0, 0))
section
variable {w w' : World} {g : Nat} {x : Kd} {c : Ck} {wk : Bool}
theorem Sv.lt (h : Sv w g x c wk) : g < w.heap.size := (Array.getElem?_eq_some_iff.1 h).1
theorem Sv.cells (h : Sv w g x c wk) : w.cell? ⟨g, 0, none⟩ = some (.int .i64 c.b) ∧ w.cell? ⟨g, 1, none⟩ = some (.int .i64 c.d) ∧ w.cell? ⟨g, 2, none⟩ = some (.bool c.on) ∧ w.cell? ⟨g, 3, none⟩ = some (.int .i64 x.k) ∧ w.cell? ⟨g, 4, none⟩ = some (.int .i64 x.q) ∧ w.cell? ⟨g, 5, none⟩ = some (.int .i64 x.t) ∧ w.cell? ⟨g, 6, none⟩ = some (.int .i64 x.s) ∧ w.cell? ⟨g, 7, none⟩ = some (.bool wk) ∧ w.cell? ⟨g, 8, none⟩ = some (.func (.func (fnOf x.k)) #[] #[]) := by
  refine ⟨?_, ?_, ?_, ?_, ?_, ?_, ?_, ?_, ?_⟩ <;> (rw [cell_of_row w g _ _ _ _ h]; rfl)
theorem Sv.free (h : Sv w g x c wk) (k : Nat) : w.frozen? ⟨g, k, none⟩ = false := by
  have h' := h
  unfold Sv at h'
  simp only [World.frozen?, h']
  simp
theorem Sv.ext (h : Sv w g x c wk) (hx : Ext w w') : Sv w' g x c wk := (hx.block g h.lt).trans h
theorem Sv.keep (h : Sv w g x c wk) {P : Nat → Prop} (hf : Fr w w' P) (hp : ¬ P g) : Sv w' g x c wk := (hf.block g h.lt hp).trans h
end
theorem othr {w : World} {p q : Addr} {u v : Value} (h : w.cell? p = some v) (hne : q ≠ p) : (w.setCell q u).cell? p = some v := (World.cell?_setCell_other w q p u hne).trans h
set_option maxHeartbeats 800000 in
theorem off_any (w : World) {g : Nat} {x : Kd} {c : Ck} {wk : Bool} (h : Sv w g x c wk) :
    Calls Tryd.prog 31 #[.pointer (some ⟨g, 0, none⟩)] w fun e w' => e = .returned (.tuple #[]) ∧ Sv w' g x ⟨0, c.d, false⟩ wk ∧ Fr w w' (· = g) := by
  have H := Lib.hid h
  obtain ⟨c0, c1, c2, c3, c4, c5, c6, c7, c8⟩ := h.cells
  have f0 := h.free 0
  have f2 := h.free 2
  have hl := h.lt
  clear h
  go_enter Tryd.func31, Tryd.ntmps31
  go_wp2_with fail
  go_returns
  refine ⟨rfl, heap_setCell_same _ g 2 _ _ _ (heap_setCell_same w g 0 _ _ _ H.out), (Fr.store w ⟨g, 0, none⟩ _).trans (Fr.store _ ⟨g, 2, none⟩ _) (fun _ _ h => h)⟩
set_option maxHeartbeats 1600000 in
theorem fill_any (w : World) {g : Nat} {x : Kd} {c : Ck} {wk : Bool} (now : Int) (h : Sv w g x c wk) (hn : 0 ≤ now ∧ now ≤ 2199023255552) (ht : 1 ≤ x.t ∧ x.t ≤ 256) :
    Calls Tryd.prog 33 #[.pointer (some ⟨g, 0, none⟩), .int .i64 now] w fun e w' => e = .returned (.tuple #[]) ∧ Sv w' g x ⟨x.q, now + x.t, true⟩ wk ∧ Fr w w' (· = g) := by
  have H := Lib.hid h
  obtain ⟨c0, c1, c2, c3, c4, c5, c6, c7, c8⟩ := h.cells
  have f0 := h.free 0
  have f1 := h.free 1
  have f2 := h.free 2
  have hl := h.lt
  have e1 : IntKind.i64.wrap (now + x.t) = now + x.t := by rw [IntKind.wrap_i64]; omega
  clear h
  go_enter Tryd.func33, Tryd.ntmps33
  go_wp2_with fail
  go_region_held3 (fun w' => w'.cell? ⟨g, 4, none⟩ = some (.int .i64 x.q) ∧ w'.cell? ⟨g, 5, none⟩ = some (.int .i64 x.t)) (first | assumption | (refine ⟨?_, ?_⟩ <;> first | assumption | (show World.cell? (World.setCell _ _ _) _ = _; exact othr (othr (othr (by assumption) (by simp)) (by simp)) (by simp)))) (fail)
  all_goals
    go_wp2_with fail
    go_returns
    exact ⟨rfl, heap_setCell_same _ g 2 _ _ _ (heap_setCell_same _ g 1 _ _ _ (heap_setCell_same w g 0 _ _ _ H.out)), (((Fr.store w ⟨g, 0, none⟩ _).trans (Fr.store _ ⟨g, 1, none⟩ _) (fun _ _ h => h)).trans (Fr.store _ ⟨g, 2, none⟩ _) (fun _ _ h => h)).trans (Fr.of_ext ((Ext.refl _).drew) (· = g)) (fun _ _ h => h)⟩
end Go.Proofs.YtakilnelbmbjdaaDoor
