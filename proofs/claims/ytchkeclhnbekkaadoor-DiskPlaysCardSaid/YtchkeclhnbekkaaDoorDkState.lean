/-
  A disk in memory.
-/
import Derived.Test.YtchkeclhnbekkaaDoorDkPlain
import Derived.Test.YtchkeclhnbekkaaDoorBlk
import Derived.Test.YtchkeclhnbekkaaDoorMapV
import Derived.Test.YtchkeclhnbekkaaDoorErr
import Derived.Test.YtchkeclhnbekkaaDoorStep
import Derived.Test.YtchkeclhnbekkaaDoorOrd
namespace Go.Proofs.YtchkeclhnbekkaaDoor
set_option maxRecDepth 100000
open Go.RowKit Go.Maps
set_option linter.unusedVariables false
/-- The cells of a write. -/
def wrow (x : WrV) : List Value := .int .i64 x.i :: u8s x.s
def wrows (l : List WrV) : List (List Value) := l.map wrow
theorem wrow_len {x : WrV} (h : IsSec x.s) : (wrow x).length = 65 := by simp [wrow, u8s_len, h.1]
theorem wrows_even {l : List WrV} (h : ∀ x ∈ l, IsSec x.s) : Even 65 (wrows l) := by
  intro r hr
  obtain ⟨x, hx, rfl⟩ := List.mem_map.1 hr
  exact wrow_len (h x hx)
theorem wrows_at {l : List WrV} {k : Nat} {x : WrV} (h : l[k]? = some x) : (wrows l)[k]? = some (wrow x) := by simp [wrows, h]
theorem wrows_len (l : List WrV) : (wrows l).length = l.length := by simp [wrows]
theorem wrow_one (x : WrV) : ∀ u ∈ wrow x, u.oneCell' = true := by
  intro u hu
  rcases List.mem_cons.1 hu with rfl | hu
  · rfl
  · exact u8s_one _ u hu
theorem wrow_all (x : WrV) : (wrow x).toArray.all (·.oneCell') = true := all_oneCell_toArray (wrow_one x)
/-- A sector as a value. -/
def secV (s : List Nat) : Value := .agg (u8s s).toArray
abbrev tSec : TypeId := 61
abbrev tWr : TypeId := 63
theorem zeroSec : ∀ w, (zeroValue 61).run Tryd.prog w = .ok (.agg (u8s z64).toArray) w := fun w => by kernel_rfl
theorem zeroWr : ∀ w, (zeroValue 63).run Tryd.prog w = .ok (.agg (wrow ⟨0, z64⟩).toArray) w := fun w => by kernel_rfl
theorem infoSec : (Tryd.prog.info? 61).map (·.size) = some 64 := by kernel_rfl
theorem infoWr : (Tryd.prog.info? 63).map (·.size) = some 65 := by kernel_rfl
theorem sec_size {s : List Nat} (h : IsSec s) : (u8s s).toArray.size = 64 := by simp [u8s_len, h.1]
theorem wrow_size {x : WrV} (h : IsSec x.s) : (wrow x).toArray.size = 65 := by simp [wrow_len h]
theorem eltWr : Elt Tryd.prog 56 63 65 72 (.agg (wrow ⟨0, z64⟩).toArray) := ⟨Tryd.underlying56, by kernel_rfl, by kernel_rfl, by omega⟩
/-- A disk at block g. -/
structure DS (w : World) (g b : Nat) (A : Option Addr) (m c : Nat) (S : Int) (f : Int → List Nat) (l : List WrV) (wr : Int) (lost : Bool) (Z : Nat) : Prop where
  blk : w.heap[g]? = some (.cells #[.int .i64 S, .map (some b), .slice A m c, .int .i64 wr, .bool lost] 58 (0, 0))
  map : ∃ h n, MapI Tryd.prog 3 w b n h ∧ n ≤ Z ∧ ∀ x, (h x).getD (secV z64) = secV (f x)
  own : Own w 0 63 65 A m c (wrows l).flatten
  sec : ∀ y, IsSec (f y)
  lsec : ∀ x ∈ l, IsSec x.s
  lrng : ∀ x ∈ l, 0 ≤ x.i ∧ x.i < S
  srng : 1 ≤ S ∧ S ≤ 1024
  bg : b ≠ g
  ag : ∀ a, A = some a → a.block ≠ g ∧ a.block ≠ b
section
variable {w w' : World} {g b m c Z : Nat} {A : Option Addr} {S wr : Int} {f : Int → List Nat} {l : List WrV} {lost : Bool}
theorem DS.lt (h : DS w g b A m c S f l wr lost Z) : g < w.heap.size ∧ b < w.heap.size := by
  obtain ⟨h1, n, h2, _⟩ := h.map
  exact ⟨block_lt h.blk, h2.lt⟩
theorem DS.len (h : DS w g b A m c S f l wr lost Z) : l.length = m := by
  have h1 := h.own.rd.1
  rw [(wrows_even h.lsec).len, wrows_len] at h1
  omega
theorem DS.fr (h : DS w g b A m c S f l wr lost Z) {P : Nat → Prop} (hf : Fr w w' P) (hg : ¬ P g) (hb : ¬ P b) (hA : ∀ a, A = some a → ¬ P a.block) : DS w' g b A m c S f l wr lost Z := by
  obtain ⟨h1, n, h2, h3⟩ := h.map
  exact ⟨(hf.block g h.lt.1 hg).trans h.blk, ⟨h1, n, h2.fr hf hb, h3⟩, hf.own h.own hA, h.sec, h.lsec, h.lrng, h.srng, h.bg, h.ag⟩
theorem DS.ex (h : DS w g b A m c S f l wr lost Z) (hx : Ext w w') : DS w' g b A m c S f l wr lost Z := h.fr (Fr.of_ext hx (fun _ => False)) (fun h => h) (fun h => h) (fun _ _ h => h)
theorem DS.cell (h : DS w g b A m c S f l wr lost Z) {k k65 : Nat} {x : WrV} (hk : l[k]? = some x) (h4 : k * 65 = k65) : ∃ T, A = some ⟨T, 0, none⟩ ∧ T < w.heap.size ∧ T ≠ g ∧ T ≠ b ∧ w.rangeAt T k65 (wrow x) := by
  have hkl : k < m := by have := h.len; have := (List.getElem?_eq_some_iff.1 hk).1; omega
  obtain ⟨T, rfl⟩ := h.own.head (by omega)
  refine ⟨T, rfl, h.own.lt, (h.ag _ rfl).1, (h.ag _ rfl).2, fun j v hv => ?_⟩
  exact h.own.rowAt (wrows_even h.lsec) (wrows_at hk) h4 (i := j) hv
theorem DS.look (h : DS w g b A m c S f l wr lost Z) {x : Int} (hx : -9223372036854775808 ≤ x ∧ x ≤ 9223372036854775807) : (Instr.lookup 55 (.map (some b)) (.int .i64 x) false).run Tryd.prog w = .ok (secV (f x)) w := by
  obtain ⟨h1, n, h2, _, h3⟩ := h.map
  rw [← h3 x]
  exact h2.at_ Tryd.underlying55 Tryd.underlying3 (zeroSec w) hx
/-- A write as a variable of its own: what its load and its store ask, and what they leave. -/
structure BoxW (w : World) (x : WrV) : Prop where
  i1 : (Tryd.prog.info? 63).map (·.size) = some (wrow x).length
  i2 : (Tryd.prog.info? 63).map (·.size) = some (wrow x).toArray.size
  th : (w.alloc (.cells (wrow ⟨0, z64⟩).toArray 63)).there w.heap.size 0 (wrow x).toArray.size
  al : (wrow x).toArray.all (·.oneCell') = true
  un : Tryd.prog.underlying 63 = some (.struct #[{ name := "at", type := 3, offset := 0, embedded := false, tag := "", pkgPath := "almoner/disk", byteOffset := 0 }, { name := "data", type := 61, offset := 1, embedded := false, tag := "", pkgPath := "almoner/disk", byteOffset := 8 }])
  blk : ((w.alloc (.cells (wrow ⟨0, z64⟩).toArray 63)).setCells w.heap.size 0 (wrow x)).heap[w.heap.size]? = some (.cells (wrow x).toArray 63 (0, 0))
  ext : Ext w ((w.alloc (.cells (wrow ⟨0, z64⟩).toArray 63)).setCells w.heap.size 0 (wrow x))
theorem boxW (w : World) {x : WrV} (hx : IsSec x.s) : BoxW w x := by
  have b2 := heap_alloc_new w (.cells (wrow ⟨0, z64⟩).toArray 63)
  have hz := wrow_size (x := ⟨0, z64⟩) isSec_z64
  have hl := wrow_len hx
  exact ⟨by rw [hl]; exact infoWr, by rw [wrow_size hx]; exact infoWr, there_block b2 (by rw [wrow_size hx, hz]; omega), wrow_all x, Tryd.underlying63, set_block b2 (by rw [hl, hz]),
    Fr.ext ((Ext.refl w).alloc _) (Fr.setCells (g := w.heap.size) (wrow x) 0 _) (fun i hi => by rw [hi]; exact Nat.le_refl _)⟩
end
end Go.Proofs.YtchkeclhnbekkaaDoor
