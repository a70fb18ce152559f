/-
  The document's net in memory; find, walked.
-/
import Derived.Test.YteaainepnelehaaDoorNtOps3
import Derived.Test.YteaainepnelehaaDoorNtNth
namespace Go.Proofs.YteaainepnelehaaDoor
set_option maxRecDepth 100000
open Go.RowKit
set_option linter.unusedVariables false
def LetV.mcells (x : LetV) : List Value := [.int .i64 (x.N : Int), .int .i64 x.F, .int .i64 x.T, .string (str x.l)]
def LetV.mval (x : LetV) : Value := .agg #[.int .i64 (x.N : Int), .int .i64 x.F, .int .i64 x.T, .string (str x.l)]
def mrows (ls : List LetV) : List (List Value) := ls.map LetV.mcells
theorem mrows_even (ls : List LetV) : Even 4 (mrows ls) := by
  intro r hr
  obtain ⟨x, _, rfl⟩ := List.mem_map.1 hr
  rfl
theorem mrows_at {ls : List LetV} {k : Nat} {x : LetV} (h : ls[k]? = some x) : (mrows ls)[k]? = some x.mcells := by simp [mrows, h]
theorem mrows_len (ls : List LetV) : (mrows ls).length = ls.length := by simp [mrows]
theorem mrows_one (ls : List LetV) : ∀ u ∈ (mrows ls).flatten, u.oneCell' = true := by
  intro u hu
  obtain ⟨r, hr, hu⟩ := List.mem_flatten.1 hu
  obtain ⟨x, _, rfl⟩ := List.mem_map.1 hr
  simp only [LetV.mcells, List.mem_cons, List.not_mem_nil, or_false] at hu
  rcases hu with rfl | rfl | rfl | rfl <;> rfl
theorem eltMl : Elt Tryd.prog 28 38 4 40 (.agg #[.int .i64 0, .int .i64 0, .int .i64 0, .string ByteArray.empty]) := ⟨Tryd.underlying28, by kernel_rfl, rfl, by omega⟩
/-- The document's net at block g. -/
structure NMS (w : World) (B g : Nat) (A : Option Addr) (m c : Nat) (ls : List LetV) (last : Nat) : Prop where
  blk : w.heap[g]? = some (.cells #[.slice A m c, .int .i64 (last : Int)] 30 (0, 0))
  own : Own w B 38 4 A m c (mrows ls).flatten
  ag : ∀ a, A = some a → a.block ≠ g
  bg : B ≤ g
  few : m ≤ 4096
  low : last ≤ 4611686018427387904
section
variable {w w' : World} {B g m c last : Nat} {A : Option Addr} {ls : List LetV}
theorem NMS.lt (h : NMS w B g A m c ls last) : g < w.heap.size := block_lt h.blk
theorem NMS.len (h : NMS w B g A m c ls last) : ls.length = m := by
  have h1 := h.own.rd.1
  rw [(mrows_even ls).len, mrows_len] at h1
  omega
theorem NMS.c0 (h : NMS w B g A m c ls last) : w.cell? ⟨g, 0, none⟩ = some (.slice A m c) := by rw [block_cell h.blk]; rfl
theorem NMS.c1 (h : NMS w B g A m c ls last) : w.cell? ⟨g, 1, none⟩ = some (.int .i64 (last : Int)) := by rw [block_cell h.blk]; rfl
theorem NMS.fr (h : NMS w B g A m c ls last) {P : Nat → Prop} (hf : Fr w w' P) (hg : ¬ P g) (hA : ∀ a, A = some a → ¬ P a.block) : NMS w' B g A m c ls last :=
  ⟨(hf.block g h.lt hg).trans h.blk, hf.own h.own hA, h.ag, h.bg, h.few, h.low⟩
theorem NMS.ex (h : NMS w B g A m c ls last) (hx : Ext w w') : NMS w' B g A m c ls last := h.fr (Fr.of_ext hx (fun _ => False)) (fun h => h) (fun _ _ h => h)
theorem NMS.lcell (h : NMS w B g A m c ls last) {k k4 : Nat} {x : LetV} (hk : ls[k]? = some x) (h4 : k * 4 = k4) : ∃ S, A = some ⟨S, 0, none⟩ ∧ S < w.heap.size ∧ S ≠ g ∧
    w.cell? ⟨S, k4, none⟩ = some (.int .i64 (x.N : Int)) ∧ w.cell? ⟨S, k4 + 1, none⟩ = some (.int .i64 x.F) ∧ w.cell? ⟨S, k4 + 2, none⟩ = some (.int .i64 x.T) ∧ w.cell? ⟨S, k4 + 3, none⟩ = some (.string (str x.l)) := by
  have hkl : k < m := by have := h.len; have := (List.getElem?_eq_some_iff.1 hk).1; omega
  obtain ⟨S, rfl⟩ := h.own.head (by omega)
  refine ⟨S, rfl, h.own.lt, fun e => h.ag _ rfl e, ?_⟩
  exact ⟨h.own.rowAt (mrows_even ls) (mrows_at hk) h4 (i := 0) rfl, h.own.rowAt (mrows_even ls) (mrows_at hk) h4 (i := 1) rfl, h.own.rowAt (mrows_even ls) (mrows_at hk) h4 (i := 2) rfl, h.own.rowAt (mrows_even ls) (mrows_at hk) h4 (i := 3) rfl⟩
/-- The place of a letter, -1: it does not wait. -/
def findV (ls : List LetV) (y : Int) : Int := match ls.findIdx? (fun x => decide ((x.N : Int) = y)) with
  | some k => (k : Int)
  | none => -1
theorem findV_hit {ls : List LetV} {y : Int} {k : Nat} {x : LetV} (hk : ls[k]? = some x) (hy : (x.N : Int) = y) (hr : Rising ls) : findV ls y = (k : Int) := by
  obtain ⟨hl, rfl⟩ := List.getElem?_eq_some_iff.1 hk
  have e : ls.findIdx? (fun x => decide ((x.N : Int) = y)) = some k := List.findIdx?_eq_some_iff_getElem.2 ⟨hl, by simpa using hy, fun j hj => by
    have h1 := hr j k ls[j] ls[k] hj (List.getElem?_eq_getElem (by omega)) hk
    simp
    omega⟩
  unfold findV
  rw [e]
theorem findV_miss {ls : List LetV} {y : Int} (h : ∀ x ∈ ls, (x.N : Int) ≠ y) : findV ls y = -1 := by
  have e : ls.findIdx? (fun x => decide ((x.N : Int) = y)) = none := List.findIdx?_eq_none_iff.2 fun x hx => by simpa using h x hx
  unfold findV
  rw [e]
set_option maxHeartbeats 1600000 in
theorem mfind_any (h : NMS w B g A m c ls last) (y : Int) : Calls Tryd.prog 28 #[.pointer (some ⟨g, 0, none⟩), .int .i64 y] w fun e w' => e = .returned (.int .i64 (findV ls y)) ∧ Ext w w' := by
  have c0 := h.c0
  have hfew := h.few
  have HG := Lib.hid h
  have HL := Lib.hid h.len
  obtain ⟨R, hR⟩ : ∃ R, findV ls y = R := ⟨_, rfl⟩
  rw [hR]
  have HR := Lib.hid hR
  clear h hR
  go_enter Tryd.func28, Tryd.ntmps28
  go_wp2_with fail
  clear c0
  go_loopw [12] (fun v12 wr => ∃ k : Nat, v12 = .int .i64 (k : Int) ∧ k ≤ m ∧ Hid ((∀ q x, q < k → ls[q]? = some x → (x.N : Int) ≠ y) ∧ Ext w wr)) (fun v12 _ => m - (intOf v12).toNat)
  case atStart => exact ⟨0, rfl, by omega, (fun q x hq => by omega), Ext.refl w⟩
  case round =>
    obtain ⟨k, rfl, hk, HI⟩ := hrel
    by_cases hlt : k < m
    · obtain ⟨x, hx⟩ : ∃ x, ls[k]? = some x := ⟨ls[k]'(by have := HL.out; omega), List.getElem?_eq_getElem _⟩
      obtain ⟨k4, hk4⟩ : ∃ k4, k * 4 = k4 := ⟨_, rfl⟩
      obtain ⟨S, rfl, _, _, e0, e1, e2, e3⟩ := (HG.out.ex HI.out.2).lcell hx hk4
      have z0 : (0 : Int) ≤ k := by omega
      have z1 : (k : Int) < m := by omega
      have HX := Lib.hid hx
      have XB := Lib.hid (HI.out.2.trans ((Ext.refl wr).alloc (.cells #[.int .i64 (x.N : Int), .int .i64 x.F, .int .i64 x.T, .string (str x.l)] 38)))
      clear hx
      by_cases hy : (x.N : Int) = y
      · have hb : ((x.N : Int) == y) = true := by simpa using hy
        have HY := Lib.hid hy
        clear hy
        go_wp2_with fail
        go_returns
        refine ⟨?_, XB.out⟩
        have e := HR.out
        have e4 : findV ls y = (k : Int) := by
          obtain ⟨hl, hxx⟩ := List.getElem?_eq_some_iff.1 HX.out
          have e : ls.findIdx? (fun x => decide ((x.N : Int) = y)) = some k := List.findIdx?_eq_some_iff_getElem.2 ⟨hl, by rw [hxx]; simpa using HY.out, fun j hj => by
            have h1 := HI.out.1 j ls[j] hj (List.getElem?_eq_getElem (by omega))
            simpa using h1⟩
          unfold findV
          rw [e]
        rw [← e, e4]; rfl
      · have hb : ((x.N : Int) == y) = false := by simpa using hy
        have HY := Lib.hid hy
        clear hy
        go_wp2_with fail
        go_roundw
        case rel => exact ⟨k + 1, by go_num, by omega, (fun q z hq hz => by
          rcases Nat.lt_or_ge q k with h | h
          · exact HI.out.1 q z h hz
          · obtain rfl : q = k := by omega
            rw [HX.out] at hz
            injection hz with hz
            rw [← hz]; exact HY.out), XB.out⟩
        case measure => simp [intOf]; omega
    · obtain rfl : m = k := by omega
      go_wp2_with fail
      go_returns
      refine ⟨?_, HI.out.2⟩
      have e := HR.out
      rw [findV_miss (fun x hx => by
        obtain ⟨q, hq⟩ := List.getElem?_of_mem hx
        exact HI.out.1 q x (by have := (List.getElem?_eq_some_iff.1 hq).1; have := HL.out; omega) hq)] at e
      rw [← e]; rfl
end
end Go.Proofs.YteaainepnelehaaDoor
