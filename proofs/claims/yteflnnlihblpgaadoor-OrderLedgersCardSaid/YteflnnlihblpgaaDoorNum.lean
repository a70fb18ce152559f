/-
  Package almonernum: Num, walked: the number of an error.
-/
import Derived.Test.YteflnnlihblpgaaDoorErr
import Derived.Test.YteflnnlihblpgaaDoorMem
import Derived.Handy
namespace Go.Proofs.YteflnnlihblpgaaDoor
set_option maxRecDepth 100000
open Go.RowKit
set_option linter.unusedVariables false

/-- The errors' variables in the document's order. -/
def gsN : List Nat := [5, 6, 2, 3, 0, 7, 4, 8, 9, 10, 11, 12, 13, 14, 15, 1]
/-- Each holds an error of its own. -/
structure Errs (w : World) (E : Nat → Addr) : Prop where
  sen : ∀ g ∈ gsN, Sen w g (E g)
  dis : ∀ g ∈ gsN, ∀ h ∈ gsN, g ≠ h → E g ≠ E h
theorem Errs.ext {w w' : World} {E : Nat → Addr} (h : Errs w E) (hx : Ext w w') : Errs w' E := ⟨fun g hg => (h.sen g hg).ext hx, h.dis⟩
theorem errs_mk {l : List (String × List UInt8 × Nat)} {W : World} {E : Nat → Addr} (hE : ∀ x ∈ l, Sen W x.2.2 (E x.2.2)) (hD : ∀ x ∈ l, ∀ y ∈ l, x.2.2 ≠ y.2.2 → E x.2.2 ≠ E y.2.2)
    (hl : ∀ g ∈ gsN, g ∈ l.map fun x => x.2.2) : Errs W E := by
  refine ⟨fun g hg => ?_, fun g hg h hh hne => ?_⟩
  · obtain ⟨x, hx, rfl⟩ := List.mem_map.1 (hl g hg)
    exact hE x hx
  · obtain ⟨x, hx, rfl⟩ := List.mem_map.1 (hl g hg)
    obtain ⟨y, hy, rfl⟩ := List.mem_map.1 (hl h hh)
    exact hD x hx y hy hne
theorem gsN_nodup : gsN.Nodup := by decide
def errVals (E : Nat → Addr) : List Value := gsN.map fun g => Value.iface 149 (.pointer (some (E g)))

set_option maxHeartbeats 800000 in
theorem num_nil (w : World) : Calls Tryd.prog 17 #[.nilIface] w fun e w' => e = .returned (.int .i64 0) ∧ Ext w w' := by
  go_enter Tryd.func17, Tryd.ntmps17
  go_wp2_with fail
  go_returns
  exact ⟨rfl, Ext.refl w⟩
set_option maxHeartbeats 1600000 in
theorem num_at (E : Nat → Addr) (i g : Nat) (w : World) (hE : Errs w E) (hi : gsN[i]? = some g) :
    Calls Tryd.prog 17 #[.iface 149 (.pointer (some (E g)))] w fun e w' => e = .returned (.int .i64 ((i : Int) + 1)) ∧ Ext w w' := by
  have hi16 : i < 16 := by
    have := (List.getElem?_eq_some_iff.1 hi).1
    exact this
  have c0 := (hE.sen 5 (by decide)).2.1
  have c1 := (hE.sen 6 (by decide)).2.1
  have c2 := (hE.sen 2 (by decide)).2.1
  have c3 := (hE.sen 3 (by decide)).2.1
  have c4 := (hE.sen 0 (by decide)).2.1
  have c5 := (hE.sen 7 (by decide)).2.1
  have c6 := (hE.sen 4 (by decide)).2.1
  have c7 := (hE.sen 8 (by decide)).2.1
  have c8 := (hE.sen 9 (by decide)).2.1
  have c9 := (hE.sen 10 (by decide)).2.1
  have c10 := (hE.sen 11 (by decide)).2.1
  have c11 := (hE.sen 12 (by decide)).2.1
  have c12 := (hE.sen 13 (by decide)).2.1
  have c13 := (hE.sen 14 (by decide)).2.1
  have c14 := (hE.sen 15 (by decide)).2.1
  have c15 := (hE.sen 1 (by decide)).2.1
  have hxs : ∀ (k h : Nat), gsN[k]? = some h → (errVals E)[k]? = some (Value.iface 149 (.pointer (some (E h)))) := by
    intro k h hk
    unfold errVals; rw [List.getElem?_map, hk]; rfl
  have HI := Lib.hid (And.intro hi (And.intro hxs hE))
  clear hi hxs hE
  go_enter Tryd.func17, Tryd.ntmps17
  go_wp2_with fail
  have hx : Ext w (w.alloc (.cells #[.iface 149 (.pointer (some (E 5))), .iface 149 (.pointer (some (E 6))), .iface 149 (.pointer (some (E 2))), .iface 149 (.pointer (some (E 3))), .iface 149 (.pointer (some (E 0))), .iface 149 (.pointer (some (E 7))), .iface 149 (.pointer (some (E 4))), .iface 149 (.pointer (some (E 8))), .iface 149 (.pointer (some (E 9))), .iface 149 (.pointer (some (E 10))), .iface 149 (.pointer (some (E 11))), .iface 149 (.pointer (some (E 12))), .iface 149 (.pointer (some (E 13))), .iface 149 (.pointer (some (E 14))), .iface 149 (.pointer (some (E 15))), .iface 149 (.pointer (some (E 1)))] 33)) := (Ext.refl w).alloc _
  have hrd : Rd (w.alloc (.cells #[.iface 149 (.pointer (some (E 5))), .iface 149 (.pointer (some (E 6))), .iface 149 (.pointer (some (E 2))), .iface 149 (.pointer (some (E 3))), .iface 149 (.pointer (some (E 0))), .iface 149 (.pointer (some (E 7))), .iface 149 (.pointer (some (E 4))), .iface 149 (.pointer (some (E 8))), .iface 149 (.pointer (some (E 9))), .iface 149 (.pointer (some (E 10))), .iface 149 (.pointer (some (E 11))), .iface 149 (.pointer (some (E 12))), .iface 149 (.pointer (some (E 13))), .iface 149 (.pointer (some (E 14))), .iface 149 (.pointer (some (E 15))), .iface 149 (.pointer (some (E 1)))] 33)) 1 (some ⟨w.heap.size, 0, none⟩) 16 (errVals E) := Rd.block (g := w.heap.size) (heap_alloc_new w _) rfl ⟨[], rfl⟩
  clear c0 c1 c2 c3 c4 c5 c6 c7 c8 c9 c10 c11 c12 c13 c14 c15
  generalize w.alloc (.cells #[.iface 149 (.pointer (some (E 5))), .iface 149 (.pointer (some (E 6))), .iface 149 (.pointer (some (E 2))), .iface 149 (.pointer (some (E 3))), .iface 149 (.pointer (some (E 0))), .iface 149 (.pointer (some (E 7))), .iface 149 (.pointer (some (E 4))), .iface 149 (.pointer (some (E 8))), .iface 149 (.pointer (some (E 9))), .iface 149 (.pointer (some (E 10))), .iface 149 (.pointer (some (E 11))), .iface 149 (.pointer (some (E 12))), .iface 149 (.pointer (some (E 13))), .iface 149 (.pointer (some (E 14))), .iface 149 (.pointer (some (E 15))), .iface 149 (.pointer (some (E 1)))] 33) = w1 at *
  generalize w.heap.size = G at *
  have HR := Lib.hid hrd
  clear hrd
  go_loop [27] (fun v => ∃ k : Nat, k ≤ i ∧ v = .int .i64 k) (fun v => i - (intOf v).toNat)
  case atStart => exact ⟨0, by omega, rfl⟩
  case round =>
    obtain ⟨k, hk, rfl⟩ := hrel
    obtain ⟨h, hh⟩ : ∃ h, gsN[k]? = some h := ⟨gsN[k]'(show k < 16 by omega), List.getElem?_eq_getElem _⟩
    have hc : w1.cell? ⟨G, k, none⟩ = some (.iface 149 (.pointer (some (E h)))) := by
      obtain ⟨ad, e, _, h2⟩ := HR.out.2 (by omega)
      injection e with e
      subst e
      have := h2 k _ (HI.out.2.1 k h hh)
      rwa [show (⟨G, 0, none⟩ : Addr).add k = ⟨G, k, none⟩ by unfold Addr.add; split <;> simp_all] at this
    by_cases e : k = i
    · subst e
      obtain rfl : g = h := Option.some.inj (HI.out.1.symm.trans hh)
      have ES := err_same w1 (E g)
      clear hh HI
      go_wp2_with fail
      go_returns
      exact ⟨rfl, hx⟩
    · have hne : g ≠ h := by
        rintro rfl
        exact e ((List.getElem?_inj (show k < 16 by omega) gsN_nodup).1 (hh.trans HI.out.1.symm))
      have hgm : g ∈ gsN := List.mem_of_getElem? HI.out.1
      have hhm : h ∈ gsN := List.mem_of_getElem? hh
      have EO := err_other ((HI.out.2.2.sen g hgm).ext hx) ((HI.out.2.2.sen h hhm).ext hx) (HI.out.2.2.dis g hgm h hhm hne)
      clear hne hgm hhm hh
      go_wp2_with fail
      go_round
      case rel => exact ⟨k + 1, by omega, rfl⟩
      case measure => simp [intOf]; omega
end Go.Proofs.YteflnnlihblpgaaDoor
