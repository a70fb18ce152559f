/-
  Package order: fit; the test of a task; the tasks, walked.
-/
import Derived.Test.YteflnnlihblpgaaDoorOrPlain
import Derived.Test.YteflnnlihblpgaaDoorOpen
import Derived.Test.YteflnnlihblpgaaDoorRow
import Derived.Test.YteflnnlihblpgaaDoorBlk
import Derived.Test.YteflnnlihblpgaaDoorStep
import Derived.Test.YteflnnlihblpgaaDoorErr
import Derived.Test.YteflnnlihblpgaaDoorOrd
import Derived.Handy
import Derived.Deep.QuietTactic
import Derived.BigQuiet
import Derived.Deep.Cut
import Derived.Deep.RegionHeld3
import Derived.Deep.RegionLaw
import Derived.StillTailTactics
namespace Go.Proofs.YteflnnlihblpgaaDoor
set_option maxRecDepth 100000
open Go.RowKit
set_option linter.unusedVariables false
theorem ints_at' {l : List Int} {k : Nat} {x : Int} (h : l[k]? = some x) : (ints l)[k]? = some (.int .i64 x) := by simp [ints, h]
theorem fitI_true {x : Int} : fitI x = true ↔ 0 ≤ x ∧ x ≤ 1099511627776 := by simp [fitI]
set_option maxHeartbeats 1600000 in
theorem fit_any (A : Option Addr) (n c : Nat) (l : List Int) (w : World) (hr : Rd w 1 A n (ints l)) (hn : n ≤ 1000000) (b : Bool) (hb : Hid (fitL l = b)) : Calls Tryd.prog 77 #[.slice A n c] w fun e w' => e = .returned (.bool b) ∧ w' = w := by
  have hl := hr.len
  rw [ints_len] at hl
  have HR := Lib.hid hr
  clear hr
  go_enter Tryd.func77, Tryd.ntmps77
  go_wp2_with fail
  go_loopw [7] (fun v7 wr => ∃ k : Nat, v7 = .int .i64 (k : Int) ∧ k ≤ n ∧ Hid (wr = w ∧ ∀ j x, j < k → l[j]? = some x → fitI x = true)) (fun v7 _ => n - (intOf v7).toNat)
  case atStart => exact ⟨0, rfl, by omega, by trivial, fun j x hj => by omega⟩
  case round =>
    obtain ⟨k, rfl, hk, HI⟩ := hrel
    obtain rfl := HI.out.1
    by_cases hlt : k < n
    · obtain ⟨x, hx⟩ : ∃ x, l[k]? = some x := ⟨l[k]'(by omega), List.getElem?_eq_getElem _⟩
      obtain ⟨ad, rfl, _, z1⟩ := HR.out.at_ hlt
      have y1 := z1 k _ (ints_at' hx)
      have k0 : (0 : Int) ≤ k := by omega
      have k1 : (k : Int) < n := by omega
      have HX := Lib.hid hx
      clear z1 hx
      by_cases h0 : x < 0
      · have e : b = false := by
          rw [← hb.out]
          exact Bool.eq_false_iff.2 fun h => by
            have := fitI_true.1 (List.all_eq_true.1 h x (List.mem_of_getElem? HX.out))
            omega
        subst e
        go_wp2_with fail
        go_returns
        exact ⟨rfl, rfl⟩
      · by_cases h1 : 1099511627776 < x
        · have e : b = false := by
            rw [← hb.out]
            exact Bool.eq_false_iff.2 fun h => by
              have := fitI_true.1 (List.all_eq_true.1 h x (List.mem_of_getElem? HX.out))
              omega
          subst e
          go_wp2_with fail
          go_returns
          exact ⟨rfl, rfl⟩
        · go_wp2_with fail
          go_roundw
          case rel => exact ⟨k + 1, by go_num, by omega, by trivial, fun j y hj hy => by
            by_cases e : j = k
            · rw [e, HX.out] at hy
              injection hy with hy
              rw [← hy]
              exact fitI_true.2 (by omega)
            · exact HI.out.2 j y (by omega) hy⟩
          case measure => simp [intOf]; omega
    · obtain rfl : n = k := by omega
      have e : b = true := by
        rw [← hb.out]
        exact List.all_eq_true.2 fun x hx => by
          obtain ⟨j, hj⟩ := List.getElem?_of_mem hx
          exact HI.out.2 j x (by have := (List.getElem?_eq_some_iff.1 hj).1; omega) hj
      subst e
      go_wp2_with fail
      go_returns
      exact ⟨rfl, rfl⟩
end Go.Proofs.YteflnnlihblpgaaDoor
