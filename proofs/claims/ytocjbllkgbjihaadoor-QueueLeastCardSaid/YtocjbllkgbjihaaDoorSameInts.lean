/-
  almonernum.SameInts of two equal lists, walked.
-/
import Derived.Test.YtocjbllkgbjihaaDoorFr
import Derived.Test.YtocjbllkgbjihaaDoorOpen
import Derived.Handy
import Derived.Deep.QuietTactic
import Derived.BigQuiet
namespace Go.Proofs.YtocjbllkgbjihaaDoor
set_option maxRecDepth 100000
open Go.RowKit
set_option linter.unusedVariables false
theorem ints_at {l : List Int} {k : Nat} {x : Int} (h : l[k]? = some x) : (ints l)[k]? = some (.int .i64 x) := by simp [ints, h]
set_option maxHeartbeats 800000 in
theorem same_ints (A B : Option Addr) (n c d : Nat) (l : List Int) (w : World) (ha : Rd w 1 A n (ints l)) (hb : Rd w 1 B n (ints l)) (hn : n ≤ 4611686018427387904) :
    Calls Tryd.prog 18 #[.slice A n c, .slice B n d] w fun e w' => e = .returned (.bool true) ∧ Ext w w' := by
  have hlen : l.length = n := by have h := ha.len; rwa [ints_len] at h
  have H := Lib.hid (And.intro ha (And.intro hb hlen))
  clear ha hb hlen
  go_enter Tryd.func18, Tryd.ntmps18
  go_wp2_with fail
  go_loopw [13] (fun vi wr => ∃ k : Nat, vi = .int .i64 (k : Int) ∧ k ≤ n ∧ Hid (Ext w wr)) (fun vi _ => n - (intOf vi).toNat)
  case atStart => exact ⟨0, rfl, by omega, Ext.refl w⟩
  case round =>
    obtain ⟨k, rfl, hk, hx⟩ := hrel
    by_cases hlt : k < n
    · obtain ⟨x, hxx⟩ : ∃ x, l[k]? = some x := ⟨l[k]'(by have := H.out.2.2; omega), List.getElem?_eq_getElem _⟩
      obtain ⟨ad, rfl, _, z1⟩ := (H.out.1.ext hx.out).at_ hlt
      obtain ⟨ad2, rfl, _, z2⟩ := (H.out.2.1.ext hx.out).at_ hlt
      have y1 := z1 k _ (ints_at hxx)
      have y2 := z2 k _ (ints_at hxx)
      have k0 : (0 : Int) ≤ k := by omega
      have k1 : (k : Int) < n := by omega
      clear z1 z2 hxx
      go_wp2_with fail
      go_quiet (fail)
      go_wp2_with fail
      go_roundw
      case rel => exact ⟨k + 1, by go_num, by omega, hx.out.drewN _⟩
      case measure => simp [intOf]; omega
    · obtain rfl : k = n := by omega
      go_wp2_with fail
      go_returns
      exact ⟨rfl, hx.out⟩
end Go.Proofs.YtocjbllkgbjihaaDoor
