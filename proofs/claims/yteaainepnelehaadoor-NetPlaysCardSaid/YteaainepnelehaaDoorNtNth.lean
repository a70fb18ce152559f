/-
  Package net: Nth, walked.
-/
import Derived.Test.YteaainepnelehaaDoorNtOps2
namespace Go.Proofs.YteaainepnelehaaDoor
set_option maxRecDepth 100000
open Go.RowKit
set_option linter.unusedVariables false
/-- The place that Nth takes. -/
def nthJ (i : Int) (m : Nat) : Nat := (Int.tmod (Int.tmod i m + m) m).toNat
theorem nthJ_spec (i : Int) {m : Nat} (hm : 0 < m) : ∃ r : Int, Int.tmod i m = r ∧ -(m : Int) < r ∧ r < m ∧ Int.tmod (r + m) m = (nthJ i m : Int) ∧ nthJ i m < m := by
  have hp : (0 : Int) < m := by omega
  have h1 : Int.tmod i m < m := Int.tmod_lt_of_pos i hp
  have h2 : -(m : Int) < Int.tmod i m := Int.lt_tmod_of_pos i hp
  obtain ⟨r, hr⟩ : ∃ r, Int.tmod i m = r := ⟨_, rfl⟩
  have h3 : Int.tmod (r + m) m = (r + m) % m := Int.tmod_eq_emod_of_nonneg (by omega)
  have h4 := Int.emod_nonneg (r + m) (show (m : Int) ≠ 0 by omega)
  have h5 := Int.emod_lt_of_pos (r + m) hp
  refine ⟨r, hr, by omega, by omega, ?_, ?_⟩
  · unfold nthJ
    rw [hr, h3]
    omega
  · unfold nthJ
    rw [hr, h3]
    omega
section
variable {w w' : World} {g m c last : Nat} {A : Option Addr} {ls : List LetV}
set_option maxHeartbeats 1600000 in
theorem nth_none (h : NetS w g A m c ls last) (hm : m = 0) (i : Int) : Calls Tryd.prog 18 #[.pointer (some ⟨g, 0, none⟩), .int .i64 i] w fun e w' => e = .returned (.tuple #[.int .i64 0, .bool false]) ∧ Ext w w' := by
  subst hm
  have c0 := h.c0
  clear h
  go_enter Tryd.func18, Tryd.ntmps18
  go_wp2_with fail
  go_returns
  exact ⟨rfl, Ext.refl w⟩
set_option maxHeartbeats 1600000 in
theorem nth_some (h : NetS w g A m c ls last) (hm : 0 < m) (i : Int) {x : LetV} (hx : ls[nthJ i m]? = some x) :
    Calls Tryd.prog 18 #[.pointer (some ⟨g, 0, none⟩), .int .i64 i] w fun e w' => e = .returned (.tuple #[.int .i64 (x.N : Int), .bool true]) ∧ Ext w w' := by
  have c0 := h.c0
  have hfew := h.few
  obtain ⟨r, h1, h2, h3, h4, h5⟩ := nthJ_spec i hm
  obtain ⟨j, hj⟩ : ∃ j, nthJ i m = j := ⟨_, rfl⟩
  rw [hj] at hx h4 h5
  obtain ⟨j4, hj4⟩ : ∃ j4, j * 4 = j4 := ⟨_, rfl⟩
  obtain ⟨S, rfl, _, _, e0, e1, e2, e3⟩ := netcells h hx hj4
  have m0 : ((m : Int) == 0) = false := by rw [beq_eq_false_iff_ne]; omega
  have z0 : (0 : Int) ≤ j := by omega
  have z1 : (j : Int) < m := by omega
  clear h hx hj
  go_enter Tryd.func18, Tryd.ntmps18
  go_wp2_with fail
  go_quiet (fail)
  go_wp2_with fail
  go_returns
  exact ⟨rfl, (Ext.refl w).drewN _⟩
end
end Go.Proofs.YteaainepnelehaaDoor
