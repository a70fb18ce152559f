/-
  Package supply: the row of a server, walked: plan.CheckServer, supply.of, row.given, Bound.
-/
import Derived.Test.YtimjmacjkefljaaDoorErr
import Derived.Test.YtimjmacjkefljaaDoorMem
import Derived.BigRegion
import Derived.Handy
import Derived.BigQuiet
import Derived.Deep.QuietTactic
namespace Go.Proofs.YtimjmacjkefljaaDoor
open Go.RowKit
set_option linter.unusedVariables false

def I64 (x : Int) : Prop := -9223372036854775808 ≤ x ∧ x ≤ 9223372036854775807
/-- A server's value. -/
def srv (K Q T : Int) : Value := .agg #[.int .i64 K, .int .i64 Q, .int .i64 T]
/-- A legal server (not the whole). -/
def Legal (K Q T : Int) : Prop := 1 ≤ K ∧ K ≤ 3 ∧ 1 ≤ Q ∧ Q ≤ T ∧ T ≤ 256

set_option maxHeartbeats 800000 in
theorem check_ok (K Q T : Int) (w : World) (h : Legal K Q T) :
    Calls Tryd.prog 14 #[srv K Q T] w fun e w' => e = .returned .nilIface ∧ w' = w.alloc (.cells #[.int .i64 K, .int .i64 Q, .int .i64 T] 23) := by
  obtain ⟨h1, h2, h3, h4, h5⟩ := h
  unfold srv
  go_enter Tryd.func14, Tryd.ntmps14
  go_wp2_with fail
  go_ret
  exact ⟨rfl, rfl⟩
set_option maxHeartbeats 1600000 in
theorem check_no (K Q T : Int) (a : Addr) (w : World) (hS : Sen w 1 a) (hK : I64 K) (hQ : I64 Q) (hT : I64 T) (h : ¬ Legal K Q T) :
    Calls Tryd.prog 14 #[srv K Q T] w fun e w' => e = .returned (.iface 42 (.pointer (some a))) ∧ w' = w.alloc (.cells #[.int .i64 K, .int .i64 Q, .int .i64 T] 23) := by
  unfold Legal at h
  unfold I64 at hK hQ hT
  unfold srv
  have hc := ((hS.ext ((Ext.refl w).alloc (.cells #[.int .i64 K, .int .i64 Q, .int .i64 T] 23))).2.1)
  by_cases h1 : K < 1
  · clear h
    go_enter Tryd.func14, Tryd.ntmps14
    go_wp2_with fail
    go_ret
    exact ⟨rfl, rfl⟩
  by_cases h2 : K > 3
  · clear h
    go_enter Tryd.func14, Tryd.ntmps14
    go_wp2_with fail
    go_ret
    exact ⟨rfl, rfl⟩
  by_cases h3 : Q < 1
  · clear h
    go_enter Tryd.func14, Tryd.ntmps14
    go_wp2_with fail
    go_ret
    exact ⟨rfl, rfl⟩
  by_cases h4 : Q > T
  · clear h
    go_enter Tryd.func14, Tryd.ntmps14
    go_wp2_with fail
    go_ret
    exact ⟨rfl, rfl⟩
  have h5 : T > 256 := by omega
  clear h
  go_enter Tryd.func14, Tryd.ntmps14
  go_wp2_with fail
  go_ret
  exact ⟨rfl, rfl⟩

/-- A row's value. -/
def rowV (g q t : Int) : Value := .agg #[.int .i64 g, .int .i64 q, .int .i64 t]
/-- A row and an error. -/
def RowE (g q t : Int) (e : Value) : Ending := .returned (.tuple #[rowV g q t, e])

set_option maxHeartbeats 800000 in
theorem of_whole (w : World) :
    Calls Tryd.prog 9 #[srv 0 0 0] w fun e w' => e = RowE 0 1 1 .nilIface ∧ Ext w w' := by
  unfold srv RowE rowV
  go_enter Tryd.func9, Tryd.ntmps9
  go_wp2_with fail
  go_returns
  exact ⟨rfl, ((Ext.refl w).alloc _).alloc _⟩
/-- The silent ticks at a row's beginning. -/
def gapOf (K Q T : Int) : Int := if K = 3 then T - Q else T - 1
set_option maxHeartbeats 1600000 in
theorem of_legal (K Q T : Int) (w : World) (h : Legal K Q T) :
    Calls Tryd.prog 9 #[srv K Q T] w fun e w' => e = RowE (gapOf K Q T) Q T .nilIface ∧ Ext w w' := by
  have CK := Lib.hid (fun w => check_ok K Q T w h)
  obtain ⟨h1, h2, h3, h4, h5⟩ := h
  have h0 : (K == 0) = false := by simp; omega
  unfold srv at CK
  unfold srv RowE rowV gapOf
  by_cases h6 : K = 3
  · subst h6
    go_enter Tryd.func9, Tryd.ntmps9
    go_wp2_with fail
    refine (CK.out _).mono ?_
    rintro e w1 ⟨rfl, rfl⟩
    go_wp2_with fail
    go_returns
    exact ⟨rfl, (((Ext.refl w).alloc _).alloc _).alloc _⟩
  · have h7 : (K == 3) = false := by simpa using h6
    rw [if_neg h6]
    go_enter Tryd.func9, Tryd.ntmps9
    go_wp2_with fail
    refine (CK.out _).mono ?_
    rintro e w1 ⟨rfl, rfl⟩
    go_wp2_with fail
    go_returns
    exact ⟨rfl, (((Ext.refl w).alloc _).alloc _).alloc _⟩
set_option maxHeartbeats 1600000 in
theorem of_no (K Q T : Int) (a : Addr) (w : World) (hS : Sen w 1 a) (hK : I64 K) (hQ : I64 Q) (hT : I64 T) (h : ¬ Legal K Q T) (h0 : ¬ (K = 0 ∧ Q = 0 ∧ T = 0)) :
    Calls Tryd.prog 9 #[srv K Q T] w fun e w' => e = RowE 0 0 0 (.iface 42 (.pointer (some a))) ∧ Ext w w' := by
  have CK := Lib.hid (fun w' (hx : Ext w w') => check_no K Q T a w' (hS.ext hx) hK hQ hT h)
  unfold srv at CK
  unfold srv RowE rowV
  clear h hS
  go_enter Tryd.func9, Tryd.ntmps9
  go_wp2_with fail
  all_goals
    subst_vars
    refine (CK.out _ (((Ext.refl w).alloc _).alloc _)).mono ?_
    rintro e w1 ⟨rfl, rfl⟩
    go_wp2_with fail
    go_returns
    exact ⟨rfl, (((Ext.refl w).alloc _).alloc _).alloc _⟩

/-- How many of the first l ticks are given. -/
def given (g q t l : Int) : Int := if l ≤ g then 0 else (l - g) / t * q + max 0 ((l - g) % t - (t - q))
set_option maxHeartbeats 1600000 in
theorem given_any (g q t l : Int) (w : World) (hg0 : 0 ≤ g) (hg1 : g ≤ 256) (hq : 1 ≤ q) (hqt : q ≤ t) (ht : t ≤ 256) (hl0 : 0 ≤ l) (hl : l ≤ 1099511627776) :
    Calls Tryd.prog 13 #[rowV g q t, .int .i64 l] w fun e w' => e = .returned (.int .i64 (given g q t l)) ∧ Ext w w' := by
  unfold rowV given
  by_cases h1 : l ≤ g
  · rw [if_pos h1]
    have h2 : l - g ≤ 0 := by omega
    go_enter Tryd.func13, Tryd.ntmps13
    go_wp2_with fail
    go_returns
    exact ⟨rfl, (Ext.refl w).alloc _⟩
  · rw [if_neg h1]
    obtain ⟨m, hm⟩ : ∃ m, m = l - g := ⟨_, rfl⟩
    rw [← hm]
    have hm0 : 1 ≤ m := by omega
    have hm1 : m ≤ 1099511627776 := by omega
    have hD : Int.tdiv m t = m / t := Int.tdiv_eq_ediv_of_nonneg (by omega)
    have hR : Int.tmod m t = m % t := Int.tmod_eq_emod_of_nonneg (by omega)
    have d0 : 0 ≤ m / t := Int.ediv_nonneg (by omega) (by omega)
    have r0 : 0 ≤ m % t := Int.emod_nonneg _ (by omega)
    have r1 : m % t < t := Int.emod_lt_of_pos _ (by omega)
    have d1 : m / t ≤ m := Int.ediv_le_self _ (by omega)
    have p1 : m / t * q ≤ m := by
      have := Int.mul_le_mul_of_nonneg_left hqt d0
      have h3 := Int.ediv_mul_add_emod m t
      omega
    have p0 : 0 ≤ m / t * q := Int.mul_nonneg d0 (by omega)
    have hw : wrap64 (l - g) = m := by rw [hm]; unfold wrap64; omega
    have ht0 : (t == 0) = false := by simp; omega
    obtain ⟨D, hD2⟩ : ∃ D, m / t = D := ⟨_, rfl⟩
    obtain ⟨R, hR2⟩ : ∃ R, m % t = R := ⟨_, rfl⟩
    rw [hD2] at hD d0 d1 p1 p0
    rw [hR2] at hR r0 r1
    rw [hD2, hR2]
    clear hD2 hR2 h1 hw
    subst hm
    go_enter Tryd.func13, Tryd.ntmps13
    go_wp2_with fail
    have e1 : wrap64 D = D := by unfold wrap64; omega
    have e2 : wrap64 (D * q) = D * q := by generalize D * q = P at *; unfold wrap64; omega
    have E1 := Lib.hid e1
    have E2 := Lib.hid e2
    clear e1 e2
    go_region
    go_wp2_with fail
    all_goals
      go_returns
      refine ⟨?_, ((Ext.refl w).alloc _).drew⟩
    · show Ending.returned (Value.int .i64 (D * q + (R - (t - q)))) = _
      congr 2
      omega
    · show Ending.returned (Value.int .i64 (D * q)) = _
      congr 2
      omega
/-- A number and an error. -/
def NumE (x : Int) (e : Value) : Ending := .returned (.tuple #[.int .i64 x, e])
set_option maxHeartbeats 1600000 in
/-- Bound, once the row is known. -/
theorem bound_core (K Q T g q t l : Int) (w : World) (hof : Calls Tryd.prog 9 #[srv K Q T] (w.alloc (.cells #[.int .i64 K, .int .i64 Q, .int .i64 T] 23)) fun e w' => e = RowE g q t .nilIface ∧ Ext (w.alloc (.cells #[.int .i64 K, .int .i64 Q, .int .i64 T] 23)) w')
    (hg0 : 0 ≤ g) (hg1 : g ≤ 256) (hq : 1 ≤ q) (hqt : q ≤ t) (ht : t ≤ 256) (hl0 : 0 ≤ l) (hl : l ≤ 1099511627776) :
    Calls Tryd.prog 8 #[srv K Q T, .int .i64 l] w fun e w' => e = NumE (given g q t l) .nilIface ∧ Ext w w' := by
  have HO := Lib.hid hof
  have HG := Lib.hid (fun w => given_any g q t l w hg0 hg1 hq hqt ht hl0 hl)
  clear hof hg0 hg1 hq hqt ht
  unfold srv NumE at *
  unfold RowE rowV at HO
  unfold rowV at HG
  go_enter Tryd.func8, Tryd.ntmps8
  go_wp2_with fail
  refine HO.out.mono ?_
  rintro e w1 ⟨rfl, hx⟩
  go_wp2_with fail
  refine (HG.out _).mono ?_
  rintro e w2 ⟨rfl, hx2⟩
  go_wp2_with fail
  go_returns
  exact ⟨rfl, (((Ext.refl w).alloc _).trans (hx.alloc _)).trans hx2⟩
end Go.Proofs.YtimjmacjkefljaaDoor
