/-
  Package guest: Release, walked.
-/
import Derived.Test.YtbpbmelfhgbogaaDoorGsRun
import Derived.Test.YtbpbmelfhgbogaaDoorStep
namespace Go.Proofs.YtbpbmelfhgbogaaDoor
set_option maxRecDepth 100000
open Go.RowKit
set_option linter.unusedVariables false
section
variable {w w' : World} {g tn tc jn jc : Nat} {TA JA : Option Addr} {p : Int} {ks : List TkV} {js : List JobV}
set_option maxHeartbeats 1600000 in
theorem rel_num (h : GS w g TA tn tc JA jn jc p ks js) (i now ticks : Int) (hc : i < 0 ∨ (tn : Int) ≤ i ∨ now < 0 ∨ 1099511627776 < now) {q : Addr} (hS : Sen w 0 q) :
    Calls Tryd.prog 12 #[.pointer (some ⟨g, 0, none⟩), .int .i64 i, .int .i64 now, .int .i64 ticks] w fun e w' => e = .returned (errE q) ∧ Ext w w' := by
  have c0 := h.c0
  have s0 := hS.2.1
  clear h hS
  by_cases h1 : i < 0
  · clear hc
    go_enter Tryd.func12, Tryd.ntmps12
    go_wp2_with fail
    go_returns
    exact ⟨rfl, Ext.refl w⟩
  by_cases h2 : (tn : Int) ≤ i
  · clear hc
    go_enter Tryd.func12, Tryd.ntmps12
    go_wp2_with fail
    go_returns
    exact ⟨rfl, Ext.refl w⟩
  by_cases h3 : now < 0
  · clear hc
    go_enter Tryd.func12, Tryd.ntmps12
    go_wp2_with fail
    go_returns
    exact ⟨rfl, Ext.refl w⟩
  have h4 : 1099511627776 < now := by omega
  clear hc
  go_enter Tryd.func12, Tryd.ntmps12
  go_wp2_with fail
  go_returns
  exact ⟨rfl, Ext.refl w⟩
set_option maxHeartbeats 1600000 in
theorem rel_busy (h : GS w g TA tn tc JA jn jc p ks js) {k : Nat} {now : Int} (ticks : Int) {x : TkV} (hx : ks[k]? = some x) (h0 : 0 ≤ now) (h1 : now ≤ 1099511627776) (hw : x.was = true) (hb : now < x.last + x.t.P) {q : Addr} (hS : Sen w 1 q) :
    Calls Tryd.prog 12 #[.pointer (some ⟨g, 0, none⟩), .int .i64 (k : Int), .int .i64 now, .int .i64 ticks] w fun e w' => e = .returned (errE q) ∧ Ext w w' := by
  have c0 := h.c0
  have s0 := hS.2.1
  obtain ⟨k6, hk6⟩ : ∃ k6, k * 6 = k6 := ⟨_, rfl⟩
  obtain ⟨S, rfl, _, _, e0, e1, e2, e3, e4, e5⟩ := h.tcell hx hk6
  have hl := h.low x (List.mem_of_getElem? hx)
  have hleg := h.gi.leg x.t (List.mem_map.2 ⟨x, List.mem_of_getElem? hx, rfl⟩)
  obtain ⟨_, g2, g3, g4, _, _⟩ := hleg
  obtain ⟨l1, l2⟩ := hl
  have z0 : (0 : Int) ≤ k := by omega
  have z1 : (k : Int) < tn := by have := h.klen; have := (List.getElem?_eq_some_iff.1 hx).1; omega
  have z2 : 1 ≤ x.t.P := by omega
  rw [hw] at e5
  have hd : decide (now < x.last + x.t.P) = true := by simpa using hb
  clear h hS hx hw
  go_enter Tryd.func12, Tryd.ntmps12
  go_wp2_with fail
  go_quiet (fail)
  go_wp2_with fail
  go_returns
  exact ⟨rfl, (Ext.refl w).drewN _⟩
/-- A release that is taken comes late enough. -/
def TkV.free (x : TkV) (now : Int) : Prop := x.was = false ∨ x.last + x.t.P ≤ now
set_option maxHeartbeats 1600000 in
theorem rel_full (h : GS w g TA tn tc JA jn jc p ks js) {k : Nat} {now : Int} (ticks : Int) {x : TkV} (hx : ks[k]? = some x) (h0 : 0 ≤ now) (h1 : now ≤ 1099511627776) (hf : x.free now) (hj : jn = 64) {q : Addr} (hS : Sen w 2 q) :
    Calls Tryd.prog 12 #[.pointer (some ⟨g, 0, none⟩), .int .i64 (k : Int), .int .i64 now, .int .i64 ticks] w fun e w' => e = .returned (errE q) ∧ Ext w w' := by
  subst hj
  have c0 := h.c0
  have c1 := h.c1
  have s0 := hS.2.1
  obtain ⟨k6, hk6⟩ : ∃ k6, k * 6 = k6 := ⟨_, rfl⟩
  obtain ⟨S, rfl, _, _, e0, e1, e2, e3, e4, e5⟩ := h.tcell hx hk6
  have hl := h.low x (List.mem_of_getElem? hx)
  have hleg := h.gi.leg x.t (List.mem_map.2 ⟨x, List.mem_of_getElem? hx, rfl⟩)
  obtain ⟨_, g2, g3, g4, _, _⟩ := hleg
  obtain ⟨l1, l2⟩ := hl
  have z0 : (0 : Int) ≤ k := by omega
  have z1 : (k : Int) < tn := by have := h.klen; have := (List.getElem?_eq_some_iff.1 hx).1; omega
  have z2 : 1 ≤ x.t.P := by omega
  obtain ⟨xt, xl, xw⟩ := x
  cases xw with
  | false =>
    clear h hS hx hf
    go_enter Tryd.func12, Tryd.ntmps12
    go_wp2_with fail
    go_quiet (fail)
    go_wp2_with fail
    go_returns
    exact ⟨rfl, (Ext.refl w).drewN _⟩
  | true =>
    have hd : decide (now < xl + xt.P) = false := by
      rcases hf with e | e
      · cases e
      · simpa using e
    clear h hS hx hf
    dsimp only at *
    go_enter Tryd.func12, Tryd.ntmps12
    go_wp2_with fail
    go_quiet (fail)
    go_wp2_with fail
    go_returns
    exact ⟨rfl, (Ext.refl w).drewN _⟩
end
end Go.Proofs.YtbpbmelfhgbogaaDoor
