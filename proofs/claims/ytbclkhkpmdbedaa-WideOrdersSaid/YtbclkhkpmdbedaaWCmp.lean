/-
  Package wide: Of, Compare, legal, Against, Cross, walked; alive.
-/
import Derived.Test.YtbclkhkpmdbedaaWMul
import Derived.StillTailTactics
import Derived.BigQuiet
import Derived.Deep.QuietTactic
namespace Go.Proofs.Ytbclkhkpmdbedaa
open Go.RowKit
set_option linter.unusedVariables false
/-- How two numbers of two words compare: by the high word, then by the low one. -/
theorem cmp_two {a b c d : Nat} (ha : a < 18446744073709551616) (hb : b < 18446744073709551616) (hc : c < 18446744073709551616) (hd : d < 18446744073709551616) : (if cmpI a c = 0 then cmpI b d else cmpI a c) = cmpI (N2 a b) (N2 c d) := by
  have lt : (N2 a b < N2 c d) ↔ (a < c ∨ a = c ∧ b < d) := by unfold N2; omega
  have gt : (N2 c d < N2 a b) ↔ (c < a ∨ c = a ∧ d < b) := by unfold N2; omega
  have e : cmpI (N2 a b) (N2 c d) = if (a < c ∨ a = c ∧ b < d) then -1 else if (c < a ∨ c = a ∧ d < b) then 1 else 0 := by
    unfold cmpI
    simp only [lt, gt]
  rw [e]
  unfold cmpI
  clear e lt gt
  repeat' split
  all_goals omega
set_option maxHeartbeats 400000 in
theorem wof_any (n : Nat) (w : World) : Calls Try.prog 29 #[.int .u64 (n : Int)] w fun e w' => e = .returned (wv 0 n) ∧ Ext w w' := by
  unfold wv
  go_enter Try.func29, Try.ntmps29
  go_wp2_with fail
  go_returns
  exact ⟨rfl, (Ext.refl w).alloc _⟩
/-- A cell of a block that a call made. -/
theorem boxAt {w w1 : World} {cs : Array Value} {t : TypeId} {fr : Nat × Nat} (hx : Ext (w.alloc (.cells cs t fr)) w1) {k : Nat} {v : Value} (hk : cs[k]? = some v) : w1.cell? ⟨w.heap.size, k, none⟩ = some v := by
  have h0 : w.heap.size < (w.alloc (.cells cs t fr)).heap.size := by show w.heap.size < (w.heap.push _).size; simp
  have h : (w.alloc (.cells cs t fr)).heap[w.heap.size]? = some (.cells cs t fr) := heap_alloc_new w _
  refine (hx.cell h0).trans ?_
  simp only [World.cell?, h]
  exact hk
/-- A region whose first n operations only read, behind a name for its world. -/
theorem still_tail_at {P : Program} {id : Nat} {Q : Exit → Act → World → Prop} {a : Act} {w : World} {l : List Oper} (n : Nat) (hm : P.follows .mixedOrders = true) (hB : Region.lexTailB .any l.toArray n = true)
    (h : ∀ W : World, W.heap.size = w.heap.size → Ext w W → wpStill P l.toArray W (fun a' => wpList P l.toArray Q (l.drop n) a' W) (l.take n) a) : (Code.region id l.toArray true).wp P Q a w :=
  wp_region_still_tail n hm hB (h _ rfl (Ext.refl w).drew)
set_option maxHeartbeats 800000 in
theorem wcmp_any (a b c d : Nat) (w : World) (ha : a < 18446744073709551616) (hb : b < 18446744073709551616) (hc : c < 18446744073709551616) (hd : d < 18446744073709551616) :
    Calls Try.prog 18 #[wv a b, wv c d] w fun e w' => e = .returned (.int .i64 (cmpI (N2 a b) (N2 c d))) ∧ Ext w w' := by
  rw [← cmp_two ha hb hc hd]
  have C1 := Lib.hid (fun w => cmp_any a c w)
  have C2 := Lib.hid (fun w => cmp_any b d w)
  generalize cmpI a c = x at *
  generalize cmpI b d = y at *
  have O := Lib.hid (fun c g w h0 h1 => or_any x y c g w h0 h1)
  unfold wv
  go_enter Try.func18, Try.ntmps18
  go_wp2_with fail
  refine still_tail_at 10 (by kernel_rfl) (by kernel_rfl) ?_
  intro W hz hx
  have c0 := boxAt (((Ext.refl _).alloc _).trans hx) (k := 0) (v := .int .u64 (a : Int)) rfl
  have c1 := boxAt (((Ext.refl _).alloc _).trans hx) (k := 1) (v := .int .u64 (b : Int)) rfl
  have c2 := boxAt hx (k := 0) (v := .int .u64 (c : Int)) rfl
  have c3 := boxAt hx (k := 1) (v := .int .u64 (d : Int)) rfl
  have hz' : (w.alloc (.cells #[.int .u64 (a : Int), .int .u64 (b : Int)] 24)).heap.size = w.heap.size + 1 := by simp
  rw [hz'] at c2 c3
  have hw : Ext w W := (((Ext.refl w).alloc _).alloc _).trans hx
  clear hx hz hz'
  simp only [List.take_succ_cons, List.take_zero, List.drop_succ_cons, List.drop_zero]
  repeat still_step
  still_call ((C1.out _).mono fun _ _ ⟨h1, h2⟩ => ⟨h1, h2.symm⟩)
  repeat still_step
  still_call ((C2.out _).mono fun _ _ ⟨h1, h2⟩ => ⟨h1, h2.symm⟩)
  repeat still_step
  refine wpStill_nil ?_
  go_wp2_with fail
  refine (O.out _ _ _ ?_ ?_).mono ?_
  · exact boxAt (Ext.refl _) rfl
  · exact boxAt (Ext.refl _) rfl
  rintro e w1 ⟨rfl, rfl⟩
  go_wp2_with fail
  all_goals
    go_ret
    exact ⟨rfl, hw.alloc _⟩
end Go.Proofs.Ytbclkhkpmdbedaa
