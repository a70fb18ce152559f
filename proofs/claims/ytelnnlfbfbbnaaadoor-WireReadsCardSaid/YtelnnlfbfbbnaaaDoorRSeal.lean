/-
  Package wire: Seal, Open; slices.Grow, Concat, Equal, walked.
-/
import Derived.Test.YtelnnlfbfbbnaaaDoorRFnv
import Derived.Test.YtelnnlfbfbbnaaaDoorRNumbers
import Derived.Test.YtelnnlfbfbbnaaaDoorErr
import Derived.Lib.AppendZeros
namespace Go.Proofs.YtelnnlfbfbbnaaaDoor
open Go.RowKit
set_option linter.unusedVariables false
set_option maxHeartbeats 800000 in
theorem grow_any (n : Nat) (w : World) (h0 : 0 < n) (hn : n ≤ 140737488351236) :
    Calls Tryd.prog 43 #[.slice none 0 0, .int .i64 (n : Int)] w fun e w' => ∃ c', e = .returned (.slice (some ⟨w.heap.size, 0, none⟩) 0 c') ∧ n ≤ c' ∧ Own w' w.heap.size 5 1 (some ⟨w.heap.size, 0, none⟩) 0 c' [] ∧ Ext w w' := by
  obtain ⟨i0, hi0, hz0, hz1, hz2⟩ := info_parts infoU8
  have hr := Lib.run_append_nil_zeros (P := Tryd.prog) w 26 3 26 5 i0 _ .i64 .i64 Tryd.underlying26 Tryd.underlying3 hi0 hz0 n h0 (by omega) (by omega) (by rw [hz2]; omega)
  have hcg := grownCap_ge w n 0 5
  have hcm : grownCap w n 0 5 ≤ maxLen := grownCap_le_maxLen w n 0 5 (by simp [maxLen]; omega)
  generalize grownCap w n 0 5 = c at *
  have h0' : ¬ (n : Int) < 0 := by omega
  have h1' : (0 : Int) < n := by omega
  go_enter Tryd.func43, Tryd.ntmps43
  have HR := Lib.hid hr
  clear hr
  go_wp2_with (at_builtin; refine held ?_)
  refine Held.go (Lib.wpList_append_run w rfl (.tmp 20) (.tmp 21) 26 3 rfl (.slice none 0 0) (.int .i64 (n : Int)) rfl rfl _ _ HR.out ?_)
  go_wp2_with fail
  go_ret
  refine ⟨c, rfl, hcg, ?_, (Ext.refl w).drew.alloc _⟩
  refine ⟨by simp, .inr ⟨w.heap.size, c, _, rfl, Nat.le_refl _, heap_alloc_new w.drew _, Nat.zero_le _, hcm, ?_, ?_⟩⟩
  · simp [size_zeroCells]
    omega
  · simp
set_option maxHeartbeats 1600000 in
theorem concat_any (A B : Option Addr) (n m ca cb g : Nat) (la lb : List Nat) (w : World) (ha : Rd w 1 A n (u8s la)) (hb : Rd w 1 B m (u8s lb)) (h0 : w.cell? ⟨g, 0, none⟩ = some (.slice A n ca)) (h1 : w.cell? ⟨g, 1, none⟩ = some (.slice B m cb)) (hg : g < w.heap.size)
    (hp : 0 < n + m) (hn : n + m ≤ 140737488351236) :
    Calls Tryd.prog 41 #[.slice (some ⟨g, 0, none⟩) 2 2] w fun e w' => ∃ A' c', e = .returned (.slice A' (n + m) c') ∧ Own w' w.heap.size 5 1 A' (n + m) c' (u8s (la ++ lb)) ∧ Ext w w' := by
  obtain ⟨s, hs⟩ : ∃ s, n + m = s := ⟨_, rfl⟩
  rw [hs] at hp hn ⊢
  have G := Lib.hid (grow_any s w hp hn)
  have k1 : ¬ (n : Int) < 0 := by omega
  have k2 : ¬ (n : Int) + (m : Int) < 0 := by omega
  have e1 : (n : Int) + (m : Int) = (s : Int) := by omega
  have k3 : ¬ (s : Int) < 0 := by omega
  have HS := Lib.hid hs
  clear k2 hs
  go_enter Tryd.func41, Tryd.ntmps41
  go_wp2_with fail
  refine wp_loop_rounds 3 ?_
  rw [rounds_succ]
  go_wp2_with fail
  rw [rounds_succ]
  go_wp2_with fail
  rw [rounds_succ]
  go_wp2_with fail
  refine G.out.mono ?_
  rintro e w1 ⟨c1, rfl, hc1, ho, hx⟩
  have d0 := (hx.cell (p := ⟨g, 0, none⟩) hg).trans h0
  have d1 := (hx.cell (p := ⟨g, 1, none⟩) hg).trans h1
  have ha1 := ha.ext hx
  have hb1 := hb.ext hx
  clear h0 ha G
  go_wp2_with fail
  refine wp_loop_rounds 3 ?_
  rw [rounds_succ]
  go_wp2_with (at_builtin; refine held ?_)
  refine Held.go (wp_app (m := n) (news := u8s la) eltU8 ho ha1 (u8s_one _) (by omega) (.inl (by have := HS.out; omega)) (by have := hx.size; omega) _ _ rfl rfl rfl rfl ?_)
  intro A2 c2 w2 ho2 hg2 _ hfit
  simp only [Nat.zero_add, List.nil_append] at ho2 hfit
  obtain ⟨rfl, rfl⟩ := hfit (by have := HS.out; omega)
  have hx2 : Ext w w2 := hg2.ext hx (fun g hg => by cases hg; exact Nat.le_refl _)
  have d1 := (hx2.cell (p := ⟨g, 1, none⟩) hg).trans h1
  have hb2 := hb.ext hx2
  rw [Nat.zero_add]
  clear d0 ho hg2 hfit ha1 hb1
  go_wp2_with fail
  rw [rounds_succ]
  go_wp2_with (at_builtin; refine held ?_)
  refine Held.go (wp_app (m := m) (news := u8s lb) eltU8 ho2 hb2 (u8s_one _) (by omega) (.inl (by have := HS.out; omega)) (by have := hx2.size; omega) _ _ rfl rfl rfl rfl ?_)
  intro A3 c3 w3 ho3 hg3 _ hfit
  rw [← u8s_append] at ho3
  have hx3 : Ext w w3 := hg3.ext hx2 (fun g hg => by cases hg; exact Nat.le_refl _)
  rw [HS.out] at ho3
  clear ho2 hg3 hfit hb hb2
  go_wp2_with fail
  rw [rounds_succ]
  go_wp2_with fail
  go_ret
  exact ⟨A3, c3, by rw [HS.out]; rfl, ho3, hx3⟩
end Go.Proofs.YtelnnlfbfbbnaaaDoor
