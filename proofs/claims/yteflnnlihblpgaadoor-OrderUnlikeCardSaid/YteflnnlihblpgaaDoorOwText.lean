/-
  Package wire: slices.Clone, Text, Done, Sum, walked; alive.
-/
import Derived.Test.YteflnnlihblpgaaDoorRWrite
import Derived.Lib.AppendStr
namespace Go.Proofs.YteflnnlihblpgaaDoor
open Go.RowKit
set_option linter.unusedVariables false
set_option maxHeartbeats 800000 in
theorem clone_any (A : Option Addr) (n c : Nat) (bs : List Nat) (w : World) (h : Rd w 1 A n (u8s bs)) (hn : n ≤ 140737488351232) :
    Calls Tryd.prog 80 #[.slice A n c] w fun e w' => ∃ A' c', e = .returned (.slice A' n c') ∧ Own w' w.heap.size 5 1 A' n c' (u8s bs) ∧ Ext w w' := by
  cases A with
  | none =>
    have h0 : n = 0 := by
      rcases Nat.eq_zero_or_pos n with e | e
      · exact e
      · obtain ⟨_, h1, _⟩ := h.2 e; cases h1
    subst h0
    have hb : bs = [] := List.eq_nil_of_length_eq_zero (by have := h.len; rwa [u8s_len] at this)
    subst hb
    clear h
    have hq := fun (w : World) (a : Option Addr) (n c : Nat) => Lib.run_eql_slice_nil (P := Tryd.prog) w 54 5 a n c 0 0 Tryd.underlying54
    go_enter Tryd.func80, Tryd.ntmps80
    go_wp2_with fail
    go_ret
    exact ⟨none, 0, rfl, Own.nil_, Ext.refl w⟩
  | some ad =>
    have hq := fun (w : World) (a : Option Addr) (n c : Nat) => Lib.run_eql_slice_nil (P := Tryd.prog) w 54 5 a n c 0 0 Tryd.underlying54
    go_enter Tryd.func80, Tryd.ntmps80
    go_wp2_with (at_builtin; refine held ?_)
    have ho : Own (w.alloc (.cells #[] 5)) w.heap.size 5 1 (some ⟨w.heap.size, 0, none⟩) 0 0 [] := World.ownsRow_lit (size := 1) w #[] 0 (Nat.le_refl _) (by simp [maxLen]) rfl
    refine Held.go (wp_app (m := n) (news := u8s bs) eltU8 ho (h.ext ((Ext.refl w).alloc _)) (u8s_one _) (by omega) (.inr ⟨by omega, by omega⟩) (by simp) _ _ rfl rfl rfl rfl ?_)
    intro A2 c2 w2 hown2 hg2 _ _
    rw [Nat.zero_add, List.nil_append] at hown2
    rw [Nat.zero_add]
    have hx2 := hg2.ext ((Ext.refl w).alloc _) ho.base_le
    clear h ho hg2
    go_wp2_with fail
    go_ret
    exact ⟨A2, c2, rfl, hown2, hx2⟩
/-- Done of a writer that isn't spoilt. -/
theorem done_any (w : World) {g n c : Nat} {A : Option Addr} {bs : List Nat} (h : WrS w g A n c bs false) (hn : n ≤ 140737488351232) :
    Calls Tryd.prog 55 #[.pointer (some ⟨g, 0, none⟩)] w fun e w' => ∃ A' c', e = .returned (.tuple #[.slice A' n c', .nilIface]) ∧ Own w' w.heap.size 5 1 A' n c' (u8s bs) ∧ Ext w w' := by
  have C := Lib.hid (clone_any A n c bs w h.own.rd hn)
  have c0 := h.c0
  have c1 := h.c1
  clear h
  go_enter Tryd.func55, Tryd.ntmps55
  go_wp2_with fail
  refine C.out.mono ?_
  rintro e w1 ⟨A', c', rfl, ho, hx⟩
  go_wp2_with fail
  go_ret2
  exact ⟨A', c', rfl, ho, hx⟩
theorem u8s_str (l : List Nat) (hl : ∀ x ∈ l, x < 256) : Lib.strCells (str l) = u8s l := by
  unfold Lib.strCells str u8s
  simp only [List.map_map]
  refine List.map_congr_left fun x hx => ?_
  have := hl x hx
  simp [Function.comp]
  omega
theorem str_size (l : List Nat) : (str l).size = l.length := by simp [str, ByteArray.size]
end Go.Proofs.YteflnnlihblpgaaDoor
