/-
  (*Queue).List, walked.
-/
import Derived.Test.YtocjbllkgbjihaaDoorQuSortF
import Derived.Test.YtocjbllkgbjihaaDoorQuRefO
namespace Go.Proofs.YtocjbllkgbjihaaDoor
set_option maxRecDepth 100000
open Go.RowKit Go.Maps Go.Sort Go.Shelf
set_option linter.unusedVariables false
abbrev fnSort : FuncId := 36
abbrev fnClone : FuncId := 35
abbrev fnCmp : FuncId := 37
section
variable {w : World} {base T n c d : Nat} {A B : Option Addr} {L : List Th}
set_option maxHeartbeats 1600000 in
theorem sort_any (o : Own w base 34 2 B n d (trows L).flatten) (hn : n ≤ 1000000000) :
    Calls Tryd.prog 36 #[.slice B n d, .func (.func 37) #[] #[]] w fun e w' => e = .returned (.tuple #[]) ∧ Own w' base 34 2 B n d (trows (sortT L)).flatten ∧ Grows w w' B := by
  have hl : L.length = n := by have h := o.len; rw [(trows_even L).len, trows_len] at h; omega
  by_cases h0 : n = 0
  · subst h0
    obtain rfl : L = [] := List.eq_nil_of_length_eq_zero hl
    refine (AnyF.slices_SortFunc_none sortQ B d (.func (.func 37) #[] #[]) w).mono ?_
    rintro e w' ⟨rfl, rfl⟩
    have e0 : sortT ([] : List Th) = [] := by unfold sortT; simp
    rw [e0]
    exact ⟨rfl, o, ⟨rfl, rfl, rfl, Nat.le_refl _, fun _ _ _ => rfl⟩⟩
  · obtain ⟨T, rfl⟩ := o.head (by omega)
    have eg : ∀ args w, (callFunc 37 args).run Tryd.prog w = .ok (.enter 37 args) w := enters_of Tryd.func37 (by kernel_rfl) rfl
    have hcon := AnyQ.slices_SortFunc_total sortQ 2 Tryd.isAgg34 Tryd.sizeOf34 trow (fun _ => rfl) trow_one cfT swoT 37 #[] T 0 d L.toArray w eg (fun m os dk _ x y => closure_any x y _) (holds_own o) o.lt (by rw [List.size_toArray]; omega) totT
    rw [List.size_toArray, hl] at hcon
    refine hcon.mono ?_
    rintro e w' ⟨rfl, m, os, rfl⟩
    rw [sort_same]
    exact ⟨rfl, own_sortQ o (sortT_len _), grows_sortQ⟩
set_option maxHeartbeats 1600000 in
theorem clone_any {xs : List Value} (hr : Rd w 2 A n xs) (h1 : ∀ u ∈ xs, u.oneCell' = true) (hA : A = none → n = 0 ∧ c = 0) (hn : n ≤ 1000000000) :
    Calls Tryd.prog 35 #[.slice A n c] w fun e w' => ∃ B d, e = .returned (.slice B n d) ∧ Own w' w.heap.size 34 2 B n d xs ∧ Ext w w' := by
  cases A with
  | none =>
    obtain ⟨rfl, rfl⟩ := hA rfl
    have hx : xs = [] := List.eq_nil_of_length_eq_zero (by have := hr.1; omega)
    subst hx
    clear hr
    have e : (binOp .eql 48 (.slice none 0 0) (.slice none 0 0)).run Tryd.prog w = .ok (.bool true) w := by kernel_rfl
    go_enter Tryd.func35, Tryd.ntmps35
    go_wp2_with fail
    go_returns
    exact ⟨none, 0, rfl, Own.nil_, Ext.refl _⟩
  | some a =>
    have e : (binOp .eql 48 (.slice (some a) n c) (.slice none 0 0)).run Tryd.prog w = .ok (.bool false) w := by kernel_rfl
    have ho : Own (w.alloc (.cells #[] 34)) w.heap.size 34 2 (some ⟨w.heap.size, 0, none⟩) 0 0 [] := World.ownsRow_lit (size := 2) w #[] 0 (Nat.le_refl _) (by simp [maxLen]) rfl
    have X1 := (Ext.refl w).alloc (.cells #[] 34)
    have HR := Lib.hid hr
    clear hr hA
    go_enter Tryd.func35, Tryd.ntmps35
    go_wp2_with (at_builtin; refine held ?_)
    refine Held.go (wp_app (m := n) (news := xs) eltR ho (HR.out.ext X1) h1 (by omega) (.inr ⟨by omega, by omega⟩) X1.size _ _ rfl rfl rfl rfl ?_)
    intro A3 c3 w3 o3 g3 hA3 _
    have x3 : Ext w w3 := g3.ext X1 (fun q hq => by injection hq with hq; rw [← hq]; exact Nat.le_refl _)
    rw [List.nil_append, Nat.zero_add] at o3
    rw [Nat.zero_add]
    have HE := Lib.hid (And.intro o3 x3)
    clear o3 x3 g3 hA3 X1 ho
    go_wp2_with fail
    go_returns
    exact ⟨A3, c3, rfl, HE.out.1, HE.out.2⟩
end
section
variable {w w' : World} {g Z : Nat} {F : Nat → Prop} {L : List Th}
set_option maxHeartbeats 1600000 in
theorem list_any (h : QP w g F L Z) {n : Nat} (hn : L.length = n) : Calls Tryd.prog 23 #[.pointer (some ⟨g, 0, none⟩)] w fun e w' => ∃ B d, e = .returned (.slice B n d) ∧ Own w' w.heap.size 34 2 B n d (trows (sortT L)).flatten ∧ Ext w w' := by
  obtain ⟨b, A, n1, c, h1, _⟩ := h.ex
  have h2 := h1.len
  obtain rfl : n = n1 := by omega
  have hfew := h.few
  have CC := Lib.hid (clone_any (c := c) h1.own.rd (trows_one L) (fun e => by
    subst e
    rcases h1.own.2 with ⟨h3, h4⟩ | ⟨g', cap, cur, hv, _⟩
    · injection h3 with _ _ h5; exact ⟨h4, h5⟩
    · cases hv) (by omega))
  obtain ⟨c0, c1⟩ := h1.cells
  clear h h1 h2
  go_enter Tryd.func23, Tryd.ntmps23
  go_upto_region 2 with (go_at_call 35; refine CC.out.mono ?_; rintro e w1 ⟨B, d, rfl, o1, x1⟩)
  have CS := Lib.hid (sort_any o1 (by omega))
  have H1 := Lib.hid (And.intro (fun q hq => o1.base_le q hq) x1)
  clear CC o1 x1 c0 c1
  go_wp2_with (go_at_call 36; refine CS.out.mono ?_; rintro e w2 ⟨rfl, o2, g2⟩)
  have HE := Lib.hid (And.intro o2 (g2.ext H1.out.2 H1.out.1))
  clear CS o2 g2
  go_wp2_with fail
  go_returns
  exact ⟨B, d, rfl, HE.out.1, HE.out.2⟩
end
end Go.Proofs.YtocjbllkgbjihaaDoor
