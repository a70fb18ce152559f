/-
  Package wire: a Writer's Text and Bytes, spoilt or not, with all that they leave.
-/
import Derived.Test.YteflnnlihblpgaaDoorOwSp
import Derived.Test.YteflnnlihblpgaaDoorWrRef
namespace Go.Proofs.YteflnnlihblpgaaDoor
open Go.RowKit
set_option linter.unusedVariables false
/-- What two writes leave, one behind the other: the number's and the bytes'. -/
theorem wr_two {w w1 w2 : World} {g n c n1 c1 m c2 : Nat} {A A1 A2 : Option Addr} {bs bs1 bs2 : List Nat} {sp : Bool} (h : WrS w g A n c bs sp) (h1 : WrS w1 g A1 n1 c1 bs1 sp)
    (hf1 : Fr w w1 (fun b => b = g ∨ A.map (·.block) = some b)) (hA1 : ∀ a, A1 = some a → A.map (·.block) = some a.block ∨ w.heap.size ≤ a.block)
    (ho : Own w2 (g + 1) 5 1 A2 m c2 (u8s bs2)) (hg2 : Grows w1 w2 A1) (hA2 : A2 = A1 ∨ A2 = some ⟨w1.heap.size, 0, none⟩) :
    WrS (w2.setCell ⟨g, 0, none⟩ (.slice A2 m c2)) g A2 m c2 bs2 sp ∧ Fr w (w2.setCell ⟨g, 0, none⟩ (.slice A2 m c2)) (fun b => b = g ∨ A.map (·.block) = some b) ∧
    (∀ a, A2 = some a → A.map (·.block) = some a.block ∨ w.heap.size ≤ a.block) ∧ w2.cell? ⟨g, 0, none⟩ = some (.slice A1 n1 c1) ∧ w2.frozen? ⟨g, 0, none⟩ = false := by
  have glt := h1.lt
  have hk2 : w2.heap[g]? = w1.heap[g]? := hg2.block g glt (fun e => by
    have := h1.own.base_le g e.symm
    omega)
  have hb2 := hk2.trans h1.blk
  refine ⟨h1.put ho hk2, ?_, ?_, by rw [cell_of_row w2 g 0 _ _ _ hb2]; rfl, by simp only [World.frozen?, hb2]; simp⟩
  · refine (hf1.trans (Fr.grows hg2) (fun i hi hm => ?_)).trans (Fr.store w2 _ _) (fun i _ e => .inl e)
    obtain ⟨a, ha, hab⟩ := Option.map_eq_some_iff.1 hm
    rcases hA1 a ha with h | h
    · exact .inr (h.trans (by rw [hab]))
    · omega
  · intro a ea
    rcases hA2 with e | e
    · exact hA1 a (e.symm.trans ea)
    · rw [e] at ea
      injection ea with ea
      subst ea
      right
      exact hf1.size
set_option maxHeartbeats 800000 in
theorem gbytes_any (B : Option Addr) (m d : Nat) (l : List Nat) (w : World) {g n c : Nat} {A : Option Addr} {bs : List Nat} {sp : Bool} (h : WrS w g A n c bs sp) (hr : Rd w 1 B m (u8s l)) (hm : m ≤ 1048576) (hn : n ≤ 549755813888)
    (hB : ∀ b, B = some b → b.block ≠ g ∧ ∀ a, A = some a → a.block ≠ b.block) :
    Calls Tryd.prog 64 #[.pointer (some ⟨g, 0, none⟩), .slice B m d] w (WrOut w g A (bs ++ (Wr.num m ++ l)) sp) := by
  have N1 := Lib.hid (wnum_any m w h (by omega) (by omega))
  have hln := numlen9 (x := m) (by omega)
  have hbl := h.len
  have H0 := Lib.hid h
  have HR := Lib.hid (And.intro hr hB)
  clear h hr hB
  go_enter Tryd.func64, Tryd.ntmps64
  go_wp2_with fail
  refine N1.out.mono ?_
  rintro e w1 ⟨rfl, A1, n1, c1, h1, hf1, hA1⟩
  have hr1 := hf1.rd HR.out.1 (fun b hb hh => by
    rcases hh with hh | hh
    · exact (HR.out.2 b hb).1 hh
    · obtain ⟨a, ha, hab⟩ := Option.map_eq_some_iff.1 hh
      exact (HR.out.2 b hb).2 a ha hab)
  have c0 := h1.c0
  have f0 := h1.fr 0
  have hl1 := h1.len
  rw [List.length_append, hbl] at hl1
  have hn1 : n1 ≤ n + 9 := by omega
  have glt := h1.lt
  have H1 := Lib.hid (And.intro h1 (And.intro hf1 hA1))
  clear hl1 N1 hf1 hA1 h1
  go_wp2_with (at_builtin; refine held ?_)
  refine Held.go (wp_app (m := m) (news := u8s l) eltU8 H1.out.1.own hr1 (u8s_one _) (by omega) (.inr ⟨by omega, by omega⟩) (by omega) _ _ rfl rfl rfl rfl ?_)
  intro A2 c2 w2 o2 g2 hA2 _
  rw [← u8s_append, List.append_assoc] at o2
  obtain ⟨q1, q2, q3, d0, d1⟩ := wr_two H0.out H1.out.1 H1.out.2.1 H1.out.2.2 o2 g2 hA2
  have HF := Lib.hid (And.intro q1 (And.intro q2 q3))
  clear q1 q2 q3 o2 g2 hA2 c0 f0 hr1
  go_wp2_with fail
  go_returns
  exact ⟨rfl, A2, n1 + m, c2, HF.out.1, HF.out.2.1, HF.out.2.2⟩
end Go.Proofs.YteflnnlihblpgaaDoor
