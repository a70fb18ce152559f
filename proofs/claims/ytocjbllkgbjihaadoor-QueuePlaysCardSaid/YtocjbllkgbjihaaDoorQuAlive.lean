/-
  Package queue: the chapter's example, walked.
-/
import Derived.Test.YtocjbllkgbjihaaDoorQuOps2
namespace Go.Proofs.YtocjbllkgbjihaaDoor
set_option maxRecDepth 100000
open Go.RowKit Go.Maps
set_option linter.unusedVariables false
theorem nil_eql (w : World) : (binOp .eql 29 .nilIface .nilIface).run Tryd.prog w = .ok (.bool true) w := by kernel_rfl
section
variable {w w' : World} {g Z : Nat} {F : Nat → Prop} {L : List Th}
/-- Seen from an elder world. -/
theorem QN.from_ {a : World} {F' : Nat → Prop} (h : QN w w' g F F' L Z) (hx : Ext a w) (hF : ∀ b, F b → a.heap.size ≤ b) : Ext a w' ∧ ∀ b, F' b → a.heap.size ≤ b :=
  ⟨Fr.ext hx h.fr hF, fun b hb => (h.fo b hb).elim (hF b) (fun h1 => Nat.le_trans hx.size h1)⟩
set_option maxHeartbeats 1600000 in
theorem alive_any (w : World) : Calls Tryd.prog 8 #[] w fun e w' => e = .returned (.bool true) ∧ Ext w w' := by
  have C0 := Lib.hid (qnew_any w)
  go_enter Tryd.func8, Tryd.ntmps8
  go_wp2_with fail
  refine C0.out.mono ?_
  rintro e w0 ⟨g, F, rfl, q0, hF, x0⟩
  have C1 := Lib.hid (qpush_ok q0 ⟨7, 5⟩ (by constructor <;> decide) (by simp) (by simp) (by omega))
  have H0 := Lib.hid (And.intro q0 (And.intro hF x0))
  clear C0 q0 hF x0
  go_wp2_with fail
  refine C1.out.mono ?_
  rintro e w1 ⟨rfl, F1, L1, n1, p1⟩
  have C2 := Lib.hid (qpush_ok n1.qp ⟨3, 5⟩ (by constructor <;> decide) (fun y hy => by have := p1.mem_iff.1 hy; simp at this; subst this; simp) (by rw [p1.length_eq]; simp) (by omega))
  have H1 := Lib.hid (And.intro n1 p1)
  clear C1 n1 p1
  go_wp2_with fail
  refine C2.out.mono ?_
  rintro e w2 ⟨rfl, F2, L2, n2, p2⟩
  have p2' := p2.trans (H1.out.2.cons _)
  have C3 := Lib.hid (qpush_ok n2.qp ⟨9, 1⟩ (by constructor <;> decide) (fun y hy => by
    have := p2'.mem_iff.1 hy
    simp at this
    rcases this with rfl | rfl <;> simp) (by rw [p2'.length_eq]; simp) (by omega))
  have H2 := Lib.hid (And.intro n2 p2')
  clear C2 n2 p2 p2'
  go_wp2_with fail
  refine C3.out.mono ?_
  rintro e w3 ⟨rfl, F3, L3, n3, p3⟩
  have p3' := p3.trans (H2.out.2.cons _)
  have hl3 : L3.length = 2 + 1 := by rw [p3'.length_eq]; rfl
  have hx : at_ L3 0 = ⟨9, 1⟩ := by
    have hm := at_mem (L := L3) (k := 0) (by omega)
    have h9 := heap_least n3.qp.hp ⟨9, 1⟩ (p3'.mem_iff.2 (by simp))
    have := p3'.mem_iff.1 hm
    simp at this
    rcases this with e | e | e
    · exact e
    · rw [e] at h9; exact absurd h9 (by decide)
    · rw [e] at h9; exact absurd h9 (by decide)
  have C4 := Lib.hid (qpeek_ok n3.qp hl3 (Lib.hid hx.symm))
  have C5 := Lib.hid (fun (W : World) (hx : Ext w3 W) => qlen_any (n3.qp.ext hx))
  rw [hl3] at C5
  have H3 := Lib.hid n3
  clear C3 n3 p3 p3' hx hl3
  have hnil := nil_eql
  go_wp2_with fail
  refine C4.out.mono ?_
  rintro e w4 ⟨rfl, x4⟩
  clear C4
  go_wp2_with fail
  have x5 := x4.trans ((Ext.refl w4).alloc (.cells #[.int .i64 9, .int .i64 1] 34))
  refine (C5.out _ x5).mono ?_
  rintro e w5 ⟨rfl, rfl⟩
  clear C5
  go_wp2_with fail
  go_returns
  have e1 := H1.out.1.from_ H0.out.2.2 H0.out.2.1
  have e2 := H2.out.1.from_ e1.1 e1.2
  have e3 := H3.out.from_ e2.1 e2.2
  exact ⟨rfl, e3.1.trans x5⟩
end
end Go.Proofs.YtocjbllkgbjihaaDoor
