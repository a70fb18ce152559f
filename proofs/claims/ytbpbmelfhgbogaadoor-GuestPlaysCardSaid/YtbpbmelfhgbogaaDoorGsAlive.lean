/-
  Package almonerlaw15: alive, walked.
-/
import Derived.Test.YtbpbmelfhgbogaaDoorGsLaw
namespace Go.Proofs.YtbpbmelfhgbogaaDoor
set_option maxRecDepth 100000
open Go.RowKit
set_option linter.unusedVariables false
/-- The errors that a guest's calls may answer. -/
structure GErr (w : World) (pn pb pf pt : Addr) : Prop where
  rel : RelE w pn pb pf
  task : Sen w 3 pt
theorem GErr.ext {w w' : World} {pn pb pf pt : Addr} (h : GErr w pn pb pf pt) (hx : Ext w w') : GErr w' pn pb pf pt := ⟨h.rel.ext hx, h.task.ext hx⟩
def aT : List TaskV := [⟨2, 10, 10, 0⟩, ⟨3, 20, 5, 3⟩]
theorem aT_legal : LG 1 aT := ⟨.inl rfl, by decide, by decide, fun t ht => by
  simp only [aT, List.mem_cons, List.not_mem_nil, or_false] at ht
  rcases ht with rfl | rfl <;> (unfold TaskV.legal; dsimp only; omega)⟩
theorem next_ext {w w' W : World} {g : Nat} {F F' : Nat → Prop} {p : Int} {ks : List TkV} {js : List JobV} (hx : Ext W w) (h : Next_ w w' g F F' p ks js) (hF : ∀ b, F b → W.heap.size ≤ b) : Ext W w' ∧ ∀ b, F' b → W.heap.size ≤ b :=
  ⟨Fr.ext hx h.fr hF, fun b hb => by
    rcases h.fo b hb with e | e
    · exact hF b e
    · have := hx.size; omega⟩
set_option maxHeartbeats 3200000 in
theorem galive_any (w : World) {pn pb pf pt : Addr} (hE : GErr w pn pb pf pt) : Calls Tryd.prog 8 #[] w fun e w' => e = .returned (.bool true) ∧ Ext w w' := by
  have XA := (Ext.refl w).alloc (.cells #[.int .i64 2, .int .i64 10, .int .i64 10, .int .i64 0, .int .i64 3, .int .i64 20, .int .i64 5, .int .i64 3] 41)
  have RT : Rd (w.alloc (.cells #[.int .i64 2, .int .i64 10, .int .i64 10, .int .i64 0, .int .i64 3, .int .i64 20, .int .i64 5, .int .i64 3] 41)) 4 (some ⟨w.heap.size, 0, none⟩) 2 (trows aT).flatten :=
    ⟨rfl, fun _ => ⟨_, rfl, by rw [World.size_alloc]; exact Nat.lt_succ_self _, World.news_of_block (heap_alloc_new w _)⟩⟩
  have NW := Lib.hid (fun c => news_ok 1 (some ⟨w.heap.size, 0, none⟩) 2 c aT _ RT (hE.task.ext XA) aT_legal)
  have HX := Lib.hid (And.intro XA hE)
  clear XA RT hE
  go_enter Tryd.func8, Tryd.ntmps8
  go_wp2_with fail
  refine (NW.out _).mono ?_
  rintro e w1 ⟨g, F, rfl, h1, f1, x1⟩
  have X1 : Ext w w1 := HX.out.1.trans x1
  have F1 : ∀ b, F b → w.heap.size ≤ b := fun b hb => by have := f1 b hb; have := HX.out.1.size; omega
  have R1 := Lib.hid (release_ok h1 (k := 0) (now := 0) 2 (x := ⟨⟨2, 10, 10, 0⟩, 0, false⟩) rfl (by omega) (by omega) (.inl rfl) (by decide))
  have H1 := Lib.hid (And.intro X1 F1)
  clear NW h1 f1 x1 X1 F1
  go_wp2_with fail
  refine R1.out.mono ?_
  rintro e w2 ⟨rfl, F2, n2⟩
  have X2 := next_ext H1.out.1 n2 H1.out.2
  have R2 := Lib.hid (release_ok n2.gp (k := 1) (now := 0) 9 (x := ⟨⟨3, 20, 5, 3⟩, 0, false⟩) rfl (by omega) (by omega) (.inl rfl) (by decide))
  have H2 := Lib.hid X2
  clear R1 n2 X2 H1
  go_wp2_with fail
  refine R2.out.mono ?_
  rintro e w3 ⟨rfl, F3, n3⟩
  have X3 := next_ext H2.out.1 n3 H2.out.2
  have R3 := nexts_any n3.gp (x := ⟨1, 0, 5, 3, 0⟩) (by kernel_rfl)
  have H3 := Lib.hid X3.1
  have R3 := Lib.hid (R3.mono fun e w' ⟨he, hx⟩ => (show e = Ending.returned (.tuple #[.agg #[.int .i64 1, .int .i64 0, .int .i64 5, .int .i64 3, .int .i64 0], .bool true]) ∧ Ext w3 w' from ⟨he, hx⟩))
  clear R2 n3 X3 H2
  go_wp2_with fail
  refine R3.out.mono ?_
  rintro e w4 ⟨rfl, x4⟩
  have H4 := Lib.hid ((H3.out.trans x4).alloc (.cells #[.int .i64 1, .int .i64 0, .int .i64 5, .int .i64 3, .int .i64 0] 46))
  clear R3 x4 H3
  go_wp2_with fail
  try go_quiet (fail)
  try go_wp2_with fail
  go_returns
  exact ⟨rfl, H4.out⟩
end Go.Proofs.YtbpbmelfhgbogaaDoor
