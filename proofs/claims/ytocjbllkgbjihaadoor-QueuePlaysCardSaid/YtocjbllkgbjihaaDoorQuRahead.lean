/-
  The document's Ahead, walked.
-/
import Derived.Test.YtocjbllkgbjihaaDoorQuWalk
namespace Go.Proofs.YtocjbllkgbjihaaDoor
set_option maxRecDepth 100000
open Go.RowKit Go.Maps
set_option linter.unusedVariables false
set_option maxHeartbeats 1600000 in
theorem rahead_any (a c : Th) (w : World) : Calls Tryd.prog 14 #[.agg #[.int .i64 a.id, .int .i64 a.rank], .agg #[.int .i64 c.id, .int .i64 c.rank]] w fun e w' => e = .returned (.bool (ah a c)) ∧ Ext w w' := by
  have HX := Lib.hid (((Ext.refl w).alloc (.cells #[.int .i64 a.id, .int .i64 a.rank] 34)).alloc (.cells #[.int .i64 c.id, .int .i64 c.rank] 34))
  obtain ⟨ai, ar⟩ := a
  obtain ⟨ci, cr⟩ := c
  have H := Lib.hid (show ah ⟨ai, ar⟩ ⟨ci, cr⟩ = decide (ar < cr ∨ ar = cr ∧ ai < ci) from rfl)
  generalize ah ⟨ai, ar⟩ ⟨ci, cr⟩ = r at *
  dsimp only at *
  by_cases h1 : ar < cr
  · have e : r = true := by rw [H.out]; simp [h1]
    subst e
    clear H
    go_enter Tryd.func14, Tryd.ntmps14
    go_wp2_with fail
    go_returns
    exact ⟨rfl, HX.out⟩
  · by_cases h2 : ar = cr
    · have h2' : (ar == cr) = true := by simpa using h2
      by_cases h3 : ai < ci
      · have e : r = true := by rw [H.out]; simp [h2, h3]
        subst e
        clear H h2
        go_enter Tryd.func14, Tryd.ntmps14
        go_wp2_with fail
        go_returns
        exact ⟨rfl, HX.out⟩
      · have e : r = false := by rw [H.out]; simp [h1, h3]
        subst e
        clear H h2
        go_enter Tryd.func14, Tryd.ntmps14
        go_wp2_with fail
        go_returns
        exact ⟨rfl, HX.out⟩
    · have h2' : (ar == cr) = false := by simpa using h2
      have e : r = false := by rw [H.out]; simp [h1, h2]
      subst e
      clear H h2
      go_enter Tryd.func14, Tryd.ntmps14
      go_wp2_with fail
      go_returns
      exact ⟨rfl, HX.out⟩
end Go.Proofs.YtocjbllkgbjihaaDoor
