/-
  A server that comes in: its three numbers.
-/
import Derived.Test.YtimjmacjkefljaaDoorSupWalks
import Derived.Test.YtimjmacjkefljaaDoorOpen
import Derived.Lib.SmallJoins
namespace Go.Proofs.YtimjmacjkefljaaDoor
open Go.ChangeShapes Go.WideShapes Go.ChangeAt Go.RowKit Go.Lib Go.Joins
theorem oneSrv : Tryd.prog.cellsOf 23 = 3 := by kernel_rfl
theorem open_srv {H : Type} {enc : TypeId × Value → H} {W : World} {base : Nat} {v : Value} {d : DataW H} {p : List MemPlace}
    (hv : Value.okWide Tryd.prog W .any base 23 v) (h : DataW.Trod enc Tryd.prog W 0 (fun _ => true) true 23 v d p) :
    ∃ K Q T : Int, v = srv K Q T ∧ I64 K ∧ I64 Q ∧ I64 T := by
  obtain ⟨v0, v1, v2, y0, y1, y2, n, rfl, _, _, h0, h1, h2⟩ := open_agg3 Tryd.underlying23 (by kernel_rfl) oneSrv hv h
  obtain ⟨k0, e0, _, w0⟩ := DataW.trod_int Tryd.underlying3 h0
  obtain ⟨k1, e1, _, w1⟩ := DataW.trod_int Tryd.underlying3 h1
  obtain ⟨k2, e2, _, w2⟩ := DataW.trod_int Tryd.underlying3 h2
  simp only [List.cons.injEq, and_true] at e0 e1 e2
  subst e0 e1 e2
  exact ⟨k0, k1, k2, rfl, wf_i64b w0, wf_i64b w1, wf_i64b w2⟩
end Go.Proofs.YtimjmacjkefljaaDoor
