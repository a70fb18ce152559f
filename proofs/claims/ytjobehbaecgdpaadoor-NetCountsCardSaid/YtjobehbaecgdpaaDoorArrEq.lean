/-
  Two arrays of ints that hold the same are equal.
-/
import Derived.Test.YtjobehbaecgdpaaDoorLib
import Derived.Laws.StructEq
namespace Go.Proofs.YtjobehbaecgdpaaDoor
open Go.RowKit
set_option linter.unusedVariables false
theorem forIn_all_true {P : Program} {f : Nat → Option Bool × Unit → Sem (ForInStep (Option Bool × Unit))} : ∀ (l : List Nat) (w : World), (∀ i ∈ l, ∀ w, (f i (none, ())).run P w = .ok (.yield (none, ())) w) → (forIn l (none, ()) f).run P w = .ok (none, ()) w
  | [], _, _ => by simp
  | i :: l, w, h => by
    simp only [List.forIn_cons, Sem.run_bind, h i (by simp) w, Result.andThen_ok]
    exact forIn_all_true l w (fun j hj => h j (by simp [hj]))
theorem run_eq_ints {P : Program} {t e : TypeId} {n : Nat} (ht : P.underlying t = some (.array n e)) (he : P.underlying e = some (.int .i64)) (hi : (P.info? e).map (·.size) = some 1) (w : World) (d : Nat) (xs : List Int) (hx : xs.length = n) :
    (Op.equalIn (d + 2) t (.agg (xs.map (Value.int .i64)).toArray) (.agg (xs.map (Value.int .i64)).toArray)).run P w = .ok true w := by
  have hsz : ∀ w, (sizeOf e).run P w = .ok 1 w := fun w => by
    cases hq : P.info? e with
    | none => simp [hq] at hi
    | some i =>
      have hs : i.size = 1 := by simpa [hq] using hi
      simp [sizeOf, typeInfo, hq, hs]
  have hagg : ∀ w, (isAgg e).run P w = .ok false w := fun w => by
    unfold isAgg
    rw [Sem.run_bind, run_underlying he w]
    rfl
  have step : ∀ i, i < n → ∀ w, (part e (xs.map (Value.int .i64)).toArray (i * 1)).run P w = .ok (.int .i64 (xs.getD i 0)) w := fun i hi w => by
    have h1 : (xs.map (Value.int .i64)).toArray[i * 1]? = some (.int .i64 (xs.getD i 0)) := by
      rw [Nat.mul_one, List.getElem?_toArray, List.getElem?_map, List.getD_eq_getElem?_getD, List.getElem?_eq_getElem (by omega)]
      rfl
    simp only [part, Sem.run_bind, hagg, Result.andThen_ok, Bool.false_eq_true, if_false, h1, Sem.run_pure]
  have hin : ∀ (a : Int) w, (Op.equalIn (d + 1) e (.int .i64 a) (.int .i64 a)).run P w = .ok true w := fun a w => by
    rw [run_equalIn_int (P := P) w d e .i64 .i64 a a he]
    simp
  show (Op.equalIn ((d + 1) + 1) t _ _).run P w = _
  generalize d + 1 = d' at *
  simp only [Op.equalIn, Sem.run_bind, run_underlying ht, hsz, Result.andThen_ok]
  rw [Std.Legacy.Range.forIn_eq_forIn_range']
  rw [forIn_all_true _ w (fun i hi w => ?_)]
  · simp
  · have hin2 : i < n := by
      simp [Std.Legacy.Range.size] at hi
      exact hi
    simp only [Sem.run_bind, step i hin2, hin, Result.andThen_ok, Bool.not_true, Bool.false_eq_true, if_false, Sem.run_pure]
end Go.Proofs.YtjobehbaecgdpaaDoor
