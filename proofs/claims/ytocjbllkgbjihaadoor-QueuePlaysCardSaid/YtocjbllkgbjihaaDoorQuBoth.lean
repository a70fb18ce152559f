/-
  What both queues answer to Push, Turn, Drop.
-/
import Derived.Test.YtocjbllkgbjihaaDoorQuPair
namespace Go.Proofs.YtocjbllkgbjihaaDoor
set_option maxRecDepth 100000
open Go.RowKit Go.Maps
set_option linter.unusedVariables false
structure BPush (E : Nat → Addr) (w : World) (g q Z : Nat) (F : Nat → Prop) (N : List Th) (id rank : Int) (r : Value) (n : Int) : Prop where
  g : Calls Tryd.prog 10 #[.pointer (some ⟨g, 0, none⟩), .int .i64 id, .int .i64 rank] w fun e w' => e = .returned r ∧ ∃ F' L', QN w w' g F F' L' (Z + 20000) ∧ ∀ w2 M, RQ w2 q M N → Calls Tryd.prog 40 #[.pointer (some ⟨q, 0, none⟩), .int .i64 id, .int .i64 rank] w2 fun e w3 => e = .returned (.int .i64 n) ∧ ∃ M' N', RN w2 w3 q M M' N' ∧ L'.Perm N'
  num : ∀ w2, Errs w2 E → Calls Tryd.prog 39 #[r] w2 fun e w3 => e = .returned (.int .i64 n) ∧ Ext w2 w3
structure BTurn (E : Nat → Addr) (w : World) (g q Z : Nat) (F : Nat → Prop) (N : List Th) (id rank : Int) (r : Value) (n : Int) : Prop where
  g : Calls Tryd.prog 12 #[.pointer (some ⟨g, 0, none⟩), .int .i64 id, .int .i64 rank] w fun e w' => e = .returned r ∧ ∃ F' L', QN w w' g F F' L' (Z + 20000) ∧ ∀ w2 M, RQ w2 q M N → Calls Tryd.prog 42 #[.pointer (some ⟨q, 0, none⟩), .int .i64 id, .int .i64 rank] w2 fun e w3 => e = .returned (.int .i64 n) ∧ ∃ M' N', RN w2 w3 q M M' N' ∧ L'.Perm N'
  num : ∀ w2, Errs w2 E → Calls Tryd.prog 39 #[r] w2 fun e w3 => e = .returned (.int .i64 n) ∧ Ext w2 w3
structure BDrop (E : Nat → Addr) (w : World) (g q Z : Nat) (F : Nat → Prop) (N : List Th) (id rank : Int) (r : Value) (n : Int) : Prop where
  g : Calls Tryd.prog 11 #[.pointer (some ⟨g, 0, none⟩), .int .i64 id] w fun e w' => e = .returned r ∧ ∃ F' L', QN w w' g F F' L' (Z + 20000) ∧ ∀ w2 M, RQ w2 q M N → Calls Tryd.prog 43 #[.pointer (some ⟨q, 0, none⟩), .int .i64 id] w2 fun e w3 => e = .returned (.int .i64 n) ∧ ∃ M' N', RN w2 w3 q M M' N' ∧ L'.Perm N'
  num : ∀ w2, Errs w2 E → Calls Tryd.prog 39 #[r] w2 fun e w3 => e = .returned (.int .i64 n) ∧ Ext w2 w3
section
variable {w : World} {g q Z : Nat} {F : Nat → Prop} {L N : List Th} {E : Nat → Addr}
theorem find_id (L : List Th) (id : Int) : (∃ y ∈ L, y.id = id) ∨ ∀ y ∈ L, y.id ≠ id := by
  by_cases h : ∃ y ∈ L, y.id = id
  · exact .inl h
  · exact .inr fun y hy e => h ⟨y, hy, e⟩
theorem both_push (h : QP w g F L Z) (hp : L.Perm N) (hE : Errs w E) (id rank : Int) (hi : i64 id) (hZ : Z < 4611686018427000000) : ∃ r n, BPush E w g q Z F N id rank r n := by
  have hlen := hp.length_eq
  have hfew := h.few
  have mem2 : ∀ y ∈ N, y ∈ L := fun y hy => hp.mem_iff.2 hy
  rcases find_id L id with ⟨y, hy, rfl⟩ | hnew
  · refine ⟨_, 6, (qpush_there h hy rank (hE.sen _ (by decide))).mono ?_, fun w2 h2 => num_there E w2 h2⟩
    rintro e w' ⟨rfl, x⟩
    exact ⟨rfl, F, L, (QN.same h x).mono (by omega), fun w2 M hM => (rpush_there hM (by omega) (hp.mem_iff.1 hy) rank).mono (by rintro e w3 ⟨rfl, x3⟩; exact ⟨rfl, M, N, RN.same hM x3, hp⟩)⟩
  · by_cases hl : 4096 ≤ L.length
    · refine ⟨_, 7, (qpush_full h hi hnew hl rank (hE.sen _ (by decide))).mono ?_, fun w2 h2 => num_full E w2 h2⟩
      rintro e w' ⟨rfl, x⟩
      exact ⟨rfl, F, L, (QN.same h x).mono (by omega), fun w2 M hM => (rpush_full hM (by omega) (fun y hy => hnew y (mem2 y hy)) (by omega) rank).mono (by rintro e w3 ⟨rfl, x3⟩; exact ⟨rfl, M, N, RN.same hM x3, hp⟩)⟩
    · refine ⟨_, 0, (qpush_ok h ⟨id, rank⟩ hi hnew (by omega) hZ).mono ?_, fun w2 h2 => num_nil w2⟩
      rintro e w' ⟨rfl, F', L', n1, p1⟩
      exact ⟨rfl, F', L', n1, fun w2 M hM => (rpush_ok hM ⟨id, rank⟩ (fun y hy => hnew y (mem2 y hy)) (by omega)).mono (by rintro e w3 ⟨rfl, M', n3⟩; exact ⟨rfl, M', _, n3, p1.trans ((hp.cons _).trans (List.perm_append_singleton _ _).symm)⟩)⟩
theorem both_turn (h : QP w g F L Z) (hp : L.Perm N) (hE : Errs w E) (id rank : Int) (hi : i64 id) (hZ : Z < 4611686018427000000) : ∃ r n, BTurn E w g q Z F N id rank r n := by
  have hlen := hp.length_eq
  have hfew := h.few
  have mem2 : ∀ y ∈ N, y ∈ L := fun y hy => hp.mem_iff.2 hy
  have hI := h.ids.perm hp
  rcases find_id L id with ⟨y, hy, rfl⟩ | hnew
  · refine ⟨_, 0, (qturn_ok h hy rank hZ).mono ?_, fun w2 h2 => num_nil w2⟩
    rintro e w' ⟨rfl, F', L', R, n1, p1, p2⟩
    refine ⟨rfl, F', L', n1, fun w2 M hM => (rturn_ok hM (by omega) hI (hp.mem_iff.1 hy) rank).mono ?_⟩
    rintro e w3 ⟨rfl, M', N', R', n3, p3, p4⟩
    have pr : R.Perm R' := (List.perm_cons y).1 (p1.trans (hp.trans p3.symm))
    exact ⟨rfl, M', N', n3, p2.trans ((pr.cons _).trans p4.symm)⟩
  · refine ⟨_, 5, (qturn_gone h hi hnew rank (hE.sen _ (by decide))).mono ?_, fun w2 h2 => num_gone E w2 h2⟩
    rintro e w' ⟨rfl, x⟩
    exact ⟨rfl, F, L, (QN.same h x).mono (by omega), fun w2 M hM => (rturn_gone hM (by omega) (fun y hy => hnew y (mem2 y hy)) rank).mono (by rintro e w3 ⟨rfl, x3⟩; exact ⟨rfl, M, N, RN.same hM x3, hp⟩)⟩
theorem both_drop (h : QP w g F L Z) (hp : L.Perm N) (hE : Errs w E) (id rank : Int) (hi : i64 id) (hZ : Z < 4611686018427000000) : ∃ r n, BDrop E w g q Z F N id rank r n := by
  have hlen := hp.length_eq
  have hfew := h.few
  have mem2 : ∀ y ∈ N, y ∈ L := fun y hy => hp.mem_iff.2 hy
  have hI := h.ids.perm hp
  rcases find_id L id with ⟨y, hy, rfl⟩ | hnew
  · refine ⟨_, 0, (qdrop_ok h hy hZ).mono ?_, fun w2 h2 => num_nil w2⟩
    rintro e w' ⟨rfl, F', L', n1, p1⟩
    refine ⟨rfl, F', L', n1, fun w2 M hM => (rdrop_ok hM (by omega) hI (hp.mem_iff.1 hy)).mono ?_⟩
    rintro e w3 ⟨rfl, M', N', n3, p3⟩
    exact ⟨rfl, M', N', n3, (List.perm_cons y).1 (p1.trans (hp.trans p3.symm))⟩
  · refine ⟨_, 5, (qdrop_gone h hi hnew (hE.sen _ (by decide))).mono ?_, fun w2 h2 => num_gone E w2 h2⟩
    rintro e w' ⟨rfl, x⟩
    exact ⟨rfl, F, L, (QN.same h x).mono (by omega), fun w2 M hM => (rdrop_gone hM (by omega) (fun y hy => hnew y (mem2 y hy))).mono (by rintro e w3 ⟨rfl, x3⟩; exact ⟨rfl, M, N, RN.same hM x3, hp⟩)⟩
end
end Go.Proofs.YtocjbllkgbjihaaDoor
