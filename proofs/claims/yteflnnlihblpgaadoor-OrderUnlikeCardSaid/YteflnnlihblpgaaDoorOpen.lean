/-
  Arguments opened: a slice of bytes, a slice of ints, as lists that 'Rd' speaks of.
-/
import Derived.Test.YteflnnlihblpgaaDoorLib
import Derived.ProofKit
import Derived.OpenShut
import Derived.SizedLaws
import Derived.ChangeOld
namespace Go.Proofs.YteflnnlihblpgaaDoor
open Go.RowKit Go.ChangeShapes Go.WideShapes Go.ChangeAt

def ints (l : List Int) : List Value := l.map (Value.int .i64)
theorem ints_len (l : List Int) : (ints l).length = l.length := by simp [ints]
theorem ints_one (l : List Int) : ∀ u ∈ ints l, u.oneCell' = true := by
  intro u hu; simp [ints] at hu; obtain ⟨n, _, rfl⟩ := hu; rfl

/-- Every int of the list fits 64 bits. -/
def Fits64 (l : List Int) : Prop := ∀ x ∈ l, -9223372036854775808 ≤ x ∧ x ≤ 9223372036854775807

section
variable {H : Type} {enc : TypeId × Value → H} {P : Program} {W : World} {t e : TypeId} {v : Value} {d : DataW H} {p : List MemPlace} {b0 : Nat} {r : Reach}

theorem open_row {k : IntKind} (ht : P.underlying t = some (.slice e)) (he : P.underlying e = some (.int k)) (hc : P.cellsOf e = 1) (hv : Value.okWide P W r b0 t v) (h : DataW.Trod enc P W 0 (fun _ => true) true t v d p) :
    ∃ (a : Option Addr) (n c : Nat) (zs : List Int), v = .slice a n c ∧ n ≤ c ∧ Rd W 1 a n ((zs.take n).map (Value.int k)) ∧ (∀ x ∈ zs.take n, (Lit.int k x).wf = true) ∧ (d = .nil ∧ c = 0 ∨ ∃ elems spare, d = .slice elems spare ∧ elems.length + spare.length = c) := by
  obtain ⟨a, n, c, rfl⟩ := okWide_slice ht hv
  obtain ⟨fuel, hf⟩ := h
  rcases open_ints ht he hc hf with ⟨hcs, hx⟩ | ⟨x, l, c', zs, hcs, _, hl, hm, hz, hx, hcell, hwz⟩
  · simp [Value.cells] at hcs
    obtain ⟨rfl, rfl, rfl⟩ := hcs
    injection hx with hx _
    exact ⟨none, 0, 0, [], rfl, Nat.le_refl _, Rd.nil_, by simp, .inl ⟨hx, rfl⟩⟩
  · simp [Value.cells] at hcs
    obtain ⟨rfl, rfl, rfl⟩ := hcs
    simp only [if_true] at hz
    injection hx with hx _
    refine ⟨some x, _, _, zs, rfl, hl, ⟨by simp; omega, fun hn => ⟨x, rfl, ?_, ?_⟩⟩, fun y hy => hwz y (List.mem_of_mem_take hy), .inr ⟨_, _, hx, by simp [lits]; omega⟩⟩
    · have h0 := hcell 0 (by omega)
      have h1 : (x.add 0).block = x.block := add_block _ _
      rw [← h1]
      refine Nat.lt_of_not_le fun hge => ?_
      simp [World.cell?, Array.getElem?_eq_none hge] at h0
    · intro j u hu
      rw [List.getElem?_map] at hu
      cases hj : (zs.take n)[j]? with
      | none => rw [hj] at hu; cases hu
      | some y =>
        rw [hj] at hu
        injection hu with hu
        subst hu
        rw [List.getElem?_take] at hj
        split at hj
        · rw [hcell j (by omega), List.getD, hj]; rfl
        · cases hj

theorem open_bytes (ht : P.underlying t = some (.slice e)) (he : P.underlying e = some (.int .u8)) (hc : P.cellsOf e = 1) (hb : P.bytesOf e = 1) (hv : Value.okWide P W r b0 t v) (h : DataW.Trod enc P W 0 (fun _ => true) true t v d p)
    (hs : ∀ elems spare, d = .slice elems spare → (elems.length + spare.length) * P.bytesOf e ≤ reachBytes) :
    ∃ (a : Option Addr) (n c : Nat) (l : List Nat), v = .slice a n c ∧ n ≤ c ∧ c ≤ 140737488351232 ∧ Rd W 1 a n (u8s l) ∧ (∀ x ∈ l, x < 256) ∧ (d = .nil ∧ c = 0 ∨ ∃ elems spare, d = .slice elems spare ∧ elems.length + spare.length = c) := by
  obtain ⟨a, n, c, zs, rfl, hn, hr, hw, hd⟩ := open_row ht he hc hv h
  have hwf : ∀ x ∈ zs.take n, 0 ≤ x ∧ x < 256 := fun x hx => by
    have := hw x hx
    simp [Lit.wf, IntKind.min, IntKind.max, IntKind.signed, IntKind.bits] at this
    omega
  have e1 : u8s ((zs.take n).map Int.toNat) = (zs.take n).map (Value.int .u8) := by
    rw [u8s, List.map_map]
    refine List.map_congr_left fun x hx => ?_
    have := hwf x hx
    simp only [Function.comp, Int.toNat_of_nonneg this.1]
  refine ⟨a, n, c, (zs.take n).map Int.toNat, rfl, hn, ?_, by rw [e1]; exact hr, ?_, hd⟩
  · rcases hd with ⟨_, rfl⟩ | ⟨elems, spare, hd, hl⟩
    · omega
    · have := hs elems spare hd
      rw [hb, hl] at this
      simp [reachBytes] at this
      omega
  · intro x hx
    obtain ⟨y, hy, rfl⟩ := List.mem_map.1 hx
    have := hwf y hy
    omega

theorem open_ilist (ht : P.underlying t = some (.slice e)) (he : P.underlying e = some (.int .i64)) (hc : P.cellsOf e = 1) (hb : P.bytesOf e = 8) (hv : Value.okWide P W r b0 t v) (h : DataW.Trod enc P W 0 (fun _ => true) true t v d p)
    (hs : ∀ elems spare, d = .slice elems spare → (elems.length + spare.length) * P.bytesOf e ≤ reachBytes) :
    ∃ (a : Option Addr) (n c : Nat) (l : List Int), v = .slice a n c ∧ n ≤ c ∧ c * 8 ≤ 140737488351232 ∧ Rd W 1 a n (ints l) ∧ Fits64 l ∧ (d = .nil ∧ c = 0 ∨ ∃ elems spare, d = .slice elems spare ∧ elems.length + spare.length = c) := by
  obtain ⟨a, n, c, zs, rfl, hn, hr, hw, hd⟩ := open_row ht he hc hv h
  refine ⟨a, n, c, zs.take n, rfl, hn, ?_, hr, fun x hx => ?_, hd⟩
  · rcases hd with ⟨_, rfl⟩ | ⟨elems, spare, hd, hl⟩
    · omega
    · have := hs elems spare hd
      rw [hb, hl] at this
      simp [reachBytes] at this
      omega
  · have := hw x hx
    simp [Lit.wf, IntKind.min, IntKind.max, IntKind.signed, IntKind.bits] at this
    omega

theorem wf_i64b {x : Int} (h : (Lit.int .i64 x).wf = true) : -9223372036854775808 ≤ x ∧ x ≤ 9223372036854775807 := by
  simp [Lit.wf, IntKind.min, IntKind.max, IntKind.signed, IntKind.bits] at h
  omega
theorem wf_u64b {x : Int} (h : (Lit.int .u64 x).wf = true) : 0 ≤ x ∧ x < 18446744073709551616 := by
  simp [Lit.wf, IntKind.min, IntKind.max, IntKind.signed, IntKind.bits] at h
  omega
theorem wf_u32b {x : Int} (h : (Lit.int .u32 x).wf = true) : 0 ≤ x ∧ x < 4294967296 := by
  simp [Lit.wf, IntKind.min, IntKind.max, IntKind.signed, IntKind.bits] at h
  omega
theorem wf_u8b {x : Int} (h : (Lit.int .u8 x).wf = true) : 0 ≤ x ∧ x < 256 := by
  simp [Lit.wf, IntKind.min, IntKind.max, IntKind.signed, IntKind.bits] at h
  omega
end
end Go.Proofs.YteflnnlihblpgaaDoor
