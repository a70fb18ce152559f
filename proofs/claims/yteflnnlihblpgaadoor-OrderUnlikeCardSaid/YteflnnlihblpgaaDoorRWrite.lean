/-
  Package wire: a writer; NewWriter, Num, walked.
-/
import Derived.Test.YteflnnlihblpgaaDoorBytes
import Derived.Test.YteflnnlihblpgaaDoorFr
import Derived.Test.YteflnnlihblpgaaDoorRPlain
import Derived.Test.YteflnnlihblpgaaDoorMask
import Derived.Laws.BitsAllLaws
import Derived.Laws.Bits64
import Derived.Handy
namespace Go.Proofs.YteflnnlihblpgaaDoor
set_option maxRecDepth 100000
open Go.RowKit
set_option linter.unusedVariables false
theorem u8s_ns (l : List Nat) : u8s l = ns .u8 l := rfl
/-- A writer at block g: its bytes, and whether it is spoilt. -/
structure WrS (w : World) (g : Nat) (A : Option Addr) (n c : Nat) (bs : List Nat) (sp : Bool) : Prop where
  blk : w.heap[g]? = some (.cells #[.slice A n c, .bool sp] 134 (0, 0))
  own : Own w (g + 1) 5 1 A n c (u8s bs)
section
variable {w w' : World} {g n c : Nat} {A : Option Addr} {bs : List Nat} {sp : Bool}
theorem WrS.lt (h : WrS w g A n c bs sp) : g < w.heap.size := (Array.getElem?_eq_some_iff.1 h.blk).1
theorem WrS.c0 (h : WrS w g A n c bs sp) : w.cell? ⟨g, 0, none⟩ = some (.slice A n c) := by rw [cell_of_row w g 0 _ _ _ h.blk]; rfl
theorem WrS.c1 (h : WrS w g A n c bs sp) : w.cell? ⟨g, 1, none⟩ = some (.bool sp) := by rw [cell_of_row w g 1 _ _ _ h.blk]; rfl
theorem WrS.fr (h : WrS w g A n c bs sp) (k : Nat) : w.frozen? ⟨g, k, none⟩ = false := by
  have := h.blk
  simp only [World.frozen?, this]
  simp
theorem WrS.len (h : WrS w g A n c bs sp) : bs.length = n := by have := h.own.len; rw [u8s_len] at this; omega
/-- What leaves the writer's blocks alone keeps it. -/
theorem WrS.keep (h : WrS w g A n c bs sp) {P : Nat → Prop} (hf : Fr w w' P) (h1 : ¬ P g) (h2 : ∀ a, A = some a → ¬ P a.block) : WrS w' g A n c bs sp := by
  refine ⟨(hf.block g h.lt h1).trans h.blk, h.own.1, ?_⟩
  rcases h.own.2 with hn | ⟨g', cap, cur, e1, hb, hgg, rest⟩
  · exact .inl hn
  · refine .inr ⟨g', cap, cur, e1, hb, (hf.block g' (Array.getElem?_eq_some_iff.1 hgg).1 ?_).trans hgg, rest⟩
    injection e1 with e1
    exact h2 _ e1
theorem WrS.ext (h : WrS w g A n c bs sp) (hx : Ext w w') : WrS w' g A n c bs sp := h.keep (Fr.of_ext hx (fun _ => False)) (fun h => h) (fun _ _ h => h)
/-- The bytes are stored anew. -/
theorem WrS.put (h : WrS w g A n c bs sp) {w1 : World} {A' : Option Addr} {n' c' : Nat} {bs' : List Nat} (ho : Own w1 (g + 1) 5 1 A' n' c' (u8s bs')) (hk : w1.heap[g]? = w.heap[g]?) :
    WrS (w1.setCell ⟨g, 0, none⟩ (.slice A' n' c')) g A' n' c' bs' sp := by
  have hb := hk.trans h.blk
  refine ⟨heap_setCell_same w1 g 0 _ _ _ hb, ho.same fun b hb' _ => ?_⟩
  exact heap_setCell_other w1 ⟨g, 0, none⟩ b _ (by simp; omega)
end
/-- What a call on a writer leaves. -/
def WrOut (w : World) (g : Nat) (A : Option Addr) (bs : List Nat) (sp : Bool) (e : Ending) (w' : World) : Prop :=
  e = .returned (.tuple #[]) ∧ ∃ A' n' c', WrS w' g A' n' c' bs sp ∧ Fr w w' (fun b => b = g ∨ A.map (·.block) = some b) ∧ (∀ a, A' = some a → A.map (·.block) = some a.block ∨ w.heap.size ≤ a.block)
set_option maxHeartbeats 400000 in
theorem new_any (w : World) : Calls Tryd.prog 53 #[] w fun e w' => e = .returned (.pointer (some ⟨w.heap.size, 0, none⟩)) ∧ WrS w' w.heap.size none 0 0 [] false ∧ Ext w w' := by
  go_enter Tryd.func53, Tryd.ntmps53
  go_wp2_with fail
  go_ret
  exact ⟨rfl, ⟨heap_alloc_new w _, Own.nil_⟩, (Ext.refl w).alloc _⟩
set_option maxHeartbeats 400000 in
theorem wnum_no (x : Int) (w : World) {g n c : Nat} {A : Option Addr} {bs : List Nat} {sp : Bool} (h : WrS w g A n c bs sp) (hx : x < 0) :
    Calls Tryd.prog 54 #[.pointer (some ⟨g, 0, none⟩), .int .i64 x] w fun e w' => e = .returned (.tuple #[]) ∧ w' = w.setCell ⟨g, 1, none⟩ (.bool true) := by
  have c1 := h.c1
  have f1 := h.fr 1
  clear h
  go_enter Tryd.func54, Tryd.ntmps54
  go_wp2_with fail
  go_returns
  exact ⟨rfl, rfl⟩
set_option maxHeartbeats 1600000 in
theorem wnum_any (x : Nat) (w : World) {g n c : Nat} {A : Option Addr} {bs : List Nat} {sp : Bool} (h : WrS w g A n c bs sp) (hx : x ≤ 9223372036854775807) (hn : n ≤ 1099511627776) :
    Calls Tryd.prog 54 #[.pointer (some ⟨g, 0, none⟩), .int .i64 (x : Int)] w (WrOut w g A (bs ++ Wr.num x) sp) := by
  have hl : (Wr.num x).length ≤ 9 := Wr.num_len 8 x (by rw [show (128 : Nat) ^ (8 + 1) = 9223372036854775808 by decide]; omega)
  have HW := Lib.hid h
  have hlen := h.len
  have HL := Lib.hid hl
  have HN := Lib.hid hlen
  clear h hl hlen
  go_enter Tryd.func54, Tryd.ntmps54
  go_wp2_with fail
  go_loopw [1] (fun vi wr => ∃ (k : Nat) (pre : List Nat) (A' : Option Addr) (n' c' : Nat), vi = .int .i64 (k : Int) ∧ k ≤ 9223372036854775807 ∧ Hid (Wr.num x = pre ++ Wr.num k) ∧ n' ≤ n + 9 ∧
      WrS wr g A' n' c' (bs ++ pre) sp ∧ Fr w wr (fun b => b = g ∨ A.map (·.block) = some b) ∧ (∀ a, A' = some a → A.map (·.block) = some a.block ∨ w.heap.size ≤ a.block)) (fun i _ => (intOf i).toNat)
  case atStart => exact ⟨x, [], A, n, c, rfl, hx, rfl, by omega, by rw [List.append_nil]; exact HW.out, Fr.refl _ _, fun a e => .inl (by rw [e]; rfl)⟩
  case round =>
    obtain ⟨k, pre, A', n', c', rfl, hk, hp, hn', hws, hf, hA⟩ := hrel
    have hpl : pre.length + (Wr.num k).length ≤ 9 := by have := HL.out; rw [hp.out, List.length_append] at this; exact this
    have hkp := Wr.num_pos k
    have hlen' := hws.len
    rw [List.length_append, HN.out] at hlen'
    have hcap : n' ≤ n + 8 := by omega
    have c0 := hws.c0
    have f0 := hws.fr 0
    have glt := hws.lt
    clear hlen' hpl hkp
    by_cases h1 : k < 128
    · have e1 := Wr.num_small h1
      have E1 := Lib.hid e1
      clear e1
      go_wp2_with (at_builtin; refine held ?_)
      refine Held.go (wp_app (m := 1) (news := u8s [k]) eltU8 (hws.own.alloc _) (Rd.new _ _ _ _) (u8s_one _) (by omega) (.inr ⟨by omega, by omega⟩) (by simp; omega) _ _ rfl rfl rfl rfl ?_)
      intro A2 c2 w2 hown2 hg2 hA2 _
      rw [← u8s_append] at hown2
      have hk2 : w2.heap[g]? = wr.heap[g]? := by
        refine (hg2.block g (by simp; omega) (fun e => ?_)).trans (Below.heap_alloc wr _ g glt)
        have hb := hws.own.base_le g e.symm
        omega
      have hs2 := hws.put hown2 hk2
      have d0 : w2.cell? ⟨g, 0, none⟩ = some (.slice A' n' c') := by rw [cell_of_row w2 g 0 _ _ _ (hk2.trans hws.blk)]; rfl
      have d1 : w2.frozen? ⟨g, 0, none⟩ = false := by have := hk2.trans hws.blk; simp only [World.frozen?, this]; simp
      have hf2 : Fr w (w2.setCell ⟨g, 0, none⟩ (.slice A2 (n' + 1) c2)) (fun b => b = g ∨ A.map (·.block) = some b) := by
        refine ((hf.trans (Fr.of_ext ((Ext.refl wr).alloc _) (fun _ => False)) (fun _ _ h => h.elim)).trans (Fr.grows hg2) (fun i hi hm => ?_)).trans (Fr.store w2 _ _) (fun i _ e => .inl e)
        obtain ⟨a, ha, hab⟩ := Option.map_eq_some_iff.1 hm
        rcases hA a ha with h | h
        · exact .inr (h.trans (by rw [hab]))
        · omega
      have hA2' : ∀ a, A2 = some a → A.map (·.block) = some a.block ∨ w.heap.size ≤ a.block := fun a ea => by
        rcases hA2 with e | e
        · exact hA a (e.symm.trans ea)
        · rw [e] at ea
          injection ea with ea
          subst ea
          right
          have := hf.size
          simp
          omega
      clear hown2 hg2 hA2 hk2 c0 f0
      go_wp2_with fail
      go_returns
      refine ⟨rfl, A2, n' + 1, c2, ?_, hf2, hA2'⟩
      have e2 : bs ++ Wr.num x = bs ++ pre ++ [k] := by rw [hp.out, E1.out, List.append_assoc]
      rw [e2]
      exact hs2
    · have e1 := Wr.num_big h1
      have E1 := Lib.hid e1
      have e3 : Go.bits .or .u8 ((k : Int) % 128) 128 = ((k % 128 + 128 : Nat) : Int) := by
        have h := u8_or_nat (k % 128) 128 (by omega) (by decide)
        have e : ∀ m : Fin 128, (m.val ||| 128) = m.val + 128 := by decide
        rw [e ⟨k % 128, by omega⟩] at h
        exact h
      have e5 : Go.bits .and .i64 (k : Int) 127 = ((k % 128 : Nat) : Int) := by
        have h : Go.bits .and .i64 (k : Int) 127 = (k : Int) % 128 := mask_core k 7 128 (by decide) (by decide)
        rw [h]; omega
      clear e1
      go_wp2_with (at_builtin; refine held ?_)
      refine Held.go (wp_app (m := 1) (news := u8s [k % 128 + 128]) eltU8 (hws.own.alloc _) (Rd.new _ _ _ _) (u8s_one _) (by omega) (.inr ⟨by omega, by omega⟩) (by simp; omega) _ _ rfl rfl rfl rfl ?_)
      intro A2 c2 w2 hown2 hg2 hA2 _
      rw [← u8s_append] at hown2
      have hk2 : w2.heap[g]? = wr.heap[g]? := by
        refine (hg2.block g (by simp; omega) (fun e => ?_)).trans (Below.heap_alloc wr _ g glt)
        have hb := hws.own.base_le g e.symm
        omega
      have hs2 := hws.put hown2 hk2
      have d0 : w2.cell? ⟨g, 0, none⟩ = some (.slice A' n' c') := by rw [cell_of_row w2 g 0 _ _ _ (hk2.trans hws.blk)]; rfl
      have d1 : w2.frozen? ⟨g, 0, none⟩ = false := by have := hk2.trans hws.blk; simp only [World.frozen?, this]; simp
      have hf2 : Fr w (w2.setCell ⟨g, 0, none⟩ (.slice A2 (n' + 1) c2)) (fun b => b = g ∨ A.map (·.block) = some b) := by
        refine ((hf.trans (Fr.of_ext ((Ext.refl wr).alloc _) (fun _ => False)) (fun _ _ h => h.elim)).trans (Fr.grows hg2) (fun i hi hm => ?_)).trans (Fr.store w2 _ _) (fun i _ e => .inl e)
        obtain ⟨a, ha, hab⟩ := Option.map_eq_some_iff.1 hm
        rcases hA a ha with h | h
        · exact .inr (h.trans (by rw [hab]))
        · omega
      have hA2' : ∀ a, A2 = some a → A.map (·.block) = some a.block ∨ w.heap.size ≤ a.block := fun a ea => by
        rcases hA2 with e | e
        · exact hA a (e.symm.trans ea)
        · rw [e] at ea
          injection ea with ea
          subst ea
          right
          have := hf.size
          simp
          omega
      clear hown2 hg2 hA2 hk2 c0 f0
      go_wp2_with fail
      go_roundw
      case rel =>
        refine ⟨k / 128, pre ++ [k % 128 + 128], A2, n' + 1, c2, by go_num, by omega, ?_, by omega, by rw [← List.append_assoc]; exact hs2, hf2, hA2'⟩
        show Wr.num x = _
        rw [hp.out, E1.out, List.append_assoc]
        rfl
      case measure => simp [intOf]; omega
end Go.Proofs.YteflnnlihblpgaaDoor
