/-
  almonernum.Bytes: the copy is a row of the call's own.
-/
import Derived.Test.YteaainepnelehaaDoorNpPair
namespace Go.Proofs.YteaainepnelehaaDoor
set_option maxRecDepth 100000
open Go.RowKit
set_option maxHeartbeats 400000 in
theorem bytes_own (A : Option Addr) (n c : Nat) (l : List Nat) (w : World) (hn : n ≤ 140737488351232) (hr : Rd w 1 A n (u8s l)) :
    Calls Tryd.prog 11 #[.slice A n c] w fun e w' => e = .returned (.slice (some ⟨w.heap.size, 0, none⟩) n (n + 6)) ∧ Own w' w.heap.size 5 1 (some ⟨w.heap.size, 0, none⟩) (n + 6) (n + 6) (u8s (l ++ marks6)) ∧ Ext w w' := by
  go_enter Tryd.func11, Tryd.ntmps11
  go_wp2_with fail
  obtain ⟨w1, hrun, hown, hx, hsz⟩ := run_mk (w := w) eltU8 w.heap.size .i64 .i64 ((n : Int) + 6) (by omega) (by omega) (by omega) (Nat.le_refl _)
  refine upon_ok hrun ?_
  clear hrun
  rw [show ((n : Int) + 6).toNat = n + 6 by omega] at hown ⊢
  go_wp2_with (at_builtin; refine held ?_)
  refine Held.go (wp_app eltU8 hown (hr.ext hx) (u8s_one l) (by omega) (.inl (by omega)) (by omega) _ _ rfl rfl rfl rfl ?_)
  intro A2 c2 w2 hown2 hg2 _ hfit
  simp only [Nat.zero_add, List.nil_append] at hown2 hfit
  obtain ⟨rfl, rfl⟩ := hfit (by omega)
  clear hfit
  go_wp2_with (at_builtin; refine held ?_)
  have hs2 : w.heap.size + 1 ≤ w2.heap.size := by have := hg2.size; omega
  refine Held.go (wp_app (m := 6) (news := u8s marks6) eltU8 (hown2.alloc _) (Rd.new _ _ _ _) (u8s_one marks6) (by omega) (.inl (by omega)) (by simp; omega) _ _ rfl rfl rfl rfl ?_)
  intro A3 c3 w3 hown3 hg3 _ hfit
  obtain ⟨rfl, rfl⟩ := hfit (by omega)
  clear hfit
  have hx2 : Ext w w2 := hg2.ext hx (by simp)
  have hx3 : Ext w w3 := hg3.ext (hx2.alloc _) (by simp)
  clear hown2 hg2 hown hg3
  go_wp2_with fail
  go_ret
  refine ⟨by simp, ?_, hx3⟩
  rw [u8s_append]
  exact hown3
section
variable {w0 w w' : World} {g q last mlast : Nat} {U F M F' : Nat → Prop} {ls ms ls' : List LetV}
theorem GNext.blk {last' : Nat} (n : GNext w w' g F F' ls' last') {b : Nat} {o : Obj} (h : w.heap[b]? = some o) (hb : ¬ F b) : w'.heap[b]? = some o := (n.fr.block b (block_lt h) hb).trans h
theorem MNxt.blk {last' : Nat} (n : MNxt w w' q F F' ls' last') {b : Nat} {o : Obj} (h : w.heap[b]? = some o) (hb : ¬ F b) : w'.heap[b]? = some o := (n.fr.block b (block_lt h) hb).trans h
theorem GNext.not {last' : Nat} (n : GNext w w' g F F' ls' last') {b : Nat} (h : b < w.heap.size) (hb : ¬ F b) : ¬ F' b := fun e => by
  rcases n.fo b e with h1 | h1
  · exact hb h1
  · omega
theorem MNxt.not {last' : Nat} (n : MNxt w w' q F F' ls' last') {b : Nat} (h : b < w.heap.size) (hb : ¬ F b) : ¬ F' b := fun e => by
  rcases n.fo b e with h1 | h1
  · exact hb h1
  · omega
theorem PG.new (h : PG w0 w g q U F M ls last ms mlast) {b : Nat} (hb : w.heap.size ≤ b) : ¬ F b ∧ ¬ M b := ⟨fun h1 => by have := h.gn.lt b h1; omega, fun h1 => by have := h.mn.lt b h1; omega⟩
theorem PG.wrs (h : PG w0 w g q U F M ls last ms mlast) {P : Nat → Prop} (hf : Fr w w' P) (hP : ∀ b, P b → ¬ F b ∧ ¬ M b ∧ (U b ∨ w0.heap.size ≤ b)) : PG w0 w' g q U F M ls last ms mlast :=
  ⟨h.gn.fr hf (fun b hb e => (hP b e).1 hb), h.mn.fr hf (fun b hb e => (hP b e).2.1 hb), h.dj, h.cov, h.fr.trans hf (fun i hi e => by
    rcases (hP i e).2.2 with h1 | h1
    · exact h1
    · omega)⟩
theorem U8B.mono {S n k : Nat} (h : U8B w S n) (hk : k ≤ n) : U8B w S k := by
  obtain ⟨cur, h1, h2⟩ := h
  exact ⟨cur, h1, fun j hj => h2 j (by omega)⟩
end
end Go.Proofs.YteaainepnelehaaDoor
