/-
  almonernum.Bytes: the copy is a row of the call's own; small facts of two disks.
-/
import Derived.Test.YtchkeclhnbekkaaDoorDkBoth
namespace Go.Proofs.YtchkeclhnbekkaaDoor
set_option maxRecDepth 100000
open Go.RowKit Go.Maps
set_option linter.unusedVariables false
section
variable {W w w' : World} {g Zm : Nat} {X : Nat → Prop} {S nw nw' : Int} {f f' : Int → List Nat} {l l' : List WrV} {lost lost' : Bool}
theorem DLN.frx {Zn : Nat} (h : DL W w g X S f l nw lost Zm) (n : DLN W w w' g X S f' l' nw' lost' Zn) : Fr w w' (fun b => ¬ X b) :=
  ⟨n.dl.ext.os.trans h.ext.os.symm, n.dl.ext.tape.trans h.ext.tape.symm, n.dl.ext.output.trans h.ext.output.symm, n.sz, fun k hk hm => n.kp k (Classical.not_not.1 hm)⟩
theorem DL.ll (h : DL W w g X S f l nw lost Zm) : l.length ≤ Zm := by
  obtain ⟨F, b, m, c, Z, A, h1, h2, h3, h4, h5, h6⟩ := h.ex
  omega
end
set_option maxHeartbeats 400000 in
theorem bytes_own (A : Option Addr) (n c : Nat) (l : List Nat) (w : World) (hn : n ≤ 140737488351232) (hr : Rd w 1 A n (u8s l)) :
    Calls Tryd.prog 23 #[.slice A n c] w fun e w' => e = .returned (.slice (some ⟨w.heap.size, 0, none⟩) n (n + 6)) ∧ Own w' w.heap.size 5 1 (some ⟨w.heap.size, 0, none⟩) (n + 6) (n + 6) (u8s (l ++ marks6)) ∧ Ext w w' := by
  go_enter Tryd.func23, Tryd.ntmps23
  go_wp2_with fail
  obtain ⟨w1, hrun, hown, hx, hsz⟩ := run_mk (w := w) eltU8 w.heap.size .i64 .i64 ((n : Int) + 6) (by omega) (by omega) (by omega) (Nat.le_refl _)
  refine upon_ok hrun ?_
  clear hrun
  rw [show ((n : Int) + 6).toNat = n + 6 by omega] at hown ⊢
  go_wp2_with (at_builtin; refine held ?_)
  refine Held.go (wp_app eltU8 hown (hr.ext hx) (u8s_one l) (by omega) (.inl (by omega)) (by omega) _ _ rfl rfl rfl rfl ?_)
  intro A2 c2 w2 hown2 hg2 _ hfit
  simp only [Nat.zero_add, List.nil_append] at hown2 hfit
  obtain ⟨rfl, rfl⟩ := hfit (by omega)
  clear hfit
  go_wp2_with (at_builtin; refine held ?_)
  have hs2 : w.heap.size + 1 ≤ w2.heap.size := by have := hg2.size; omega
  refine Held.go (wp_app (m := 6) (news := u8s marks6) eltU8 (hown2.alloc _) (Rd.new _ _ _ _) (u8s_one marks6) (by omega) (.inl (by omega)) (by simp; omega) _ _ rfl rfl rfl rfl ?_)
  intro A3 c3 w3 hown3 hg3 _ hfit
  obtain ⟨rfl, rfl⟩ := hfit (by omega)
  clear hfit
  have hx2 : Ext w w2 := hg2.ext hx (by simp)
  have hx3 : Ext w w3 := hg3.ext (hx2.alloc _) (by simp)
  clear hown2 hg2 hown hg3
  go_wp2_with fail
  go_ret
  refine ⟨by simp, ?_, hx3⟩
  rw [u8s_append]
  exact hown3
end Go.Proofs.YtchkeclhnbekkaaDoor
