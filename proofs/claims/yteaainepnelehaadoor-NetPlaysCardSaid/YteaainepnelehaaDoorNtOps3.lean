/-
  Package net: Deliver of a letter that isn't there, Drop, Waiting, walked.
-/
import Derived.Test.YteaainepnelehaaDoorNtOps2
namespace Go.Proofs.YteaainepnelehaaDoor
set_option maxRecDepth 100000
open Go.RowKit
set_option linter.unusedVariables false
section
variable {w : World} {g m c last : Nat} {A : Option Addr} {ls : List LetV}
set_option maxHeartbeats 1600000 in
theorem deliver_gone (h : NetS w g A m c ls last) {y : Int} (hy : ∀ x ∈ ls, (x.N : Int) ≠ y) {p : Addr} (hS : Sen w 0 p) :
    Calls Tryd.prog 10 #[.pointer (some ⟨g, 0, none⟩), .int .i64 y] w fun e w' => e = .returned (.tuple #[.agg #[.int .i64 0, .int .i64 0, .int .i64 0, .slice none 0 0], errE p]) ∧ Ext w w' := by
  have X0 := (Ext.refl w).alloc (.cells #[.int .i64 0, .int .i64 0, .int .i64 0, .slice none 0 0] 46)
  have hbr := heap_alloc_new w (.cells #[.int .i64 0, .int .i64 0, .int .i64 0, .slice none 0 0] 46)
  have FD := Lib.hid (find_miss (h.ex X0) hy (hS.ext X0))
  have HW := Lib.hid (And.intro X0 hbr)
  clear h hy hS X0 hbr
  go_enter Tryd.func10, Tryd.ntmps10
  go_wp2_with fail
  refine FD.out.mono ?_
  rintro e w1 ⟨rfl, x1⟩
  have X1 : Ext w w1 := HW.out.1.trans x1
  have br := (x1.block _ (block_lt HW.out.2)).trans HW.out.2
  generalize hb0 : w.heap.size = b0 at *
  have r0 : w1.cell? ⟨b0, 0, none⟩ = some (.int .i64 0) := block_cell br 0
  have r1 : w1.cell? ⟨b0, 1, none⟩ = some (.int .i64 0) := block_cell br 1
  have r2 : w1.cell? ⟨b0, 2, none⟩ = some (.int .i64 0) := block_cell br 2
  have r3 : w1.cell? ⟨b0, 3, none⟩ = some (.slice none 0 0) := block_cell br 3
  have q0 := block_fz br 0
  have q1 := block_fz br 1
  have q2 := block_fz br 2
  have q3 := block_fz br 3
  have F4 : Fr w1 ((((w1.setCell ⟨b0, 0, none⟩ (.int .i64 0)).setCell ⟨b0, 1, none⟩ (.int .i64 0)).setCell ⟨b0, 2, none⟩ (.int .i64 0)).setCell ⟨b0, 3, none⟩ (.slice none 0 0)) (· = b0) :=
    (((Fr.store w1 ⟨b0, 0, none⟩ _).trans (Fr.store _ ⟨b0, 1, none⟩ _) (fun _ _ h => h)).trans (Fr.store _ ⟨b0, 2, none⟩ _) (fun _ _ h => h)).trans (Fr.store _ ⟨b0, 3, none⟩ _) (fun _ _ h => h)
  have B4 : ((((w1.setCell ⟨b0, 0, none⟩ (.int .i64 0)).setCell ⟨b0, 1, none⟩ (.int .i64 0)).setCell ⟨b0, 2, none⟩ (.int .i64 0)).setCell ⟨b0, 3, none⟩ (.slice none 0 0)).heap[b0]? = some (.cells #[.int .i64 0, .int .i64 0, .int .i64 0, .slice none 0 0] 46 (0, 0)) :=
    heap_setCell_same _ b0 3 _ _ _ (heap_setCell_same _ b0 2 _ _ _ (heap_setCell_same _ b0 1 _ _ _ (heap_setCell_same w1 b0 0 _ _ _ br)))
  have HF4 := Lib.hid (Fr.ext X1 F4 (fun i hi => by rw [hi]; omega))
  have HB4 := Lib.hid B4
  clear F4 B4 FD X1 x1 br
  go_wp2_with fail
  generalize (((w1.setCell ⟨b0, 0, none⟩ (.int .i64 0)).setCell ⟨b0, 1, none⟩ (.int .i64 0)).setCell ⟨b0, 2, none⟩ (.int .i64 0)).setCell ⟨b0, 3, none⟩ (.slice none 0 0) = w5 at *
  clear r0 r1 r2 r3 q0 q1 q2 q3
  have t0 : w5.cell? ⟨b0, 0, none⟩ = some (.int .i64 0) := block_cell HB4.out 0
  have t1 : w5.cell? ⟨b0, 1, none⟩ = some (.int .i64 0) := block_cell HB4.out 1
  have t2 : w5.cell? ⟨b0, 2, none⟩ = some (.int .i64 0) := block_cell HB4.out 2
  have t3 : w5.cell? ⟨b0, 3, none⟩ = some (.slice none 0 0) := block_cell HB4.out 3
  refine bodyPost_ret (v := .tuple #[.agg #[.int .i64 0, .int .i64 0, .int .i64 0, .slice none 0 0], errE p]) (by simp [results, Tryd.results10, go_sem, t0, t1, t2, t3]) rfl ?_
  exact ⟨rfl, HF4.out⟩
set_option maxHeartbeats 1600000 in
theorem drop_ok (h : NetS w g A m c ls last) {k : Nat} {y : Int} {x : LetV} (hk : ls[k]? = some x) (hy : (x.N : Int) = y) :
    Calls Tryd.prog 16 #[.pointer (some ⟨g, 0, none⟩), .int .i64 y] w fun e w' => e = .returned .nilIface ∧ NetS w' g A (m - 1) c (ls.eraseIdx k) last ∧ Fr w w' (fun b => b = g ∨ A.map (·.block) = some b) := by
  have DL := Lib.hid (deliver_ok h hk hy)
  unfold LetV.val at DL
  clear h hk hy
  go_enter Tryd.func16, Tryd.ntmps16
  go_wp2_with fail
  refine DL.out.mono ?_
  rintro e w1 ⟨rfl, h1, f1⟩
  have H1 := Lib.hid (And.intro h1 f1)
  clear h1 f1 DL
  go_wp2_with fail
  go_returns
  exact ⟨rfl, H1.out.1.ex ((Ext.refl _).alloc _), H1.out.2.trans (Fr.of_ext ((Ext.refl _).alloc _) _) (fun _ _ h => h)⟩
set_option maxHeartbeats 1600000 in
theorem drop_gone (h : NetS w g A m c ls last) {y : Int} (hy : ∀ x ∈ ls, (x.N : Int) ≠ y) {p : Addr} (hS : Sen w 0 p) :
    Calls Tryd.prog 16 #[.pointer (some ⟨g, 0, none⟩), .int .i64 y] w fun e w' => e = .returned (errE p) ∧ Ext w w' := by
  have DL := Lib.hid (deliver_gone h hy hS)
  clear h hy hS
  go_enter Tryd.func16, Tryd.ntmps16
  go_wp2_with fail
  refine DL.out.mono ?_
  rintro e w1 ⟨rfl, x1⟩
  have X1 := Lib.hid x1
  clear x1 DL
  go_wp2_with fail
  go_returns
  exact ⟨rfl, X1.out.alloc _⟩
/-- The numbers that wait. -/
def nums (ls : List LetV) : List Int := ls.map fun x => (x.N : Int)
theorem nums_take {ls : List LetV} {k : Nat} {x : LetV} (h : ls[k]? = some x) : nums (ls.take (k + 1)) = nums (ls.take k) ++ [(x.N : Int)] := by
  rw [take_succ' h]; simp [nums]
set_option maxHeartbeats 1600000 in
theorem waiting_any (h : NetS w g A m c ls last) :
    Calls Tryd.prog 22 #[.pointer (some ⟨g, 0, none⟩)] w fun e w' => ∃ B d, e = .returned (.slice B m d) ∧ Own w' w.heap.size 3 1 B m d (ints (nums ls)) ∧ Ext w w' := by
  have c0 := h.c0
  have hlen := h.len
  have hfew := h.few
  have CE := Lib.hid (fun (k : Nat) (x : LetV) (k4 : Nat) (hk : ls[k]? = some x) (h4 : k * 4 = k4) w' (hx : Ext w w') => netcells (h.ex hx) hk h4)
  have HLN := Lib.hid hlen
  clear h hlen
  go_enter Tryd.func22, Tryd.ntmps22
  go_wp2_with fail
  go_loopw [3, 11] (fun v3 v11 wr => ∃ (k : Nat) (B : Option Addr) (d : Nat), v3 = .slice B k d ∧ v11 = .int .i64 (k : Int) ∧ k ≤ m ∧ Hid (Own wr w.heap.size 3 1 B k d (ints (nums (ls.take k))) ∧ Ext w wr)) (fun _ v11 _ => m - (intOf v11).toNat)
  case atStart => exact ⟨0, none, 0, rfl, rfl, by omega, Own.nil_, Ext.refl w⟩
  case round =>
    obtain ⟨k, B, d, rfl, rfl, hk, HI⟩ := hrel
    by_cases hlt : k < m
    · obtain ⟨x, hx⟩ : ∃ x, ls[k]? = some x := ⟨ls[k]'(by have := HLN.out; omega), List.getElem?_eq_getElem _⟩
      obtain ⟨k4, h4⟩ : ∃ k4, k * 4 = k4 := ⟨_, rfl⟩
      obtain ⟨S, rfl, _, _, e0, e1, e2, e3⟩ := CE.out k x k4 hx h4 wr HI.out.2
      have z0 : (0 : Int) ≤ k := by omega
      have z1 : (k : Int) < m := by omega
      have HX := Lib.hid (nums_take hx)
      clear hx
      have RN : Rd ((wr.alloc (.cells #[.int .i64 (x.N : Int), .int .i64 x.F, .int .i64 x.T, .slice x.A x.n x.c] 46)).alloc (.cells #[.int .i64 (x.N : Int)] 3)) 1 (some ⟨wr.heap.size + 1, 0, none⟩) 1 (ints [(x.N : Int)]) := by
        have := Rd.new (wr.alloc (.cells #[.int .i64 (x.N : Int), .int .i64 x.F, .int .i64 x.T, .slice x.A x.n x.c] 46)) #[.int .i64 (x.N : Int)] 3 (0, 0)
        rwa [World.size_alloc] at this
      go_wp2_with (at_builtin; refine held ?_)
      refine Held.go (wp_app (m := 1) (news := ints [(x.N : Int)]) eltIn ((HI.out.1.alloc _).alloc _) RN (ints_one _) (by omega) (.inr ⟨by omega, by omega⟩) (by have := HI.out.2.size; simp; omega) _ _ rfl rfl rfl rfl ?_)
      intro B2 d2 w2 o2 g2 _ _
      have y2 : Ext w w2 := (((HI.out.1.alloc _).alloc _).fr_ext ((HI.out.2.alloc _).alloc _) (Nat.le_refl _) (Fr.grows g2))
      have o2 : Own w2 w.heap.size 3 1 B2 (k + 1) d2 (ints (nums (ls.take (k + 1)))) := by
        rw [HX.out, show ints (nums (ls.take k) ++ [(x.N : Int)]) = ints (nums (ls.take k)) ++ ints [(x.N : Int)] by simp [ints]]
        exact o2
      have H2 := Lib.hid (And.intro o2 y2)
      clear o2 y2 g2 e0 e1 e2 e3
      go_wp2_with fail
      go_roundw
      case rel => exact ⟨k + 1, B2, d2, rfl, by go_num, by omega, H2.out.1, H2.out.2⟩
      case measure => simp [intOf]; omega
    · obtain rfl : k = m := by omega
      go_wp2_with fail
      go_returns
      refine ⟨B, d, rfl, ?_, HI.out.2⟩
      have := HI.out.1
      rwa [List.take_of_length_le (by have := HLN.out; omega)] at this
end
end Go.Proofs.YteaainepnelehaaDoor
