/-
  Package almonerlaw17: alive, walked.
-/
import Derived.Test.YteaainepnelehaaDoorNtOps3
namespace Go.Proofs.YteaainepnelehaaDoor
set_option maxRecDepth 100000
open Go.RowKit
set_option linter.unusedVariables false
theorem len_one {α : Type} {l : List α} (h : l.length = 1) : ∃ x, l = [x] := by
  match l, h with
  | [x], _ => exact ⟨x, rfl⟩
theorem PutS.two {w w' : World} {g m last : Nat} {A : Option Addr} {ls : List LetV} {F T : Int} {n : Nat} {l : List Nat} (h : PutS w w' g A m last ls F T n l) : ∃ A' c' x, NetS w' g A' (m + 1) c' (ls ++ [x]) (last + 1) ∧ x.N = last + 1 ∧ x.F = F ∧ x.T = T ∧ x.n = n ∧ x.l = l := by
  obtain ⟨⟨A', c', x, h1, h2, h3, h4, h5, h6, _⟩, _⟩ := h
  exact ⟨A', c', x, h1, h2, h3, h4, h5, h6⟩
set_option maxHeartbeats 3200000 in
theorem nalive_any (w : World) {p : Addr} (hS : Sen w 0 p) :
    Calls Tryd.prog 4 #[] w fun e w' => e = .returned (.bool true) ∧ Ext w w' := by
  have SE := Lib.hid (fun w' (hx : Ext w w') => hS.ext hx)
  have ES := err_same
  clear hS
  go_enter Tryd.func4, Tryd.ntmps4
  go_wp2_with fail
  refine (nnew_any w).mono ?_
  rintro e w1 ⟨rfl, h1, x1⟩
  generalize hg : w.heap.size = g at *
  have X2 := (Ext.refl w1).alloc (.cells #[.int .u8 97] 5 (1, 2))
  have kc := Lib.run_convert_bytes_const (P := Tryd.prog) w1 32 5 #[.int .u8 97] 1 1 Tryd.underlying32 Tryd.underlying5
  have S1 := Lib.hid (send_ok (h1.ex X2) (by omega) (by omega) 0 1 (by omega) (by omega) (some ⟨w1.heap.size, 0, none⟩) 1 1 [97] (Rd.new w1 #[.int .u8 97] _ (1, 2)) (by simp) (by omega) (fun _ b hb => by injection hb with hb; subst hb; have := h1.lt; show w1.heap.size ≠ g; omega))
  have XA : Hid (Ext w w1) := Lib.hid x1
  have HX2 := Lib.hid X2
  clear h1 x1 X2
  go_wp2_with fail
  refine S1.out.mono ?_
  rintro e w2 ⟨rfl, hp⟩
  obtain ⟨A2, c2, a, n2, aN, aF, aT, an, al⟩ := hp.two
  have x2 : Ext w w2 := Fr.ext (XA.out.trans HX2.out) hp.fr (fun i hi => by
    rcases hi with hi | hi
    · omega
    · simp at hi)
  have C2 := Lib.hid (copy_ok (k := 0) (y := 1) (x := a) n2 (by omega) (by omega) rfl (by rw [aN]; rfl))
  have HA := Lib.hid (And.intro n2 (And.intro aN (And.intro aF (And.intro aT (And.intro an (And.intro al x2))))))
  clear kc S1 hp n2 aN aF aT an al x2
  go_wp2_with fail
  refine C2.out.mono ?_
  rintro e w3 ⟨rfl, hp⟩
  obtain ⟨A3, c3, b, n3, bN, bF, bT, bn, bl⟩ := hp.two
  have x3 : Ext w w3 := Fr.ext HA.out.2.2.2.2.2.2 hp.fr (fun i hi => by
    rcases hi with hi | hi
    · omega
    · obtain ⟨q, hq, rfl⟩ := Option.map_eq_some_iff.1 hi
      have := HA.out.1.own.base_le q.block (by rw [hq]; rfl)
      omega)
  have D3 := Lib.hid (deliver_ok (k := 0) (y := 1) (x := a) n3 rfl (by rw [HA.out.2.1]; rfl))
  unfold LetV.val at D3
  have HB := Lib.hid (And.intro n3 (And.intro bN x3))
  clear C2 hp n3 bN bF bT bn bl x3
  go_wp2_with fail
  refine D3.out.mono ?_
  rintro e w4 ⟨rfl, n4, f4⟩
  have x4 : Ext w w4 := Fr.ext HB.out.2.2 f4 (fun i hi => by
    rcases hi with hi | hi
    · omega
    · obtain ⟨q, hq, rfl⟩ := Option.map_eq_some_iff.1 hi
      have := HB.out.1.own.base_le q.block (by rw [hq]; rfl)
      omega)
  have hbl := HB.out.1.byt a (by simp)
  have s1 : Hid (∀ w', Ext w3 w' → Rd w' 1 a.A 1 (u8s [97])) := Lib.hid (fun w' hx => by have := hbl.1.ext hx; rwa [HA.out.2.2.2.2.1, HA.out.2.2.2.2.2.1] at this)
  have HD := Lib.hid (And.intro n4 (And.intro f4 x4))
  have r4 : Rd w4 1 a.A 1 (u8s [97]) := rd0 f4 (s1.out w3 (Ext.refl _)) (fun h0 q hq e => by
    have := hbl.2.2.2 (by rw [HA.out.2.2.2.2.1]; omega) q hq
    rcases e with e | e
    · exact this.1 e
    · exact this.2 e)
  have D4 := Lib.hid (fun w' (hx : Ext w4 w') => deliver_gone (n4.ex hx) (y := 1) (fun x hx => by simp at hx; subst hx; rw [HB.out.2.1]; omega) (SE.out w' (x4.trans hx)))
  have aT := HA.out.2.2.2.1
  have an := HA.out.2.2.2.2.1
  have HR4 := Lib.hid r4
  clear D3 n4 f4 x4 hbl s1 r4
  go_wp2_with fail
  refine (D4.out _ ((Ext.refl w4).alloc _)).mono ?_
  rintro e w5 ⟨rfl, x5⟩
  have xz := (Ext.refl w5).alloc (.cells #[.int .i64 0, .int .i64 0, .int .i64 0, .slice none 0 0] 46)
  have x46 := ((Ext.refl w4).alloc (.cells #[.int .i64 (a.N : Int), .int .i64 a.F, .int .i64 1, .slice a.A 1 a.c] 46)).trans (x5.trans xz)
  have b6 := ((x5.trans xz).block w4.heap.size (by simp)).trans (heap_alloc_new w4 _)
  have t2 := block_cell b6 2
  have t3 := block_cell b6 3
  have c9 := (SE.out _ (HD.out.2.2.trans x46)).2.1
  have r6 := run_str (P := Tryd.prog) (s := 9) Tryd.underlying32 Tryd.underlying5 Tryd.underlying9 a.c (HR4.out.ext x46)
  rw [show str [97] = ⟨#[97]⟩ from rfl] at r6
  have HX := Lib.hid (HD.out.2.2.trans x46)
  clear b6 x46 x5 xz
  go_wp2_with fail
  go_returns
  exact ⟨rfl, HX.out⟩
end Go.Proofs.YteaainepnelehaaDoor
