/-
  The statement DiskPlays, walked.
-/
import Derived.Test.YtchkeclhnbekkaaDoorDkPlay
import Derived.Test.YtchkeclhnbekkaaDoorDkAlive
import Derived.Test.YtchkeclhnbekkaaDoorDkScript
import Derived.Test.YtchkeclhnbekkaaDoorDkFlushes
import Derived.BigRegion
namespace Go.Proofs.YtchkeclhnbekkaaDoor
set_option maxRecDepth 100000
open Go.RowKit Go.Maps
set_option linter.unusedVariables false
section
variable {P : Program} {ops : Array Oper} {Q : Exit → Act → World → Prop} {md : Region.Mode} {S S' : World → Prop} {T : List Nat}
/-- What is told of the world from here on. -/
theorem d_change (hS : ∀ w, S' w → S w) : ∀ (fuel : Nat) (listed : Array Bool) (a : Act) (w : World), AnyD P md ops Q S' T fuel listed a w → AnyD P md ops Q S T fuel listed a w
  | 0, _, _, _, h => h
  | fuel + 1, listed, a, w, h => ⟨h.1, fun j hj => wpOp_mono (fun a' w' q => ⟨fun ht => hS _ (q.1 ht), d_change hS fuel _ a' w' q.2⟩) (h.2 j hj)⟩
end
section
variable {w w' : World} {g q sn Zm : Nat} {E : Nat → Addr}
theorem BX.wext (h : BX w w' g q sn Zm) : Ext w w' := by
  obtain ⟨M, f, l, nw, lost, SF, NW, h1, h2⟩ := h.ex
  exact h1.dl.ext
set_option maxHeartbeats 1600000 in
theorem dplays_bad (sec : Int) (hs : sec < 1 ∨ 1024 < sec) (A0 : Option Addr) (n c0 : Nat) (w : World) (hE : Errs w E) :
    Calls Tryd.prog 6 #[.int .i64 sec, .slice A0 n c0] w fun e w' => e = .returned (.bool true) ∧ Ext w w' := by
  have HE := Lib.hid hE
  have AL := Lib.hid (dalive_any w (errs_de hE))
  clear hE
  have NE := Lib.hid (fun w1 (x1 : Ext w w1) => new_err w1 sec hs (HE.out.ext x1 |>.sen 0 (by decide)))
  have hc : ((decide (sec < 1)) || (decide (1024 < sec))) = true := by simpa using hs
  by_cases h1 : sec < 1
  all_goals
    clear hc
    first | (have hs2 : sec < 1 := h1) | (have hs2 : 1024 < sec := by omega)
    clear hs
    go_enter Tryd.func6, Tryd.ntmps6
    go_wp2_with fail
    refine AL.out.mono ?_
    rintro e0 w1 ⟨rfl, x1⟩
    have X1 := Lib.hid x1
    have N1 := Lib.hid (NE.out w1 x1)
    clear AL NE x1
    go_wp2_with fail
    refine N1.out.mono ?_
    rintro e0 w2 ⟨rfl, x2⟩
    have X2 := Lib.hid (X1.out.trans x2)
    have NU := Lib.hid (numIs_at E 0 0 rfl w2 (HE.out.ext (X1.out.trans x2)))
    clear N1 x2
    go_wp2_with fail
    refine NU.out.mono ?_
    rintro e0 w3 ⟨rfl, x3⟩
    have X3 := Lib.hid (X2.out.trans x3)
    clear NU x3
    go_wp2_with fail
    go_returns
    exact ⟨rfl, X3.out⟩
set_option maxHeartbeats 12800000 in
theorem dplays_ok (sn : Nat) (hs : 1 ≤ sn ∧ sn ≤ 1024) (A0 : Option Addr) (n c0 : Nat) (os : List O5) (w : World) (hr : Rd w 5 A0 n (o5rows os).flatten) (hol : os.length = n) (hok : ∀ o ∈ os, o.ok w) (hn : n * 56 ≤ 140737488351232) (hE : Errs w E) :
    Calls Tryd.prog 6 #[.int .i64 (sn : Int), .slice A0 n c0] w fun e w' => e = .returned (.bool true) ∧ Ext w w' := by
  have HE := Lib.hid hE
  have HO := Lib.hid (And.intro hol (And.intro hr hok))
  have AL := Lib.hid (dalive_any w (errs_de hE))
  have hz1 : (1 : Int) ≤ (sn : Int) := by omega
  have hz2 : (sn : Int) ≤ 1024 := by omega
  have HSN := Lib.hid hs
  clear hr hol hok hE
  go_enter Tryd.func6, Tryd.ntmps6
  go_wp2_with fail
  refine AL.out.mono ?_
  rintro e0 w1 ⟨rfl, x1⟩
  have N1 := Lib.hid (DL.new w1 x1 (sn : Int) hz1 hz2)
  clear AL x1
  go_wp2_with fail
  refine N1.out.mono ?_
  rintro e0 w2 ⟨rfl, d2, x2⟩
  generalize w1.heap.size + 1 = g at *
  have D2 := Lib.hid d2
  have RN := Lib.hid (rnew_any w2 sn HSN.out)
  clear N1 d2 x2
  go_wp2_with fail
  refine RN.out.mono ?_
  rintro e0 w3 ⟨q, M, rfl, hR, hM, x3⟩
  have B3 := Lib.hid (show BX w w3 g q sn 0 from ⟨M, _, [], 0, false, _, _, ⟨(D2.out.sub (Y := fun _ => False) (fun _ h => h.elim)).grow (Fr.of_ext x3 (fun _ => False)) (fun _ h => h) (fun _ h => h.elim) (fun b hb => by
    rcases hb with hb | hb
    · exact hb.elim
    · exact .inr (hM b hb)) (fun b hb => by
    rcases hb with hb | hb
    · exact hb.elim
    · exact hR.lt b hb), hR, fun b hb => ⟨Nat.le_trans D2.out.ext.size (hM b hb), fun h => h⟩⟩, fun _ i _ => ⟨rfl, rfl⟩⟩)
  clear RN D2 hR hM x3
  go_wp2_with fail
  go_loopw [41] (fun v41 wr => ∃ k : Nat, v41 = .int .i64 (k : Int) ∧ k ≤ n ∧ Hid (BX w wr g q sn k)) (fun v41 _ => n - (intOf v41).toNat)
  case atStart => exact ⟨0, rfl, by omega, B3.out⟩
  case round =>
    obtain ⟨k, rfl, hk, HI⟩ := hrel
    obtain ⟨U2, hU2⟩ : ∃ V : World, V = wr := ⟨_, rfl⟩
    subst hU2
    by_cases hlt : k < n
    · obtain ⟨o, ho⟩ : ∃ o, os[k]? = some o := ⟨os[k]'(by rw [HO.out.1]; exact hlt), List.getElem?_eq_getElem _⟩
      obtain ⟨i5, hi5⟩ : ∃ i5, k * 5 = i5 := ⟨_, rfl⟩
      obtain ⟨ad, rfl, _, _⟩ := HO.out.2.1.2 (show 0 < n by omega)
      have hrr := HO.out.2.1.ext HI.out.wext
      have k0 := hrr.rowAt (o5_even os) (o5_at ho) hi5 (i := 0) rfl
      have k1 := hrr.rowAt (o5_even os) (o5_at ho) hi5 (i := 1) rfl
      have k2 := hrr.rowAt (o5_even os) (o5_at ho) hi5 (i := 2) rfl
      have k3 := hrr.rowAt (o5_even os) (o5_at ho) hi5 (i := 3) rfl
      have k4 := hrr.rowAt (o5_even os) (o5_at ho) hi5 (i := 4) rfl
      rw [Nat.add_zero] at k0
      rw [← add_add', add_lit _ (by omega)] at k1 k2 k3 k4
      have z0 : (0 : Int) ≤ k := by omega
      have z1 : (k : Int) < n := by omega
      have HOK := Lib.hid ((HO.out.2.2 o (List.mem_of_getElem? ho)).ext HI.out.wext)
      have HOK := Lib.hid (HO.out.2.2 o (List.mem_of_getElem? ho))
      have HB := Lib.hid (And.intro (heap_alloc_new U2 (.cells #[.int .i64 o.K, .int .i64 o.I, .int .i64 o.T, .int .u64 (o.kp : Int), .slice o.A o.n o.c] 42)) (HI.out.ext ((Ext.refl U2).alloc (.cells #[.int .i64 o.K, .int .i64 o.I, .int .i64 o.T, .int .u64 (o.kp : Int), .slice o.A o.n o.c] 42))))
      clear hrr ho
      go_upto_region 12 with (fail)
      generalize U2.alloc (.cells #[.int .i64 o.K, .int .i64 o.I, .int .i64 o.T, .int .u64 (o.kp : Int), .slice o.A o.n o.c] 42) = V at *
      generalize U2.heap.size = ob at *
      clear k0 k1 k2 k3 k4 hi5
      have XA := (Ext.refl V).drew
      have HS1 : True := trivial
      have PL := Lib.hid (play_any HE.out (HB.out.2.ext XA) (by omega) o.K o.I o.T o.kp HOK.out.ik o.A o.n o.c o.l (HOK.out.rd.ext (HB.out.2.wext.trans XA)) HOK.out.byte (by have h1 := HOK.out.le; have h2 := HOK.out.small; omega) (Post := fun e w' => e = .returned (.bool true) ∧ BX w w' g q sn (k + 1)) (Lib.hid fun w' h => ⟨rfl, h⟩))
      have y0 : V.drew.cell? ⟨ob, 0, none⟩ = some (.int .i64 o.K) := block_cell (w := V.drew) HB.out.1 0
      have y1 : V.drew.cell? ⟨ob, 1, none⟩ = some (.int .i64 o.I) := block_cell (w := V.drew) HB.out.1 1
      have y2 : V.drew.cell? ⟨ob, 2, none⟩ = some (.int .i64 o.T) := block_cell (w := V.drew) HB.out.1 2
      have y3 : V.drew.cell? ⟨ob, 3, none⟩ = some (.int .u64 (o.kp : Int)) := block_cell (w := V.drew) HB.out.1 3
      have y4 : V.drew.cell? ⟨ob, 4, none⟩ = some (.slice o.A o.n o.c) := block_cell (w := V.drew) HB.out.1 4
      clear XA
      refine d_region (fun W : World => True) [] (by kernel_rfl) ?_
      refine d_take (i := 0) (v := ?_) [] (some 45) rfl (by rfl) (by kernel_rfl) (by kernel_rfl) (by kernel_rfl) (by kernel_rfl) (by kernel_rfl) (by kernel_rfl) (fun _ _ _ h => h) (.inl ⟨by rfl, ?_⟩) HS1 ?_
      rotate_left 1
      · (intro W hW; (try dsimp only at hW); go_simp; try with_reducible rfl)
      try simp only [Act.put, List.setIfInBounds_toArray, List.set_cons_zero, List.set_cons_succ]
      refine d_take (i := 1) (v := ?_) [] (some 46) rfl (by rfl) (by kernel_rfl) (by kernel_rfl) (by kernel_rfl) (by kernel_rfl) (by kernel_rfl) (by kernel_rfl) (fun _ _ _ h => h) (.inl ⟨by rfl, ?_⟩) HS1 ?_
      rotate_left 1
      · (intro W hW; (try dsimp only at hW); go_simp; try with_reducible rfl)
      try simp only [Act.put, List.setIfInBounds_toArray, List.set_cons_zero, List.set_cons_succ]
      refine d_one (i := 2) (by kernel_rfl) rfl rfl (fun K hK => ?_)
      simp only [List.getElem_toArray, List.getElem_cons_succ, List.getElem_cons_zero]
      go_simp
      refine hK.out _ _ (fun _ => trivial) ?_
      clear hK K y0 y1 y2 y3 y4
      try simp only [Act.put, List.setIfInBounds_toArray, List.set_cons_zero, List.set_cons_succ]
      refine d_call (i := 3) (by kernel_rfl) rfl (by rfl) (fun K hK => ?_)
      simp only [List.getElem_toArray, List.getElem_cons_succ, List.getElem_cons_zero]
      go_simp
      refine PL.out.mono ?_
      rintro e0 w5 ⟨rfl, BB⟩
      have B3 := Lib.hid BB
      obtain ⟨M, f, l, nw, lost, SF, NW, PB5, _⟩ := BB.ex
      obtain ⟨F, b, m, c, Z, A, DS5, _⟩ := PB5.dl.ex
      obtain ⟨sb, nb, ac, dc, AA, DA, lb, RD5, _⟩ := PB5.rl.ex
      have D3 := Lib.hid DS5
      have Q3 := Lib.hid (show w5.heap[q]? = some (.cells #[.slice (some ⟨sb, 0, none⟩) (64 * sn) (64 * sn), .slice (some ⟨nb, 0, none⟩) (64 * sn) (64 * sn), .slice AA l.length ac, .slice DA l.length dc, .int .i64 nw, .bool lost] 53 (0, 0)) from RD5.blk)
      have HSA : w5.cell? ⟨q, 2, none⟩ = some (.slice AA l.length ac) ∧ w5.cell? ⟨q, 4, none⟩ = some (.int .i64 nw) ∧ w5.cell? ⟨q, 5, none⟩ = some (.bool lost) := ⟨block_cell Q3.out 2, block_cell Q3.out 4, block_cell Q3.out 5⟩
      clear PL BB PB5 DS5 RD5
      go_simp
      refine hK.out _ _ (fun _ => trivial) ?_
      clear hK K
      try simp only [Act.put, List.setIfInBounds_toArray, List.set_cons_zero, List.set_cons_succ]
      refine d_change (S' := fun W : World => W.cell? ⟨q, 2, none⟩ = some (.slice AA l.length ac) ∧ W.cell? ⟨q, 4, none⟩ = some (.int .i64 nw) ∧ W.cell? ⟨q, 5, none⟩ = some (.bool lost)) (fun _ _ => trivial) _ _ _ _ ?_
      refine d_take (i := 4) (v := ?_) [] (some 49) rfl (by rfl) (by kernel_rfl) (by kernel_rfl) (by kernel_rfl) (by kernel_rfl) (by kernel_rfl) (by kernel_rfl) (fun _ _ _ h => h) (.inl ⟨by rfl, ?_⟩) HSA ?_
      rotate_left 1
      · (intro W hW; (try dsimp only at hW); go_simp; try with_reducible rfl)
      try simp only [Act.put, List.setIfInBounds_toArray, List.set_cons_zero, List.set_cons_succ]
      refine d_take (i := 5) (v := ?_) [] (some 50) rfl (by rfl) (by kernel_rfl) (by kernel_rfl) (by kernel_rfl) (by kernel_rfl) (by kernel_rfl) (by kernel_rfl) (fun _ _ _ h => h) (.inl ⟨by rfl, ?_⟩) HSA ?_
      rotate_left 1
      · (intro W hW; (try dsimp only at hW); go_simp; try with_reducible rfl)
      try simp only [Act.put, List.setIfInBounds_toArray, List.set_cons_zero, List.set_cons_succ]
      refine d_take (i := 6) (v := ?_) [] (some 51) rfl (by rfl) (by kernel_rfl) (by kernel_rfl) (by kernel_rfl) (by kernel_rfl) (by kernel_rfl) (by kernel_rfl) (fun _ _ _ h => h) (.inl ⟨by rfl, ?_⟩) HSA ?_
      rotate_left 1
      · (intro W hW; (try dsimp only at hW); go_simp; try with_reducible rfl)
      try simp only [Act.put, List.setIfInBounds_toArray, List.set_cons_zero, List.set_cons_succ]
      refine d_take (i := 8) (v := ?_) [] (some 53) rfl (by rfl) (by kernel_rfl) (by kernel_rfl) (by kernel_rfl) (by kernel_rfl) (by kernel_rfl) (by kernel_rfl) (fun _ _ _ h => h) (.inl ⟨by rfl, ?_⟩) HSA ?_
      rotate_left 1
      · (intro W hW; (try dsimp only at hW); go_simp; try with_reducible rfl)
      try simp only [Act.put, List.setIfInBounds_toArray, List.set_cons_zero, List.set_cons_succ]
      refine d_take (i := 9) (v := ?_) [] (some 54) rfl (by rfl) (by kernel_rfl) (by kernel_rfl) (by kernel_rfl) (by kernel_rfl) (by kernel_rfl) (by kernel_rfl) (fun _ _ _ h => h) (.inl ⟨by rfl, ?_⟩) HSA ?_
      rotate_left 1
      · (intro W hW; (try dsimp only at hW); go_simp; try with_reducible rfl)
      try simp only [Act.put, List.setIfInBounds_toArray, List.set_cons_zero, List.set_cons_succ]
      refine d_take (i := 10) (v := ?_) [] (some 55) rfl (by rfl) (by kernel_rfl) (by kernel_rfl) (by kernel_rfl) (by kernel_rfl) (by kernel_rfl) (by kernel_rfl) (fun _ _ _ h => h) (.inl ⟨by rfl, ?_⟩) HSA ?_
      rotate_left 1
      · (intro W hW; (try dsimp only at hW); go_simp; try with_reducible rfl)
      try simp only [Act.put, List.setIfInBounds_toArray, List.set_cons_zero, List.set_cons_succ]
      refine d_take (i := 11) (v := ?_) [] (some 56) rfl (by rfl) (by kernel_rfl) (by kernel_rfl) (by kernel_rfl) (by kernel_rfl) (by kernel_rfl) (by kernel_rfl) (fun _ _ _ h => h) (.inl ⟨by rfl, ?_⟩) HSA ?_
      rotate_left 1
      · (intro W hW; (try dsimp only at hW); go_simp; try with_reducible rfl)
      try simp only [Act.put, List.setIfInBounds_toArray, List.set_cons_zero, List.set_cons_succ]
      refine d_take (i := 12) (v := ?_) [] (some 57) rfl (by rfl) (by kernel_rfl) (by kernel_rfl) (by kernel_rfl) (by kernel_rfl) (by kernel_rfl) (by kernel_rfl) (fun _ _ _ h => h) (.inl ⟨by rfl, ?_⟩) HSA ?_
      rotate_left 1
      · (intro W hW; (try dsimp only at hW); go_simp; try with_reducible rfl)
      try simp only [Act.put, List.setIfInBounds_toArray, List.set_cons_zero, List.set_cons_succ]
      have C7 := Lib.hid (waiting_d D3.out)
      refine d_call (i := 7) (by kernel_rfl) rfl (by rfl) (fun K hK => ?_)
      simp only [List.getElem_toArray, List.getElem_cons_succ, List.getElem_cons_zero]
      go_simp
      refine C7.out.mono ?_
      rintro e0 w7 ⟨rfl, x7⟩
      have B7 := Lib.hid (B3.out.ext x7)
      have D7 := Lib.hid (D3.out.ex x7)
      have Q7 := Lib.hid ((x7.block q (block_lt Q3.out)).trans Q3.out)
      have HSB : w7.cell? ⟨q, 2, none⟩ = some (.slice AA l.length ac) ∧ w7.cell? ⟨q, 4, none⟩ = some (.int .i64 nw) ∧ w7.cell? ⟨q, 5, none⟩ = some (.bool lost) := ⟨block_cell Q7.out 2, block_cell Q7.out 4, block_cell Q7.out 5⟩
      clear C7 x7
      go_simp
      refine hK.out _ _ (fun _ => HSB) ?_
      clear hK K
      try simp only [Act.put, List.setIfInBounds_toArray, List.set_cons_zero, List.set_cons_succ]
      refine d_take (i := 13) (v := ?_) [] (some 58) rfl (by rfl) (by kernel_rfl) (by kernel_rfl) (by kernel_rfl) (by kernel_rfl) (by kernel_rfl) (by kernel_rfl) (fun _ _ _ h => h) (.inl ⟨by rfl, ?_⟩) HSB ?_
      rotate_left 1
      · (intro W hW; (try dsimp only at hW); go_simp; try with_reducible rfl)
      try simp only [Act.put, List.setIfInBounds_toArray, List.set_cons_zero, List.set_cons_succ]
      refine d_take (i := 14) (v := ?_) [] (some 59) rfl (by rfl) (by kernel_rfl) (by kernel_rfl) (by kernel_rfl) (by kernel_rfl) (by kernel_rfl) (by kernel_rfl) (fun _ _ _ h => h) (.inl ⟨by rfl, ?_⟩) HSB ?_
      rotate_left 1
      · (intro W hW; (try dsimp only at hW); go_simp; try with_reducible rfl)
      try simp only [Act.put, List.setIfInBounds_toArray, List.set_cons_zero, List.set_cons_succ]
      refine d_take (i := 15) (v := ?_) [] (some 60) rfl (by rfl) (by kernel_rfl) (by kernel_rfl) (by kernel_rfl) (by kernel_rfl) (by kernel_rfl) (by kernel_rfl) (fun _ _ _ h => h) (.inl ⟨by rfl, ?_⟩) HSB ?_
      rotate_left 1
      · (intro W hW; (try dsimp only at hW); go_simp; try with_reducible rfl)
      try simp only [Act.put, List.setIfInBounds_toArray, List.set_cons_zero, List.set_cons_succ]
      refine d_take (i := 16) (v := ?_) [] (some 61) rfl (by rfl) (by kernel_rfl) (by kernel_rfl) (by kernel_rfl) (by kernel_rfl) (by kernel_rfl) (by kernel_rfl) (fun _ _ _ h => h) (.inl ⟨by rfl, ?_⟩) HSB ?_
      rotate_left 1
      · (intro W hW; (try dsimp only at hW); go_simp; try with_reducible rfl)
      try simp only [Act.put, List.setIfInBounds_toArray, List.set_cons_zero, List.set_cons_succ]
      refine d_take (i := 18) (v := ?_) [] (some 63) rfl (by rfl) (by kernel_rfl) (by kernel_rfl) (by kernel_rfl) (by kernel_rfl) (by kernel_rfl) (by kernel_rfl) (fun _ _ _ h => h) (.inl ⟨by rfl, ?_⟩) HSB ?_
      rotate_left 1
      · (intro W hW; (try dsimp only at hW); go_simp; try with_reducible rfl)
      try simp only [Act.put, List.setIfInBounds_toArray, List.set_cons_zero, List.set_cons_succ]
      refine d_take (i := 19) (v := ?_) [] (some 64) rfl (by rfl) (by kernel_rfl) (by kernel_rfl) (by kernel_rfl) (by kernel_rfl) (by kernel_rfl) (by kernel_rfl) (fun _ _ _ h => h) (.inl ⟨by rfl, ?_⟩) HSB ?_
      rotate_left 1
      · (intro W hW; (try dsimp only at hW); go_simp; try with_reducible rfl)
      try simp only [Act.put, List.setIfInBounds_toArray, List.set_cons_zero, List.set_cons_succ]
      refine d_take (i := 20) (v := ?_) [] (some 65) rfl (by rfl) (by kernel_rfl) (by kernel_rfl) (by kernel_rfl) (by kernel_rfl) (by kernel_rfl) (by kernel_rfl) (fun _ _ _ h => h) (.inl ⟨by rfl, ?_⟩) HSB ?_
      rotate_left 1
      · (intro W hW; (try dsimp only at hW); go_simp; try with_reducible rfl)
      try simp only [Act.put, List.setIfInBounds_toArray, List.set_cons_zero, List.set_cons_succ]
      refine d_take (i := 21) (v := ?_) [] (some 66) rfl (by rfl) (by kernel_rfl) (by kernel_rfl) (by kernel_rfl) (by kernel_rfl) (by kernel_rfl) (by kernel_rfl) (fun _ _ _ h => h) (.inl ⟨by rfl, ?_⟩) HSB ?_
      rotate_left 1
      · (intro W hW; (try dsimp only at hW); go_simp; try with_reducible rfl)
      try simp only [Act.put, List.setIfInBounds_toArray, List.set_cons_zero, List.set_cons_succ]
      have C17 := Lib.hid (writes_d D7.out)
      refine d_call (i := 17) (by kernel_rfl) rfl (by rfl) (fun K hK => ?_)
      simp only [List.getElem_toArray, List.getElem_cons_succ, List.getElem_cons_zero]
      go_simp
      refine C17.out.mono ?_
      rintro e0 w17 ⟨rfl, x17⟩
      have B17 := Lib.hid (B7.out.ext x17)
      have D17 := Lib.hid (D7.out.ex x17)
      have Q17 := Lib.hid ((x17.block q (block_lt Q7.out)).trans Q7.out)
      have HSC : w17.cell? ⟨q, 2, none⟩ = some (.slice AA l.length ac) ∧ w17.cell? ⟨q, 4, none⟩ = some (.int .i64 nw) ∧ w17.cell? ⟨q, 5, none⟩ = some (.bool lost) := ⟨block_cell Q17.out 2, block_cell Q17.out 4, block_cell Q17.out 5⟩
      clear C17 x17
      go_simp
      refine hK.out _ _ (fun _ => HSC) ?_
      clear hK K
      try simp only [Act.put, List.setIfInBounds_toArray, List.set_cons_zero, List.set_cons_succ]
      refine d_take (i := 22) (v := ?_) [] (some 67) rfl (by rfl) (by kernel_rfl) (by kernel_rfl) (by kernel_rfl) (by kernel_rfl) (by kernel_rfl) (by kernel_rfl) (fun _ _ _ h => h) (.inl ⟨by rfl, ?_⟩) HSC ?_
      rotate_left 1
      · (intro W hW; (try dsimp only at hW); go_simp; try with_reducible rfl)
      try simp only [Act.put, List.setIfInBounds_toArray, List.set_cons_zero, List.set_cons_succ]
      refine d_take (i := 23) (v := ?_) [] (some 68) rfl (by rfl) (by kernel_rfl) (by kernel_rfl) (by kernel_rfl) (by kernel_rfl) (by kernel_rfl) (by kernel_rfl) (fun _ _ _ h => h) (.inl ⟨by rfl, ?_⟩) HSC ?_
      rotate_left 1
      · (intro W hW; (try dsimp only at hW); go_simp; try with_reducible rfl)
      try simp only [Act.put, List.setIfInBounds_toArray, List.set_cons_zero, List.set_cons_succ]
      refine d_take (i := 24) (v := ?_) [] (some 69) rfl (by rfl) (by kernel_rfl) (by kernel_rfl) (by kernel_rfl) (by kernel_rfl) (by kernel_rfl) (by kernel_rfl) (fun _ _ _ h => h) (.inl ⟨by rfl, ?_⟩) HSC ?_
      rotate_left 1
      · (intro W hW; (try dsimp only at hW); go_simp; try with_reducible rfl)
      try simp only [Act.put, List.setIfInBounds_toArray, List.set_cons_zero, List.set_cons_succ]
      refine d_take (i := 25) (v := ?_) [] (some 70) rfl (by rfl) (by kernel_rfl) (by kernel_rfl) (by kernel_rfl) (by kernel_rfl) (by kernel_rfl) (by kernel_rfl) (fun _ _ _ h => h) (.inl ⟨by rfl, ?_⟩) HSC ?_
      rotate_left 1
      · (intro W hW; (try dsimp only at hW); go_simp; try with_reducible rfl)
      try simp only [Act.put, List.setIfInBounds_toArray, List.set_cons_zero, List.set_cons_succ]
      refine d_take (i := 27) (v := ?_) [] (some 72) rfl (by rfl) (by kernel_rfl) (by kernel_rfl) (by kernel_rfl) (by kernel_rfl) (by kernel_rfl) (by kernel_rfl) (fun _ _ _ h => h) (.inl ⟨by rfl, ?_⟩) HSC ?_
      rotate_left 1
      · (intro W hW; (try dsimp only at hW); go_simp; try with_reducible rfl)
      try simp only [Act.put, List.setIfInBounds_toArray, List.set_cons_zero, List.set_cons_succ]
      refine d_take (i := 28) (v := ?_) [] (some 73) rfl (by rfl) (by kernel_rfl) (by kernel_rfl) (by kernel_rfl) (by kernel_rfl) (by kernel_rfl) (by kernel_rfl) (fun _ _ _ h => h) (.inl ⟨by rfl, ?_⟩) HSC ?_
      rotate_left 1
      · (intro W hW; (try dsimp only at hW); go_simp; try with_reducible rfl)
      try simp only [Act.put, List.setIfInBounds_toArray, List.set_cons_zero, List.set_cons_succ]
      refine d_take (i := 29) (v := ?_) [] (some 74) rfl (by rfl) (by kernel_rfl) (by kernel_rfl) (by kernel_rfl) (by kernel_rfl) (by kernel_rfl) (by kernel_rfl) (fun _ _ _ h => h) (.inl ⟨by rfl, ?_⟩) HSC ?_
      rotate_left 1
      · (intro W hW; (try dsimp only at hW); go_simp; try with_reducible rfl)
      try simp only [Act.put, List.setIfInBounds_toArray, List.set_cons_zero, List.set_cons_succ]
      refine d_take (i := 30) (v := ?_) [] (some 75) rfl (by rfl) (by kernel_rfl) (by kernel_rfl) (by kernel_rfl) (by kernel_rfl) (by kernel_rfl) (by kernel_rfl) (fun _ _ _ h => h) (.inl ⟨by rfl, ?_⟩) HSC ?_
      rotate_left 1
      · (intro W hW; (try dsimp only at hW); go_simp; try with_reducible rfl)
      try simp only [Act.put, List.setIfInBounds_toArray, List.set_cons_zero, List.set_cons_succ]
      have C26 := Lib.hid (lost_d D17.out)
      refine d_call (i := 26) (by kernel_rfl) rfl (by rfl) (fun K hK => ?_)
      simp only [List.getElem_toArray, List.getElem_cons_succ, List.getElem_cons_zero]
      go_simp
      refine C26.out.mono ?_
      rintro e0 w26 ⟨rfl, x26⟩
      have B26 := Lib.hid (B17.out.ext x26)
      have D26 := Lib.hid (D17.out.ex x26)
      have Q26 := Lib.hid ((x26.block q (block_lt Q17.out)).trans Q17.out)
      have HSD : w26.cell? ⟨q, 2, none⟩ = some (.slice AA l.length ac) ∧ w26.cell? ⟨q, 4, none⟩ = some (.int .i64 nw) ∧ w26.cell? ⟨q, 5, none⟩ = some (.bool lost) := ⟨block_cell Q26.out 2, block_cell Q26.out 4, block_cell Q26.out 5⟩
      clear C26 x26
      go_simp
      refine hK.out _ _ (fun _ => HSD) ?_
      clear hK K
      try simp only [Act.put, List.setIfInBounds_toArray, List.set_cons_zero, List.set_cons_succ]
      refine d_take (i := 31) (v := ?_) [] (some 76) rfl (by rfl) (by kernel_rfl) (by kernel_rfl) (by kernel_rfl) (by kernel_rfl) (by kernel_rfl) (by kernel_rfl) (fun _ _ _ h => h) (.inl ⟨by rfl, ?_⟩) HSD ?_
      rotate_left 1
      · (intro W hW; (try dsimp only at hW); go_simp; try with_reducible rfl)
      try simp only [Act.put, List.setIfInBounds_toArray, List.set_cons_zero, List.set_cons_succ]
      refine d_take (i := 32) (v := ?_) [] (some 77) rfl (by rfl) (by kernel_rfl) (by kernel_rfl) (by kernel_rfl) (by kernel_rfl) (by kernel_rfl) (by kernel_rfl) (fun _ _ _ h => h) (.inl ⟨by rfl, ?_⟩) HSD ?_
      rotate_left 1
      · (intro W hW; (try dsimp only at hW); go_simp; try with_reducible rfl)
      try simp only [Act.put, List.setIfInBounds_toArray, List.set_cons_zero, List.set_cons_succ]
      refine d_take (i := 33) (v := ?_) [] (some 78) rfl (by rfl) (by kernel_rfl) (by kernel_rfl) (by kernel_rfl) (by kernel_rfl) (by kernel_rfl) (by kernel_rfl) (fun _ _ _ h => h) (.inl ⟨by rfl, ?_⟩) HSD ?_
      rotate_left 1
      · (intro W hW; (try dsimp only at hW); go_simp; try with_reducible rfl)
      try simp only [Act.put, List.setIfInBounds_toArray, List.set_cons_zero, List.set_cons_succ]
      refine d_take (i := 34) (v := ?_) [] (some 79) rfl (by rfl) (by kernel_rfl) (by kernel_rfl) (by kernel_rfl) (by kernel_rfl) (by kernel_rfl) (by kernel_rfl) (fun _ _ _ h => h) (.inl ⟨by rfl, ?_⟩) HSD ?_
      rotate_left 1
      · (intro W hW; (try dsimp only at hW); go_simp; try with_reducible rfl)
      try simp only [Act.put, List.setIfInBounds_toArray, List.set_cons_zero, List.set_cons_succ]
      refine d_take (i := 36) (v := ?_) [] (some 81) rfl (by rfl) (by kernel_rfl) (by kernel_rfl) (by kernel_rfl) (by kernel_rfl) (by kernel_rfl) (by kernel_rfl) (fun _ _ _ h => h) (.inl ⟨by rfl, ?_⟩) HSD ?_
      rotate_left 1
      · (intro W hW; (try dsimp only at hW); go_simp; try with_reducible rfl)
      try simp only [Act.put, List.setIfInBounds_toArray, List.set_cons_zero, List.set_cons_succ]
      have C35 := Lib.hid (sectors_d D26.out)
      refine d_call (i := 35) (by kernel_rfl) rfl (by rfl) (fun K hK => ?_)
      simp only [List.getElem_toArray, List.getElem_cons_succ, List.getElem_cons_zero]
      go_simp
      refine C35.out.mono ?_
      rintro e0 w35 ⟨rfl, x35⟩
      have B35 := Lib.hid (B26.out.ext x35)
      have D35 := Lib.hid (D26.out.ex x35)
      have Q35 := Lib.hid ((x35.block q (block_lt Q26.out)).trans Q26.out)
      have HSE : w35.cell? ⟨q, 2, none⟩ = some (.slice AA l.length ac) ∧ w35.cell? ⟨q, 4, none⟩ = some (.int .i64 nw) ∧ w35.cell? ⟨q, 5, none⟩ = some (.bool lost) := ⟨block_cell Q35.out 2, block_cell Q35.out 4, block_cell Q35.out 5⟩
      clear C35 x35
      go_simp
      refine hK.out _ _ (fun _ => HSE) ?_
      clear hK K
      try simp only [Act.put, List.setIfInBounds_toArray, List.set_cons_zero, List.set_cons_succ]
      refine d_take (i := 37) (v := ?_) [] (some 82) rfl (by rfl) (by kernel_rfl) (by kernel_rfl) (by kernel_rfl) (by kernel_rfl) (by kernel_rfl) (by kernel_rfl) (fun _ _ _ h => h) (.inl ⟨by rfl, ?_⟩) HSE ?_
      rotate_left 1
      · (intro W hW; (try dsimp only at hW); go_simp; try with_reducible rfl)
      try simp only [Act.put, List.setIfInBounds_toArray, List.set_cons_zero, List.set_cons_succ]
      refine d_take (i := 38) (v := ?_) [] (some 83) rfl (by rfl) (by kernel_rfl) (by kernel_rfl) (by kernel_rfl) (by kernel_rfl) (by kernel_rfl) (by kernel_rfl) (fun _ _ _ h => h) (.inl ⟨by rfl, ?_⟩) HSE ?_
      rotate_left 1
      · (intro W hW; (try dsimp only at hW); go_simp; try with_reducible rfl)
      try simp only [Act.put, List.setIfInBounds_toArray, List.set_cons_zero, List.set_cons_succ]
      refine d_done (by kernel_rfl) ?_ _
      clear HS1 HSA HSB HSC HSD HSE
      go_wp2_with fail
      go_roundw
      case rel => exact ⟨k + 1, by go_num, by omega, B35.out⟩
      case measure => simp [intOf]; omega
    · obtain rfl : k = n := by omega
      go_wp2_with fail
      go_loopw [10] (fun v10 wr => ∃ j : Nat, v10 = .int .i64 ((j : Int) - 1) ∧ j ≤ sn + 2 ∧ Hid (BX w wr g q sn (k + j))) (fun v10 _ => sn + 2 - (intOf v10 + 1).toNat)
      case atStart => exact ⟨0, rfl, by omega, HI.out⟩
      case round =>
        obtain ⟨j, rfl, hj, HJ⟩ := hrel
        obtain ⟨U3, hU3⟩ : ∃ V : World, V = wr := ⟨_, rfl⟩
        subst hU3
        by_cases hjn : j < sn + 2
        · have y0 : (j : Int) - 1 ≤ (sn : Int) := by omega
          have PL := Lib.hid (play_any HE.out HJ.out (by omega) 3 ((j : Int) - 1) 0 0 (by omega) none 0 0 [] Rd.nil_ (fun y hy => by cases hy) (by omega) (Post := fun e w' => e = .returned (.bool true) ∧ BX w w' g q sn (k + j + 1)) (Lib.hid fun w' h => ⟨rfl, h⟩))
          simp only [show ((0 : Nat) : Int) = 0 from rfl] at PL
          go_wp2_with fail
          refine PL.out.mono ?_
          rintro e0 w5 ⟨rfl, B5⟩
          have H5 := Lib.hid B5
          clear PL B5
          go_wp2_with fail
          go_roundw
          case rel => exact ⟨j + 1, by go_num, by omega, H5.out⟩
          case measure => simp [intOf]; omega
        · have y0 : ¬ ((j : Int) - 1 ≤ (sn : Int)) := by omega
          go_wp2_with fail
          go_returns
          exact ⟨rfl, HJ.out.wext⟩
theorem dplays_any (sec : Int) (A0 : Option Addr) (n c0 : Nat) (os : List O5) (w : World) (hr : Rd w 5 A0 n (o5rows os).flatten) (hol : os.length = n) (hok : ∀ o ∈ os, o.ok w) (hn : n * 56 ≤ 140737488351232) (hE : Errs w E) :
    Calls Tryd.prog 6 #[.int .i64 sec, .slice A0 n c0] w fun e w' => e = .returned (.bool true) ∧ Ext w w' := by
  by_cases h : sec < 1 ∨ 1024 < sec
  · exact dplays_bad sec h A0 n c0 w hE
  · obtain ⟨sn, rfl⟩ : ∃ sn : Nat, sec = (sn : Int) := ⟨sec.toNat, by omega⟩
    exact dplays_ok sn (by omega) A0 n c0 os w hr hol hok hn hE
end
end Go.Proofs.YtchkeclhnbekkaaDoor
