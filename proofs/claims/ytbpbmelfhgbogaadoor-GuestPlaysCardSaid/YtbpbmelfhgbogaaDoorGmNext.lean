/-
  The document's guest: Next, walked.
-/
import Derived.Test.YtbpbmelfhgbogaaDoorGmState
import Derived.BigRegion
namespace Go.Proofs.YtbpbmelfhgbogaaDoor
set_option maxRecDepth 100000
open Go.RowKit
set_option linter.unusedVariables false
theorem next_found {p : Int} {ts : List TaskV} {js : List JobV} {k : Nat} {x : JobV} (hx : js[k]? = some x) (hh : hldB ts x = true) (hn : ∀ m, m < k → hldB ts (js.getD m jz) = false) : nextI p ts js = k := by
  obtain ⟨hl, rfl⟩ := List.getElem?_eq_some_iff.1 hx
  have e : js.findIdx? (hldB ts) = some k := List.findIdx?_eq_some_iff_getElem.2 ⟨hl, hh, fun j hj => by
    have := hn j hj
    rw [List.getD_eq_getElem?_getD, List.getElem?_eq_getElem (by omega)] at this
    simpa using this⟩
  exact (idxV_some e).2
theorem next_not {p : Int} {ts : List TaskV} {js : List JobV} (hn : ∀ m, m < js.length → hldB ts (js.getD m jz) = false) : nextI p ts js = best p js js.length := by
  refine (idxV_none (ts := ts) (List.findIdx?_eq_none_iff.2 fun x hx => ?_)).2
  obtain ⟨k, hk⟩ := List.getElem?_of_mem hx
  have := hn k (List.getElem?_eq_some_iff.1 hk).1
  rw [getD_of hk] at this
  simpa using this
/-- Next's answer: -1 where none waits. -/
def nextV (p : Int) (ts : List TaskV) (js : List JobV) : Int := if js.length = 0 then -1 else (nextI p ts js : Int)
def bestV (p : Int) (js : List JobV) (k : Nat) : Int := if k = 0 then -1 else (best p js k : Int)
theorem bestV_zero (p : Int) (js : List JobV) : bestV p js 0 = -1 := rfl
theorem bestV_pos (p : Int) (js : List JobV) {k : Nat} (h : 0 < k) : bestV p js k = (best p js k : Int) := if_neg (by omega)
section
variable {w w' : World} {B g tn tc lc jn jc : Nat} {TA LA JA : Option Addr} {p : Int} {ks : List TkV} {js : List JobV}
set_option maxHeartbeats 6400000 in
theorem rnext_any (h : MS w B g TA tn tc LA lc JA jn jc p ks js) : Calls Tryd.prog 27 #[.pointer (some ⟨g, 0, none⟩)] w fun e w' => e = .returned (.int .i64 (nextV p (tsk ks) js)) ∧ Ext w w' := by
  have c3 := h.c3
  have hjn := h.jn64
  have HG := Lib.hid h
  have HL := Lib.hid h.jlen
  obtain ⟨R, hR⟩ : ∃ R, nextV p (tsk ks) js = R := ⟨_, rfl⟩
  rw [hR]
  have HR := Lib.hid hR
  clear h hR
  go_enter Tryd.func27, Tryd.ntmps27
  go_wp2_with fail
  clear c3
  go_loopw [3, 4, 13] (fun _ _ v13 wr => ∃ k : Nat, v13 = .int .i64 (k : Int) ∧ k ≤ jn ∧ Hid ((∀ m, m < k → hldB (tsk ks) (js.getD m jz) = false) ∧ Ext w wr)) (fun _ _ v13 _ => jn - (intOf v13).toNat)
  case atStart => exact ⟨0, rfl, by omega, (fun m hm => by omega), Ext.refl w⟩
  case round =>
    obtain ⟨k, rfl, hk, HI⟩ := hrel
    by_cases hlt : k < jn
    · obtain ⟨x, hx⟩ : ∃ x, js[k]? = some x := ⟨js[k]'(by have := HL.out; omega), List.getElem?_eq_getElem _⟩
      obtain ⟨k5, hk5⟩ : ∃ k5, k * 5 = k5 := ⟨_, rfl⟩
      have h1 := HG.out.ex HI.out.2
      obtain ⟨S, rfl, _, _, c0, c1, c2, c3, c4⟩ := h1.jcell hx hk5
      have hT := (HG.out.gi.ok x (List.mem_of_getElem? hx)).1
      rw [List.length_map] at hT
      obtain ⟨y, hy⟩ : ∃ y, ks[x.T]? = some y := ⟨ks[x.T]'hT, List.getElem?_eq_getElem _⟩
      obtain ⟨t4, ht4⟩ : ∃ t4, x.T * 4 = t4 := ⟨_, rfl⟩
      have z0 : (0 : Int) ≤ k := by omega
      have z1 : (k : Int) < jn := by omega
      have XB := (Ext.refl wr).alloc (.cells #[.int .i64 (x.T : Int), .int .i64 x.R, .int .i64 x.D, .int .i64 x.L, .int .i64 x.N] 46)
      have hbB := heap_alloc_new wr (.cells #[.int .i64 (x.T : Int), .int .i64 x.R, .int .i64 x.D, .int .i64 x.L, .int .i64 x.N] 46)
      have H1 := Lib.hid (And.intro (h1.ex XB) (And.intro (HI.out.2.trans XB) hbB))
      have HX := Lib.hid hx
      have HY := Lib.hid hy
      have htn : x.T < tn := by have := HG.out.klen; omega
      clear h1 hx XB hbB hy
      go_upto_region 4 with (fail)
      clear c0 c1 c2 c3 c4 hk5
      generalize wr.alloc (.cells #[.int .i64 (x.T : Int), .int .i64 x.R, .int .i64 x.D, .int .i64 x.L, .int .i64 x.N] 46) = V at *
      generalize wr.heap.size = mb at *
      have q0 : V.cell? ⟨mb, 0, none⟩ = some (.int .i64 (x.T : Int)) := block_cell H1.out.2.2 0
      have q4 : V.cell? ⟨mb, 4, none⟩ = some (.int .i64 x.N) := block_cell H1.out.2.2 4
      have c1 := H1.out.1.c1
      obtain ⟨ST, eST, _, _, _, _, _, t3⟩ := H1.out.1.tcell HY.out ht4
      rw [eST] at c1
      have y0 : (0 : Int) ≤ (x.T : Int) := by omega
      have y1 : (x.T : Int) < tn := by omega
      obtain ⟨b, hb⟩ : ∃ b, hldB (tsk ks) x = b := ⟨_, rfl⟩
      have hb2 := hb
      unfold hldB at hb2
      rw [tsk_at HY.out] at hb2
      have HB := Lib.hid hb
      clear hb hT eST
      obtain ⟨d, hd⟩ : ∃ d, decide (0 < x.N) = d := ⟨_, rfl⟩
      obtain ⟨e, he⟩ : ∃ e, decide (x.N < y.t.S) = e := ⟨_, rfl⟩
      rw [hd, he] at hb2
      have HB2 := Lib.hid hb2
      clear hb2
      cases d with
      | false =>
        have hb : b = false := by rw [← HB2.out]; rfl
        subst hb
        go_quiet (fail)
        have X9 := Lib.hid (H1.out.2.1.drewN nq)
        clear q0 q4 c1 t3 hd he ht4
        go_wp2_with fail
        go_roundw
        case rel => exact ⟨k + 1, by go_num, by omega, (fun m hm => by
          rcases Nat.lt_or_ge m k with h | h
          · exact HI.out.1 m h
          · obtain rfl : m = k := by omega
            rw [getD_of HX.out]; exact HB.out), X9.out⟩
        case measure => simp [intOf]; omega
      | true =>
        cases e with
        | false =>
          have hb : b = false := by rw [← HB2.out]; rfl
          subst hb
          go_quiet (fail)
          have X9 := Lib.hid (H1.out.2.1.drewN nq)
          clear q0 q4 c1 t3 hd he ht4
          go_wp2_with fail
          go_roundw
          case rel => exact ⟨k + 1, by go_num, by omega, (fun m hm => by
            rcases Nat.lt_or_ge m k with h | h
            · exact HI.out.1 m h
            · obtain rfl : m = k := by omega
              rw [getD_of HX.out]; exact HB.out), X9.out⟩
          case measure => simp [intOf]; omega
        | true =>
          have hb : b = true := by rw [← HB2.out]; rfl
          subst hb
          go_quiet (fail)
          have X9 := Lib.hid (H1.out.2.1.drewN nq)
          clear q0 q4 c1 t3 hd he ht4
          go_wp2_with fail
          go_returns
          refine ⟨?_, X9.out⟩
          have e := HR.out
          unfold nextV at e
          rw [if_neg (by have := HL.out; omega), next_found HX.out HB.out HI.out.1] at e
          rw [← e]; rfl
    · obtain rfl : jn = k := by omega
      have HN := Lib.hid (next_not (p := p) (ts := tsk ks) (js := js) (by rw [HL.out]; exact HI.out.1))
      have c3 := (HG.out.ex HI.out.2).c3
      have X1 := Lib.hid HI.out.2
      clear HI
      go_wp2_with fail
      clear c3 hlt hk
      go_loopw [5, 6, 7, 42] (fun v5 _ _ v42 wr => ∃ k : Nat, v5 = .int .i64 (bestV p js k) ∧ v42 = .int .i64 (k : Int) ∧ k ≤ jn ∧ Hid (Ext w wr)) (fun _ _ _ v42 _ => jn - (intOf v42).toNat)
      case atStart => exact ⟨0, rfl, rfl, by omega, X1.out⟩
      case round =>
        obtain ⟨k, rfl, rfl, hk, HI⟩ := hrel
        by_cases hlt : k < jn
        · obtain ⟨x, hx⟩ : ∃ x, js[k]? = some x := ⟨js[k]'(by have := HL.out; omega), List.getElem?_eq_getElem _⟩
          have XB := (Ext.refl wr).alloc (.cells #[.int .i64 (x.T : Int), .int .i64 x.R, .int .i64 x.D, .int .i64 x.L, .int .i64 x.N] 46)
          have hbB := heap_alloc_new wr (.cells #[.int .i64 (x.T : Int), .int .i64 x.R, .int .i64 x.D, .int .i64 x.L, .int .i64 x.N] 46)
          obtain ⟨k5, hk5⟩ : ∃ k5, k * 5 = k5 := ⟨_, rfl⟩
          have h1 := HG.out.ex HI.out
          have H1 := Lib.hid (And.intro (h1.ex XB) (And.intro (HI.out.trans XB) hbB))
          obtain ⟨SB, eSB, _, _, c0, c1, c2, c3, c4⟩ := h1.jcell hx hk5
          subst eSB
          have z0 : (0 : Int) ≤ k := by omega
          have z1 : (k : Int) < jn := by omega
          have HX := Lib.hid hx
          clear h1 hx XB hbB
          go_upto_region 11 with (fail)
          clear c0 c1 c2 c3 c4 hk5
          generalize wr.alloc (.cells #[.int .i64 (x.T : Int), .int .i64 x.R, .int .i64 x.D, .int .i64 x.L, .int .i64 x.N] 46) = V at *
          generalize wr.heap.size = mb at *
          rcases Nat.eq_zero_or_pos k with e0 | hpos
          · have hbv := bestV_zero p js
            rw [← e0] at hbv
            have HE := Lib.hid e0
            rw [hbv]
            clear hbv e0
            go_quiet (fail)
            have X9 := Lib.hid (H1.out.2.1.drewN nq)
            go_wp2_with fail
            go_roundw
            case rel => exact ⟨k + 1, by rw [HE.out, bestV_pos p js (by omega)]; simp [best], by go_num, by omega, X9.out⟩
            case measure => simp [intOf]; omega
          · obtain ⟨bk, hbk⟩ : ∃ bk, best p js k = bk := ⟨_, rfl⟩
            rw [bestV_pos p js hpos, hbk]
            have hble : bk < k := by rw [← hbk]; exact best_lt p js k hpos
            obtain ⟨y, hy⟩ : ∃ y, js[bk]? = some y := ⟨js[bk]'(by have := HL.out; omega), List.getElem?_eq_getElem _⟩
            have HS1 := Lib.hid (best_succ p js HX.out (by rw [hbk]; exact hy))
            rw [hbk] at HS1
            obtain ⟨b5, hb5⟩ : ∃ b5, bk * 5 = b5 := ⟨_, rfl⟩
            have y0 : (0 : Int) ≤ bk := by omega
            have y1 : (bk : Int) < jn := by omega
            have y2 : ¬ (bk : Int) < 0 := by omega
            have HFS := Lib.hid (fun W (hx : Ext V W) => (show W.cell? ⟨mb, 0, none⟩ = some (.int .i64 (x.T : Int)) ∧ W.cell? ⟨mb, 1, none⟩ = some (.int .i64 x.R) ∧ W.cell? ⟨mb, 2, none⟩ = some (.int .i64 x.D) ∧ W.cell? ⟨mb, 3, none⟩ = some (.int .i64 x.L) ∧ W.cell? ⟨mb, 4, none⟩ = some (.int .i64 x.N) ∧ W.cell? ⟨g, 3, none⟩ = some (.slice (some ⟨SB, 0, none⟩) jn jc) ∧ W.cell? ⟨SB, b5, none⟩ = some (.int .i64 (y.T : Int)) ∧ W.cell? ⟨SB, b5 + 1, none⟩ = some (.int .i64 y.R) ∧ W.cell? ⟨SB, b5 + 2, none⟩ = some (.int .i64 y.D) ∧ W.cell? ⟨SB, b5 + 3, none⟩ = some (.int .i64 y.L) ∧ W.cell? ⟨SB, b5 + 4, none⟩ = some (.int .i64 y.N) from by
              have hB := (hx.block mb (block_lt H1.out.2.2)).trans H1.out.2.2
              have hm := H1.out.1.ex hx
              obtain ⟨SB', eS, _, _, u0, u1, u2, u3, u4⟩ := hm.jcell hy hb5
              injection eS with eS
              injection eS with eS
              subst eS
              exact ⟨block_cell hB 0, block_cell hB 1, block_cell hB 2, block_cell hB 3, block_cell hB 4, hm.c3, u0, u1, u2, u3, u4⟩))
            have HS : V.drew.cell? ⟨mb, 0, none⟩ = some (.int .i64 (x.T : Int)) ∧ V.drew.cell? ⟨mb, 1, none⟩ = some (.int .i64 x.R) ∧ V.drew.cell? ⟨mb, 2, none⟩ = some (.int .i64 x.D) ∧ V.drew.cell? ⟨mb, 3, none⟩ = some (.int .i64 x.L) ∧ V.drew.cell? ⟨mb, 4, none⟩ = some (.int .i64 x.N) ∧ V.drew.cell? ⟨g, 3, none⟩ = some (.slice (some ⟨SB, 0, none⟩) jn jc) ∧ V.drew.cell? ⟨SB, b5, none⟩ = some (.int .i64 (y.T : Int)) ∧ V.drew.cell? ⟨SB, b5 + 1, none⟩ = some (.int .i64 y.R) ∧ V.drew.cell? ⟨SB, b5 + 2, none⟩ = some (.int .i64 y.D) ∧ V.drew.cell? ⟨SB, b5 + 3, none⟩ = some (.int .i64 y.L) ∧ V.drew.cell? ⟨SB, b5 + 4, none⟩ = some (.int .i64 y.N) := HFS.out _ (Ext.refl V).drew
            obtain ⟨r, hr⟩ : ∃ r, r = ahd p x y := ⟨_, rfl⟩
            have AH := rahead_any (H1.out.1.ex (Ext.refl V).drew).c0 (H1.out.1.ex (Ext.refl V).drew).lt x y r (Lib.hid hr)
            unfold JobV.val at AH
            have AH := Lib.hid AH
            have HRR := Lib.hid hr
            clear hr hy hbk
            refine d_region (fun W : World => W.cell? ⟨mb, 0, none⟩ = some (.int .i64 (x.T : Int)) ∧ W.cell? ⟨mb, 1, none⟩ = some (.int .i64 x.R) ∧ W.cell? ⟨mb, 2, none⟩ = some (.int .i64 x.D) ∧ W.cell? ⟨mb, 3, none⟩ = some (.int .i64 x.L) ∧ W.cell? ⟨mb, 4, none⟩ = some (.int .i64 x.N) ∧ W.cell? ⟨g, 3, none⟩ = some (.slice (some ⟨SB, 0, none⟩) jn jc) ∧ W.cell? ⟨SB, b5, none⟩ = some (.int .i64 (y.T : Int)) ∧ W.cell? ⟨SB, b5 + 1, none⟩ = some (.int .i64 y.R) ∧ W.cell? ⟨SB, b5 + 2, none⟩ = some (.int .i64 y.D) ∧ W.cell? ⟨SB, b5 + 3, none⟩ = some (.int .i64 y.L) ∧ W.cell? ⟨SB, b5 + 4, none⟩ = some (.int .i64 y.N)) [] (by kernel_rfl) ?_
            refine d_take (i := 0) (v := ?_) [] (some 47) rfl (by rfl) (by kernel_rfl) (by kernel_rfl) (by kernel_rfl) (by kernel_rfl) (by kernel_rfl) (by kernel_rfl) (fun _ _ _ h => h) (.inl ⟨by rfl, ?_⟩) HS ?_
            rotate_left 1
            · (intro W hW; (try dsimp only at hW); go_simp; try with_reducible rfl)
            try simp only [Act.put, List.setIfInBounds_toArray, List.set_cons_zero, List.set_cons_succ]
            refine d_take (i := 1) (v := ?_) [] (some 48) rfl (by rfl) (by kernel_rfl) (by kernel_rfl) (by kernel_rfl) (by kernel_rfl) (by kernel_rfl) (by kernel_rfl) (fun _ _ _ h => h) (.inl ⟨by rfl, ?_⟩) HS ?_
            rotate_left 1
            · (intro W hW; (try dsimp only at hW); go_simp; try with_reducible rfl)
            try simp only [Act.put, List.setIfInBounds_toArray, List.set_cons_zero, List.set_cons_succ]
            refine d_take (i := 2) (v := ?_) [] (some 49) rfl (by rfl) (by kernel_rfl) (by kernel_rfl) (by kernel_rfl) (by kernel_rfl) (by kernel_rfl) (by kernel_rfl) (fun _ _ _ h => h) (.inl ⟨by rfl, ?_⟩) HS ?_
            rotate_left 1
            · (intro W hW; (try dsimp only at hW); go_simp; try with_reducible rfl)
            try simp only [Act.put, List.setIfInBounds_toArray, List.set_cons_zero, List.set_cons_succ]
            refine d_take (i := 3) (v := ?_) [] (some 50) rfl (by rfl) (by kernel_rfl) (by kernel_rfl) (by kernel_rfl) (by kernel_rfl) (by kernel_rfl) (by kernel_rfl) (fun _ _ _ h => h) (.inl ⟨by rfl, ?_⟩) HS ?_
            rotate_left 1
            · (intro W hW; (try dsimp only at hW); go_simp; try with_reducible rfl)
            try simp only [Act.put, List.setIfInBounds_toArray, List.set_cons_zero, List.set_cons_succ]
            refine d_take (i := 4) (v := ?_) [] (some 51) rfl (by rfl) (by kernel_rfl) (by kernel_rfl) (by kernel_rfl) (by kernel_rfl) (by kernel_rfl) (by kernel_rfl) (fun _ _ _ h => h) (.inl ⟨by rfl, ?_⟩) HS ?_
            rotate_left 1
            · (intro W hW; (try dsimp only at hW); go_simp; try with_reducible rfl)
            try simp only [Act.put, List.setIfInBounds_toArray, List.set_cons_zero, List.set_cons_succ]
            refine d_take (i := 5) (v := ?_) [] (some 52) rfl (by rfl) (by kernel_rfl) (by kernel_rfl) (by kernel_rfl) (by kernel_rfl) (by kernel_rfl) (by kernel_rfl) (fun _ _ _ h => h) (.inl ⟨by rfl, ?_⟩) HS ?_
            rotate_left 1
            · (intro W hW; (try dsimp only at hW); go_simp; try with_reducible rfl)
            try simp only [Act.put, List.setIfInBounds_toArray, List.set_cons_zero, List.set_cons_succ]
            refine d_take (i := 6) (v := ?_) [] (some 53) rfl (by rfl) (by kernel_rfl) (by kernel_rfl) (by kernel_rfl) (by kernel_rfl) (by kernel_rfl) (by kernel_rfl) (fun _ _ _ h => h) (.inl ⟨by rfl, ?_⟩) HS ?_
            rotate_left 1
            · (intro W hW; (try dsimp only at hW); go_simp; try with_reducible rfl)
            try simp only [Act.put, List.setIfInBounds_toArray, List.set_cons_zero, List.set_cons_succ]
            refine d_take (i := 7) (v := ?_) [] (some 54) rfl (by rfl) (by kernel_rfl) (by kernel_rfl) (by kernel_rfl) (by kernel_rfl) (by kernel_rfl) (by kernel_rfl) (fun _ _ _ h => h) (.inl ⟨by rfl, ?_⟩) HS ?_
            rotate_left 1
            · (intro W hW; (try dsimp only at hW); go_simp; try with_reducible rfl)
            try simp only [Act.put, List.setIfInBounds_toArray, List.set_cons_zero, List.set_cons_succ]
            refine d_take (i := 8) (v := ?_) [] (some 55) rfl (by rfl) (by kernel_rfl) (by kernel_rfl) (by kernel_rfl) (by kernel_rfl) (by kernel_rfl) (by kernel_rfl) (fun _ _ _ h => h) (.inl ⟨by rfl, ?_⟩) HS ?_
            rotate_left 1
            · (intro W hW; (try dsimp only at hW); go_simp; try with_reducible rfl)
            try simp only [Act.put, List.setIfInBounds_toArray, List.set_cons_zero, List.set_cons_succ]
            refine d_take (i := 9) (v := ?_) [] (some 56) rfl (by rfl) (by kernel_rfl) (by kernel_rfl) (by kernel_rfl) (by kernel_rfl) (by kernel_rfl) (by kernel_rfl) (fun _ _ _ h => h) (.inl ⟨by rfl, ?_⟩) HS ?_
            rotate_left 1
            · (intro W hW; (try dsimp only at hW); go_simp; try with_reducible rfl)
            try simp only [Act.put, List.setIfInBounds_toArray, List.set_cons_zero, List.set_cons_succ]
            refine d_take (i := 10) (v := ?_) [] (some 57) rfl (by rfl) (by kernel_rfl) (by kernel_rfl) (by kernel_rfl) (by kernel_rfl) (by kernel_rfl) (by kernel_rfl) (fun _ _ _ h => h) (.inl ⟨by rfl, ?_⟩) HS ?_
            rotate_left 1
            · (intro W hW; (try dsimp only at hW); go_simp; try with_reducible rfl)
            try simp only [Act.put, List.setIfInBounds_toArray, List.set_cons_zero, List.set_cons_succ]
            refine d_take (i := 11) (v := ?_) [] (some 58) rfl (by rfl) (by kernel_rfl) (by kernel_rfl) (by kernel_rfl) (by kernel_rfl) (by kernel_rfl) (by kernel_rfl) (fun _ _ _ h => h) (.inl ⟨by rfl, ?_⟩) HS ?_
            rotate_left 1
            · (intro W hW; (try dsimp only at hW); go_simp; try with_reducible rfl)
            try simp only [Act.put, List.setIfInBounds_toArray, List.set_cons_zero, List.set_cons_succ]
            refine d_call (i := 12) (by kernel_rfl) rfl (by rfl) (fun K hK => ?_)
            simp only [List.getElem_toArray, List.getElem_cons_succ, List.getElem_cons_zero]
            go_simp
            refine AH.out.mono ?_
            rintro e0 w6 ⟨rfl, x6⟩
            have X6 := (Ext.refl V).drew.trans x6
            have HS6 : w6.cell? ⟨mb, 0, none⟩ = some (.int .i64 (x.T : Int)) ∧ w6.cell? ⟨mb, 1, none⟩ = some (.int .i64 x.R) ∧ w6.cell? ⟨mb, 2, none⟩ = some (.int .i64 x.D) ∧ w6.cell? ⟨mb, 3, none⟩ = some (.int .i64 x.L) ∧ w6.cell? ⟨mb, 4, none⟩ = some (.int .i64 x.N) ∧ w6.cell? ⟨g, 3, none⟩ = some (.slice (some ⟨SB, 0, none⟩) jn jc) ∧ w6.cell? ⟨SB, b5, none⟩ = some (.int .i64 (y.T : Int)) ∧ w6.cell? ⟨SB, b5 + 1, none⟩ = some (.int .i64 y.R) ∧ w6.cell? ⟨SB, b5 + 2, none⟩ = some (.int .i64 y.D) ∧ w6.cell? ⟨SB, b5 + 3, none⟩ = some (.int .i64 y.L) ∧ w6.cell? ⟨SB, b5 + 4, none⟩ = some (.int .i64 y.N) := HFS.out _ X6
            have X7 := Lib.hid (H1.out.2.1.trans X6)
            clear x6 X6
            go_simp
            refine hK.out _ _ (fun _ => HS6) ?_
            clear hK K
            try simp only [Act.put, List.setIfInBounds_toArray, List.set_cons_zero, List.set_cons_succ]
            refine d_take (i := 13) (v := ?_) [] (some 60) rfl (by rfl) (by kernel_rfl) (by kernel_rfl) (by kernel_rfl) (by kernel_rfl) (by kernel_rfl) (by kernel_rfl) (fun _ _ _ h => h) (.inl ⟨by rfl, ?_⟩) HS6 ?_
            rotate_left 1
            · (intro W hW; (try dsimp only at hW); go_simp; try with_reducible rfl)
            try simp only [Act.put, List.setIfInBounds_toArray, List.set_cons_zero, List.set_cons_succ]
            refine d_done (by kernel_rfl) ?_ _
            clear HS HS6 hb5
            have hb2 := HS1.out
            rw [← HRR.out] at hb2
            cases r with
            | true =>
              have HB2 := Lib.hid (hb2.trans (if_pos rfl))
              clear hb2
              go_wp2_with fail
              go_roundw
              case rel => exact ⟨k + 1, by rw [bestV_pos p js (by omega), HB2.out], by go_num, by omega, X7.out⟩
              case measure => simp [intOf]; omega
            | false =>
              have HB2 := Lib.hid (hb2.trans (if_neg (by decide)))
              clear hb2
              go_wp2_with fail
              go_roundw
              case rel => exact ⟨k + 1, by rw [bestV_pos p js (by omega), HB2.out], by go_num, by omega, X7.out⟩
              case measure => simp [intOf]; omega
        · obtain rfl : jn = k := by omega
          go_wp2_with fail
          go_returns
          refine ⟨?_, HI.out⟩
          have e := HR.out
          unfold nextV at e
          unfold bestV
          rw [HN.out, HL.out] at e
          rw [← e]; rfl
end
end Go.Proofs.YtbpbmelfhgbogaaDoor
