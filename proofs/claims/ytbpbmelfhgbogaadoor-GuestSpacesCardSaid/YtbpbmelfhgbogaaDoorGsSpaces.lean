/-
  The statement GuestSpaces, walked.
-/
import Derived.Test.YtbpbmelfhgbogaaDoorGsAlive
import Derived.Test.YtbpbmelfhgbogaaDoorGsOpen
import Derived.Test.YtbpbmelfhgbogaaDoorMapV
import Derived.Test.YtbpbmelfhgbogaaDoorErrNe
import Derived.Test.YtbpbmelfhgbogaaDoorOrd
import Derived.Carry
namespace Go.Proofs.YtbpbmelfhgbogaaDoor
set_option maxRecDepth 100000
open Go.RowKit
set_option linter.unusedVariables false
/-- The map holds each task's last release. -/
def LastM (ks : List TkV) (f : Int → Option Value) : Prop := ∀ (k : Nat) (x : TkV), ks[k]? = some x → f (k : Int) = if x.was = true then some (.int .i64 x.last) else none
/-- What a round keeps. -/
structure SS (w wr : World) (g : Nat) (F : Nat → Prop) (p : Int) (ts : List TaskV) (ks : List TkV) (js : List JobV) (xb mb q : Nat) (f : Int → Option Value) (A B : Option Addr) (n c m e : Nat) : Prop where
  gp : GP wr g F p ks js
  tk : tsk ks = ts
  xbx : wr.heap[xb]? = some (.cells #[.int .i64 p, .slice A n c, .slice B m e] 25 (0, 0))
  mp : MapI Tryd.prog 3 wr mb q f
  lst : LastM ks f
  ints : ∀ y v, f y = some v → ∃ x : Int, v = .int .i64 x
  ext : Ext w wr
  fw : ∀ b, F b → w.heap.size ≤ b
  fx : ¬ F xb
  fm : ¬ F mb
  hm : w.heap.size ≤ mb
  hx : xb ≠ mb
section
variable {w wr w' : World} {g : Nat} {F F' : Nat → Prop} {p : Int} {ts : List TaskV} {ks ks' : List TkV} {js js' : List JobV} {xb mb q : Nat} {f : Int → Option Value} {A B : Option Addr} {n c m e : Nat}
theorem SS.ex (h : SS w wr g F p ts ks js xb mb q f A B n c m e) (hx : Ext wr w') : SS w w' g F p ts ks js xb mb q f A B n c m e :=
  ⟨h.gp.ext hx, h.tk, (hx.block _ (block_lt h.xbx)).trans h.xbx, h.mp.ext hx, h.lst, h.ints, h.ext.trans hx, h.fw, h.fx, h.fm, h.hm, h.hx⟩
theorem SS.no (h : SS w wr g F p ts ks js xb mb q f A B n c m e) (hn : Next_ wr w' g F F' p ks js) : SS w w' g F' p ts ks js xb mb q f A B n c m e := by
  have hX := next_ext h.ext hn h.fw
  exact ⟨hn.gp, h.tk, hn.blk h.xbx h.fx, h.mp.fr hn.fr h.fm, h.lst, h.ints, hX.1, hX.2, hn.out (block_lt h.xbx) h.fx, hn.out h.mp.lt h.fm, h.hm, h.hx⟩
theorem SS.yes {w2 : World} {k : Nat} {x : TkV} {now ticks : Int} (h : SS w wr g F p ts ks js xb mb q f A B n c m e) (hk : ks[k]? = some x) (hn : Next_ wr w' g F F' p (ks.set k ⟨x.t, now, true⟩) (js ++ [newJ k now ticks x.t])) (hx : Ext w' w2) {w3 : World}
    (hm : MapI Tryd.prog 3 w3 mb (q + 1) (fun y => if y = (k : Int) then some (.int .i64 now) else f y)) (hf : Fr w2 w3 (· = mb)) : SS w w3 g F' p ts (ks.set k ⟨x.t, now, true⟩) (js ++ [newJ k now ticks x.t]) xb mb (q + 1) (fun y => if y = (k : Int) then some (.int .i64 now) else f y) A B n c m e := by
  have hX := next_ext h.ext hn h.fw
  have b1 := hn.blk h.xbx h.fx
  have b2 := (hx.block _ (block_lt b1)).trans b1
  have hmm := hn.out h.mp.lt h.fm
  refine ⟨(hn.gp.ext hx).fr hf (fun b hb e => hmm (by rw [← e]; exact hb)), (tsk_set hk now true).trans h.tk, (hf.block _ (block_lt b2) h.hx).trans b2, hm, fun i y hy => ?_, fun y v hv => ?_, Fr.ext (hX.1.trans hx) hf (fun i hi => by rw [hi]; exact h.hm), hX.2, hn.out (block_lt h.xbx) h.fx, hmm, h.hm, h.hx⟩
  · rw [List.getElem?_set] at hy
    split at hy
    · rename_i e
      subst e
      rw [if_pos (List.getElem?_eq_some_iff.1 hk).1] at hy
      injection hy with hy
      subst hy
      simp
    · rename_i e
      rw [if_neg (by omega)]
      exact h.lst i y hy
  · split at hv
    · injection hv with hv; exact ⟨_, hv.symm⟩
    · exact h.ints y v hv
end
theorem lg_off {p : Int} {ts : List TaskV} (h : ¬ LG p ts) : IffB false (LG p ts) := ⟨(fun e => by cases e), fun e => absurd e h⟩
theorem zeroInt : ∀ w, (zeroValue 3).run Tryd.prog w = .ok (.int .i64 0) w := fun w => by kernel_rfl
set_option maxHeartbeats 6400000 in
theorem gspaces_any (p : Int) (A B : Option Addr) (n c m e : Nat) (ts : List TaskV) (os : List O5) (w : World) (hn : n * 32 ≤ 140737488351232) (hr : Rd w 4 A n (trows ts).flatten) (hm : m * 40 ≤ 140737488351232) (hol : os.length = m) (hro : Rd w 5 B m (o5rows os).flatten) (hok : ∀ o ∈ os, o.ok)
    {pn pb pf pt : Addr} (hE : GErr w pn pb pf pt) (hnb : pn ≠ pb) (hnf : pn ≠ pf) (hbf : pb ≠ pf) :
    Calls Tryd.prog 3 #[.agg #[.int .i64 p, .slice A n c, .slice B m e]] w fun e w' => e = .returned (.bool true) ∧ Ext w w' := by
  have X0 := (Ext.refl w).alloc (.cells #[.int .i64 p, .slice A n c, .slice B m e] 25)
  have hb0 := heap_alloc_new w (.cells #[.int .i64 p, .slice A n c, .slice B m e] 25)
  have AL := Lib.hid (galive_any _ (hE.ext X0))
  have HW := Lib.hid (And.intro X0 (And.intro hb0 hE))
  have HR := Lib.hid (And.intro hr (And.intro hro (And.intro hol hr.len_t)))
  have HO := Lib.hid hok
  have HNE := Lib.hid (And.intro hnb (And.intro hnf hbf))
  have hmm := @run_makeMap Tryd.prog
  clear X0 hb0 hE hr hro hol hok hnb hnf hbf
  go_enter Tryd.func3, Tryd.ntmps3
  go_wp2_with fail
  refine AL.out.mono ?_
  rintro e0 w1 ⟨rfl, x1⟩
  have X1 := HW.out.1.trans x1
  have b1 := (x1.block _ (block_lt HW.out.2.1)).trans HW.out.2.1
  have q0 : w1.cell? ⟨w.heap.size, 0, none⟩ = some (.int .i64 p) := block_cell b1 0
  have q1 : w1.cell? ⟨w.heap.size, 1, none⟩ = some (.slice A n c) := block_cell b1 1
  have H1 := Lib.hid (And.intro X1 b1)
  clear AL x1 X1 b1
  by_cases hL : LG p ts
  · have NW := Lib.hid (news_ok p A n c ts w1 (HR.out.1.ext H1.out.1) (HW.out.2.2.task.ext H1.out.1) hL)
    have HLG := Lib.hid hL
    clear hL
    go_wp2_with fail
    refine NW.out.mono ?_
    rintro e0 w2 ⟨g, F, rfl, h2, f2, x2⟩
    have X2 := H1.out.1.trans x2
    have b2 := (x2.block _ (block_lt H1.out.2)).trans H1.out.2
    have z1 := H1.out.1.size
    have zlt := block_lt H1.out.2
    have z2 := x2.size
    have XM := (Ext.refl w2).alloc (.map #[] 0)
    have J0 : SS w (w2.alloc (.map #[] 0)) g F p ts (fresh ts) [] w.heap.size w2.heap.size 0 (fun _ => none) A B n c m e :=
      ⟨h2.ext XM, fresh_tsk ts, (XM.block _ (block_lt b2)).trans b2, MapI.made Tryd.prog 3 w2, fun k x hx => by
        unfold fresh at hx
        rw [List.getElem?_map] at hx
        obtain ⟨t, _, rfl⟩ := Option.map_eq_some_iff.1 hx
        rfl, (fun y v h => by cases h), X2.trans XM, fun b hb => by have := f2 b hb; omega, (fun hb => by have := f2 _ hb; omega), (fun hb => by have := h2.lt _ hb; omega), by omega, by omega⟩
    have q2 : (w2.alloc (.map #[] 0)).cell? ⟨w.heap.size, 2, none⟩ = some (.slice B m e) := block_cell J0.xbx 2
    have HJ := Lib.hid J0
    clear NW h2 f2 x2 X2 b2 z1 zlt z2 XM J0 q0 q1
    go_wp2_with fail
    clear q2 hmm
    generalize w2.alloc (.map #[] 0) = U at *
    generalize w2.heap.size = mb at *
    generalize w.heap.size = xb at *
    go_loopw [6, 7, 8, 9, 10, 11, 38] (fun _ _ _ _ _ _ v38 wr => ∃ (i : Nat) (F : Nat → Prop) (ks : List TkV) (js : List JobV) (q : Nat) (f : Int → Option Value), v38 = .int .i64 (i : Int) ∧ i ≤ m ∧ q ≤ i ∧ Hid (SS w wr g F p ts ks js xb mb q f A B n c m e)) (fun _ _ _ _ _ _ v38 _ => m - (intOf v38).toNat)
    case atStart => exact ⟨0, F, fresh ts, [], 0, _, rfl, by omega, by omega, HJ.out⟩
    case round =>
      obtain ⟨i, F, ks, js, q, f, rfl, hi, hqi, HI⟩ := hrel
      obtain ⟨U2, hU2⟩ : ∃ U2, U2 = wr := ⟨_, rfl⟩
      subst hU2
      clear HJ
      by_cases hlt : i < m
      · obtain ⟨o, ho⟩ : ∃ o, os[i]? = some o := ⟨os[i]'(by rw [HR.out.2.2.1]; exact hlt), List.getElem?_eq_getElem _⟩
        obtain ⟨i5, hi5⟩ : ∃ i5, i * 5 = i5 := ⟨_, rfl⟩
        obtain ⟨ad, rfl, _, _⟩ := HR.out.2.1.2 (show 0 < m by omega)
        have hrr := HR.out.2.1.ext HI.out.ext
        have k0 := hrr.rowAt (o5_even os) (o5_at ho) hi5 (i := 0) rfl
        have k1 := hrr.rowAt (o5_even os) (o5_at ho) hi5 (i := 1) rfl
        have k2 := hrr.rowAt (o5_even os) (o5_at ho) hi5 (i := 2) rfl
        have k3 := hrr.rowAt (o5_even os) (o5_at ho) hi5 (i := 3) rfl
        have k4 := hrr.rowAt (o5_even os) (o5_at ho) hi5 (i := 4) rfl
        rw [Nat.add_zero] at k0
        rw [← add_add', add_lit' _ (by omega)] at k1 k2 k3 k4
        have z0 : (0 : Int) ≤ i := by omega
        have z1 : (i : Int) < m := by omega
        have hoo := HO.out o (List.mem_of_getElem? ho)
        have HOO := Lib.hid hoo
        have XV := (Ext.refl U2).alloc (.cells #[.int .i64 o.K, .int .i64 o.Q, .int .i64 o.T, .int .i64 o.W, .int .i64 o.X] 35)
        have hbo := heap_alloc_new U2 (.cells #[.int .i64 o.K, .int .i64 o.Q, .int .i64 o.T, .int .i64 o.W, .int .i64 o.X] 35)
        have hfo : ¬ F U2.heap.size := fun h => by have := HI.out.gp.lt _ h; omega
        have hmo : U2.heap.size ≠ mb := fun h => by have := HI.out.mp.lt; omega
        have HV := Lib.hid (And.intro (HI.out.ex XV) (And.intro hbo (And.intro hfo hmo)))
        clear XV hbo hfo hmo hrr ho HI hoo
        go_upto_region 10 with (fail)
        generalize U2.alloc (.cells #[.int .i64 o.K, .int .i64 o.Q, .int .i64 o.T, .int .i64 o.W, .int .i64 o.X] 35) = V at *
        generalize U2.heap.size = ob at *
        have J := Lib.hid HV.out.1
        have b1 : V.cell? ⟨ob, 0, none⟩ = some (.int .i64 o.K) := block_cell HV.out.2.1 0
        clear k0 k1 k2 k3 k4 hi5
        by_cases h15 : (1500 : Int) < (i : Int)
        · go_wp2_with fail
          go_returns
          exact ⟨rfl, J.out.ext⟩
        · by_cases hK : o.K = 1
          · have hKb : (o.K != 1) = false := by simp [hK]
            have JB := jobss_any J.out.gp
            have h64 : js.length ≤ 64 := J.out.gp.gi.few
            obtain ⟨l, hl⟩ : ∃ l, js.length = l := ⟨_, rfl⟩
            rw [hl] at h64 JB
            have JB := Lib.hid JB
            have HL := Lib.hid hl
            clear hl
            go_wp2_with fail
            refine JB.out.mono ?_
            rintro e0 w3 ⟨A3, c3, rfl, _, x3⟩
            have J3 := Lib.hid (J.out.ex x3)
            have hb3 := (x3.block _ (block_lt HV.out.2.1)).trans HV.out.2.1
            have HB3 := Lib.hid hb3
            have b3 : w3.cell? ⟨ob, 2, none⟩ = some (.int .i64 o.T) := block_cell hb3 2
            have b4 : w3.cell? ⟨ob, 3, none⟩ = some (.int .i64 o.W) := block_cell hb3 3
            have b5 : w3.cell? ⟨ob, 4, none⟩ = some (.int .i64 o.X) := block_cell hb3 4
            have RL := Lib.hid (release_any J3.out.gp o.T o.W o.X (HW.out.2.2.rel.ext J3.out.ext))
            clear JB x3 hb3 b1
            go_wp2_with fail
            refine RL.out.mono ?_
            rintro e0 w5 ⟨v, F', ks', js', rfl, n5, hv⟩
            have hb5 := n5.blk HB3.out HV.out.2.2.1
            have b3' : w5.cell? ⟨ob, 2, none⟩ = some (.int .i64 o.T) := block_cell hb5 2
            have b4' : w5.cell? ⟨ob, 3, none⟩ = some (.int .i64 o.W) := block_cell hb5 3
            have M5 := J3.out.mp.fr n5.fr J3.out.fm
            have LK := M5.at_ok Tryd.underlying33 Tryd.underlying3 (zeroInt w5) HOO.out.t
            have HV5 := Lib.hid (And.intro n5 (And.intro hv (And.intro hb5 M5)))
            have hE5 := Lib.hid (HW.out.2.2.rel.ext (next_ext J3.out.ext HV5.out.1 J3.out.fw).1)
            clear RL n5 hv hb5 M5 b3 b4 b5
            have hcase := HV5.out.2.1
            rcases hcase with ⟨rfl, hT⟩ | ⟨qa, rfl, hq3, hks, hjs⟩
            · as_aux_lemma =>
                obtain ⟨k, x, hk, hx, h0, h1, hfr, hl64, hks, hjs⟩ := hT
                have HT := Lib.hid (And.intro hk (And.intro hx (And.intro h0 (And.intro h1 (And.intro hfr (And.intro hl64 (And.intro hks hjs)))))))
                have hlow : 0 ≤ x.last ∧ x.last ≤ 1099511627776 := by
                  obtain ⟨_, _, _, _, _, _, hG, _⟩ := J3.out.gp.ex
                  exact hG.low x (List.mem_of_getElem? hx)
                obtain ⟨l1, l2⟩ := hlow
                have hkt : ts[k]? = some x.t := by rw [← J3.out.tk]; unfold tsk; rw [List.getElem?_map, hx]; rfl
                have hkn : k < n := by have := HR.out.2.2.2; have := (List.getElem?_eq_some_iff.1 hkt).1; omega
                obtain ⟨ta, rfl, _, _⟩ := HR.out.1.2 (show 0 < n by omega)
                obtain ⟨T4, hT4⟩ : ∃ T4, k * 4 = T4 := ⟨_, rfl⟩
                have X5 := (next_ext J3.out.ext HV5.out.1 J3.out.fw).1
                have hS5 := (HR.out.1.ext X5).rowAt (trows_even ts) (trows_at hkt) hT4 (i := 1) rfl
                rw [← add_add', add_lit' _ (by omega)] at hS5
                have hx5 := HV5.out.1.blk J3.out.xbx J3.out.fx
                rw [hk] at b3' LK
                have hlf := J3.out.lst k x hx
                have y0 : (0 : Int) ≤ (k : Int) := by omega
                have y1 : (k : Int) < n := by omega
                have hleg := J3.out.gp.gi.leg x.t (List.mem_map.2 ⟨x, List.mem_of_getElem? hx, rfl⟩)
                obtain ⟨p1, p2, p3, p4, _, _⟩ := hleg
                obtain ⟨l', hl'⟩ : ∃ l', l + 1 = l' := ⟨_, rfl⟩
                have hjl : js'.length = l' := by rw [hjs, List.length_append, HL.out, ← hl']; rfl
                have JB6 := jobss_any (HV5.out.1.gp.ext ((Ext.refl w5).drew))
                rw [hjl] at JB6
                have JB6 := Lib.hid JB6
                have HS5 : w5.drew.cell? ⟨ob, 2, none⟩ = some (.int .i64 (k : Int)) ∧ w5.drew.cell? ⟨ob, 3, none⟩ = some (.int .i64 o.W) ∧ w5.drew.cell? ⟨xb, 1, none⟩ = some (.slice (some ta) n c) ∧ w5.drew.cell? ⟨(ta.add T4).block, (ta.add T4).off + 1, none⟩ = some (.int .i64 x.t.P) := ⟨b3', b4', block_cell hx5 1, hS5⟩
                have HSX := Lib.hid (fun w' (hx' : Ext w5.drew w') => (show w'.cell? ⟨ob, 2, none⟩ = some (.int .i64 (k : Int)) ∧ w'.cell? ⟨ob, 3, none⟩ = some (.int .i64 o.W) ∧ w'.cell? ⟨xb, 1, none⟩ = some (.slice (some ta) n c) ∧ w'.cell? ⟨(ta.add T4).block, (ta.add T4).off + 1, none⟩ = some (.int .i64 x.t.P) from by
                  have r1 := (hx'.block ob (block_lt (w := w5.drew) HV5.out.2.2.1)).trans HV5.out.2.2.1
                  have r2 := (hx'.block xb (block_lt (w := w5.drew) hx5)).trans hx5
                  have r3 := (((HR.out.1.ext X5).ext ((Ext.refl w5).drew.trans hx')).rowAt (trows_even ts) (trows_at hkt) hT4 (i := 1) rfl)
                  rw [← add_add', add_lit' _ (by omega)] at r3
                  have e2 := block_cell r1 2
                  rw [hk] at e2
                  exact ⟨e2, block_cell r1 3, block_cell r2 1, r3⟩))
                have d64 : ¬ (64 : Int) < (l' : Int) := by have := HL.out; omega
                have d65 : decide ((64 : Int) < (l' : Int)) = false := by rw [decide_eq_false_iff_not]; exact d64
                have d66 : decide (64 < l') = false := by rw [decide_eq_false_iff_not]; omega
                have wr2 : IntKind.i64.wrap ((l : Int) + 1) = (l' : Int) := by rw [IntKind.wrap_i64]; omega
                have wr1 : IntKind.i64.wrap (o.W - x.last) = o.W - x.last := by rw [IntKind.wrap_i64]; omega
                obtain ⟨xt, xl, xw⟩ := x
                dsimp only at *
                cases xw with
                | true =>
                  have hd : decide (o.W - xl < xt.P) = false := by
                    rcases hfr with e | e
                    · cases e
                    · rw [decide_eq_false_iff_not]
                      have e : xl + xt.P ≤ o.W := e
                      omega
                  rw [if_pos rfl] at hlf
                  rw [hlf] at LK
                  clear hlf hfr hx5 hS5 X5 hkt hl' hjl hk hx hks hjs hl64
                  go_wp2_with fail
                  refine d_region (fun W' : World => W'.cell? ⟨ob, 2, none⟩ = some (.int .i64 (k : Int)) ∧ W'.cell? ⟨ob, 3, none⟩ = some (.int .i64 o.W) ∧ W'.cell? ⟨xb, 1, none⟩ = some (.slice (some ta) n c) ∧ W'.cell? ⟨(ta.add T4).block, (ta.add T4).off + 1, none⟩ = some (.int .i64 xt.P)) [] (by kernel_rfl) ?_
                  refine d_take (i := 0) (v := ?_) [] (some 68) rfl (by rfl) (by kernel_rfl) (by kernel_rfl) (by kernel_rfl) (by kernel_rfl) (by kernel_rfl) (by kernel_rfl) (fun _ _ _ h => h) (.inl ⟨by rfl, ?_⟩) HS5 ?_
                  rotate_left 1
                  · (intro W hW; (try dsimp only at hW); go_simp; try with_reducible rfl)
                  try simp only [Act.put, List.setIfInBounds_toArray, List.set_cons_zero, List.set_cons_succ]
                  refine d_take (i := 1) (v := ?_) [] (some 69) rfl (by rfl) (by kernel_rfl) (by kernel_rfl) (by kernel_rfl) (by kernel_rfl) (by kernel_rfl) (by kernel_rfl) (fun _ _ _ h => h) (.inl ⟨by rfl, ?_⟩) HS5 ?_
                  rotate_left 1
                  · (intro W hW; (try dsimp only at hW); go_simp; try with_reducible rfl)
                  try simp only [Act.put, List.setIfInBounds_toArray, List.set_cons_zero, List.set_cons_succ]
                  refine d_take (i := 2) (v := ?_) [] (some 70) rfl (by rfl) (by kernel_rfl) (by kernel_rfl) (by kernel_rfl) (by kernel_rfl) (by kernel_rfl) (by kernel_rfl) (fun _ _ _ h => h) (.inl ⟨by rfl, ?_⟩) HS5 ?_
                  rotate_left 1
                  · (intro W hW; (try dsimp only at hW); go_simp; try with_reducible rfl)
                  try simp only [Act.put, List.setIfInBounds_toArray, List.set_cons_zero, List.set_cons_succ]
                  refine d_take (i := 3) (v := ?_) [] (some 71) rfl (by rfl) (by kernel_rfl) (by kernel_rfl) (by kernel_rfl) (by kernel_rfl) (by kernel_rfl) (by kernel_rfl) (fun _ _ _ h => h) (.inl ⟨by rfl, ?_⟩) HS5 ?_
                  rotate_left 1
                  · (intro W hW; (try dsimp only at hW); go_simp; try with_reducible rfl)
                  try simp only [Act.put, List.setIfInBounds_toArray, List.set_cons_zero, List.set_cons_succ]
                  refine d_take (i := 4) (v := ?_) [] (some 72) rfl (by rfl) (by kernel_rfl) (by kernel_rfl) (by kernel_rfl) (by kernel_rfl) (by kernel_rfl) (by kernel_rfl) (fun _ _ _ h => h) (.inl ⟨by rfl, ?_⟩) HS5 ?_
                  rotate_left 1
                  · (intro W hW; (try dsimp only at hW); go_simp; try with_reducible rfl)
                  try simp only [Act.put, List.setIfInBounds_toArray, List.set_cons_zero, List.set_cons_succ]
                  refine d_take (i := 5) (v := ?_) [] (some 73) rfl (by rfl) (by kernel_rfl) (by kernel_rfl) (by kernel_rfl) (by kernel_rfl) (by kernel_rfl) (by kernel_rfl) (fun _ _ _ h => h) (.inl ⟨by rfl, ?_⟩) HS5 ?_
                  rotate_left 1
                  · (intro W hW; (try dsimp only at hW); go_simp; try with_reducible rfl)
                  try simp only [Act.put, List.setIfInBounds_toArray, List.set_cons_zero, List.set_cons_succ]
                  refine d_take (i := 6) (v := ?_) [] (some 74) rfl (by rfl) (by kernel_rfl) (by kernel_rfl) (by kernel_rfl) (by kernel_rfl) (by kernel_rfl) (by kernel_rfl) (fun _ _ _ h => h) (.inl ⟨by rfl, ?_⟩) HS5 ?_
                  rotate_left 1
                  · (intro W hW; (try dsimp only at hW); go_simp; try with_reducible rfl)
                  try simp only [Act.put, List.setIfInBounds_toArray, List.set_cons_zero, List.set_cons_succ]
                  refine d_take (i := 7) (v := ?_) [] (some 75) rfl (by rfl) (by kernel_rfl) (by kernel_rfl) (by kernel_rfl) (by kernel_rfl) (by kernel_rfl) (by kernel_rfl) (fun _ _ _ h => h) (.inl ⟨by rfl, ?_⟩) HS5 ?_
                  rotate_left 1
                  · (intro W hW; (try dsimp only at hW); go_simp; try with_reducible rfl)
                  try simp only [Act.put, List.setIfInBounds_toArray, List.set_cons_zero, List.set_cons_succ]
                  refine d_take (i := 8) (v := ?_) [] (some 76) rfl (by rfl) (by kernel_rfl) (by kernel_rfl) (by kernel_rfl) (by kernel_rfl) (by kernel_rfl) (by kernel_rfl) (fun _ _ _ h => h) (.inl ⟨by rfl, ?_⟩) HS5 ?_
                  rotate_left 1
                  · (intro W hW; (try dsimp only at hW); go_simp; try with_reducible rfl)
                  try simp only [Act.put, List.setIfInBounds_toArray, List.set_cons_zero, List.set_cons_succ]
                  refine d_take (i := 9) (v := ?_) [] (some 77) rfl (by rfl) (by kernel_rfl) (by kernel_rfl) (by kernel_rfl) (by kernel_rfl) (by kernel_rfl) (by kernel_rfl) (fun _ _ _ h => h) (.inl ⟨by rfl, ?_⟩) HS5 ?_
                  rotate_left 1
                  · (intro W hW; (try dsimp only at hW); go_simp; try with_reducible rfl)
                  try simp only [Act.put, List.setIfInBounds_toArray, List.set_cons_zero, List.set_cons_succ]
                  refine d_take (i := 10) (v := ?_) [] (some 78) rfl (by rfl) (by kernel_rfl) (by kernel_rfl) (by kernel_rfl) (by kernel_rfl) (by kernel_rfl) (by kernel_rfl) (fun _ _ _ h => h) (.inl ⟨by rfl, ?_⟩) HS5 ?_
                  rotate_left 1
                  · (intro W hW; (try dsimp only at hW); go_simp; try with_reducible rfl)
                  try simp only [Act.put, List.setIfInBounds_toArray, List.set_cons_zero, List.set_cons_succ]
                  refine d_take (i := 11) (v := ?_) [] (some 79) rfl (by rfl) (by kernel_rfl) (by kernel_rfl) (by kernel_rfl) (by kernel_rfl) (by kernel_rfl) (by kernel_rfl) (fun _ _ _ h => h) (.inl ⟨by rfl, ?_⟩) HS5 ?_
                  rotate_left 1
                  · (intro W hW; (try dsimp only at hW); go_simp; try with_reducible rfl)
                  try simp only [Act.put, List.setIfInBounds_toArray, List.set_cons_zero, List.set_cons_succ]
                  refine d_take (i := 12) (v := ?_) [] (some 80) rfl (by rfl) (by kernel_rfl) (by kernel_rfl) (by kernel_rfl) (by kernel_rfl) (by kernel_rfl) (by kernel_rfl) (fun _ _ _ h => h) (.inl ⟨by rfl, ?_⟩) HS5 ?_
                  rotate_left 1
                  · (intro W hW; (try dsimp only at hW); go_simp; try with_reducible rfl)
                  try simp only [Act.put, List.setIfInBounds_toArray, List.set_cons_zero, List.set_cons_succ]
                  refine d_take (i := 13) (v := ?_) [] (some 81) rfl (by rfl) (by kernel_rfl) (by kernel_rfl) (by kernel_rfl) (by kernel_rfl) (by kernel_rfl) (by kernel_rfl) (fun _ _ _ h => h) (.inl ⟨by rfl, ?_⟩) HS5 ?_
                  rotate_left 1
                  · (intro W hW; (try dsimp only at hW); go_simp; try with_reducible rfl)
                  try simp only [Act.put, List.setIfInBounds_toArray, List.set_cons_zero, List.set_cons_succ]
                  refine d_take (i := 14) (v := ?_) [] (some 82) rfl (by rfl) (by kernel_rfl) (by kernel_rfl) (by kernel_rfl) (by kernel_rfl) (by kernel_rfl) (by kernel_rfl) (fun _ _ _ h => h) (.inl ⟨by rfl, ?_⟩) HS5 ?_
                  rotate_left 1
                  · (intro W hW; (try dsimp only at hW); go_simp; try with_reducible rfl)
                  try simp only [Act.put, List.setIfInBounds_toArray, List.set_cons_zero, List.set_cons_succ]
                  refine d_take (i := 15) (v := ?_) [] (some 83) rfl (by rfl) (by kernel_rfl) (by kernel_rfl) (by kernel_rfl) (by kernel_rfl) (by kernel_rfl) (by kernel_rfl) (fun _ _ _ h => h) (.inl ⟨by rfl, ?_⟩) HS5 ?_
                  rotate_left 1
                  · (intro W hW; (try dsimp only at hW); go_simp; try with_reducible rfl)
                  try simp only [Act.put, List.setIfInBounds_toArray, List.set_cons_zero, List.set_cons_succ]
                  refine d_take (i := 16) (v := ?_) [] (some 84) rfl (by rfl) (by kernel_rfl) (by kernel_rfl) (by kernel_rfl) (by kernel_rfl) (by kernel_rfl) (by kernel_rfl) (fun _ _ _ h => h) (.inl ⟨by rfl, ?_⟩) HS5 ?_
                  rotate_left 1
                  · (intro W hW; (try dsimp only at hW); go_simp; try with_reducible rfl)
                  try simp only [Act.put, List.setIfInBounds_toArray, List.set_cons_zero, List.set_cons_succ]
                  refine d_take (i := 19) (v := ?_) [] (some 87) rfl (by rfl) (by kernel_rfl) (by kernel_rfl) (by kernel_rfl) (by kernel_rfl) (by kernel_rfl) (by kernel_rfl) (fun _ _ _ h => h) (.inl ⟨by rfl, ?_⟩) HS5 ?_
                  rotate_left 1
                  · (intro W hW; (try dsimp only at hW); go_simp; try with_reducible rfl)
                  try simp only [Act.put, List.setIfInBounds_toArray, List.set_cons_zero, List.set_cons_succ]
                  refine d_take (i := 20) (v := ?_) [] (some 88) rfl (by rfl) (by kernel_rfl) (by kernel_rfl) (by kernel_rfl) (by kernel_rfl) (by kernel_rfl) (by kernel_rfl) (fun _ _ _ h => h) (.inl ⟨by rfl, ?_⟩) HS5 ?_
                  rotate_left 1
                  · (intro W hW; (try dsimp only at hW); go_simp; try with_reducible rfl)
                  try simp only [Act.put, List.setIfInBounds_toArray, List.set_cons_zero, List.set_cons_succ]
                  refine d_call (i := 17) (by kernel_rfl) rfl (by rfl) (fun K hK => ?_)
                  simp only [List.getElem_toArray, List.getElem_cons_succ, List.getElem_cons_zero]
                  go_simp
                  refine JB6.out.mono ?_
                  rintro e0 w6 ⟨A6, c6, rfl, _, x6⟩
                  have HS6 : w6.cell? ⟨ob, 2, none⟩ = some (.int .i64 (k : Int)) ∧ w6.cell? ⟨ob, 3, none⟩ = some (.int .i64 o.W) ∧ w6.cell? ⟨xb, 1, none⟩ = some (.slice (some ta) n c) ∧ w6.cell? ⟨(ta.add T4).block, (ta.add T4).off + 1, none⟩ = some (.int .i64 xt.P) := HSX.out w6 x6
                  have X6 := Lib.hid ((Ext.refl w5).drew.trans x6)
                  clear x6
                  go_simp
                  refine hK.out _ _ (fun _ => HS6) ?_
                  clear hK K
                  try simp only [Act.put, List.setIfInBounds_toArray, List.set_cons_zero, List.set_cons_succ]
                  refine d_take (i := 18) (v := ?_) [] (some 86) rfl (by rfl) (by kernel_rfl) (by kernel_rfl) (by kernel_rfl) (by kernel_rfl) (by kernel_rfl) (by kernel_rfl) (fun _ _ _ h => h) (.inl ⟨by rfl, ?_⟩) HS6 ?_
                  rotate_left 1
                  · (intro W hW; (try dsimp only at hW); go_simp; try with_reducible rfl)
                  try simp only [Act.put, List.setIfInBounds_toArray, List.set_cons_zero, List.set_cons_succ]
                  refine d_take (i := 21) (v := ?_) [] (some 89) rfl (by rfl) (by kernel_rfl) (by kernel_rfl) (by kernel_rfl) (by kernel_rfl) (by kernel_rfl) (by kernel_rfl) (fun _ _ _ h => h) (.inl ⟨by rfl, ?_⟩) HS6 ?_
                  rotate_left 1
                  · (intro W hW; (try dsimp only at hW); go_simp; try with_reducible rfl)
                  try simp only [Act.put, List.setIfInBounds_toArray, List.set_cons_zero, List.set_cons_succ]
                  refine d_take (i := 22) (v := ?_) [] (some 90) rfl (by rfl) (by kernel_rfl) (by kernel_rfl) (by kernel_rfl) (by kernel_rfl) (by kernel_rfl) (by kernel_rfl) (fun _ _ _ h => h) (.inl ⟨by rfl, ?_⟩) HS6 ?_
                  rotate_left 1
                  · (intro W hW; (try dsimp only at hW); go_simp; try with_reducible rfl)
                  try simp only [Act.put, List.setIfInBounds_toArray, List.set_cons_zero, List.set_cons_succ]
                  refine d_take (i := 23) (v := ?_) [] (some 91) rfl (by rfl) (by kernel_rfl) (by kernel_rfl) (by kernel_rfl) (by kernel_rfl) (by kernel_rfl) (by kernel_rfl) (fun _ _ _ h => h) (.inl ⟨by rfl, ?_⟩) HS6 ?_
                  rotate_left 1
                  · (intro W hW; (try dsimp only at hW); go_simp; try with_reducible rfl)
                  try simp only [Act.put, List.setIfInBounds_toArray, List.set_cons_zero, List.set_cons_succ]
                  refine d_take (i := 24) (v := ?_) [] (some 92) rfl (by rfl) (by kernel_rfl) (by kernel_rfl) (by kernel_rfl) (by kernel_rfl) (by kernel_rfl) (by kernel_rfl) (fun _ _ _ h => h) (.inl ⟨by rfl, ?_⟩) HS6 ?_
                  rotate_left 1
                  · (intro W hW; (try dsimp only at hW); go_simp; try with_reducible rfl)
                  try simp only [Act.put, List.setIfInBounds_toArray, List.set_cons_zero, List.set_cons_succ]
                  refine d_take (i := 25) (v := ?_) [] (some 93) rfl (by rfl) (by kernel_rfl) (by kernel_rfl) (by kernel_rfl) (by kernel_rfl) (by kernel_rfl) (by kernel_rfl) (fun _ _ _ h => h) (.inl ⟨by rfl, ?_⟩) HS6 ?_
                  rotate_left 1
                  · (intro W hW; (try dsimp only at hW); go_simp; try with_reducible rfl)
                  try simp only [Act.put, List.setIfInBounds_toArray, List.set_cons_zero, List.set_cons_succ]
                  refine d_take (i := 26) (v := ?_) [] (some 94) rfl (by rfl) (by kernel_rfl) (by kernel_rfl) (by kernel_rfl) (by kernel_rfl) (by kernel_rfl) (by kernel_rfl) (fun _ _ _ h => h) (.inl ⟨by rfl, ?_⟩) HS6 ?_
                  rotate_left 1
                  · (intro W hW; (try dsimp only at hW); go_simp; try with_reducible rfl)
                  try simp only [Act.put, List.setIfInBounds_toArray, List.set_cons_zero, List.set_cons_succ]
                  refine d_take (i := 27) (v := ?_) [] (some 95) rfl (by rfl) (by kernel_rfl) (by kernel_rfl) (by kernel_rfl) (by kernel_rfl) (by kernel_rfl) (by kernel_rfl) (fun _ _ _ h => h) (.inl ⟨by rfl, ?_⟩) HS6 ?_
                  rotate_left 1
                  · (intro W hW; (try dsimp only at hW); go_simp; try with_reducible rfl)
                  try simp only [Act.put, List.setIfInBounds_toArray, List.set_cons_zero, List.set_cons_succ]
                  refine d_done (by kernel_rfl) ?_ _
                  clear HS5 wr1 wr2 hT4
                  try clear wr3
                  have hb6 := (X6.out.block _ (block_lt HV5.out.2.2.1)).trans HV5.out.2.2.1
                  have c3 : w6.cell? ⟨ob, 2, none⟩ = some (.int .i64 (k : Int)) := HS6.1
                  have c4 : w6.cell? ⟨ob, 3, none⟩ = some (.int .i64 o.W) := HS6.2.1
                  obtain ⟨w7, hst, M7, f7⟩ := (HV5.out.2.2.2.ext X6.out).store Tryd.underlying33 Tryd.underlying3 (by omega) (x := (k : Int)) (by omega) (.int .i64 o.W)
                  have J7 := Lib.hid (J3.out.yes HT.out.2.1 (by rw [← HT.out.2.2.2.2.2.2.1, ← HT.out.2.2.2.2.2.2.2]; exact HV5.out.1) X6.out M7 f7)
                  clear HS6 hb6 M7 f7
                  go_wp2_with fail
                  go_roundw
                  case rel => exact ⟨i + 1, F', _, _, q + 1, _, by go_num, by omega, by omega, J7.out⟩
                  case measure => simp [intOf]; omega
                | false =>
                  rw [if_neg (by decide)] at hlf
                  rw [hlf] at LK
                  clear hlf hfr hx5 hS5 X5 hkt hl' hjl hk hx hks hjs hl64
                  go_wp2_with fail
                  refine d_region (fun W' : World => W'.cell? ⟨ob, 2, none⟩ = some (.int .i64 (k : Int)) ∧ W'.cell? ⟨ob, 3, none⟩ = some (.int .i64 o.W) ∧ W'.cell? ⟨xb, 1, none⟩ = some (.slice (some ta) n c) ∧ W'.cell? ⟨(ta.add T4).block, (ta.add T4).off + 1, none⟩ = some (.int .i64 xt.P)) [] (by kernel_rfl) ?_
                  refine d_take (i := 0) (v := ?_) [] (some 68) rfl (by rfl) (by kernel_rfl) (by kernel_rfl) (by kernel_rfl) (by kernel_rfl) (by kernel_rfl) (by kernel_rfl) (fun _ _ _ h => h) (.inl ⟨by rfl, ?_⟩) HS5 ?_
                  rotate_left 1
                  · (intro W hW; (try dsimp only at hW); go_simp; try with_reducible rfl)
                  try simp only [Act.put, List.setIfInBounds_toArray, List.set_cons_zero, List.set_cons_succ]
                  refine d_take (i := 1) (v := ?_) [] (some 69) rfl (by rfl) (by kernel_rfl) (by kernel_rfl) (by kernel_rfl) (by kernel_rfl) (by kernel_rfl) (by kernel_rfl) (fun _ _ _ h => h) (.inl ⟨by rfl, ?_⟩) HS5 ?_
                  rotate_left 1
                  · (intro W hW; (try dsimp only at hW); go_simp; try with_reducible rfl)
                  try simp only [Act.put, List.setIfInBounds_toArray, List.set_cons_zero, List.set_cons_succ]
                  refine d_take (i := 2) (v := undef) [] (some 70) rfl (by rfl) (by kernel_rfl) (by kernel_rfl) (by kernel_rfl) (by kernel_rfl) (by kernel_rfl) (by kernel_rfl) (fun _ _ _ h => h) (.inr ⟨by rfl, rfl⟩) HS5 ?_
                  try simp only [Act.put, List.setIfInBounds_toArray, List.set_cons_zero, List.set_cons_succ]
                  refine d_take (i := 3) (v := undef) [] (some 71) rfl (by rfl) (by kernel_rfl) (by kernel_rfl) (by kernel_rfl) (by kernel_rfl) (by kernel_rfl) (by kernel_rfl) (fun _ _ _ h => h) (.inr ⟨by rfl, rfl⟩) HS5 ?_
                  try simp only [Act.put, List.setIfInBounds_toArray, List.set_cons_zero, List.set_cons_succ]
                  refine d_take (i := 4) (v := undef) [] (some 72) rfl (by rfl) (by kernel_rfl) (by kernel_rfl) (by kernel_rfl) (by kernel_rfl) (by kernel_rfl) (by kernel_rfl) (fun _ _ _ h => h) (.inr ⟨by rfl, rfl⟩) HS5 ?_
                  try simp only [Act.put, List.setIfInBounds_toArray, List.set_cons_zero, List.set_cons_succ]
                  refine d_take (i := 5) (v := undef) [] (some 73) rfl (by rfl) (by kernel_rfl) (by kernel_rfl) (by kernel_rfl) (by kernel_rfl) (by kernel_rfl) (by kernel_rfl) (fun _ _ _ h => h) (.inr ⟨by rfl, rfl⟩) HS5 ?_
                  try simp only [Act.put, List.setIfInBounds_toArray, List.set_cons_zero, List.set_cons_succ]
                  refine d_take (i := 6) (v := undef) [] (some 74) rfl (by rfl) (by kernel_rfl) (by kernel_rfl) (by kernel_rfl) (by kernel_rfl) (by kernel_rfl) (by kernel_rfl) (fun _ _ _ h => h) (.inr ⟨by rfl, rfl⟩) HS5 ?_
                  try simp only [Act.put, List.setIfInBounds_toArray, List.set_cons_zero, List.set_cons_succ]
                  refine d_take (i := 7) (v := undef) [] (some 75) rfl (by rfl) (by kernel_rfl) (by kernel_rfl) (by kernel_rfl) (by kernel_rfl) (by kernel_rfl) (by kernel_rfl) (fun _ _ _ h => h) (.inr ⟨by rfl, rfl⟩) HS5 ?_
                  try simp only [Act.put, List.setIfInBounds_toArray, List.set_cons_zero, List.set_cons_succ]
                  refine d_take (i := 8) (v := undef) [] (some 76) rfl (by rfl) (by kernel_rfl) (by kernel_rfl) (by kernel_rfl) (by kernel_rfl) (by kernel_rfl) (by kernel_rfl) (fun _ _ _ h => h) (.inr ⟨by rfl, rfl⟩) HS5 ?_
                  try simp only [Act.put, List.setIfInBounds_toArray, List.set_cons_zero, List.set_cons_succ]
                  refine d_take (i := 9) (v := undef) [] (some 77) rfl (by rfl) (by kernel_rfl) (by kernel_rfl) (by kernel_rfl) (by kernel_rfl) (by kernel_rfl) (by kernel_rfl) (fun _ _ _ h => h) (.inr ⟨by rfl, rfl⟩) HS5 ?_
                  try simp only [Act.put, List.setIfInBounds_toArray, List.set_cons_zero, List.set_cons_succ]
                  refine d_take (i := 10) (v := undef) [] (some 78) rfl (by rfl) (by kernel_rfl) (by kernel_rfl) (by kernel_rfl) (by kernel_rfl) (by kernel_rfl) (by kernel_rfl) (fun _ _ _ h => h) (.inr ⟨by rfl, rfl⟩) HS5 ?_
                  try simp only [Act.put, List.setIfInBounds_toArray, List.set_cons_zero, List.set_cons_succ]
                  refine d_take (i := 11) (v := undef) [] (some 79) rfl (by rfl) (by kernel_rfl) (by kernel_rfl) (by kernel_rfl) (by kernel_rfl) (by kernel_rfl) (by kernel_rfl) (fun _ _ _ h => h) (.inr ⟨by rfl, rfl⟩) HS5 ?_
                  try simp only [Act.put, List.setIfInBounds_toArray, List.set_cons_zero, List.set_cons_succ]
                  refine d_take (i := 12) (v := undef) [] (some 80) rfl (by rfl) (by kernel_rfl) (by kernel_rfl) (by kernel_rfl) (by kernel_rfl) (by kernel_rfl) (by kernel_rfl) (fun _ _ _ h => h) (.inr ⟨by rfl, rfl⟩) HS5 ?_
                  try simp only [Act.put, List.setIfInBounds_toArray, List.set_cons_zero, List.set_cons_succ]
                  refine d_take (i := 13) (v := undef) [] (some 81) rfl (by rfl) (by kernel_rfl) (by kernel_rfl) (by kernel_rfl) (by kernel_rfl) (by kernel_rfl) (by kernel_rfl) (fun _ _ _ h => h) (.inr ⟨by rfl, rfl⟩) HS5 ?_
                  try simp only [Act.put, List.setIfInBounds_toArray, List.set_cons_zero, List.set_cons_succ]
                  refine d_take (i := 14) (v := ?_) [] (some 82) rfl (by rfl) (by kernel_rfl) (by kernel_rfl) (by kernel_rfl) (by kernel_rfl) (by kernel_rfl) (by kernel_rfl) (fun _ _ _ h => h) (.inl ⟨by rfl, ?_⟩) HS5 ?_
                  rotate_left 1
                  · (intro W hW; (try dsimp only at hW); go_simp; try with_reducible rfl)
                  try simp only [Act.put, List.setIfInBounds_toArray, List.set_cons_zero, List.set_cons_succ]
                  refine d_take (i := 15) (v := ?_) [] (some 83) rfl (by rfl) (by kernel_rfl) (by kernel_rfl) (by kernel_rfl) (by kernel_rfl) (by kernel_rfl) (by kernel_rfl) (fun _ _ _ h => h) (.inl ⟨by rfl, ?_⟩) HS5 ?_
                  rotate_left 1
                  · (intro W hW; (try dsimp only at hW); go_simp; try with_reducible rfl)
                  try simp only [Act.put, List.setIfInBounds_toArray, List.set_cons_zero, List.set_cons_succ]
                  refine d_take (i := 16) (v := ?_) [] (some 84) rfl (by rfl) (by kernel_rfl) (by kernel_rfl) (by kernel_rfl) (by kernel_rfl) (by kernel_rfl) (by kernel_rfl) (fun _ _ _ h => h) (.inl ⟨by rfl, ?_⟩) HS5 ?_
                  rotate_left 1
                  · (intro W hW; (try dsimp only at hW); go_simp; try with_reducible rfl)
                  try simp only [Act.put, List.setIfInBounds_toArray, List.set_cons_zero, List.set_cons_succ]
                  refine d_take (i := 19) (v := ?_) [] (some 87) rfl (by rfl) (by kernel_rfl) (by kernel_rfl) (by kernel_rfl) (by kernel_rfl) (by kernel_rfl) (by kernel_rfl) (fun _ _ _ h => h) (.inl ⟨by rfl, ?_⟩) HS5 ?_
                  rotate_left 1
                  · (intro W hW; (try dsimp only at hW); go_simp; try with_reducible rfl)
                  try simp only [Act.put, List.setIfInBounds_toArray, List.set_cons_zero, List.set_cons_succ]
                  refine d_take (i := 20) (v := ?_) [] (some 88) rfl (by rfl) (by kernel_rfl) (by kernel_rfl) (by kernel_rfl) (by kernel_rfl) (by kernel_rfl) (by kernel_rfl) (fun _ _ _ h => h) (.inl ⟨by rfl, ?_⟩) HS5 ?_
                  rotate_left 1
                  · (intro W hW; (try dsimp only at hW); go_simp; try with_reducible rfl)
                  try simp only [Act.put, List.setIfInBounds_toArray, List.set_cons_zero, List.set_cons_succ]
                  refine d_call (i := 17) (by kernel_rfl) rfl (by rfl) (fun K hK => ?_)
                  simp only [List.getElem_toArray, List.getElem_cons_succ, List.getElem_cons_zero]
                  go_simp
                  refine JB6.out.mono ?_
                  rintro e0 w6 ⟨A6, c6, rfl, _, x6⟩
                  have HS6 : w6.cell? ⟨ob, 2, none⟩ = some (.int .i64 (k : Int)) ∧ w6.cell? ⟨ob, 3, none⟩ = some (.int .i64 o.W) ∧ w6.cell? ⟨xb, 1, none⟩ = some (.slice (some ta) n c) ∧ w6.cell? ⟨(ta.add T4).block, (ta.add T4).off + 1, none⟩ = some (.int .i64 xt.P) := HSX.out w6 x6
                  have X6 := Lib.hid ((Ext.refl w5).drew.trans x6)
                  clear x6
                  go_simp
                  refine hK.out _ _ (fun _ => HS6) ?_
                  clear hK K
                  try simp only [Act.put, List.setIfInBounds_toArray, List.set_cons_zero, List.set_cons_succ]
                  refine d_take (i := 18) (v := ?_) [] (some 86) rfl (by rfl) (by kernel_rfl) (by kernel_rfl) (by kernel_rfl) (by kernel_rfl) (by kernel_rfl) (by kernel_rfl) (fun _ _ _ h => h) (.inl ⟨by rfl, ?_⟩) HS6 ?_
                  rotate_left 1
                  · (intro W hW; (try dsimp only at hW); go_simp; try with_reducible rfl)
                  try simp only [Act.put, List.setIfInBounds_toArray, List.set_cons_zero, List.set_cons_succ]
                  refine d_take (i := 21) (v := ?_) [] (some 89) rfl (by rfl) (by kernel_rfl) (by kernel_rfl) (by kernel_rfl) (by kernel_rfl) (by kernel_rfl) (by kernel_rfl) (fun _ _ _ h => h) (.inl ⟨by rfl, ?_⟩) HS6 ?_
                  rotate_left 1
                  · (intro W hW; (try dsimp only at hW); go_simp; try with_reducible rfl)
                  try simp only [Act.put, List.setIfInBounds_toArray, List.set_cons_zero, List.set_cons_succ]
                  refine d_take (i := 22) (v := ?_) [] (some 90) rfl (by rfl) (by kernel_rfl) (by kernel_rfl) (by kernel_rfl) (by kernel_rfl) (by kernel_rfl) (by kernel_rfl) (fun _ _ _ h => h) (.inl ⟨by rfl, ?_⟩) HS6 ?_
                  rotate_left 1
                  · (intro W hW; (try dsimp only at hW); go_simp; try with_reducible rfl)
                  try simp only [Act.put, List.setIfInBounds_toArray, List.set_cons_zero, List.set_cons_succ]
                  refine d_take (i := 23) (v := ?_) [] (some 91) rfl (by rfl) (by kernel_rfl) (by kernel_rfl) (by kernel_rfl) (by kernel_rfl) (by kernel_rfl) (by kernel_rfl) (fun _ _ _ h => h) (.inl ⟨by rfl, ?_⟩) HS6 ?_
                  rotate_left 1
                  · (intro W hW; (try dsimp only at hW); go_simp; try with_reducible rfl)
                  try simp only [Act.put, List.setIfInBounds_toArray, List.set_cons_zero, List.set_cons_succ]
                  refine d_take (i := 24) (v := ?_) [] (some 92) rfl (by rfl) (by kernel_rfl) (by kernel_rfl) (by kernel_rfl) (by kernel_rfl) (by kernel_rfl) (by kernel_rfl) (fun _ _ _ h => h) (.inl ⟨by rfl, ?_⟩) HS6 ?_
                  rotate_left 1
                  · (intro W hW; (try dsimp only at hW); go_simp; try with_reducible rfl)
                  try simp only [Act.put, List.setIfInBounds_toArray, List.set_cons_zero, List.set_cons_succ]
                  refine d_take (i := 25) (v := ?_) [] (some 93) rfl (by rfl) (by kernel_rfl) (by kernel_rfl) (by kernel_rfl) (by kernel_rfl) (by kernel_rfl) (by kernel_rfl) (fun _ _ _ h => h) (.inl ⟨by rfl, ?_⟩) HS6 ?_
                  rotate_left 1
                  · (intro W hW; (try dsimp only at hW); go_simp; try with_reducible rfl)
                  try simp only [Act.put, List.setIfInBounds_toArray, List.set_cons_zero, List.set_cons_succ]
                  refine d_take (i := 26) (v := ?_) [] (some 94) rfl (by rfl) (by kernel_rfl) (by kernel_rfl) (by kernel_rfl) (by kernel_rfl) (by kernel_rfl) (by kernel_rfl) (fun _ _ _ h => h) (.inl ⟨by rfl, ?_⟩) HS6 ?_
                  rotate_left 1
                  · (intro W hW; (try dsimp only at hW); go_simp; try with_reducible rfl)
                  try simp only [Act.put, List.setIfInBounds_toArray, List.set_cons_zero, List.set_cons_succ]
                  refine d_take (i := 27) (v := ?_) [] (some 95) rfl (by rfl) (by kernel_rfl) (by kernel_rfl) (by kernel_rfl) (by kernel_rfl) (by kernel_rfl) (by kernel_rfl) (fun _ _ _ h => h) (.inl ⟨by rfl, ?_⟩) HS6 ?_
                  rotate_left 1
                  · (intro W hW; (try dsimp only at hW); go_simp; try with_reducible rfl)
                  try simp only [Act.put, List.setIfInBounds_toArray, List.set_cons_zero, List.set_cons_succ]
                  refine d_done (by kernel_rfl) ?_ _
                  clear HS5 wr1 wr2 hT4
                  try clear wr3
                  have hb6 := (X6.out.block _ (block_lt HV5.out.2.2.1)).trans HV5.out.2.2.1
                  have c3 : w6.cell? ⟨ob, 2, none⟩ = some (.int .i64 (k : Int)) := HS6.1
                  have c4 : w6.cell? ⟨ob, 3, none⟩ = some (.int .i64 o.W) := HS6.2.1
                  obtain ⟨w7, hst, M7, f7⟩ := (HV5.out.2.2.2.ext X6.out).store Tryd.underlying33 Tryd.underlying3 (by omega) (x := (k : Int)) (by omega) (.int .i64 o.W)
                  have J7 := Lib.hid (J3.out.yes HT.out.2.1 (by rw [← HT.out.2.2.2.2.2.2.1, ← HT.out.2.2.2.2.2.2.2]; exact HV5.out.1) X6.out M7 f7)
                  clear HS6 hb6 M7 f7
                  go_wp2_with fail
                  go_roundw
                  case rel => exact ⟨i + 1, F', _, _, q + 1, _, by go_num, by omega, by omega, J7.out⟩
                  case measure => simp [intOf]; omega
            · as_aux_lemma =>
                obtain ⟨y, b, hyb⟩ : ∃ (y : Int) (b : Bool), (f o.T).getD (.int .i64 0) = .int .i64 y ∧ (f o.T).isSome = b := by
                  cases hf : f o.T with
                  | none => exact ⟨0, false, rfl, rfl⟩
                  | some v =>
                    obtain ⟨y, rfl⟩ := J3.out.ints _ _ hf
                    exact ⟨y, true, rfl, rfl⟩
                rw [hyb.1, hyb.2] at LK
                have G5 := hE5.out
                subst hks hjs
                have J5 := Lib.hid (J3.out.no HV5.out.1)
                have JB6 := jobss_any J5.out.gp
                rw [HL.out] at JB6
                have JB6 := Lib.hid JB6
                clear hyb
                go_wp2_with fail
                refine JB6.out.mono ?_
                rintro e0 w6 ⟨A6, c6, rfl, _, x6⟩
                have J6 := Lib.hid (J5.out.ex x6)
                have G6 := G5.ext x6
                have N1 := ne_same w6
                have g0 := G6.num.2.1
                have g1 := G6.busy.2.1
                have g2 := G6.full.2.1
                have n1 := ne_other G6.busy G6.num HNE.out.1.symm
                have n2 := ne_other G6.full G6.num HNE.out.2.1.symm
                have n3 := ne_other G6.full G6.busy HNE.out.2.2.symm
                clear JB6 x6 G5 G6
                rcases hq3 with rfl | rfl | rfl
                all_goals
                  go_wp2_with fail
                  try go_quiet (fail)
                  try go_wp2_with fail
                  go_roundw
                  case rel => exact ⟨i + 1, F', _, _, q, f, by go_num, by omega, by omega, J6.out.ex (by first | exact Ext.refl _ | exact (Ext.refl _).drewN _)⟩
                  case measure => simp [intOf]; omega
          · have hKb : (o.K != 1) = true := by simp [hK]
            go_wp2_with fail
            go_roundw
            case rel => exact ⟨i + 1, F, ks, js, q, f, by go_num, by omega, by omega, J.out⟩
            case measure => simp [intOf]; omega
      · obtain rfl : i = m := by omega
        go_wp2_with fail
        go_returns
        exact ⟨rfl, HI.out.ext⟩
  · have NW := Lib.hid (new_no p A n c ts w1 (HR.out.1.ext H1.out.1) (by omega) (HW.out.2.2.task.ext H1.out.1) hL)
    have LGR := Lib.hid (fun w' (hx : Ext w w') => rguest_loop A n c p ts w' (HR.out.1.ext hx) (by omega) false (Lib.hid (lg_off hL)))
    clear hL
    go_wp2_with fail
    refine NW.out.mono ?_
    rintro e0 w2 ⟨rfl, x2⟩
    have b2 := (x2.block _ (block_lt H1.out.2)).trans H1.out.2
    have q0' : w2.cell? ⟨w.heap.size, 0, none⟩ = some (.int .i64 p) := block_cell b2 0
    have q1' : w2.cell? ⟨w.heap.size, 1, none⟩ = some (.slice A n c) := block_cell b2 1
    have X2 := Lib.hid (H1.out.1.trans x2)
    clear NW x2 b2 q0 q1
    go_wp2_with fail
    refine (LGR.out _ X2.out).mono ?_
    rintro e0 w3 ⟨rfl, x3⟩
    have X3 := Lib.hid (X2.out.trans x3)
    clear x3 LGR q0' q1'
    go_wp2_with fail
    go_returns
    exact ⟨rfl, X3.out⟩
end Go.Proofs.YtbpbmelfhgbogaaDoor
