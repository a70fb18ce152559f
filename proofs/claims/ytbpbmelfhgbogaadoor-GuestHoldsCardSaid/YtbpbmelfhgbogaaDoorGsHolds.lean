/-
  The statement GuestHolds, walked.
-/
import Derived.Test.YtbpbmelfhgbogaaDoorGsAlive
import Derived.Test.YtbpbmelfhgbogaaDoorGsOpen
namespace Go.Proofs.YtbpbmelfhgbogaaDoor
set_option maxRecDepth 100000
open Go.RowKit
set_option linter.unusedVariables false
/-- What a round keeps. -/
structure HS (w wr : World) (g : Nat) (F : Nat → Prop) (p : Int) (ts : List TaskV) (ks : List TkV) (js : List JobV) (hb xb : Nat) (A B : Option Addr) (n c m e : Nat) (hd : Bool) (hj : JobV) : Prop where
  gp : GP wr g F p ks js
  tk : tsk ks = ts
  one : OneHeld ts js
  hold : hd = true → ∃ i : Nat, js[i]? = some hj ∧ hldB ts hj = true
  hbx : wr.heap[hb]? = some (.cells #[.int .i64 (hj.T : Int), .int .i64 hj.R, .int .i64 hj.D, .int .i64 hj.L, .int .i64 hj.N] 46 (0, 0))
  xbx : wr.heap[xb]? = some (.cells #[.int .i64 p, .slice A n c, .slice B m e] 25 (0, 0))
  ext : Ext w wr
  fw : ∀ b, F b → w.heap.size ≤ b
  fh : ¬ F hb
  fx : ¬ F xb
  hw : w.heap.size ≤ hb
  hx : hb ≠ xb
section
variable {w wr w' : World} {g : Nat} {F F' : Nat → Prop} {p : Int} {ts : List TaskV} {ks ks' : List TkV} {js js' : List JobV} {hb xb : Nat} {A B : Option Addr} {n c m e : Nat} {hd : Bool} {hj : JobV}
theorem HS.ex (h : HS w wr g F p ts ks js hb xb A B n c m e hd hj) (hx : Ext wr w') : HS w w' g F p ts ks js hb xb A B n c m e hd hj :=
  ⟨h.gp.ext hx, h.tk, h.one, h.hold, (hx.block _ (block_lt h.hbx)).trans h.hbx, (hx.block _ (block_lt h.xbx)).trans h.xbx, h.ext.trans hx, h.fw, h.fh, h.fx, h.hw, h.hx⟩
theorem HS.rel (h : HS w wr g F p ts ks js hb xb A B n c m e hd hj) (hn : Next_ wr w' g F F' p ks' js') {i now ticks : Int} (ht : Taken ks js i now ticks ks' js' ∨ ks' = ks ∧ js' = js) : HS w w' g F' p ts ks' js' hb xb A B n c m e hd hj := by
  have hX := next_ext h.ext hn h.fw
  have hq : tsk ks' = ts ∧ OneHeld ts js' ∧ (hd = true → ∃ i : Nat, js'[i]? = some hj ∧ hldB ts hj = true) := by
    rcases ht with ⟨k, x, _, hx, _, _, _, _, rfl, rfl⟩ | ⟨rfl, rfl⟩
    · refine ⟨(tsk_set hx now true).trans h.tk, h.one.push rfl, fun hh => ?_⟩
      obtain ⟨i, hi, hl⟩ := h.hold hh
      exact ⟨i, by rw [List.getElem?_append_left (List.getElem?_eq_some_iff.1 hi).1]; exact hi, hl⟩
    · exact ⟨h.tk, h.one, h.hold⟩
  exact ⟨hn.gp, hq.1, hq.2.1, hq.2.2, hn.blk h.hbx h.fh, hn.blk h.xbx h.fx, hX.1, hX.2, hn.out (block_lt h.hbx) h.fh, hn.out (block_lt h.xbx) h.fx, h.hw, h.hx⟩
/-- A tick: what Run leaves, and the holder's block written anew. -/
theorem HS.run {w1 w2 : World} {x : JobV} (h : HS w wr g F p ts ks js hb xb A B n c m e hd hj) (hn : Next_ wr w1 g F F p ks (ranJ js (nextI p ts js))) (hx : js[nextI p ts js]? = some x) (hx2 : Ext w1 w2) (hd' : Bool) (hh : hd' = (!decide (x.L = 1) && decide (x.N + 1 < (ts.getD x.T tz).S)))
    (h0 : 0 ≤ x.N) : HS w (((((w2.setCell ⟨hb, 0, none⟩ (.int .i64 (x.T : Int))).setCell ⟨hb, 1, none⟩ (.int .i64 x.R)).setCell ⟨hb, 2, none⟩ (.int .i64 x.D)).setCell ⟨hb, 3, none⟩ (.int .i64 (x.L - 1))).setCell ⟨hb, 4, none⟩ (.int .i64 (x.N + 1))) g F p ts ks (ranJ js (nextI p ts js)) hb xb A B n c m e hd' x.tick := by
  have hX := next_ext h.ext hn h.fw
  have b1 := (hx2.block _ (block_lt (hn.blk h.hbx h.fh))).trans (hn.blk h.hbx h.fh)
  have b2 := (hx2.block _ (block_lt (hn.blk h.xbx h.fx))).trans (hn.blk h.xbx h.fx)
  have f5 := set5_fr w2 hb (.int .i64 (x.T : Int)) (.int .i64 x.R) (.int .i64 x.D) (.int .i64 (x.L - 1)) (.int .i64 (x.N + 1))
  refine ⟨(hn.gp.ext hx2).fr f5 (fun b hb' e => h.fh (by rw [← e]; exact hb')), h.tk, h.one.tick, fun hh' => ?_, set5_blk b1 _ _ _ _ _, (f5.block _ (block_lt b2) (fun e => h.hx e.symm)).trans b2, Fr.ext (hX.1.trans hx2) f5 (fun i hi => by rw [hi]; exact h.hw), h.fw, h.fh, h.fx, h.hw, h.hx⟩
  rw [hh', Eq.comm, Bool.and_eq_true, Bool.not_eq_true', decide_eq_false_iff_not, decide_eq_true_eq] at hh
  have hl := (List.getElem?_eq_some_iff.1 hx).1
  refine ⟨nextI p ts js, ?_, ?_⟩
  · unfold ranJ
    rw [getD_of hx, if_neg hh.1, List.getElem?_set_self hl]
  · unfold hldB
    rw [Bool.and_eq_true, decide_eq_true_eq, decide_eq_true_eq]
    exact ⟨by show 0 < x.N + 1; omega, hh.2⟩
end
theorem lg_off {p : Int} {ts : List TaskV} (h : ¬ LG p ts) : IffB false (LG p ts) := ⟨(fun e => by cases e), fun e => absurd e h⟩
set_option maxHeartbeats 6400000 in
theorem gholds_any (p : Int) (A B : Option Addr) (n c m e : Nat) (ts : List TaskV) (os : List O5) (w : World) (hn : n * 32 ≤ 140737488351232) (hr : Rd w 4 A n (trows ts).flatten) (hm : m * 40 ≤ 140737488351232) (hol : os.length = m) (hro : Rd w 5 B m (o5rows os).flatten)
    {pn pb pf pt ps : Addr} (hE : GErr w pn pb pf pt) (hS : Sen w 4 ps) :
    Calls Tryd.prog 5 #[.agg #[.int .i64 p, .slice A n c, .slice B m e]] w fun e w' => e = .returned (.bool true) ∧ Ext w w' := by
  have X0 := (Ext.refl w).alloc (.cells #[.int .i64 p, .slice A n c, .slice B m e] 25)
  have hb0 := heap_alloc_new w (.cells #[.int .i64 p, .slice A n c, .slice B m e] 25)
  have AL := Lib.hid (galive_any _ (hE.ext X0))
  have HW := Lib.hid (And.intro X0 (And.intro hb0 (And.intro hE hS)))
  have HR := Lib.hid (And.intro hr (And.intro hro (And.intro hol hr.len_t)))
  clear X0 hb0 hE hS hr hro hol
  go_enter Tryd.func5, Tryd.ntmps5
  go_wp2_with fail
  refine AL.out.mono ?_
  rintro e0 w1 ⟨rfl, x1⟩
  have X1 := HW.out.1.trans x1
  have b1 := (x1.block _ (block_lt HW.out.2.1)).trans HW.out.2.1
  have q0 : w1.cell? ⟨w.heap.size, 0, none⟩ = some (.int .i64 p) := block_cell b1 0
  have q1 : w1.cell? ⟨w.heap.size, 1, none⟩ = some (.slice A n c) := block_cell b1 1
  have H1 := Lib.hid (And.intro X1 b1)
  clear AL x1 X1 b1
  by_cases hL : LG p ts
  · have NW := Lib.hid (news_ok p A n c ts w1 (HR.out.1.ext H1.out.1) (HW.out.2.2.1.task.ext H1.out.1) hL)
    have HLG := Lib.hid hL
    clear hL
    go_wp2_with fail
    refine NW.out.mono ?_
    rintro e0 w2 ⟨g, F, rfl, h2, f2, x2⟩
    have X2 := H1.out.1.trans x2
    have b2 := (x2.block _ (block_lt H1.out.2)).trans H1.out.2
    have z1 := H1.out.1.size
    have zlt := block_lt H1.out.2
    have z2 := x2.size
    have XH := (Ext.refl w2).alloc (.cells #[.int .i64 0, .int .i64 0, .int .i64 0, .int .i64 0, .int .i64 0] 46)
    have J0 : HS w (w2.alloc (.cells #[.int .i64 0, .int .i64 0, .int .i64 0, .int .i64 0, .int .i64 0] 46)) g F p ts (fresh ts) [] w2.heap.size w.heap.size A B n c m e false jz :=
      ⟨h2.ext XH, fresh_tsk ts, OneHeld.nil_, (fun h => by cases h), heap_alloc_new w2 _, (XH.block _ (block_lt b2)).trans b2, X2.trans XH, fun b hb => by have := f2 b hb; omega, fun hb => by have := h2.lt _ hb; omega, fun hb => by have := f2 _ hb; omega, by omega, by omega⟩
    have q2 : (w2.alloc (.cells #[.int .i64 0, .int .i64 0, .int .i64 0, .int .i64 0, .int .i64 0] 46)).cell? ⟨w.heap.size, 2, none⟩ = some (.slice B m e) := block_cell J0.xbx 2
    have HJ := Lib.hid J0
    clear NW h2 f2 x2 X2 b2 z1 zlt z2 XH J0 q0 q1
    go_wp2_with fail
    clear q2
    generalize w2.alloc (.cells #[.int .i64 0, .int .i64 0, .int .i64 0, .int .i64 0, .int .i64 0] 46) = U at *
    generalize w2.heap.size = hb at *
    generalize w.heap.size = xb at *
    go_loopw [6, 7, 8, 9, 10, 11, 38] (fun v6 _ _ _ _ _ v38 wr => ∃ (i : Nat) (F : Nat → Prop) (ks : List TkV) (js : List JobV) (hd : Bool) (hj : JobV), v6 = .bool hd ∧ v38 = .int .i64 (i : Int) ∧ i ≤ m ∧ Hid (HS w wr g F p ts ks js hb xb A B n c m e hd hj)) (fun _ _ _ _ _ _ v38 _ => m - (intOf v38).toNat)
    case atStart => exact ⟨0, F, fresh ts, [], false, jz, rfl, rfl, by omega, HJ.out⟩
    case round =>
      obtain ⟨i, F, ks, js, hd, hj, rfl, rfl, hi, HI⟩ := hrel
      obtain ⟨U2, hU2⟩ : ∃ U2, U2 = wr := ⟨_, rfl⟩
      subst hU2
      clear HJ
      by_cases hlt : i < m
      · obtain ⟨o, ho⟩ : ∃ o, os[i]? = some o := ⟨os[i]'(by rw [HR.out.2.2.1]; exact hlt), List.getElem?_eq_getElem _⟩
        obtain ⟨i5, hi5⟩ : ∃ i5, i * 5 = i5 := ⟨_, rfl⟩
        obtain ⟨ad, rfl, _, _⟩ := HR.out.2.1.2 (show 0 < m by omega)
        have hrr := HR.out.2.1.ext HI.out.ext
        have k0 := hrr.rowAt (o5_even os) (o5_at ho) hi5 (i := 0) rfl
        have k1 := hrr.rowAt (o5_even os) (o5_at ho) hi5 (i := 1) rfl
        have k2 := hrr.rowAt (o5_even os) (o5_at ho) hi5 (i := 2) rfl
        have k3 := hrr.rowAt (o5_even os) (o5_at ho) hi5 (i := 3) rfl
        have k4 := hrr.rowAt (o5_even os) (o5_at ho) hi5 (i := 4) rfl
        rw [Nat.add_zero] at k0
        rw [← add_add', add_lit' _ (by omega)] at k1 k2 k3 k4
        have z0 : (0 : Int) ≤ i := by omega
        have z1 : (i : Int) < m := by omega
        have XV := (Ext.refl U2).alloc (.cells #[.int .i64 o.K, .int .i64 o.Q, .int .i64 o.T, .int .i64 o.W, .int .i64 o.X] 35)
        have hbo := heap_alloc_new U2 (.cells #[.int .i64 o.K, .int .i64 o.Q, .int .i64 o.T, .int .i64 o.W, .int .i64 o.X] 35)
        have HV := Lib.hid (And.intro (HI.out.ex XV) hbo)
        clear XV hbo hrr ho HI
        go_upto_region 11 with (fail)
        generalize U2.alloc (.cells #[.int .i64 o.K, .int .i64 o.Q, .int .i64 o.T, .int .i64 o.W, .int .i64 o.X] 35) = V at *
        generalize U2.heap.size = ob at *
        have J := Lib.hid HV.out.1
        have b1 : V.cell? ⟨ob, 0, none⟩ = some (.int .i64 o.K) := block_cell HV.out.2 0
        have b3 : V.cell? ⟨ob, 2, none⟩ = some (.int .i64 o.T) := block_cell HV.out.2 2
        have b4 : V.cell? ⟨ob, 3, none⟩ = some (.int .i64 o.W) := block_cell HV.out.2 3
        have b5 : V.cell? ⟨ob, 4, none⟩ = some (.int .i64 o.X) := block_cell HV.out.2 4
        clear HV k0 k1 k2 k3 k4 hi5
        by_cases h15 : (1500 : Int) < (i : Int)
        · go_wp2_with fail
          go_returns
          exact ⟨rfl, J.out.ext⟩
        · by_cases hK : o.K = 1
          · have RL := Lib.hid (release_any J.out.gp o.T o.W o.X (HW.out.2.2.1.rel.ext J.out.ext))
            go_wp2_with fail
            refine RL.out.mono ?_
            rintro e0 w5 ⟨v, F', ks', js', rfl, n5, hv⟩
            have J5 := Lib.hid (J.out.rel n5 (i := o.T) (now := o.W) (ticks := o.X) (by
              rcases hv with ⟨_, h⟩ | ⟨_, _, _, h1, h2⟩
              · exact .inl h
              · exact .inr ⟨h1, h2⟩))
            clear RL n5 hv b1 b3 b4 b5
            go_wp2_with fail
            go_roundw
            case rel => exact ⟨i + 1, F', ks', js', hd, hj, rfl, by go_num, by omega, J5.out⟩
            case measure => simp [intOf]; omega
          · have hKb : (o.K == 1) = false := by simp [hK]
            have htk := Lib.hid J.out.tk
            by_cases hjs : js = []
            · have RN := Lib.hid (show Calls Tryd.prog 13 #[.pointer (some ⟨g, 0, none⟩)] V _ from runs_none (by have := J.out.gp; rw [hjs] at this; exact this) (HW.out.2.2.2.ext J.out.ext))
              clear b3 b4 b5 hjs
              go_wp2_with fail
              refine RN.out.mono ?_
              rintro e0 w5 ⟨rfl, x5⟩
              have J5 := Lib.hid (J.out.ex (x5.alloc (.cells #[.int .i64 0, .int .i64 0, .int .i64 0, .int .i64 0, .int .i64 0] 46)))
              clear RN x5 b1
              go_wp2_with fail
              go_roundw
              case rel => exact ⟨i + 1, F, ks, js, hd, hj, rfl, by go_num, by omega, J5.out⟩
              case measure => simp [intOf]; omega
            · have hl : 0 < js.length := by rcases Nat.eq_zero_or_pos js.length with h | h; exact absurd (List.eq_nil_of_length_eq_zero h) hjs; exact h
              obtain ⟨x, hx⟩ : ∃ x, js[nextI p ts js]? = some x := ⟨_, at_of jz (nextI_lt hl)⟩
              have hxm := List.mem_of_getElem? hx
              obtain ⟨g1, g2, g3, g4, _, _⟩ := J.out.gp.gi.bound hxm
              have hxT := (J.out.gp.gi.ok x hxm).1
              rw [htk.out] at hxT
              have RU := runs_any J.out.gp (by rw [htk.out]; exact hx)
              rw [htk.out] at RU
              obtain ⟨d, hdd⟩ : ∃ d, decide (x.L = 1) = d := ⟨_, rfl⟩
              rw [hdd] at RU
              have RU := Lib.hid RU
              unfold JobV.val JobV.tick at RU
              have HD := Lib.hid hdd
              have HX := Lib.hid hx
              clear hdd b3 b4 b5 hjs hl hxm hx
              dsimp only at RU
              go_wp2_with fail
              refine RU.out.mono ?_
              rintro e0 w5 ⟨rfl, n5⟩
              have XB := (Ext.refl w5).alloc (.cells #[.int .i64 (x.T : Int), .int .i64 x.R, .int .i64 x.D, .int .i64 (x.L - 1), .int .i64 (x.N + 1)] 46)
              have hbj := heap_alloc_new w5 (.cells #[.int .i64 (x.T : Int), .int .i64 x.R, .int .i64 x.D, .int .i64 (x.L - 1), .int .i64 (x.N + 1)] 46)
              have hh5 := n5.blk J.out.hbx J.out.fh
              have hx5 := n5.blk J.out.xbx J.out.fx
              have hh6 := (XB.block _ (block_lt hh5)).trans hh5
              have hx6 := (XB.block _ (block_lt hx5)).trans hx5
              have X5 := (next_ext J.out.ext n5 J.out.fw).1
              have H5 := Lib.hid (And.intro n5 (And.intro XB (And.intro hbj (And.intro hh6 (And.intro hx6 (X5.trans XB))))))
              clear RU n5 XB hbj hh5 hx5 hh6 hx6 X5 b1
              go_upto_region 15 with (fail)
              have hhb : hb < w5.heap.size := block_lt (H5.out.1.blk J.out.hbx J.out.fh)
              generalize w5.alloc (.cells #[.int .i64 (x.T : Int), .int .i64 x.R, .int .i64 x.D, .int .i64 (x.L - 1), .int .i64 (x.N + 1)] 46) = V6 at *
              generalize w5.heap.size = jb at *
              have r0 : V6.cell? ⟨jb, 0, none⟩ = some (.int .i64 (x.T : Int)) := block_cell H5.out.2.2.1 0
              have r1 : V6.cell? ⟨jb, 1, none⟩ = some (.int .i64 x.R) := block_cell H5.out.2.2.1 1
              have r2 : V6.cell? ⟨jb, 2, none⟩ = some (.int .i64 x.D) := block_cell H5.out.2.2.1 2
              have r3 : V6.cell? ⟨jb, 3, none⟩ = some (.int .i64 (x.L - 1)) := block_cell H5.out.2.2.1 3
              have r4 : V6.cell? ⟨jb, 4, none⟩ = some (.int .i64 (x.N + 1)) := block_cell H5.out.2.2.1 4
              have t0 : V6.cell? ⟨hb, 0, none⟩ = some (.int .i64 (hj.T : Int)) := block_cell H5.out.2.2.2.1 0
              have t1 : V6.cell? ⟨hb, 1, none⟩ = some (.int .i64 hj.R) := block_cell H5.out.2.2.2.1 1
              have t4 : V6.cell? ⟨hb, 4, none⟩ = some (.int .i64 hj.N) := block_cell H5.out.2.2.2.1 4
              have c1 : V6.cell? ⟨xb, 1, none⟩ = some (.slice A n c) := block_cell H5.out.2.2.2.2.1 1
              have hHD := J.out.hold
              have hsame : hd = true → hj = x := fun h => by
                obtain ⟨k, hk, hhk⟩ := hHD h
                have := J.out.one.next (p := p) hk hhk
                have hx := HX.out
                rw [this, hk] at hx
                exact Option.some.inj hx
              clear hHD
              have HSM := Lib.hid hsame
              clear hsame
              have HTK := Lib.hid (And.intro hxT g3)
              have q14 := H5.out.2.2.2.2.2
              obtain ⟨tv, htv⟩ : ∃ tv, ts[x.T]? = some tv := ⟨ts[x.T]'hxT, List.getElem?_eq_getElem _⟩
              have hnT : x.T < n := by have := HR.out.2.2.2; omega
              obtain ⟨T4, hT4⟩ : ∃ T4, x.T * 4 = T4 := ⟨_, rfl⟩
              obtain ⟨ta, rfl, _, _⟩ := HR.out.1.2 (show 0 < n by omega)
              have hS4 := (HR.out.1.ext q14).rowAt (trows_even ts) (trows_at htv) hT4 (i := 3) rfl
              rw [← add_add', add_lit' _ (by omega)] at hS4
              have y0 : (0 : Int) ≤ (x.T : Int) := by omega
              have y1 : (x.T : Int) < n := by omega
              obtain ⟨s, hs⟩ : ∃ s, decide (x.N + 1 < tv.S) = s := ⟨_, rfl⟩
              have HTV := Lib.hid (show decide (x.N + 1 < (ts.getD x.T tz).S) = s by rw [getD_of htv]; exact hs)
              clear q14 htv hxT
              cases hd
              all_goals
                first
                  | (have e := HSM.out rfl
                     rw [e] at t0 t1 t4
                     clear e)
                  | skip
                cases d
                all_goals
                  go_wp2_with fail
                  go_quiet (fail)
                  go_upto_region 19 with (fail)
                  have X67 : Ext V6 (V6.drewN nq) := (Ext.refl V6).drewN nq
                  clear r0 r1 r2 r3 r4 t0 t1 t4 c1 hS4 hT4
                  try clear hs
                  generalize V6.drewN nq = V7 at *
                  have e8 := (X67.block _ (block_lt H5.out.2.2.1)).trans H5.out.2.2.1
                  have e9 := (X67.block _ (block_lt H5.out.2.2.2.1)).trans H5.out.2.2.2.1
                  have r0 : V7.cell? ⟨jb, 0, none⟩ = some (.int .i64 (x.T : Int)) := block_cell e8 0
                  have r1 : V7.cell? ⟨jb, 1, none⟩ = some (.int .i64 x.R) := block_cell e8 1
                  have r2 : V7.cell? ⟨jb, 2, none⟩ = some (.int .i64 x.D) := block_cell e8 2
                  have r3 : V7.cell? ⟨jb, 3, none⟩ = some (.int .i64 (x.L - 1)) := block_cell e8 3
                  have r4 : V7.cell? ⟨jb, 4, none⟩ = some (.int .i64 (x.N + 1)) := block_cell e8 4
                  have t0 : V7.cell? ⟨hb, 0, none⟩ = some (.int .i64 (hj.T : Int)) := block_cell e9 0
                  have t1 : V7.cell? ⟨hb, 1, none⟩ = some (.int .i64 hj.R) := block_cell e9 1
                  have t2 : V7.cell? ⟨hb, 2, none⟩ = some (.int .i64 hj.D) := block_cell e9 2
                  have t3 : V7.cell? ⟨hb, 3, none⟩ = some (.int .i64 hj.L) := block_cell e9 3
                  have t4 : V7.cell? ⟨hb, 4, none⟩ = some (.int .i64 hj.N) := block_cell e9 4
                  have p0 := block_fz e9 0
                  have p1 := block_fz e9 1
                  have p2 := block_fz e9 2
                  have p3 := block_fz e9 3
                  have p4 := block_fz e9 4
                  have JE := Lib.hid (fun hd' hh => J.out.run H5.out.1 HX.out (H5.out.2.1.trans X67) hd' hh HTK.out.2)
                  clear e8 e9 X67
                  go_wp2_with fail
                  go_roundw
                  case rel => exact ⟨i + 1, F, ks, _, _, x.tick, rfl, by go_num, by omega, JE.out _ (by rw [HD.out, HTV.out]; rfl)⟩
                  case measure => simp [intOf]; omega
      · obtain rfl : i = m := by omega
        go_wp2_with fail
        go_returns
        exact ⟨rfl, HI.out.ext⟩
  · have NW := Lib.hid (new_no p A n c ts w1 (HR.out.1.ext H1.out.1) (by omega) (HW.out.2.2.1.task.ext H1.out.1) hL)
    have LGR := Lib.hid (fun w' (hx : Ext w w') => rguest_loop A n c p ts w' (HR.out.1.ext hx) (by omega) false (Lib.hid (lg_off hL)))
    clear hL
    go_wp2_with fail
    refine NW.out.mono ?_
    rintro e0 w2 ⟨rfl, x2⟩
    have b2 := (x2.block _ (block_lt H1.out.2)).trans H1.out.2
    have q0' : w2.cell? ⟨w.heap.size, 0, none⟩ = some (.int .i64 p) := block_cell b2 0
    have q1' : w2.cell? ⟨w.heap.size, 1, none⟩ = some (.slice A n c) := block_cell b2 1
    have X2 := Lib.hid (H1.out.1.trans x2)
    clear NW x2 b2 q0 q1
    go_wp2_with fail
    refine (LGR.out _ X2.out).mono ?_
    rintro e0 w3 ⟨rfl, x3⟩
    have X3 := Lib.hid (X2.out.trans x3)
    clear x3 LGR q0' q1'
    go_wp2_with fail
    go_returns
    exact ⟨rfl, X3.out⟩
end Go.Proofs.YtbpbmelfhgbogaaDoor
