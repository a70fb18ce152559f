/-
  The statement GuestChooses, walked.
-/
import Derived.Test.YtbpbmelfhgbogaaDoorGsAlive
import Derived.Test.YtbpbmelfhgbogaaDoorGsOpen
namespace Go.Proofs.YtbpbmelfhgbogaaDoor
set_option maxRecDepth 100000
open Go.RowKit
set_option linter.unusedVariables false
/-- What a round keeps. -/
structure CS (w wr : World) (g : Nat) (F : Nat → Prop) (p : Int) (ts : List TaskV) (ks : List TkV) (js : List JobV) (xb : Nat) (A B : Option Addr) (n c m e : Nat) : Prop where
  gp : GP wr g F p ks js
  tk : tsk ks = ts
  xbx : wr.heap[xb]? = some (.cells #[.int .i64 p, .slice A n c, .slice B m e] 25 (0, 0))
  ext : Ext w wr
  fw : ∀ b, F b → w.heap.size ≤ b
  fx : ¬ F xb
section
variable {w wr w' : World} {g : Nat} {F F' : Nat → Prop} {p : Int} {ts : List TaskV} {ks ks' : List TkV} {js js' : List JobV} {xb : Nat} {A B : Option Addr} {n c m e : Nat}
theorem CS.ex (h : CS w wr g F p ts ks js xb A B n c m e) (hx : Ext wr w') : CS w w' g F p ts ks js xb A B n c m e :=
  ⟨h.gp.ext hx, h.tk, (hx.block _ (block_lt h.xbx)).trans h.xbx, h.ext.trans hx, h.fw, h.fx⟩
theorem CS.rel (h : CS w wr g F p ts ks js xb A B n c m e) (hn : Next_ wr w' g F F' p ks' js') {i now ticks : Int} (ht : Taken ks js i now ticks ks' js' ∨ ks' = ks ∧ js' = js) : CS w w' g F' p ts ks' js' xb A B n c m e := by
  have hX := next_ext h.ext hn h.fw
  have hq : tsk ks' = ts := by
    rcases ht with ⟨k, x, _, hx, _, _, _, _, rfl, rfl⟩ | ⟨rfl, rfl⟩
    · exact (tsk_set hx now true).trans h.tk
    · exact h.tk
  exact ⟨hn.gp, hq, hn.blk h.xbx h.fx, hX.1, hX.2, hn.out (block_lt h.xbx) h.fx⟩
theorem CS.run {js' : List JobV} (h : CS w wr g F p ts ks js xb A B n c m e) (hn : Next_ wr w' g F F p ks js') : CS w w' g F p ts ks js' xb A B n c m e := by
  have hX := next_ext h.ext hn h.fw
  exact ⟨hn.gp, h.tk, hn.blk h.xbx h.fx, hX.1, h.fw, h.fx⟩
end
theorem lg_off {p : Int} {ts : List TaskV} (h : ¬ LG p ts) : IffB false (LG p ts) := ⟨(fun e => by cases e), fun e => absurd e h⟩
theorem ahd_one {a b : JobV} (h : ahd 1 a b = false) : ¬ a.D < b.D := by
  unfold ahd at h
  rw [if_pos rfl] at h
  split at h
  · omega
  · simpa using h
theorem ahd_two {p : Int} {a b : JobV} (hp : p ≠ 1) (h : ahd p a b = false) : ¬ (a.T : Int) < (b.T : Int) := by
  unfold ahd at h
  rw [if_neg hp] at h
  simp only [decide_eq_false_iff_not] at h
  omega
set_option maxHeartbeats 6400000 in
theorem gchooses_any (p : Int) (A B : Option Addr) (n c m e : Nat) (ts : List TaskV) (os : List O5) (w : World) (hn : n * 32 ≤ 140737488351232) (hr : Rd w 4 A n (trows ts).flatten) (hm : m * 40 ≤ 140737488351232) (hol : os.length = m) (hro : Rd w 5 B m (o5rows os).flatten)
    {pn pb pf pt ps : Addr} (hE : GErr w pn pb pf pt) (hS : Sen w 4 ps) :
    Calls Tryd.prog 6 #[.agg #[.int .i64 p, .slice A n c, .slice B m e]] w fun e w' => e = .returned (.bool true) ∧ Ext w w' := by
  have X0 := (Ext.refl w).alloc (.cells #[.int .i64 p, .slice A n c, .slice B m e] 25)
  have hb0 := heap_alloc_new w (.cells #[.int .i64 p, .slice A n c, .slice B m e] 25)
  have AL := Lib.hid (galive_any _ (hE.ext X0))
  have HW := Lib.hid (And.intro X0 (And.intro hb0 (And.intro hE hS)))
  have HR := Lib.hid (And.intro hr (And.intro hro (And.intro hol hr.len_t)))
  clear X0 hb0 hE hS hr hro hol
  go_enter Tryd.func6, Tryd.ntmps6
  go_wp2_with fail
  refine AL.out.mono ?_
  rintro e0 w1 ⟨rfl, x1⟩
  have X1 := HW.out.1.trans x1
  have b1 := (x1.block _ (block_lt HW.out.2.1)).trans HW.out.2.1
  have q0 : w1.cell? ⟨w.heap.size, 0, none⟩ = some (.int .i64 p) := block_cell b1 0
  have q1 : w1.cell? ⟨w.heap.size, 1, none⟩ = some (.slice A n c) := block_cell b1 1
  have H1 := Lib.hid (And.intro X1 b1)
  clear AL x1 X1 b1
  by_cases hL : LG p ts
  · have NW := Lib.hid (news_ok p A n c ts w1 (HR.out.1.ext H1.out.1) (HW.out.2.2.1.task.ext H1.out.1) hL)
    have HLG := Lib.hid hL
    clear hL
    go_wp2_with fail
    refine NW.out.mono ?_
    rintro e0 w2 ⟨g, F, rfl, h2, f2, x2⟩
    have X2 := H1.out.1.trans x2
    have b2 := (x2.block _ (block_lt H1.out.2)).trans H1.out.2
    have z1 := H1.out.1.size
    have zlt := block_lt H1.out.2
    have J0 : CS w w2 g F p ts (fresh ts) [] w.heap.size A B n c m e :=
      ⟨h2, fresh_tsk ts, b2, X2, fun b hb => by have := f2 b hb; omega, fun hb => by have := f2 _ hb; omega⟩
    have q2 : w2.cell? ⟨w.heap.size, 2, none⟩ = some (.slice B m e) := block_cell J0.xbx 2
    have HJ := Lib.hid J0
    clear NW h2 f2 x2 X2 b2 z1 zlt J0 q0 q1
    go_wp2_with fail
    clear q2
    generalize w.heap.size = xb at *
    go_loopw [5, 6, 7, 8, 9, 11, 12, 13, 14, 15, 41] (fun _ _ _ _ _ _ _ _ _ _ v41 wr => ∃ (i : Nat) (F : Nat → Prop) (ks : List TkV) (js : List JobV), v41 = .int .i64 (i : Int) ∧ i ≤ m ∧ Hid (CS w wr g F p ts ks js xb A B n c m e)) (fun _ _ _ _ _ _ _ _ _ _ v41 _ => m - (intOf v41).toNat)
    case atStart => exact ⟨0, F, fresh ts, [], rfl, by omega, HJ.out⟩
    case round =>
      obtain ⟨i, F, ks, js, rfl, hi, HI⟩ := hrel
      obtain ⟨U2, hU2⟩ : ∃ U2, U2 = wr := ⟨_, rfl⟩
      subst hU2
      clear HJ
      by_cases hlt : i < m
      · obtain ⟨o, ho⟩ : ∃ o, os[i]? = some o := ⟨os[i]'(by rw [HR.out.2.2.1]; exact hlt), List.getElem?_eq_getElem _⟩
        obtain ⟨i5, hi5⟩ : ∃ i5, i * 5 = i5 := ⟨_, rfl⟩
        obtain ⟨ad, rfl, _, _⟩ := HR.out.2.1.2 (show 0 < m by omega)
        have hrr := HR.out.2.1.ext HI.out.ext
        have k0 := hrr.rowAt (o5_even os) (o5_at ho) hi5 (i := 0) rfl
        have k1 := hrr.rowAt (o5_even os) (o5_at ho) hi5 (i := 1) rfl
        have k2 := hrr.rowAt (o5_even os) (o5_at ho) hi5 (i := 2) rfl
        have k3 := hrr.rowAt (o5_even os) (o5_at ho) hi5 (i := 3) rfl
        have k4 := hrr.rowAt (o5_even os) (o5_at ho) hi5 (i := 4) rfl
        rw [Nat.add_zero] at k0
        rw [← add_add', add_lit' _ (by omega)] at k1 k2 k3 k4
        have z0 : (0 : Int) ≤ i := by omega
        have z1 : (i : Int) < m := by omega
        have XV := (Ext.refl U2).alloc (.cells #[.int .i64 o.K, .int .i64 o.Q, .int .i64 o.T, .int .i64 o.W, .int .i64 o.X] 35)
        have hbo := heap_alloc_new U2 (.cells #[.int .i64 o.K, .int .i64 o.Q, .int .i64 o.T, .int .i64 o.W, .int .i64 o.X] 35)
        have HV := Lib.hid (And.intro (HI.out.ex XV) hbo)
        clear XV hbo hrr ho HI
        go_upto_region 9 with (fail)
        generalize U2.alloc (.cells #[.int .i64 o.K, .int .i64 o.Q, .int .i64 o.T, .int .i64 o.W, .int .i64 o.X] 35) = V at *
        generalize U2.heap.size = ob at *
        have J := Lib.hid HV.out.1
        have b1 : V.cell? ⟨ob, 0, none⟩ = some (.int .i64 o.K) := block_cell HV.out.2 0
        have b3 : V.cell? ⟨ob, 2, none⟩ = some (.int .i64 o.T) := block_cell HV.out.2 2
        have b4 : V.cell? ⟨ob, 3, none⟩ = some (.int .i64 o.W) := block_cell HV.out.2 3
        have b5 : V.cell? ⟨ob, 4, none⟩ = some (.int .i64 o.X) := block_cell HV.out.2 4
        clear HV k0 k1 k2 k3 k4 hi5
        by_cases h15 : (1500 : Int) < (i : Int)
        · go_wp2_with fail
          go_returns
          exact ⟨rfl, J.out.ext⟩
        · by_cases hK : o.K = 1
          · have RL := Lib.hid (release_any J.out.gp o.T o.W o.X (HW.out.2.2.1.rel.ext J.out.ext))
            go_wp2_with fail
            refine RL.out.mono ?_
            rintro e0 w5 ⟨v, F', ks', js', rfl, n5, hv⟩
            have J5 := Lib.hid (J.out.rel n5 (i := o.T) (now := o.W) (ticks := o.X) (by
              rcases hv with ⟨_, h⟩ | ⟨_, _, _, h1, h2⟩
              · exact .inl h
              · exact .inr ⟨h1, h2⟩))
            clear RL n5 hv b1 b3 b4 b5
            go_wp2_with fail
            go_roundw
            case rel => exact ⟨i + 1, F', ks', js', by go_num, by omega, J5.out⟩
            case measure => simp [intOf]; omega
          · have hKb : (o.K == 1) = false := by simp [hK]
            have htk := Lib.hid J.out.tk
            by_cases hjs : js = []
            · as_aux_lemma =>
                have NX := nexts_none (by have := J.out.gp; rw [hjs] at this; exact this)
                have NX := Lib.hid NX
                have HNIL := Lib.hid hjs
                clear b3 b4 b5 hjs
                go_wp2_with fail
                refine NX.out.mono ?_
                rintro e0 w5 ⟨rfl, x5⟩
                have XB := (Ext.refl w5).alloc (.cells #[.int .i64 0, .int .i64 0, .int .i64 0, .int .i64 0, .int .i64 0] 46)
                have J6 := Lib.hid (J.out.ex (x5.trans XB))
                have JB := Lib.hid (jobss_any J6.out.gp)
                clear NX x5 b1 XB
                go_wp2_with fail
                refine JB.out.mono ?_
                rintro e0 w6 ⟨A6, c6, rfl, o6, x6⟩
                have J7 := Lib.hid (J6.out.ex x6)
                have hl0 : js.length = 0 := by rw [HNIL.out]; rfl
                have RN := Lib.hid (fun W (hx : Ext w6 W) => runs_none (q := ps) (show GP W g F p ks [] by have := J7.out.gp.ext hx; rwa [HNIL.out] at this) (HW.out.2.2.2.ext (J7.out.ext.trans hx)))
                rw [hl0]
                clear JB o6 x6 J6 hl0
                go_wp2_with fail
                go_quiet (fail)
                go_wp2_with fail
                refine (RN.out _ ((Ext.refl w6).drewN _)).mono ?_
                rintro e0 w7 ⟨rfl, x7⟩
                have J8 := Lib.hid (J7.out.ex (((Ext.refl w6).drewN _).trans (x7.alloc (.cells #[.int .i64 0, .int .i64 0, .int .i64 0, .int .i64 0, .int .i64 0] 46))))
                clear RN x7 J7
                go_wp2_with fail
                go_roundw
                case rel => exact ⟨i + 1, F, ks, js, by go_num, by omega, J8.out⟩
                case measure => simp [intOf]; omega
            · as_aux_lemma =>
                have hl : 0 < js.length := by rcases Nat.eq_zero_or_pos js.length with h | h; exact absurd (List.eq_nil_of_length_eq_zero h) hjs; exact h
                obtain ⟨x, hx⟩ : ∃ x, js[nextI p ts js]? = some x := ⟨_, at_of jz (nextI_lt hl)⟩
                have hxm := List.mem_of_getElem? hx
                obtain ⟨g1, g2, g3, g4, _, _⟩ := J.out.gp.gi.bound hxm
                have hxT := (J.out.gp.gi.ok x hxm).1
                rw [htk.out] at hxT
                have NX := nexts_any J.out.gp (by rw [htk.out]; exact hx)
                have NX := Lib.hid NX
                unfold JobV.val at NX
                have HX := Lib.hid hx
                have HSP := nextI_spec (p := p) (ts := ts) hl
                rw [getD_of hx] at HSP
                have HSP := Lib.hid HSP
                have hlen : js.length ≤ 64 := J.out.gp.gi.few
                have hlz : (0 : Int) < (js.length : Int) := by omega
                obtain ⟨q, hq⟩ : ∃ q, js.length = q := ⟨_, rfl⟩
                have HQ := Lib.hid hq
                clear b3 b4 b5 hjs hl hxm hx
                go_wp2_with fail
                refine NX.out.mono ?_
                rintro e0 w5 ⟨rfl, x5⟩
                have XB := (Ext.refl w5).alloc (.cells #[.int .i64 (x.T : Int), .int .i64 x.R, .int .i64 x.D, .int .i64 x.L, .int .i64 x.N] 46)
                have hbj := heap_alloc_new w5 (.cells #[.int .i64 (x.T : Int), .int .i64 x.R, .int .i64 x.D, .int .i64 x.L, .int .i64 x.N] 46)
                have J6 := J.out.ex (x5.trans XB)
                have JB := jobss_any J6.gp
                rw [HQ.out] at JB
                have JB := Lib.hid JB
                have hfj : ¬ F w5.heap.size := fun h => by have := J.out.gp.lt _ h; have := x5.size; omega
                have H6 := Lib.hid (And.intro J6 (And.intro hbj hfj))
                rw [hq] at hlen hlz
                have hdz : decide (0 < q) = true := by rw [decide_eq_true_eq]; omega
                have hdz2 : decide ((0 : Int) < (q : Int)) = true := by rw [decide_eq_true_eq]; omega
                clear NX x5 b1 XB J6 hbj hfj hq
                go_upto_region 13 with (fail)
                generalize w5.alloc (.cells #[.int .i64 (x.T : Int), .int .i64 x.R, .int .i64 x.D, .int .i64 x.L, .int .i64 x.N] 46) = w5a at *
                generalize w5.heap.size = jb at *
                go_wp2_with fail
                refine JB.out.mono ?_
                rintro e0 w6 ⟨A6, c6, rfl, o6, x6⟩
                have J7 := Lib.hid (And.intro (H6.out.1.ex x6) (And.intro ((x6.block _ (block_lt H6.out.2.1)).trans H6.out.2.1) (And.intro H6.out.2.2 o6.rd)))
                clear JB o6 x6 H6
                obtain ⟨tv, htv⟩ : ∃ tv, ts[x.T]? = some tv := ⟨ts[x.T]'hxT, List.getElem?_eq_getElem _⟩
                have hnT : x.T < n := by have := HR.out.2.2.2; omega
                obtain ⟨T4, hT4⟩ : ∃ T4, x.T * 4 = T4 := ⟨_, rfl⟩
                obtain ⟨ta, rfl, _, _⟩ := HR.out.1.2 (show 0 < n by omega)
                have hS4 := (HR.out.1.ext J7.out.1.ext).rowAt (trows_even ts) (trows_at htv) hT4 (i := 3) rfl
                rw [← add_add', add_lit' _ (by omega)] at hS4
                have y0 : (0 : Int) ≤ (x.T : Int) := by omega
                have y1 : (x.T : Int) < n := by omega
                have r0 := block_cell J7.out.2.1 0
                have r4 := block_cell J7.out.2.1 4
                have c1 := block_cell J7.out.1.xbx 1
                have hld : hldB ts x = (decide (0 < x.N) && decide (x.N < tv.S)) := by unfold hldB; rw [getD_of htv]
                have HLD := Lib.hid hld
                clear htv hxT hld
                by_cases hN0 : 0 < x.N ∧ x.N < tv.S
                · have d1 : decide (0 < x.N) = true := by simpa using hN0.1
                  have d2 : decide (x.N < tv.S) = true := by simpa using hN0.2
                  clear hN0 HSP
                  go_wp2_with fail
                  go_quiet (fail)
                  go_upto_region 26 with (fail)
                  have XZ : Ext w6 (w6.drewN nq) := (Ext.refl w6).drewN nq
                  clear d1 d2 r0 r4 c1 hS4 hT4
                  generalize w6.drewN nq = Z at *
                  have HZ := Lib.hid (And.intro (J7.out.1.ex XZ) (And.intro ((XZ.block _ (block_lt J7.out.2.1)).trans J7.out.2.1) J7.out.2.2.1))
                  clear XZ
                  have RU := runs_any HZ.out.1.gp (by rw [htk.out]; exact HX.out)
                  rw [htk.out] at RU
                  have RU := Lib.hid RU
                  unfold JobV.val JobV.tick at RU
                  dsimp only at RU
                  go_wp2_with fail
                  refine RU.out.mono ?_
                  rintro e0 w5 ⟨rfl, n5⟩
                  have J5 := HZ.out.1.run n5
                  have hj5 := n5.blk HZ.out.2.1 HZ.out.2.2
                  have XB := (Ext.refl w5).alloc (.cells #[.int .i64 (x.T : Int), .int .i64 x.R, .int .i64 x.D, .int .i64 (x.L - 1), .int .i64 (x.N + 1)] 46)
                  have hj6 := (XB.block _ (block_lt hj5)).trans hj5
                  have r0 := block_cell hj6 0
                  have r1 := block_cell hj6 1
                  have r3 := block_cell hj6 3
                  have J6 := Lib.hid (J5.ex XB)
                  clear RU n5 hj5 XB hj6 J5
                  go_wp2_with fail
                  go_roundw
                  case rel => exact ⟨i + 1, F, ks, _, by go_num, by omega, J6.out⟩
                  case measure => simp [intOf]; omega
                · have hnh : hldB ts x = false := by
                    rw [HLD.out]
                    by_cases a : 0 < x.N
                    · by_cases b : x.N < tv.S
                      · exact absurd ⟨a, b⟩ hN0
                      · simp [b]
                    · simp [a]
                  have HS2 := Lib.hid (show (∀ j ∈ js, hldB ts j = false) ∧ ∀ k, k < js.length → ahd p (js.getD k jz) x = false by
                    rcases HSP.out with h | ⟨h1, h2, _⟩
                    · rw [hnh] at h; cases h
                    · exact ⟨h1, h2⟩)
                  clear hnh HSP
                  have hd : (decide (0 < x.N) = false) ∨ decide (0 < x.N) = true ∧ decide (x.N < tv.S) = false := by
                    by_cases h : 0 < x.N
                    · exact .inr ⟨by simpa using h, by have : ¬ x.N < tv.S := fun h2 => hN0 ⟨h, h2⟩; simpa using this⟩
                    · exact .inl (by simpa using h)
                  clear hN0
                  rcases hd with d1 | ⟨d1, d2⟩
                  all_goals
                    go_wp2_with fail
                    go_quiet (fail)
                    go_upto_region 17 with (fail)
                    have XZ : Ext w6 (w6.drewN nq) := (Ext.refl w6).drewN nq
                    clear d1 r0 r4 c1 hS4 hT4
                    try clear d2
                    generalize w6.drewN nq = Z at *
                    have HZ := Lib.hid (And.intro (J7.out.1.ex XZ) (And.intro ((XZ.block _ (block_lt J7.out.2.1)).trans J7.out.2.1) (And.intro J7.out.2.2.1 (J7.out.2.2.2.ext XZ))))
                    clear XZ J7
                    go_wp2_with fail
                    go_loopw [11, 12, 92] (fun _ _ v92 wy => ∃ k : Nat, v92 = .int .i64 (k : Int) ∧ k ≤ q ∧ Hid (Ext Z wy)) (fun _ _ v92 _ => q - (intOf v92).toNat)
                    case atStart => exact ⟨0, rfl, by omega, Ext.refl Z⟩
                    case round =>
                      obtain ⟨k, rfl, hk, HK⟩ := hrel
                      obtain ⟨Y, hY⟩ : ∃ Y, Y = wr := ⟨_, rfl⟩
                      subst hY
                      by_cases hkq : k < q
                      · obtain ⟨y, hy⟩ : ∃ y, js[k]? = some y := ⟨js[k]'(by have := HQ.out; omega), List.getElem?_eq_getElem _⟩
                        have hym := List.mem_of_getElem? hy
                        have hyh := HS2.out.1 y hym
                        have hya := HS2.out.2 k (by have := HQ.out; omega)
                        rw [getD_of hy] at hya
                        have hyT := (HZ.out.1.gp.gi.ok y hym).1
                        rw [htk.out] at hyT
                        obtain ⟨k5, hk5⟩ : ∃ k5, k * 5 = k5 := ⟨_, rfl⟩
                        obtain ⟨ja, rfl, _, _⟩ := HZ.out.2.2.2.2 (show 0 < q by omega)
                        have hrr := HZ.out.2.2.2.ext HK.out
                        have k0 := hrr.rowAt (jrows_even js) (jrows_at hy) hk5 (i := 0) rfl
                        have k1 := hrr.rowAt (jrows_even js) (jrows_at hy) hk5 (i := 1) rfl
                        have k2 := hrr.rowAt (jrows_even js) (jrows_at hy) hk5 (i := 2) rfl
                        have k3 := hrr.rowAt (jrows_even js) (jrows_at hy) hk5 (i := 3) rfl
                        have k4 := hrr.rowAt (jrows_even js) (jrows_at hy) hk5 (i := 4) rfl
                        rw [Nat.add_zero] at k0
                        rw [← add_add', add_lit' _ (by omega)] at k1 k2 k3 k4
                        have z0 : (0 : Int) ≤ k := by omega
                        have z1 : (k : Int) < q := by omega
                        have XB := (Ext.refl Y).alloc (.cells #[.int .i64 (y.T : Int), .int .i64 y.R, .int .i64 y.D, .int .i64 y.L, .int .i64 y.N] 46)
                        have hby := heap_alloc_new Y (.cells #[.int .i64 (y.T : Int), .int .i64 y.R, .int .i64 y.D, .int .i64 y.L, .int .i64 y.N] 46)
                        have XY := HK.out.trans XB
                        have HY := Lib.hid (And.intro XY hby)
                        have HYF := Lib.hid (And.intro hyh (And.intro hya hyT))
                        clear hrr hy hym hyh hya hyT XB hby XY HK
                        go_upto_region 20 with (fail)
                        clear k0 k1 k2 k3 k4 hk5
                        generalize Y.alloc (.cells #[.int .i64 (y.T : Int), .int .i64 y.R, .int .i64 y.D, .int .i64 y.L, .int .i64 y.N] 46) = Y2 at *
                        generalize Y.heap.size = yb at *
                        have J8 := HZ.out.1.ex HY.out.1
                        have hb8 := (HY.out.1.block _ (block_lt HZ.out.2.1)).trans HZ.out.2.1
                        have s0 := block_cell hb8 0
                        have s2 := block_cell hb8 2
                        have t0 := block_cell HY.out.2 0
                        have t2 := block_cell HY.out.2 2
                        have t4 := block_cell HY.out.2 4
                        have c0 := block_cell J8.xbx 0
                        have c1 := block_cell J8.xbx 1
                        have hyT := HYF.out.2.2
                        obtain ⟨yv, hyv⟩ : ∃ yv, ts[y.T]? = some yv := ⟨ts[y.T]'hyT, List.getElem?_eq_getElem _⟩
                        have hnY : y.T < n := by have := HR.out.2.2.2; omega
                        obtain ⟨Y4, hY4⟩ : ∃ Y4, y.T * 4 = Y4 := ⟨_, rfl⟩
                        have hS8 := (HR.out.1.ext J8.ext).rowAt (trows_even ts) (trows_at hyv) hY4 (i := 3) rfl
                        rw [← add_add', add_lit' _ (by omega)] at hS8
                        have y3 : (0 : Int) ≤ (y.T : Int) := by omega
                        have y4 : (y.T : Int) < n := by omega
                        have hld : decide (0 < y.N) = false ∨ decide (0 < y.N) = true ∧ decide (y.N < yv.S) = false := by
                          have h1 := HYF.out.1
                          unfold hldB at h1
                          rw [getD_of hyv] at h1
                          cases h2 : decide (0 < y.N) with
                          | false => exact .inl rfl
                          | true => rw [h2, Bool.true_and] at h1; exact .inr ⟨rfl, h1⟩
                        have hpf : (p == 1) = true ∧ decide (y.D < x.D) = false ∨ (p == 1) = false ∧ decide (y.T < x.T) = false := by
                          have h1 := HYF.out.2.1
                          by_cases hp : p = 1
                          · rw [hp] at h1
                            exact .inl ⟨by simpa using hp, by simpa using ahd_one h1⟩
                          · exact .inr ⟨by simpa using hp, by rw [decide_eq_false_iff_not]; have := ahd_two hp h1; omega⟩
                        have J9 := Lib.hid HY.out.1
                        clear hyv hyT J8 hb8 HYF HY
                        rcases hpf with ⟨p1, p2⟩ | ⟨p1, p2⟩
                        all_goals
                          rcases hld with l1 | ⟨l1, l2⟩
                          all_goals
                            go_wp2_with fail
                            go_quiet (fail)
                            go_wp2_with fail
                            go_roundw
                            case rel => exact ⟨k + 1, by go_num, by omega, J9.out.drewN _⟩
                            case measure => simp [intOf]; omega
                      · obtain rfl : q = k := by omega
                        have HZ := Lib.hid (And.intro (HZ.out.1.ex HK.out) (And.intro ((HK.out.block _ (block_lt HZ.out.2.1)).trans HZ.out.2.1) HZ.out.2.2.1))
                        have RU := runs_any HZ.out.1.gp (by rw [htk.out]; exact HX.out)
                        rw [htk.out] at RU
                        have RU := Lib.hid RU
                        unfold JobV.val JobV.tick at RU
                        dsimp only at RU
                        go_wp2_with fail
                        refine RU.out.mono ?_
                        rintro e0 w5 ⟨rfl, n5⟩
                        have J5 := HZ.out.1.run n5
                        have hj5 := n5.blk HZ.out.2.1 HZ.out.2.2
                        have XB := (Ext.refl w5).alloc (.cells #[.int .i64 (x.T : Int), .int .i64 x.R, .int .i64 x.D, .int .i64 (x.L - 1), .int .i64 (x.N + 1)] 46)
                        have hj6 := (XB.block _ (block_lt hj5)).trans hj5
                        have r0 := block_cell hj6 0
                        have r1 := block_cell hj6 1
                        have r3 := block_cell hj6 3
                        have J6 := Lib.hid (J5.ex XB)
                        clear RU n5 hj5 XB hj6 J5
                        go_wp2_with fail
                        go_roundw
                        case rel => exact ⟨i + 1, F, ks, _, by go_num, by omega, J6.out⟩
                        case measure => simp [intOf]; omega
      · obtain rfl : i = m := by omega
        go_wp2_with fail
        go_returns
        exact ⟨rfl, HI.out.ext⟩
  · have NW := Lib.hid (new_no p A n c ts w1 (HR.out.1.ext H1.out.1) (by omega) (HW.out.2.2.1.task.ext H1.out.1) hL)
    have LGR := Lib.hid (fun w' (hx : Ext w w') => rguest_loop A n c p ts w' (HR.out.1.ext hx) (by omega) false (Lib.hid (lg_off hL)))
    clear hL
    go_wp2_with fail
    refine NW.out.mono ?_
    rintro e0 w2 ⟨rfl, x2⟩
    have b2 := (x2.block _ (block_lt H1.out.2)).trans H1.out.2
    have q0' : w2.cell? ⟨w.heap.size, 0, none⟩ = some (.int .i64 p) := block_cell b2 0
    have q1' : w2.cell? ⟨w.heap.size, 1, none⟩ = some (.slice A n c) := block_cell b2 1
    have X2 := Lib.hid (H1.out.1.trans x2)
    clear NW x2 b2 q0 q1
    go_wp2_with fail
    refine (LGR.out _ X2.out).mono ?_
    rintro e0 w3 ⟨rfl, x3⟩
    have X3 := Lib.hid (X2.out.trans x3)
    clear x3 LGR q0' q1'
    go_wp2_with fail
    go_returns
    exact ⟨rfl, X3.out⟩
end Go.Proofs.YtbpbmelfhgbogaaDoor
