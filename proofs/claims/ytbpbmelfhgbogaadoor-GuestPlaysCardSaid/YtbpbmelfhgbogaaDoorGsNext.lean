/-
  Package guest: next, Next, Work, Late, Jobs, walked.
-/
import Derived.Test.YtbpbmelfhgbogaaDoorGsState
import Derived.Lib.AppendStr
import Derived.Lib.SlBytesConst
namespace Go.Proofs.YtbpbmelfhgbogaaDoor
set_option maxRecDepth 100000
open Go.RowKit
set_option linter.unusedVariables false
section
variable {w w' : World} {g tn tc jn jc : Nat} {TA JA : Option Addr} {p : Int} {ks : List TkV} {js : List JobV}
theorem idxV_some {ts : List TaskV} {i : Nat} (h : js.findIdx? (hldB ts) = some i) : idxV ts js = (i : Int) ∧ nextI p ts js = i := by unfold idxV nextI; rw [h]; exact ⟨rfl, rfl⟩
theorem idxV_none {ts : List TaskV} (h : js.findIdx? (hldB ts) = none) : idxV ts js = -1 ∧ nextI p ts js = best p js js.length := by unfold idxV nextI; rw [h]; exact ⟨rfl, rfl⟩
theorem best_succ (p : Int) (js : List JobV) {k : Nat} {x y : JobV} (hx : js[k]? = some x) (hy : js[best p js k]? = some y) : best p js (k + 1) = if ahd p x y = true then k else best p js k := by
  rw [best, getD_of hx, getD_of hy]
theorem cmpF_one : cmpF 1 = .func (.func 21) #[] #[] := if_neg (by decide)
theorem cmpF_two : cmpF 2 = .func (.func 22) #[] #[] := if_pos rfl
set_option maxHeartbeats 1600000 in
theorem work_any (h : GS w g TA tn tc JA jn jc p ks js) (b : Bool) (hb : Hid (b = decide (0 < js.length))) : Calls Tryd.prog 28 #[.pointer (some ⟨g, 0, none⟩)] w fun e w' => e = .returned (.bool b) ∧ Ext w w' := by
  have c1 := h.c1
  have hb2 := hb.out
  rw [h.jlen] at hb2
  clear h hb
  by_cases h0 : 0 < jn
  · have e : decide (0 < jn) = true := by simpa using h0
    have hz : (0 : Int) < (jn : Int) := by omega
    rw [e] at hb2
    subst hb2
    clear e
    go_enter Tryd.func28, Tryd.ntmps28
    go_wp2_with fail
    go_returns
    exact ⟨rfl, Ext.refl w⟩
  · obtain rfl : jn = 0 := by omega
    have e : decide (0 < 0) = false := by decide
    rw [e] at hb2
    subst hb2
    clear e h0
    go_enter Tryd.func28, Tryd.ntmps28
    go_wp2_with fail
    go_returns
    exact ⟨rfl, Ext.refl w⟩
set_option maxHeartbeats 3200000 in
theorem next_any (h : GS w g TA tn tc JA jn jc p ks js) : Calls Tryd.prog 25 #[.pointer (some ⟨g, 0, none⟩)] w fun e w' => e = .returned (.tuple #[.int .i64 (nextI p (tsk ks) js : Int), .bool (decide (0 < js.length))]) ∧ Ext w w' := by
  have c1 := h.c1
  have hjn := h.jn64
  have IX := Lib.hid (idx_any h)
  unfold holdsF at IX
  cases hf : js.findIdx? (hldB (tsk ks)) with
  | some i =>
    obtain ⟨e1, e2⟩ := idxV_some (p := p) hf
    have hi := (List.findIdx?_eq_some_iff_getElem.1 hf).1
    rw [e1] at IX
    rw [e2]
    have hd : decide (0 < js.length) = true := by rw [decide_eq_true_eq]; omega
    rw [hd]
    have z0 : (0 : Int) ≤ i := by omega
    clear h e1 e2 hf hi hd
    go_enter Tryd.func25, Tryd.ntmps25
    go_wp2_with fail
    refine IX.out.mono ?_
    rintro e w1 ⟨rfl, x1⟩
    have X1 := Lib.hid x1
    clear x1 IX
    go_wp2_with fail
    go_returns
    exact ⟨rfl, X1.out⟩
  | none =>
    obtain ⟨e1, e2⟩ := idxV_none (p := p) hf
    rw [e1] at IX
    rw [e2]
    have HG := Lib.hid h
    have HL := Lib.hid h.jlen
    obtain ⟨b, hb⟩ : ∃ b, b = decide (0 < js.length) := ⟨_, rfl⟩
    rw [← hb]
    have HB := Lib.hid hb
    rw [h.jlen]
    have HPOL := Lib.hid h.pol
    have C1 := Lib.hid (fun (a b : JobV) w' (hp : p = 1) => (show Calls Tryd.prog 21 #[a.val, b.val] w' fun e w'' => e = .returned (.int .i64 (cmpJ p a b)) ∧ Ext w' w'' by rw [hp]; exact byd_any a b w'))
    have C2 := Lib.hid (fun (a b : JobV) w' (hp : p = 2) => (show Calls Tryd.prog 22 #[a.val, b.val] w' fun e w'' => e = .returned (.int .i64 (cmpJ p a b)) ∧ Ext w' w'' by rw [hp]; exact byo_any 2 (by omega) a b w'))
    clear h e1 e2 hf hb
    go_enter Tryd.func25, Tryd.ntmps25
    go_wp2_with fail
    refine IX.out.mono ?_
    rintro e w1 ⟨rfl, x1⟩
    have X1 := Lib.hid x1
    have d1 := (HG.out.ex x1).c1
    clear x1 IX c1
    go_wp2_with fail
    clear d1
    go_loopw [5, 6, 7, 23] (fun v5 _ _ v23 wr => ∃ k : Nat, v5 = .int .i64 (best p js k : Int) ∧ v23 = .int .i64 (k : Int) ∧ k ≤ jn ∧ Hid (Ext w wr)) (fun _ _ _ v23 _ => jn - (intOf v23).toNat)
    case atStart => exact ⟨0, rfl, rfl, by omega, X1.out⟩
    case round =>
      obtain ⟨k, rfl, rfl, hk, HI⟩ := hrel
      by_cases hlt : k < jn
      · obtain ⟨bk, hbk⟩ : ∃ bk, best p js k = bk := ⟨_, rfl⟩
        rw [hbk]
        have hble : bk ≤ k := by rw [← hbk]; exact best_le p js k
        obtain ⟨x, hx⟩ : ∃ x, js[k]? = some x := ⟨js[k]'(by have := HL.out; omega), List.getElem?_eq_getElem _⟩
        obtain ⟨y, hy⟩ : ∃ y, js[bk]? = some y := ⟨js[bk]'(by have := HL.out; omega), List.getElem?_eq_getElem _⟩
        have HS := Lib.hid (best_succ p js hx (by rw [hbk]; exact hy))
        rw [hbk] at HS
        have XB := Lib.hid ((Ext.refl wr).alloc (.cells #[.int .i64 (x.T : Int), .int .i64 x.R, .int .i64 x.D, .int .i64 x.L, .int .i64 x.N] 46))
        obtain ⟨k5, hk5⟩ : ∃ k5, k * 5 = k5 := ⟨_, rfl⟩
        obtain ⟨b5, hb5⟩ : ∃ b5, bk * 5 = b5 := ⟨_, rfl⟩
        have h1 := HG.out.ex HI.out
        obtain ⟨S, rfl, _, _, c0, c1, c2, c3, c4⟩ := h1.jcell hx hk5
        have z0 : (0 : Int) ≤ k := by omega
        have z1 : (k : Int) < jn := by omega
        have y0 : (0 : Int) ≤ bk := by omega
        have y1 : (bk : Int) < jn := by omega
        have HN := Lib.hid (fun W (hx : Ext wr W) => h1.ex hx)
        have HY := Lib.hid hy
        clear h1 hx hy hbk hb5
        go_wp2_with fail
        clear c0 c1 c2 c3 c4 hk5
        refine still_tail_at 12 (by kernel_rfl) (by kernel_rfl) ?_
        intro W hz hW
        have q0 := boxAt hW (k := 0) (v := .int .i64 (x.T : Int)) rfl
        have q1 := boxAt hW (k := 1) (v := .int .i64 x.R) rfl
        have q2 := boxAt hW (k := 2) (v := .int .i64 x.D) rfl
        have q3 := boxAt hW (k := 3) (v := .int .i64 x.L) rfl
        have q4 := boxAt hW (k := 4) (v := .int .i64 x.N) rfl
        have hXW := XB.out.trans hW
        have hGW := HN.out W hXW
        obtain ⟨b5, hb5⟩ : ∃ b5, bk * 5 = b5 := ⟨_, rfl⟩
        obtain ⟨S', eS, _, _, c0, c1, c2, c3, c4⟩ := hGW.jcell HY.out hb5
        injection eS with eS
        injection eS with eS
        subst eS
        have d1 := hGW.c1
        have d2 := hGW.c2
        have HXW := Lib.hid (HI.out.trans hXW)
        clear hW hz hXW hGW
        have hpp := HPOL.out
        rcases hpp with hp | hp
        all_goals
          rw [hp] at d2
          first
            | rw [cmpF_one] at d2
            | rw [cmpF_two] at d2
          have HP := Lib.hid hp
          clear hp
          simp only [List.take_succ_cons, List.take_zero, List.drop_succ_cons, List.drop_zero]
          repeat still_step
          refine wpStill_nil ?_
          clear q0 q1 q2 q3 q4 c0 c1 c2 c3 c4 d1 d2
          go_wp2_with fail
          first
            | ((with_reducible refine (C1.out x y _ HP.out).mono ?_))
            | ((with_reducible refine (C2.out x y _ HP.out).mono ?_))
          rintro e w2 ⟨rfl, x2⟩
          have X2 := Lib.hid (HXW.out.trans x2)
          clear x2
          by_cases hah : ahd p x y = true
          · have hn := (cmpJ_neg p x y).2 hah
            have HS2 := Lib.hid (HS.out.trans (if_pos hah))
            clear hah
            generalize cmpJ p x y = cj at *
            go_wp2_with fail
            go_roundw
            case rel => exact ⟨k + 1, by rw [HS2.out], by go_num, by omega, X2.out⟩
            case measure => simp [intOf]; omega
          · have hn : ¬ cmpJ p x y < 0 := fun h => hah ((cmpJ_neg p x y).1 h)
            have HS2 := Lib.hid (HS.out.trans (if_neg hah))
            clear hah
            generalize cmpJ p x y = cj at *
            go_wp2_with fail
            go_roundw
            case rel => exact ⟨k + 1, by rw [HS2.out], by go_num, by omega, X2.out⟩
            case measure => simp [intOf]; omega
      · obtain rfl : jn = k := by omega
        have WK := Lib.hid (work_any (HG.out.ex HI.out) b HB)
        go_wp2_with fail
        refine WK.out.mono ?_
        rintro e w2 ⟨rfl, x2⟩
        have X2 := Lib.hid (HI.out.trans x2)
        clear x2 WK
        go_wp2_with fail
        go_returns
        exact ⟨rfl, X2.out⟩
end
end Go.Proofs.YtbpbmelfhgbogaaDoor
