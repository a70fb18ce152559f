/-
  The statement CrcStreams, walked.
-/
import Derived.Test.YtbinimejjenmlaaDoorCrcSplit
import Derived.Test.YtbinimejjenmlaaDoorCrcStreamP
import Derived.Deep.DeepCutAuto
namespace Go.Proofs.YtbinimejjenmlaaDoor
open Go.RowKit
set_option linter.unusedVariables false
theorem own_some {w w1 : World} {A2 : Option Addr} {g : Nat} (h : A2 = some ⟨g, 0, none⟩ ∨ A2 = some ⟨w.heap.size, 0, none⟩) : ∃ g', A2 = some ⟨g', 0, none⟩ ∧ (g' = g ∨ g' = w.heap.size) := by
  rcases h with h | h
  · exact ⟨g, h, .inl rfl⟩
  · exact ⟨_, h, .inr rfl⟩
theorem cut_at {w : World} {g c : Nat} {T k e : Nat} {l : List Nat} (h : Rd w 1 (some ⟨g, 0, none⟩) T (u8s l)) (he : k + e ≤ T) : Rd w 1 (some ⟨g, k, none⟩) e (u8s ((l.drop k).take e)) := by
  have h1 := (h.u8off (k := k) (by omega)).u8take (k := e) (by omega)
  rwa [Nat.zero_add] at h1
set_option maxRecDepth 8000 in
set_option maxHeartbeats 6400000 in
theorem streams_any (A B : Option Addr) (n c m d : Nat) (vs : List Value) (ps : List (List Nat)) (cs : List Int) (w : World) (hn : n ≤ 9000000000000) (hr : Rd w 1 A n vs) (hp : At w none vs ps) (hb : ∀ p ∈ ps, ∀ x ∈ p, x < 256)
    (hm : m ≤ 90000000000000) (hc : Rd w 1 B m (ints cs)) (E : Nat → Addr) (h8 : Sen w 0 (E 0)) (h4 : Sen w 4 (E 4)) :
    Calls Tryd.prog 6 #[.slice A n c, .slice B m d] w fun e w' => e = .returned (.bool true) ∧ Ext w w' := by
  have HR := Lib.hid (And.intro hr (And.intro hp hb))
  have HC := Lib.hid hc
  have H8 := Lib.hid h8
  have H4 := Lib.hid h4
  clear hr hp hb hc h8 h4
  go_enter Tryd.func6, Tryd.ntmps6
  go_wp2_with fail
  refine (alive_any _).mono ?_
  rintro e u0 ⟨rfl, e0⟩
  have E0 := Lib.hid e0
  have hs0 := e0.size
  clear e0
  go_wp2_with fail
  go_loopw [5, 6, 25] (fun v5 v6 v25 wr => ∃ (k g1 c1 g2 c2 : Nat) (gv : List Value) (gs : List (List Nat)), v5 = .slice (some ⟨g1, 0, none⟩) (tot gs) c1 ∧ v6 = .slice (some ⟨g2, 0, none⟩) (List.length gs) c2 ∧ v25 = .int .i64 (k : Int) ∧ k ≤ n ∧
    Hid (Own wr w.heap.size 5 1 (some ⟨g1, 0, none⟩) (tot gs) c1 (u8s (frms gs)) ∧ Own wr w.heap.size 22 1 (some ⟨g2, 0, none⟩) (List.length gs) c2 gv ∧ Pay w (fun _ => False) gv gs ∧ (∀ p ∈ gs, Good p) ∧ gs.length ≤ k ∧ gs.length ≤ 40 ∧ g1 ≠ g2 ∧ Ext w wr)) (fun _ _ v25 _ => n - (intOf v25).toNat)
  case atStart =>
    refine ⟨0, _, 0, _, 0, [], [], rfl, rfl, rfl, by omega, ?_⟩
    have o1 : Own (u0.alloc (.cells #[] 5)) w.heap.size 5 1 (some ⟨u0.heap.size, 0, none⟩) 0 0 [] := World.ownsRow_lit (size := 1) u0 #[] 0 hs0 (by simp [maxLen]) rfl
    have x1 : Ext w (u0.alloc (.cells #[] 5)) := E0.out.alloc _
    have o2 : Own ((u0.alloc (.cells #[] 5)).alloc (.cells #[] 22)) w.heap.size 22 1 (some ⟨(u0.alloc (.cells #[] 5)).heap.size, 0, none⟩) 0 0 [] := World.ownsRow_lit (size := 1) _ #[] 0 x1.size (by simp [maxLen]) rfl
    rw [World.size_alloc] at o2
    exact ⟨o1.alloc _, o2, Pay.nil_ _ _, by simp, Nat.zero_le _, Nat.zero_le _, by simp, x1.alloc _⟩
  case round =>
    obtain ⟨k, g1, c1, g2, c2, gv, gs, rfl, rfl, rfl, hk, HI⟩ := hrel
    by_cases hlt : k < n
    · have hxr : Ext w wr := HI.out.2.2.2.2.2.2.2
      obtain ⟨hr, hp, hb⟩ := HR.out
      have hl := hr.len
      obtain ⟨p, hpk⟩ : ∃ p, ps[k]? = some p := ⟨ps[k]'(by have := hp.1; omega), List.getElem?_eq_getElem _⟩
      have hbp := hb p (List.mem_of_getElem? hpk)
      obtain ⟨Bp, dp, e1, r1, _⟩ := hp.2 k p hpk
      obtain ⟨ad1, rfl, _, z1⟩ := (hr.ext hxr).at_ hlt
      have y1 := z1 k _ e1
      have k0 : (0 : Int) ≤ k := by omega
      have k1 : (k : Int) < n := by omega
      have HP := Lib.hid (And.intro r1 hbp)
      have HX := Lib.hid hxr
      have S8 := Lib.hid (fun (w' : World) (hx : Ext w w') => H8.out.ext hx)
      clear hr hp hb hl hpk hbp e1 r1 z1 hxr
      by_cases hlen : p.length ≤ 32768
      · have FR := Lib.hid (frame_ok Bp p.length dp p wr (HP.out.1.ext HX.out) HP.out.2 hlen)
        obtain ⟨q, hq⟩ : ∃ q, p.length = q := ⟨_, rfl⟩
        have HQ := Lib.hid hq
        rw [hq] at FR y1
        have hq2 : q ≤ 32768 := by omega
        clear hlen hq
        go_wp2_with fail
        refine FR.out.mono ?_
        rintro e w1 ⟨A3, c3, rfl, o3, x3⟩
        by_cases h40 : k < 40
        · have h40' : (k : Int) < 40 := by omega
          obtain ⟨o1, o2, pg, gg, gk, g40, gne, _⟩ := HI.out
          have tg := tot_good gg
          have o1' := o1.ext x3
          have o2' := o2.ext x3
          have hlt2 := o2'.lt
          have hlt1 := o1'.lt
          have HG := Lib.hid (And.intro pg (And.intro gg (And.intro gk gne)))
          obtain ⟨T, hT⟩ : ∃ T, tot gs = T := ⟨_, rfl⟩
          obtain ⟨G, hG⟩ : ∃ G, gs.length = G := ⟨_, rfl⟩
          rw [hT] at o1' tg
          rw [hG] at o2' tg g40
          rw [hT, hG]
          have HT := Lib.hid (And.intro hT hG)
          have X3 := Lib.hid (HX.out.trans x3)
          have O3 := Lib.hid o3
          have z3 := X3.out.size
          have zr := HX.out.size
          clear o1 o2 pg gg gk gne x3 o3 hT hG FR
          have O2 := Lib.hid o2'
          clear o2'
          go_wp2_with (at_builtin; refine held ?_)
          refine Held.go (wp_app (m := q + 8) (news := u8s (frm p)) eltU8 o1' O3.out.rd (u8s_one _) (by omega) (.inr ⟨by omega, by omega⟩) z3 _ _ rfl rfl rfl rfl ?_)
          intro A4 c4 w2 o4 hg4 hA4 _
          obtain ⟨g4, rfl, hg4'⟩ := own_some (w1 := w1) hA4
          have hne4 : g4 ≠ g2 := by
            have := HG.out.2.2.2
            rcases hg4' with h | h <;> omega
          have f4 := Fr.grows hg4
          have o2b := f4.own O2.out (fun a ha e => by
            injection ha with ha
            subst ha
            injection e with e
            exact HG.out.2.2.2 e)
          have x4 := o1'.fr_ext X3.out (Nat.le_refl _) f4
          have z4 := x4.size
          have HW := Lib.hid (And.intro o4 (And.intro hne4 x4))
          have hlt4 := o4.lt
          have hlt2b := o2b.lt
          clear o1' o4 hg4 hA4 hg4' f4 hne4 hlt1 hlt2 x4
          go_wp2_with (at_builtin; refine held ?_)
          refine Held.go (wp_app (m := 1) (news := [.slice Bp q dp]) eltLs (o2b.alloc _) (Rd.new w2 #[.slice Bp q dp] 22 (0, 0)) (slice_one _ _ _) (by omega) (.inr ⟨by omega, by omega⟩) (by rw [World.size_alloc]; omega) _ _ rfl rfl rfl rfl ?_)
          intro A5 c5 w3 o5 hg5 hA5 _
          obtain ⟨g5, rfl, hg5'⟩ := own_some (w1 := w1) hA5
          rw [World.size_alloc] at hg5'
          have f5 := Fr.grows hg5
          have o1b := f5.own (HW.out.1.alloc (.cells #[.slice Bp q dp] 22)) (fun a ha e => by
            injection ha with ha
            subst ha
            injection e with e
            exact HW.out.2.1 e.symm)
          have x5 := (o2b.alloc (.cells #[.slice Bp q dp] 22)).fr_ext (HW.out.2.2.alloc _) (Nat.le_refl _) f5
          have HV := Lib.hid (And.intro o5 (And.intro o1b (And.intro hg5' x5)))
          clear o5 hg5 hA5 hg5' f5 o1b x5 o2b
          go_wp2_with fail
          go_roundw
          case rel =>
            obtain ⟨o5, o1b, hg5', x5⟩ := HV.out
            obtain ⟨hT, hG⟩ := HT.out
            obtain ⟨pg, gg, gk, _⟩ := HG.out
            have hQ := HQ.out
            have e1 : tot (gs ++ [p]) = T + (q + 8) := by rw [tot_append, hT]; simp only [tot, hQ, Nat.add_zero]
            have e2 : (gs ++ [p]).length = G + 1 := by rw [List.length_append, hG]; rfl
            have e3 : frms (gs ++ [p]) = frms gs ++ frm p := by rw [frms_append]; simp [frms]
            refine ⟨k + 1, g4, c4, g5, c5, gv ++ [.slice Bp q dp], gs ++ [p], by rw [e1], by rw [e2], by go_num, by omega, ?_⟩
            rw [e1, e2, e3, u8s_append]
            refine ⟨o1b, o5, ?_, fun y hy => ?_, by omega, by omega, ?_, x5⟩
            · have := pg.append (Pay.one (B := Bp) (d := dp) (p := p) HP.out.1 (fun _ _ _ h => h))
              rwa [hQ] at this
            · rcases List.mem_append.1 hy with h | h
              · exact gg y h
              · simp only [List.mem_singleton] at h
                subst h
                exact ⟨by omega, HP.out.2⟩
            · have := HW.out.2.1
              rcases hg5' with h | h <;> omega
          case measure => simp [intOf]; omega
        · have h40' : ¬ (k : Int) < 40 := by omega
          have X3 := Lib.hid (HX.out.trans x3)
          have Y3 := Lib.hid x3
          clear x3 o3 FR
          go_wp2_with fail
          go_roundw
          case rel =>
            obtain ⟨o1, o2, pg, gg, gk, g40, gne, _⟩ := HI.out
            exact ⟨k + 1, g1, c1, g2, c2, gv, gs, rfl, rfl, by go_num, by omega, o1.ext Y3.out, o2.ext Y3.out, pg, gg, by omega, g40, gne, X3.out⟩
          case measure => simp [intOf]; omega
      · have FR := Lib.hid (frame_no Bp p.length dp wr (S8.out _ HX.out) (by omega))
        clear hlen
        go_wp2_with fail
        refine FR.out.mono ?_
        rintro e w1 ⟨rfl, x3⟩
        have X3 := Lib.hid (HX.out.trans x3)
        have Y3 := Lib.hid x3
        clear x3 FR
        by_cases h40 : k < 40
        · have h40' : (k : Int) < 40 := by omega
          go_wp2_with fail
          go_roundw
          case rel =>
            obtain ⟨o1, o2, pg, gg, gk, g40, gne, _⟩ := HI.out
            exact ⟨k + 1, g1, c1, g2, c2, gv, gs, rfl, rfl, by go_num, by omega, o1.ext Y3.out, o2.ext Y3.out, pg, gg, by omega, g40, gne, X3.out⟩
          case measure => simp [intOf]; omega
        · have h40' : ¬ (k : Int) < 40 := by omega
          go_wp2_with fail
          go_roundw
          case rel =>
            obtain ⟨o1, o2, pg, gg, gk, g40, gne, _⟩ := HI.out
            exact ⟨k + 1, g1, c1, g2, c2, gv, gs, rfl, rfl, by go_num, by omega, o1.ext Y3.out, o2.ext Y3.out, pg, gg, by omega, g40, gne, X3.out⟩
          case measure => simp [intOf]; omega
    · obtain rfl : n = k := by omega
      obtain ⟨o1, o2, pg, gg, _, g40, gne, xr⟩ := HI.out
      have tg := tot_good gg
      obtain ⟨T, hT⟩ : ∃ T, tot gs = T := ⟨_, rfl⟩
      obtain ⟨G, hG⟩ : ∃ G, gs.length = G := ⟨_, rfl⟩
      rw [hT] at o1 tg
      rw [hG] at o2 tg g40
      rw [hT, hG]
      have HT := Lib.hid (And.intro hT hG)
      have HO := Lib.hid (And.intro o1 (And.intro o2 (And.intro pg (And.intro gg xr))))
      have hTb : T ≤ 1400000 := by omega
      have cap1 := o1.cap_le
      clear o1 o2 pg gg xr HI hT hG tg
      have hG40 : G ≤ 40 := g40
      clear g40
      obtain ⟨W1, hW1⟩ : ∃ W1, W1 = wr := ⟨_, rfl⟩
      subst hW1
      go_wp2_with fail
      go_loopw [11, 12, 13, 14] (fun v11 v12 v13 v14 ws => ∃ (i a g3 c3 g4 c4 L3 L4 : Nat), v11 = .slice (some ⟨g4, 0, none⟩) L4 c4 ∧ v12 = .slice (some ⟨g3, 0, none⟩) L3 c3 ∧ v13 = .int .i64 (a : Int) ∧ v14 = .int .i64 (i : Int) ∧ i ≤ m + 1 ∧ i ≤ 60 ∧ a ≤ T ∧
        Hid (∃ (gv2 : List Value) (got rest : List (List Nat)) (X : List Nat), X.length = L3 ∧ got.length = L4 ∧ Own ws W1.heap.size 5 1 (some ⟨g3, 0, none⟩) L3 c3 (u8s X) ∧ Own ws W1.heap.size 22 1 (some ⟨g4, 0, none⟩) L4 c4 gv2 ∧ Pay ws (fun g => g = g3 ∨ g = g4) gv2 got ∧ St gs got X a rest ∧
          (m < i ∨ 60 ≤ i → rest = [] ∧ X = [] ∧ a = T) ∧ g3 ≠ g4 ∧ Ext W1 ws)) (fun _ _ _ v14 _ => 61 - (intOf v14).toNat)
      case atStart =>
        refine ⟨0, 0, _, 0, _, 0, 0, 0, rfl, rfl, rfl, rfl, by omega, by omega, by omega, ?_⟩
        have o3 : Own (W1.alloc (.cells #[] 22)) W1.heap.size 22 1 (some ⟨W1.heap.size, 0, none⟩) 0 0 [] := World.ownsRow_lit (size := 1) W1 #[] 0 (Nat.le_refl _) (by simp [maxLen]) rfl
        have x1 : Ext W1 (W1.alloc (.cells #[] 22)) := (Ext.refl W1).alloc _
        have o4 : Own ((W1.alloc (.cells #[] 22)).alloc (.cells #[] 5)) W1.heap.size 5 1 (some ⟨(W1.alloc (.cells #[] 22)).heap.size, 0, none⟩) 0 0 [] := World.ownsRow_lit (size := 1) _ #[] 0 x1.size (by simp [maxLen]) rfl
        rw [World.size_alloc] at o4
        exact ⟨[], [], gs, [], rfl, rfl, o4, o3.alloc _, Pay.nil_ _ _, St.start gs, fun h => by omega, by omega, x1.alloc _⟩
      case round =>
        obtain ⟨i, a, g3, c3, g4, c4, L3, L4, rfl, rfl, rfl, rfl, him, hi60, haT, HJ⟩ := hrel
        by_cases hgo : i ≤ m ∧ i < 60
        · obtain ⟨t1, t2⟩ := hgo
          have t1' : (i : Int) ≤ m := by omega
          have t2' : (i : Int) < 60 := by omega
          have a0 : (0 : Int) ≤ a := by omega
          obtain ⟨k0, hk0⟩ : ∃ k0, T - a = k0 := ⟨_, rfl⟩
          have r0 : (T : Int) - (a : Int) = (k0 : Int) := by omega
          obtain ⟨cc, hcc⟩ : ∃ cc : Bool, decide (i < m ∧ i < 59) = cc := ⟨_, rfl⟩
          have HCC := Lib.hid hcc
          have HK0 := Lib.hid hk0
          clear hcc hk0
          go_upto_region 20 with (fail)
          go_cut [72] (fun v wx => v = .bool cc ∧ wx = wr)
          case first =>
            by_cases h1 : i < m
            · have h1' : (i : Int) < m := by omega
              by_cases h2 : i < 59
              · have h2' : (i : Int) < 59 := by omega
                go_wp2_with fail
                go_meet
                case rel => exact ⟨by rw [← HCC.out]; simp [h1, h2], rfl⟩
              · have h2' : ¬ (i : Int) < 59 := by omega
                go_wp2_with fail
                go_meet
                case rel => exact ⟨by rw [← HCC.out]; simp [h1, h2], rfl⟩
            · have h1' : ¬ (i : Int) < m := by omega
              go_wp2_with fail
              go_meet
              case rel => exact ⟨by rw [← HCC.out]; simp [h1], rfl⟩
          case rest =>
            obtain ⟨rfl, rfl⟩ := hcut
            go_upto_if 72 with (fail)
            go_cut [15] (fun v wx => ∃ k : Nat, v = .int .i64 (k : Int) ∧ a + k ≤ T ∧ Hid (cc = false → a + k = T) ∧ wx = wc)
            case first =>
              cases cc with
              | false =>
                go_wp2_with fail
                go_meet
                case rel => exact ⟨k0, rfl, by have := HK0.out; omega, fun _ => by have := HK0.out; omega, rfl⟩
              | true =>
                obtain ⟨h1, h2⟩ := of_decide_eq_true HCC.out
                have h1' : (i : Int) < m := by omega
                have i0 : (0 : Int) ≤ i := by omega
                obtain ⟨gv2, got, rest, X, _, _, _, _, _, _, _, _, xs⟩ := HJ.out
                obtain ⟨ad2, rfl, _, z2⟩ := (HC.out.ext (HO.out.2.2.2.2.trans xs)).at_ h1
                have hcl := HC.out.len
                rw [ints_len] at hcl
                obtain ⟨z, hz⟩ : ∃ z, cs[i]? = some z := ⟨cs[i]'(by omega), List.getElem?_eq_getElem _⟩
                have y2 := z2 i (.int .i64 z) (by unfold ints; rw [List.getElem?_map, hz]; rfl)
                obtain ⟨qz, hqz⟩ : ∃ qz, z.tmod 50 = qz := ⟨_, rfl⟩
                have q0 : -50 < qz := by rw [← hqz]; exact Int.lt_tmod_of_pos z (by omega)
                have q1 : qz < 50 := by rw [← hqz]; exact Int.tmod_lt_of_pos z (by omega)
                obtain ⟨R, hR⟩ : ∃ R : Nat, qz % 50 = (R : Int) := Int.eq_ofNat_of_zero_le (Int.emod_nonneg _ (by omega))
                clear z2 hcl hz xs
                by_cases hmn : k0 ≤ R
                · have hmn' : (k0 : Int) ≤ R := by omega
                  go_wp2_with fail
                  go_meet
                  case rel => exact ⟨k0, rfl, by have := HK0.out; omega, fun h => (by cases h), rfl⟩
                · have hmn' : ¬ (k0 : Int) ≤ R := by omega
                  go_wp2_with fail
                  go_meet
                  case rel => exact ⟨R, rfl, by have := HK0.out; omega, fun h => (by cases h), rfl⟩
            case rest =>
              obtain ⟨k, rfl, hkT, hfull, rfl⟩ := hcut
              clear r0
              go_upto_region 22 with (fail)
              obtain ⟨ea, hea⟩ : ∃ ea, a + k = ea := ⟨_, rfl⟩
              have r1 : (a : Int) + (k : Int) = (ea : Int) := by omega
              have r2 : ea - a = k := by omega
              have b1 : (a : Int) ≤ ea := by omega
              have b2 : (ea : Int) ≤ c1 := by omega
              have b3 : a ≤ ea := by omega
              have b4 : ea ≤ c1 := by omega
              have b5 : (ea : Int) ≤ T := by omega
              have HEA := Lib.hid hea
              clear hea
              go_cut [12] (fun v wx => ∃ (g5 c5 : Nat), v = .slice (some ⟨g5, 0, none⟩) (L3 + k) c5 ∧ Hid (∃ (gv2 : List Value) (got rest : List (List Nat)) (X : List Nat), X.length = L3 ∧ got.length = L4 ∧ Own wx W1.heap.size 5 1 (some ⟨g5, 0, none⟩) (L3 + k) c5 (u8s (X ++ ((frms gs).drop a).take k)) ∧
                Own wx W1.heap.size 22 1 (some ⟨g4, 0, none⟩) L4 c4 gv2 ∧ Pay wx (fun g => g = g5 ∨ g = g4) gv2 got ∧ St gs got X a rest ∧ g5 ≠ g4 ∧ Ext W1 wx))
              case first =>
                obtain ⟨gv2, got, rest, X, hX3, hX4, o3, o4, py, st, _, hne, xs⟩ := HJ.out
                have RS := HO.out.1.rd.ext xs
                have RC1 : c1 ≠ a → Rd wc 1 (some ⟨g1, a, none⟩) k (u8s (((frms gs).drop a).take k)) := fun _ => cut_at (c := c1) RS hkT
                have RC0 : c1 = a → Rd wc 1 (some ⟨g1, 0, none⟩) k (u8s (((frms gs).drop a).take k)) := fun h => by
                  obtain rfl : k = 0 := by omega
                  rw [List.take_zero]
                  exact Rd.nil_any
                have hst := st.len
                rw [hX3, HT.out.1] at hst
                have hT2 := hst.1
                have HS := Lib.hid (And.intro hX3 (And.intro hX4 (And.intro o4 (And.intro py (And.intro st (And.intro hne xs))))))
                have HR1 := Lib.hid (And.intro RC1 RC0)
                have zz := xs.size
                have hlt4 := o4.lt
                have DONE : ∀ (A5 : Option Addr) (c5 : Nat) (w5 : World), Own w5 W1.heap.size 5 1 A5 (L3 + k) c5 (u8s X ++ u8s (((frms gs).drop a).take k)) → Grows wc w5 (some ⟨g3, 0, none⟩) → (A5 = some ⟨g3, 0, none⟩ ∨ A5 = some ⟨wc.heap.size, 0, none⟩) →
                    ∃ (g5 c5' : Nat), (Value.slice A5 (L3 + k) c5) = .slice (some ⟨g5, 0, none⟩) (L3 + k) c5' ∧ Hid (∃ (gv2 : List Value) (got rest : List (List Nat)) (X : List Nat), X.length = L3 ∧ got.length = L4 ∧ Own w5 W1.heap.size 5 1 (some ⟨g5, 0, none⟩) (L3 + k) c5' (u8s (X ++ ((frms gs).drop a).take k)) ∧
                      Own w5 W1.heap.size 22 1 (some ⟨g4, 0, none⟩) L4 c4 gv2 ∧ Pay w5 (fun g => g = g5 ∨ g = g4) gv2 got ∧ St gs got X a rest ∧ g5 ≠ g4 ∧ Ext W1 w5) := by
                  intro A5 c5 w5 o5 hg5 hA5
                  obtain ⟨g5, rfl, hg5'⟩ := own_some (w1 := wc) hA5
                  have f5 := Fr.grows hg5
                  refine ⟨g5, c5, rfl, gv2, got, rest, X, hX3, hX4, by rw [u8s_append]; exact o5, f5.own o4 (fun a ha e => ?_), py.grow f5 (fun g _ e => ?_) (fun g hg e => ?_), st, ?_, o3.fr_ext xs (Nat.le_refl _) f5⟩
                  · injection ha with ha
                    subst ha
                    injection e with e
                    exact hne e
                  · injection e with e
                    exact .inl e.symm
                  · rcases e with e | e
                    · rcases hg5' with h | h
                      · exact .inl (e.trans h)
                      · omega
                    · exact .inr e
                  · rcases hg5' with h | h
                    · rw [h]; exact hne
                    · omega
                clear RC1 RC0 hX3 hX4 st py hne xs o4 RS hst
                by_cases hc1 : c1 = a
                · subst hc1
                  go_wp2_with (at_builtin; refine held ?_)
                  refine Held.go (wp_app (m := k) (news := u8s (((frms gs).drop c1).take k)) eltU8 o3 (HR1.out.2 trivial) (u8s_one _) (by omega) (.inr ⟨by omega, by omega⟩) zz _ _ rfl rfl rfl rfl ?_)
                  intro A5 c5 w5 o5 hg5 hA5 _
                  have DN := DONE A5 c5 w5 o5 hg5 hA5
                  clear o5 hg5 hA5 DONE
                  go_wp2_with fail
                  go_meet
                  case rel => exact DN
                · go_wp2_with (at_builtin; refine held ?_)
                  refine Held.go (wp_app (m := k) (news := u8s (((frms gs).drop a).take k)) eltU8 o3 (HR1.out.1 hc1) (u8s_one _) (by omega) (.inr ⟨by omega, by omega⟩) zz _ _ rfl rfl rfl rfl ?_)
                  intro A5 c5 w5 o5 hg5 hA5 _
                  have DN := DONE A5 c5 w5 o5 hg5 hA5
                  clear o5 hg5 hA5 DONE
                  go_wp2_with fail
                  go_meet
                  case rel => exact DN
              case rest =>
                obtain ⟨g5, c5, rfl, HK⟩ := hcut
                obtain ⟨gv2, got, rest, X, hX3, hX4, o5, o4, py, st, hne, xs⟩ := HK.out
                obtain ⟨p1, rest2, s1, s2, s3, s4, s5, s6⟩ := st.step HO.out.2.2.2.1 k (by rw [HT.out.1]; exact hkT)
                obtain ⟨X2, hX2⟩ : ∃ X2, X ++ ((frms gs).drop a).take k = X2 := ⟨_, rfl⟩
                rw [hX2] at s1 s2 s3 s4 s5 s6 o5
                have hl2 : X2.length = L3 + k := by have h := o5.len; rw [u8s_len] at h; omega
                have hgl := s5.len.2
                rw [List.length_append, hX4, HT.out.2] at hgl
                rw [hl2] at s2 s3
                rw [HT.out.1] at s3 s6
                have xw := HO.out.2.2.2.2.trans xs
                have SP := split_any (some ⟨g5, 0, none⟩) (L3 + k) c5 X2 wc o5.rd s4 (by omega) o5.cap_le E (H8.out.ext xw) (H4.out.ext xw)
                unfold SOut at SP
                rw [(splP_stop s1).1, (splP_stop s1).2.1, (splP_stop s1).2.2] at SP
                simp only [errV] at SP
                obtain ⟨tp, htp⟩ : ∃ tp, tot p1 = tp := ⟨_, rfl⟩
                rw [htp] at SP s2 s5 s6
                obtain ⟨N1, hN1⟩ : ∃ N1, p1.length = N1 := ⟨_, rfl⟩
                rw [hN1] at SP hgl
                have HS := Lib.hid (And.intro hX4 (And.intro hl2 (And.intro hN1 (And.intro s5 s6))))
                have HW := Lib.hid (And.intro o5 (And.intro o4 (And.intro py (And.intro hne xs))))
                have SPH := Lib.hid SP
                have n0 : ¬ ((tp : Int) < 0) := by omega
                have n1 : ¬ (((L3 + k : Nat) : Int) < (tp : Int)) := by omega
                have n2 : ¬ (L3 + k < tp) := by omega
                clear hX3 hX4 o5 o4 py st hne xs s1 s4 s5 s6 SP xw hX2 hl2 htp hN1 HK
                go_wp2_with fail
                refine SPH.out.mono ?_
                rintro e wd ⟨A6, c6, v6, rfl, l6, x6, f6⟩
                have HL6 := Lib.hid (And.intro l6 (And.intro x6 f6))
                have o6 := l6.own.rd
                have p6 := (Pay.of_at l6.at_).cells
                have z6 := (HW.out.2.2.2.2.trans x6).size
                have o4 := HW.out.2.1.ext x6
                clear l6 x6 f6
                go_wp2_with (at_builtin; refine held ?_)
                refine Held.go (wp_app (m := N1) (news := v6) eltLs o4 o6 p6 (by omega) (.inr ⟨by omega, by omega⟩) z6 _ _ rfl rfl rfl rfl ?_)
                intro A7 c7 we o7 hg7 hA7 _
                obtain ⟨g7, rfl, hg7'⟩ := own_some (w1 := wd) hA7
                have f7 := Fr.grows hg7
                have x7 := o4.fr_ext (HW.out.2.2.2.2.trans HL6.out.2.1) (Nat.le_refl _) f7
                have o5' := f7.own (HW.out.1.ext HL6.out.2.1) (fun a ha e => by
                  injection ha with ha
                  subst ha
                  injection e with e
                  exact HW.out.2.2.2.1 e.symm)
                have hl5 := HW.out.1.lt
                have hl4 := HW.out.2.1.lt
                have pg := (((HW.out.2.2.1.grow (Q := fun _ => False) (Av' := fun g => g = g5 ∨ g = g4) (Fr.of_ext HL6.out.2.1 _) (fun _ _ h => h.elim) (fun _ _ h => h)).append
                  ((Pay.fresh HL6.out.1.at_ HL6.out.2.2).grow (Q := fun _ => False) (Av' := fun g => g = g5 ∨ g = g4) (Fr.refl _ _) (fun _ _ h => h.elim) (fun g _ h => .inr (by rcases h with h | h <;> omega)))).grow (Av' := fun g => g = g5 ∨ g = g7) f7 (fun g _ e => by injection e with e; exact .inr e.symm) (fun g hg e => by
                    rcases e with e | e
                    · exact .inl e
                    · rcases hg7' with h | h
                      · exact .inr (e.trans h)
                      · omega))
                have hne7 : g5 ≠ g7 := by
                  have h1 := HW.out.2.2.2.1
                  have h2 := HL6.out.2.1.size
                  rcases hg7' with h | h <;> omega
                have HG := Lib.hid (And.intro o7 (And.intro o5' (And.intro pg (And.intro hne7 x7))))
                clear o7 o5' pg hne7 x7 hg7 hA7 hg7' f7 o6 p6 z6 o4 hl5 hl4
                go_upto_region 28 with (fail)
                obtain ⟨L5, hL5⟩ : ∃ L5, L3 + k - tp = L5 := ⟨_, rfl⟩
                obtain ⟨M5, hM5⟩ : ∃ M5, L3 + k = M5 := ⟨_, rfl⟩
                rw [hM5] at HG HS s2 s3 n1 n2 hL5 ⊢
                have HL5 := Lib.hid (And.intro hL5 hM5)
                have d1 : (tp : Int) ≤ M5 := by omega
                have d2 : (0 : Int) ≤ tp := by omega
                have hM5b : M5 ≤ 2000000 := by omega
                have hL5b : L5 ≤ 2000000 := by omega
                have hL5c : M5 - tp = L5 := hL5
                clear hL5 hM5
                have RW : Rd we 1 (some ⟨g5, tp, none⟩) L5 (u8s (X2.drop tp)) := by
                  have := HG.out.2.1.rd.u8off (k := tp) s2
                  rwa [Nat.zero_add, hL5c] at this
                have RW0 : c5 = tp → Rd we 1 (some ⟨g5, 0, none⟩) L5 (u8s (X2.drop tp)) := fun h => by
                  have h1 := HG.out.2.1.cap_le
                  obtain rfl : L5 = 0 := by omega
                  rw [List.drop_eq_nil_of_le (by rw [HS.out.2.1]; omega)]
                  exact Rd.nil_any
                have zz := HG.out.2.2.2.2.size
                have DONE : ∀ (A9 : Option Addr) (c9 : Nat) (w9 : World), Own w9 W1.heap.size 5 1 A9 (0 + L5) c9 ([] ++ u8s (X2.drop tp)) → Grows (we.alloc (.cells #[] 5)) w9 (some ⟨we.heap.size, 0, none⟩) → (A9 = some ⟨we.heap.size, 0, none⟩ ∨ A9 = some ⟨(we.alloc (.cells #[] 5)).heap.size, 0, none⟩) →
                    ∃ (g8 c8 : Nat), (Value.slice A9 L5 c9) = .slice (some ⟨g8, 0, none⟩) L5 c8 ∧ Hid (Own w9 W1.heap.size 5 1 (some ⟨g8, 0, none⟩) L5 c8 (u8s (X2.drop tp)) ∧ Ext we w9 ∧ we.heap.size ≤ g8) := by
                  intro A9 c9 w9 o9 hg9 hA9
                  rw [Nat.zero_add, List.nil_append] at o9
                  have x9 : Ext we w9 := hg9.ext ((Ext.refl we).alloc _) (fun g hg => by injection hg with hg; rw [← hg]; exact Nat.le_refl _)
                  rcases hA9 with rfl | rfl
                  · exact ⟨_, c9, rfl, o9, x9, Nat.le_refl _⟩
                  · exact ⟨_, c9, rfl, o9, x9, by rw [World.size_alloc]; omega⟩
                have HRW := Lib.hid (And.intro RW RW0)
                clear RW RW0
                have oz : Own (we.alloc (.cells #[] 5)) W1.heap.size 5 1 (some ⟨we.heap.size, 0, none⟩) 0 0 [] := World.ownsRow_lit (size := 1) we #[] 0 zz (by simp [maxLen]) rfl
                by_cases hc5 : c5 = tp
                · have HD := Lib.hid DONE
                  have HRW0 := Lib.hid (HRW.out.2 hc5)
                  clear DONE HRW
                  subst hc5
                  go_wp2_with (at_builtin; refine held ?_)
                  refine Held.go (wp_app (m := L5) eltU8 oz (HRW0.out.ext ((Ext.refl we).alloc _)) (u8s_one _) (by omega) (.inr ⟨by omega, by omega⟩) (by rw [World.size_alloc]; omega) _ _ rfl rfl rfl rfl ?_)
                  intro A9 c9 w9 o9 hg9 hA9 _
                  have DN := HD.out A9 c9 w9 o9 hg9 hA9
                  rw [Nat.zero_add]
                  clear o9 hg9 hA9 oz
                  go_wp2_with fail
                  go_roundw
                  case rel =>
                    obtain ⟨g8, c8, e8, H8'⟩ := DN
                    obtain ⟨o8, x8, hg8⟩ := H8'.out
                    obtain ⟨o7, o5', pg, hne7, x7⟩ := HG.out
                    obtain ⟨hX4, hl2, hN1, s5, s6⟩ := HS.out
                    have hl7 := o7.lt
                    rw [HEA.out] at s5 s6
                    refine ⟨i + 1, ea, g8, c8, g7, c7, L5, L4 + N1, rfl, e8, by go_num, by go_num, by omega, by omega, by omega, gv2 ++ v6, got ++ p1, rest2, _, by rw [List.length_drop, hl2]; exact hL5c, by rw [List.length_append, hX4, hN1], o8, o7.ext x8, ?_, s5, fun h => ?_, by omega, x7.trans x8⟩
                    · refine pg.grow (Q := fun _ => False) (Fr.of_ext x8 _) (fun _ _ h => h.elim) (fun g hg e => ?_)
                      rcases e with e | e
                      · omega
                      · exact .inr e
                    · have hccf : cc = false := by
                        rw [← HCC.out, decide_eq_false_iff_not]
                        omega
                      have hT2 : ea = T := by rw [← HEA.out]; exact hfull.out hccf
                      obtain ⟨e1, e2⟩ := s6 hT2
                      exact ⟨e1, e2, hT2⟩
                  case measure => simp [intOf]; omega
                · go_wp2_with (at_builtin; refine held ?_)
                  refine Held.go (wp_app (m := L5) eltU8 oz (HRW.out.1.ext ((Ext.refl we).alloc _)) (u8s_one _) (by omega) (.inr ⟨by omega, by omega⟩) (by rw [World.size_alloc]; omega) _ _ rfl rfl rfl rfl ?_)
                  intro A9 c9 w9 o9 hg9 hA9 _
                  have DN := DONE A9 c9 w9 o9 hg9 hA9
                  rw [Nat.zero_add]
                  clear o9 hg9 hA9 oz DONE
                  go_wp2_with fail
                  go_roundw
                  case rel =>
                    obtain ⟨g8, c8, e8, H8'⟩ := DN
                    obtain ⟨o8, x8, hg8⟩ := H8'.out
                    obtain ⟨o7, o5', pg, hne7, x7⟩ := HG.out
                    obtain ⟨hX4, hl2, hN1, s5, s6⟩ := HS.out
                    have hl7 := o7.lt
                    rw [HEA.out] at s5 s6
                    refine ⟨i + 1, ea, g8, c8, g7, c7, L5, L4 + N1, rfl, e8, by go_num, by go_num, by omega, by omega, by omega, gv2 ++ v6, got ++ p1, rest2, _, by rw [List.length_drop, hl2]; exact hL5c, by rw [List.length_append, hX4, hN1], o8, o7.ext x8, ?_, s5, fun h => ?_, by omega, x7.trans x8⟩
                    · refine pg.grow (Q := fun _ => False) (Fr.of_ext x8 _) (fun _ _ h => h.elim) (fun g hg e => ?_)
                      rcases e with e | e
                      · omega
                      · exact .inr e
                    · have hccf : cc = false := by
                        rw [← HCC.out, decide_eq_false_iff_not]
                        omega
                      have hT2 : ea = T := by rw [← HEA.out]; exact hfull.out hccf
                      obtain ⟨e1, e2⟩ := s6 hT2
                      exact ⟨e1, e2, hT2⟩
                  case measure => simp [intOf]; omega
        · obtain ⟨gv2, got, rest, X, hX3, hX4, o3, o4, py, st, hfin, hne, xs⟩ := HJ.out
          obtain ⟨rfl, rfl, rfl⟩ := hfin (by omega)
          obtain rfl : 0 = L3 := hX3
          have hgs := st.split
          rw [List.append_nil] at hgs
          subst hgs
          obtain rfl : G = L4 := HT.out.2.symm.trans hX4
          have HF := Lib.hid (And.intro o4 (And.intro py xs))
          clear hX4 o3 o4 py st hfin hne xs
          have SL := Lib.hid (same_lists (some ⟨g4, 0, none⟩) (some ⟨g2, 0, none⟩) G c4 c2 gv2 gv none none gs wr HF.out.1.rd (HO.out.2.1.rd.ext HF.out.2.2) HF.out.2.1.at_ (HO.out.2.2.1.at_.ext (HO.out.2.2.2.2.trans HF.out.2.2)) (by omega))
          by_cases h1 : i ≤ m
          · have h1' : (i : Int) ≤ m := by omega
            have h2' : ¬ (i : Int) < 60 := by omega
            go_wp2_with fail
            refine SL.out.mono ?_
            rintro e wz ⟨rfl, xz⟩
            go_wp2_with fail
            go_returns
            exact ⟨rfl, HO.out.2.2.2.2.trans (HF.out.2.2.trans xz)⟩
          · have h1' : ¬ (i : Int) ≤ m := by omega
            go_wp2_with fail
            refine SL.out.mono ?_
            rintro e wz ⟨rfl, xz⟩
            go_wp2_with fail
            go_returns
            exact ⟨rfl, HO.out.2.2.2.2.trans (HF.out.2.2.trans xz)⟩
end Go.Proofs.YtbinimejjenmlaaDoor
