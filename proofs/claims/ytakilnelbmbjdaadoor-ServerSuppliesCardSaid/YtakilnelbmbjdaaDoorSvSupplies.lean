/-
  The statement ServerSupplies, walked.
-/
import Derived.Test.YtakilnelbmbjdaaDoorSvDemands
import Derived.Test.YtakilnelbmbjdaaDoorSvSupP
import Derived.Test.YtakilnelbmbjdaaDoorSvRBound
import Derived.Deep.Cut
namespace Go.Proofs.YtakilnelbmbjdaaDoor
open Go.RowKit
set_option linter.unusedVariables false
theorem beg_d {K Q T s now : Int} {c : Ck} {wk : Bool} : (begC ⟨K, Q, T, s⟩ c now wk).d = c.d ∨ (begC ⟨K, Q, T, s⟩ c now wk).d = now + T := by
  unfold begC polC spoC defC Ck.full
  repeat' split
  all_goals first | exact .inl rfl | exact .inr rfl
theorem sup_tick {K Q T now k D : Int} {c c' c2 : Ck} {ws cs : List Bool} {wk : Bool} (x : Bool) (hL : Legal K Q T) (hk : (cs.length : Int) = k) (hw : ws.length = cs.length) (hT : D ≤ k + T - 1) (h : SupAt K Q T now k D c ws cs) (hc : begC ⟨K, Q, T, now⟩ c (now + k) wk = c') (hd : c2.d = c'.d) (hb : c2.b = c'.b - (if x then 1 else 0)) (h0 : 0 ≤ c2.b)
    (hx1 : x = true → wk = true) (hx2 : x = false → wk = true → 0 < c'.b → c'.b < c'.d - (now + k)) : ∃ D', D' ≤ (k + 1) + T - 1 ∧ SupAt K Q T now (k + 1) D' c2 (ws ++ [wk]) (cs ++ [x]) := by
  by_cases hwk : wk = true ∨ K = 3
  · obtain ⟨D', hD1, h'⟩ := sup_beg hL hwk hT h
    rw [hc] at h'
    have h2 := sup_put wk x hL hk hw h' hD1 hd hb h0 (fun e1 e2 hp => by have := hx2 e2 e1 hp; have := h'.dd hp; omega) (fun e1 e2 => by
      rcases hwk with e | e
      · rw [e] at e1; cases e1
      · exact absurd e e2) (fun e1 => by
      cases x
      · rfl
      · have := hx1 rfl
        rw [this] at e1; cases e1)
    have := h2.hD
    have := h'.hD
    exact ⟨D', by omega, h2⟩
  · have hK : K ≠ 3 := fun e => hwk (.inr e)
    cases wk
    · cases x
      · rw [beg_idle (by have := hL.1; have := hL.2.1; omega)] at hc
        subst hc
        simp only [Bool.false_eq_true, if_false] at hb hd
        exact sup_off hL hK hk hw hT h (by omega) hd
      · have := hx1 rfl
        cases this
    · exact absurd (.inl rfl) hwk
/-- What holds in the loop that plays. -/
structure RanS (w wr : World) (K Q T now : Int) (A : Option Addr) (n c0 g k : Nat) (A1 : Option Addr) (c1 : Nat) (A2 : Option Addr) (c2 : Nat) (c : Ck) (wk : Bool) (ws hs : List Bool) : Prop where
  sv : Sv wr g ⟨K, Q, T, now⟩ c wk
  hx : Ext w wr
  blk : Blk wr w.heap.size #[.int .i64 K, .int .i64 Q, .int .i64 T, .int .i64 now, .slice A n c0]
  o1 : Own wr (g + 1) 4 1 A1 k c1 (bls ws)
  o2 : Own wr (g + 1) 4 1 A2 k c2 (bls hs)
  ne : ∀ a b, A1 = some a → A2 = some b → a.block ≠ b.block
  sp : ∃ D, D ≤ (k : Int) + T - 1 ∧ SupAt K Q T now (k : Int) D c ws hs
  cd : now ≤ c.d ∧ c.d ≤ now + k + T
  lh : hs.length = k
  lw : ws.length = k
  hg : w.heap.size < g
set_option maxHeartbeats 3200000 in
theorem supplies_no (K Q T now : Int) (A : Option Addr) (n c0 : Nat) (w : World) {p : Addr} (hS : Sen w 0 p) (LG : Hid (∀ w, Calls Tryd.prog 10 #[srv K Q T, .int .i64 now] w fun e w' => e = .returned (.bool false) ∧ Ext w w')) :
    Calls Tryd.prog 6 #[srow K Q T now A n c0] w fun e w' => e = .returned (.bool true) ∧ Ext w w' := by
  have AL := Lib.hid (fun w' (hx : Ext w w') => alive_any w' (hS.ext hx))
  clear hS
  unfold srow
  unfold srv at *
  go_enter Tryd.func6, Tryd.ntmps6
  go_wp2_with fail
  have hx : Ext w (w.alloc (.cells #[.int .i64 K, .int .i64 Q, .int .i64 T, .int .i64 now, .slice A n c0] 26)) := (Ext.refl w).alloc _
  have bA := Blk.new w #[.int .i64 K, .int .i64 Q, .int .i64 T, .int .i64 now, .slice A n c0] 26
  refine (AL.out _ hx).mono ?_
  rintro e u0 ⟨rfl, hy⟩
  have hx0 := hx.trans hy
  have bA0 := bA.ext hy
  obtain ⟨b0, b1, b2, b3, b4⟩ := bA0.five
  clear hx hy bA
  go_wp2_with fail
  refine (LG.out _).mono ?_
  rintro e u1 ⟨rfl, hy⟩
  have hx1 := hx0.trans hy
  have bA1 := bA0.ext hy
  clear b0 b1 b2 b3 b4
  obtain ⟨b0, b1, b2, b3, b4⟩ := bA1.five
  clear hx0 hy bA0
  go_wp2_with fail
  go_ret
  exact ⟨rfl, hx1⟩
set_option maxRecDepth 100000 in
set_option maxHeartbeats 25600000 in
theorem supplies_yes (K Q T now : Int) (A : Option Addr) (n c0 : Nat) (l : List Int) (w : World) {p : Addr} (hS : Sen w 0 p) (h : Legal K Q T) (hn : 0 ≤ now ∧ now ≤ 1099511627776) (hr : Rd w 1 A n (ints l)) :
    Calls Tryd.prog 6 #[srow K Q T now A n c0] w fun e w' => e = .returned (.bool true) ∧ Ext w w' := by
  have AL := Lib.hid (fun w' (hx : Ext w w') => alive_any w' (hS.ext hx))
  have LG := Lib.hid (fun w => legal_yes K Q T now w h hn)
  have NW := Lib.hid (fun w => new_ok K Q T now w h hn)
  have RB := Lib.hid (fun x w h0 h1 => rbound_legal K Q T x w h h0 h1)
  have HR := Lib.hid hr
  have H := Lib.hid h
  have S0 := Lib.hid (sup_new (now := now) h)
  obtain ⟨l1, l2, l3, l4, l5⟩ := h
  clear hS hr
  unfold srow at *
  unfold srv at *
  go_enter Tryd.func6, Tryd.ntmps6
  go_wp2_with fail
  have hx : Ext w (w.alloc (.cells #[.int .i64 K, .int .i64 Q, .int .i64 T, .int .i64 now, .slice A n c0] 26)) := (Ext.refl w).alloc _
  have bA := Blk.new w #[.int .i64 K, .int .i64 Q, .int .i64 T, .int .i64 now, .slice A n c0] 26
  refine (AL.out _ hx).mono ?_
  rintro e u0 ⟨rfl, hy⟩
  have hx0 := hx.trans hy
  have bA0 := bA.ext hy
  obtain ⟨b0, b1, b2, b3, b4⟩ := bA0.five
  clear hx hy bA
  go_wp2_with fail
  refine (LG.out _).mono ?_
  rintro e u1 ⟨rfl, hy⟩
  have hx1 := hx0.trans hy
  have bA1 := bA0.ext hy
  clear b0 b1 b2 b3 b4
  obtain ⟨b0, b1, b2, b3, b4⟩ := bA1.five
  clear hx0 hy bA0
  go_wp2_with fail
  refine (NW.out _).mono ?_
  rintro e u2 ⟨g, rfl, hs, hy, hg⟩
  have hx2 := hx1.trans hy
  have bA2 := bA1.ext hy
  have hgA : w.heap.size < g := Nat.lt_of_lt_of_le bA1.lt hg
  have hgl := hs.lt
  clear b0 b1 b2 b3 b4 hx1 hy bA1 hg
  obtain ⟨b0, b1, b2, b3, b4⟩ := bA2.five
  go_upto_region 9 with (fail)
  have ha0 : Ext u2 ((u2.alloc (.cells #[] 4)).alloc (.cells #[] 4)) := ((Ext.refl u2).alloc _).alloc _
  have hI0 : RanS w ((u2.alloc (.cells #[] 4)).alloc (.cells #[] 4)) K Q T now A n c0 g 0 (some ⟨u2.heap.size, 0, none⟩) 0 (some ⟨u2.heap.size + 1, 0, none⟩) 0 ⟨0, now, false⟩ false [] [] := by
    refine ⟨hs.ext ha0, hx2.trans ha0, bA2.ext ha0, ?_, ?_, ?_, ⟨0, by omega, S0.out⟩, by simp only; omega, rfl, rfl, hgA⟩
    · have hb := heap_alloc_new u2 (.cells #[] 4)
      have hb2 := (((Ext.refl (u2.alloc (.cells #[] 4))).alloc (.cells #[] 4)).block u2.heap.size (by simp)).trans hb
      refine ⟨rfl, .inr ⟨u2.heap.size, 0, #[], rfl, by omega, hb2, Nat.le_refl _, by simp [maxLen], rfl, rfl⟩⟩
    · have hb := heap_alloc_new (u2.alloc (.cells #[] 4)) (.cells #[] 4)
      rw [show (u2.alloc (.cells #[] 4)).heap.size = u2.heap.size + 1 by simp] at hb
      refine ⟨rfl, .inr ⟨u2.heap.size + 1, 0, #[], rfl, by omega, hb, Nat.le_refl _, by simp [maxLen], rfl, rfl⟩⟩
    · intro a b ha hb
      injection ha with ha
      injection hb with hb
      subst ha hb
      simp
  clear b0 b1 b2 b3 b4
  generalize ((u2.alloc (.cells #[] 4)).alloc (.cells #[] 4)) = u3 at *
  obtain ⟨b0, b1, b2, b3, b4⟩ := hI0.blk.five
  clear ha0 hs hx2 bA2 hgl
  go_wp2_with fail
  go_loopw [5, 6, 42] (fun v6 v7 vi wr => ∃ (k : Nat) (c : Ck) (wk : Bool) (ws hs : List Bool) (A1 : Option Addr) (c1 : Nat) (A2 : Option Addr) (c2 : Nat), v6 = .slice A1 k c1 ∧ v7 = .slice A2 k c2 ∧ vi = .int .i64 (k : Int) ∧ k ≤ n ∧ k ≤ 400 ∧ RanS w wr K Q T now A n c0 g k A1 c1 A2 c2 c wk ws hs) (fun _ _ vi _ => (402 - intOf vi).toNat)
  case atStart => exact ⟨0, _, _, [], [], _, _, _, _, rfl, rfl, rfl, by omega, by omega, hI0⟩
  case round =>
    clear hI0 b0 b1 b2 b3 b4
    obtain ⟨k, c, wk, ws, hs, A1, c1, A2, c2, rfl, rfl, rfl, hk, hk1, hI⟩ := hrel
    obtain ⟨b0, b1, b2, b3, b4⟩ := hI.blk.five
    by_cases hkn : k < n
    · obtain ⟨ad, x, rfl, hlx, hcx⟩ := (HR.out.ext hI.hx).int hkn
      by_cases h400 : (400 : Int) ≤ (k : Int)
      · skip
        obtain ⟨W1, hW1⟩ : ∃ W1, W1 = wr := ⟨_, rfl⟩
        subst hW1
        obtain ⟨D0, hDT0, hD0⟩ := hI.sp
        have HS := Lib.hid hD0.ok
        have R1 := Lib.hid hI.o1.rd
        have R2 := Lib.hid hI.o2.rd
        have HB := Lib.hid hI.blk
        have HX := Lib.hid hI.hx
        have HL1 := Lib.hid hI.lw
        have HL2 := Lib.hid hI.lh
        clear hD0 hDT0 hI NW AL LG HR
        go_wp2_with fail
        go_loopw [92] (fun vi w5 => ∃ (a : Nat), vi = .int .i64 (a : Int) ∧ a ≤ k ∧ Ext W1 w5) (fun vi _ => (402 - intOf vi).toNat)
        case atStart => exact ⟨0, rfl, by omega, Ext.refl _⟩
        case round =>
          clear b0 b1 b2 b3 b4
          obtain ⟨a, rfl, ha, hx⟩ := hrel
          by_cases hak : a < k
          · go_wp2_with fail
            go_loopw [13, 14] (fun vn vb w6 => ∃ (j : Nat) (N : Int), vn = .int .i64 N ∧ vb = .int .i64 (j : Int) ∧ a ≤ j ∧ j ≤ k ∧ Hid (N = cb hs a j) ∧ Hid (Busy ws a j) ∧ Ext W1 w6) (fun _ vb _ => (402 - intOf vb).toNat)
            case atStart => exact ⟨a, 0, rfl, rfl, by omega, by omega, Lib.hid (cb_start _ _).symm, Lib.hid (fun i h1 h2 => by omega), hx⟩
            case round =>
              clear hx
              obtain ⟨j, N, rfl, rfl, haj, hjk, hN, hBu, hx⟩ := hrel
              by_cases hj : j < k
              · obtain ⟨ad1, y, rfl, hly, hcy⟩ := (R1.out.ext hx).bl hj
                obtain ⟨ad2, x2, rfl, hlx2, hcx2⟩ := (R2.out.ext hx).bl hj
                obtain ⟨b0, b1, b2, b3, b4⟩ := (HB.out.ext hx).five
                cases y
                · go_wp2_with fail
                  go_roundw
                  case rel => exact ⟨a + 1, by go_num, by omega, hx⟩
                  case measure => simp [intOf]; omega
                · have hst := cb_step haj hlx2
                  rw [← hN.out] at hst
                  have hbd := cb_bound hs a j
                  rw [← hN.out, HL2.out] at hbd
                  obtain ⟨N', hN'⟩ : ∃ N', N + (if x2 then 1 else 0) = N' := ⟨_, rfl⟩
                  have NX : Hid (N' = cb hs a (j + 1)) := by rw [hst, ← hN']; exact rfl
                  have BN : Busy ws a (j + 1) := fun i h1 h2 => by
                    by_cases hi : i < j
                    · exact hBu.out i h1 hi
                    · rw [show i = j by omega]; exact hly
                  have hle := HS.out a j haj (by rw [HL2.out]; exact hj) BN
                  have hle' : given (gapOf K Q T) Q T ((j : Int) - a + 1) ≤ N' := by rw [NX.out]; exact hle
                  have BB := Lib.hid (fun w' => RB.out ((j : Int) - a + 1) w' (by omega) (by omega))
                  have HBN := Lib.hid BN
                  obtain ⟨G, hG⟩ : ∃ G, given (gapOf K Q T) Q T ((j : Int) - a + 1) = G := ⟨_, rfl⟩
                  rw [hG] at hle' BB
                  have e1 : IntKind.i64.wrap ((j : Int) - (a : Int)) = (j : Int) - (a : Int) := by rw [IntKind.wrap_i64]; omega
                  have e2 : IntKind.i64.wrap ((j : Int) - (a : Int) + 1) = (j : Int) - (a : Int) + 1 := by rw [IntKind.wrap_i64]; omega
                  have e7 : (N' < G) = False := by simp; omega
                  clear hG hle hst hlx2 hly hN BN hle'
                  cases x2
                  · simp only [Bool.false_eq_true, if_false, Int.add_zero] at hN'
                    subst hN'
                    go_wp2_with fail
                    refine (BB.out _).mono ?_
                    rintro en w7 ⟨rfl, hy⟩
                    go_wp2_with fail
                    go_roundw
                    case rel => exact ⟨j + 1, N, rfl, by go_num, by omega, by omega, NX, HBN, hx.trans hy⟩
                    case measure => simp [intOf]; omega
                  · simp only [if_true] at hN'
                    have e8 : IntKind.i64.wrap (N + 1) = N' := by rw [hN', IntKind.wrap_i64]; omega
                    clear hN'
                    go_wp2_with fail
                    refine (BB.out _).mono ?_
                    rintro en w7 ⟨rfl, hy⟩
                    go_wp2_with fail
                    go_roundw
                    case rel => exact ⟨j + 1, N', rfl, by go_num, by omega, by omega, NX, HBN, hx.trans hy⟩
                    case measure => simp [intOf]; omega
              · go_wp2_with fail
                go_roundw
                case rel => exact ⟨a + 1, by go_num, by omega, hx⟩
                case measure => simp [intOf]; omega
          · go_wp2_with fail
            go_ret
            exact ⟨rfl, HX.out.trans hx⟩
      · obtain ⟨wb, m1⟩ := bit0 x
        obtain ⟨tb, m2⟩ := bit1 x
        have hlen : (hs.length : Int) = (k : Int) := by rw [hI.lh]
        obtain ⟨D, hDT, hD⟩ := hI.sp
        have hbd := hD.b0
        have hcd := hI.cd
        have BG := Lib.hid (begin_any wr (now + (k : Int)) wb hI.sv (by simp only; omega) (by simp only; omega) (by simp only; omega))
        have w5 : IntKind.i64.wrap (now + (k : Int)) = now + (k : Int) := by rw [IntKind.wrap_i64]; omega
        obtain ⟨c', hc'⟩ : ∃ c', begC ⟨K, Q, T, now⟩ c (now + (k : Int)) wb = c' := ⟨_, rfl⟩
        have TK := fun {c2 : Ck} (x : Bool) hd hb h0 hx1 hx2 => sup_tick (c2 := c2) x H.out hlen (by rw [hI.lw, hI.lh]) hDT hD hc' hd hb h0 hx1 hx2
        have hcd' : now ≤ c'.d ∧ c'.d ≤ now + k + T := by
          have := beg_d (K := K) (Q := Q) (T := T) (s := now) (now := now + (k : Int)) (c := c) (wk := wb)
          rw [hc'] at this
          omega
        have hb' := beg_bound (K := K) (T := T) (s := now) (now := now + (k : Int)) (wk := wb) (show 1 ≤ Q ∧ Q ≤ 256 by omega) (c := c) (by omega)
        rw [hc'] at BG hb'
        clear hbd hcd
        have m3 : ((if wb = true then 1 else 0 : Int) == 1) = wb := by cases wb <;> rfl
        rw [← m1] at m3
        clear m1
        obtain ⟨rd, hrd⟩ : ∃ rd, (wb && decide (0 < c'.b)) = rd := ⟨_, rfl⟩
        rw [hrd] at BG
        obtain ⟨mu, hmu⟩ : ∃ mu, decide (c'.d - (now + (k : Int)) ≤ c'.b) = mu := ⟨_, rfl⟩
        have w6 : IntKind.i64.wrap (c'.d - (now + (k : Int))) = c'.d - (now + (k : Int)) := by rw [IntKind.wrap_i64]; omega
        have hgl := hI.hg
        have HC := Lib.hid hc'
        have HD := Lib.hid hD
        clear hc' hD
        go_wp2_with fail
        refine BG.out.mono ?_
        rintro en u1 ⟨rfl, h1, f1⟩
        have F1 := Fr.ext hI.hx f1 (fun i hi => by omega)
        have blk1 := hI.blk.keep f1 (by omega)
        have o11 := hI.o1.away f1 (fun a ha => by have := hI.o1.base_le a.block (by rw [ha]; rfl); omega)
        have o21 := hI.o2.away f1 (fun a ha => by have := hI.o2.base_le a.block (by rw [ha]; rfl); omega)
        clear b0 b1 b2 b3 b4 f1 BG hcx hlx
        obtain ⟨b0, b1, b2, b3, b4⟩ := blk1.five
        go_wp2_with fail
        refine (getter_deadline u1 h1).mono ?_
        rintro en v0 ⟨rfl, rfl⟩
        go_wp2_with fail
        refine (getter_budget u1 h1).mono ?_
        rintro en v0 ⟨rfl, rfl⟩
        have gl1 : g < u1.heap.size := h1.lt
        go_wp2_with (at_builtin; refine held ?_)
        refine Held.go (wp_app (m := 1) (news := bls [wb]) eltB (o11.alloc _) (Rd.new _ _ _ _) (bls_one _) (by omega) (.inr ⟨by omega, by omega⟩) (by simp; omega) _ _ rfl rfl rfl rfl ?_)
        intro A3 c3 w2 own3 g3 hA3 _
        have G3 : Fr u1 w2 (fun b => A1.map (·.block) = some b) := (Fr.of_ext ((Ext.refl u1).alloc _) _).trans (Fr.grows g3) (fun _ _ e => e)
        have hb1 : ∀ b, A1.map (·.block) = some b → g + 1 ≤ b := fun b hb => o11.base_le b hb
        have F2 := Fr.ext F1 G3 (fun i hm => by have := hb1 i hm; omega)
        have sv2 := h1.keep G3 (fun hm => by have := hb1 g hm; omega)
        have blk2 := blk1.keep G3 (fun hm => by have := hb1 _ hm; omega)
        have o22 := o21.away G3 (fun a ha hm => by
          obtain ⟨b, hb, hbb⟩ := Option.map_eq_some_iff.1 hm
          exact hI.ne b a hb ha hbb)
        have ne3 : ∀ a b, A3 = some a → A2 = some b → a.block ≠ b.block := fun a b ha hb => by
          rcases hA3 with e | e
          · exact hI.ne a b (e.symm.trans ha) hb
          · rw [e] at ha
            injection ha with ha
            subst ha
            have h1 := o21.lt_of hb
            simp
            omega
        clear G3 g3 hA3 b0 b1 b2 b3 b4
        obtain ⟨b0, b1, b2, b3, b4⟩ := blk2.five
        cases rd
        · skip
          have hnm : wb = true → 0 < c'.b → c'.b < c'.d - (now + (k : Int)) := fun hw hp => by rw [hw] at hrd; simp at hrd; omega
          have D3 := TK (c2 := c') false rfl (by simp) (by omega) (fun h => by cases h) (fun _ hw hp => hnm hw hp)
          have gl2 : g < w2.heap.size := sv2.lt
          go_wp2_with (at_builtin; refine held ?_)
          refine Held.go (wp_app (m := 1) (news := bls [false]) eltB (o22.alloc _) (Rd.new _ _ _ _) (bls_one _) (by omega) (.inr ⟨by omega, by omega⟩) (by simp; omega) _ _ rfl rfl rfl rfl ?_)
          intro A4 c4 w4 own4 g4 hA4 _
          have G4 : Fr w2 w4 (fun b => A2.map (·.block) = some b) := (Fr.of_ext ((Ext.refl w2).alloc _) _).trans (Fr.grows g4) (fun _ _ e => e)
          have hb2 : ∀ b, A2.map (·.block) = some b → g + 1 ≤ b := fun b hb => o22.base_le b hb
          have F4 := Fr.ext F2 G4 (fun i hm => by have := hb2 i hm; omega)
          have sv4 := sv2.keep G4 (fun hm => by have := hb2 g hm; omega)
          have blk4 := blk2.keep G4 (fun hm => by have := hb2 _ hm; omega)
          have o14 := own3.away G4 (fun a ha hm => by
            obtain ⟨b, hb, hbb⟩ := Option.map_eq_some_iff.1 hm
            exact ne3 a b ha hb hbb.symm)
          have ne4 : ∀ a b, A3 = some a → A4 = some b → a.block ≠ b.block := fun a b ha hb => by
            rcases hA4 with e | e
            · exact ne3 a b ha (e.symm.trans hb)
            · rw [e] at hb
              injection hb with hb
              subst hb
              have h1 := own3.lt_of ha
              simp
              omega
          rw [bls_app] at o14 own4
          obtain ⟨D', hD1, hD2⟩ := D3
          clear G4 g4 hA4
          go_wp2_with fail
          go_roundw
          case rel => exact ⟨k + 1, _, wb, ws ++ [wb], hs ++ [false], A3, c3, A4, c4, rfl, rfl, by go_num, by omega, by omega, ⟨sv4, F4, blk4, o14, own4, ne4, ⟨D', by rw [show ((k + 1 : Nat) : Int) = (k : Int) + 1 by omega]; exact hD1, hD2⟩, by first | (simp only; omega) | omega, by simp [hI.lh], by simp [hI.lw], hI.hg⟩⟩
          case measure => simp [intOf]; omega
        · have hp : 0 < c'.b := by cases wb <;> simp at hrd; exact hrd
          cases mu
          · cases tb
            · simp only [Bool.false_eq_true, if_false] at m2
              have hnm : wb = true → 0 < c'.b → c'.b < c'.d - (now + (k : Int)) := fun hw hp => by simp at hmu; omega
              have D3 := TK (c2 := c') false rfl (by simp) (by omega) (fun h => by cases h) (fun _ hw hp => hnm hw hp)
              have gl2 : g < w2.heap.size := sv2.lt
              go_wp2_with (at_builtin; refine held ?_)
              refine Held.go (wp_app (m := 1) (news := bls [false]) eltB (o22.alloc _) (Rd.new _ _ _ _) (bls_one _) (by omega) (.inr ⟨by omega, by omega⟩) (by simp; omega) _ _ rfl rfl rfl rfl ?_)
              intro A4 c4 w4 own4 g4 hA4 _
              have G4 : Fr w2 w4 (fun b => A2.map (·.block) = some b) := (Fr.of_ext ((Ext.refl w2).alloc _) _).trans (Fr.grows g4) (fun _ _ e => e)
              have hb2 : ∀ b, A2.map (·.block) = some b → g + 1 ≤ b := fun b hb => o22.base_le b hb
              have F4 := Fr.ext F2 G4 (fun i hm => by have := hb2 i hm; omega)
              have sv4 := sv2.keep G4 (fun hm => by have := hb2 g hm; omega)
              have blk4 := blk2.keep G4 (fun hm => by have := hb2 _ hm; omega)
              have o14 := own3.away G4 (fun a ha hm => by
                obtain ⟨b, hb, hbb⟩ := Option.map_eq_some_iff.1 hm
                exact ne3 a b ha hb hbb.symm)
              have ne4 : ∀ a b, A3 = some a → A4 = some b → a.block ≠ b.block := fun a b ha hb => by
                rcases hA4 with e | e
                · exact ne3 a b ha (e.symm.trans hb)
                · rw [e] at hb
                  injection hb with hb
                  subst hb
                  have h1 := own3.lt_of ha
                  simp
                  omega
              rw [bls_app] at o14 own4
              obtain ⟨D', hD1, hD2⟩ := D3
              clear G4 g4 hA4
              go_wp2_with fail
              go_roundw
              case rel => exact ⟨k + 1, _, wb, ws ++ [wb], hs ++ [false], A3, c3, A4, c4, rfl, rfl, by go_num, by omega, by omega, ⟨sv4, F4, blk4, o14, own4, ne4, ⟨D', by rw [show ((k + 1 : Nat) : Int) = (k : Int) + 1 by omega]; exact hD1, hD2⟩, by first | (simp only; omega) | omega, by simp [hI.lh], by simp [hI.lw], hI.hg⟩⟩
              case measure => simp [intOf]; omega
            · simp only [if_true] at m2
              go_wp2_with fail
              refine (charge_yes w2 sv2 hrd (by omega)).mono ?_
              rintro en w3 ⟨rfl, sv3, f3⟩
              have F3 := Fr.ext F2 f3 (fun i hi => by omega)
              have o13 := own3.away f3 (fun a ha => by have := own3.base_le a.block (by rw [ha]; rfl); omega)
              have o23 := o22.away f3 (fun a ha => by have := o22.base_le a.block (by rw [ha]; rfl); omega)
              have k3 := blk2.keep f3 (by omega)
              have D3 := TK (c2 := ⟨c'.b - 1, c'.d, c'.on⟩) true rfl (by simp) (by simp only; omega) (fun _ => by cases wb <;> simp at hrd; rfl) (fun h => by cases h)
              have gl2 : g < w3.heap.size := sv3.lt
              go_wp2_with (at_builtin; refine held ?_)
              refine Held.go (wp_app (m := 1) (news := bls [true]) eltB (o23.alloc _) (Rd.new _ _ _ _) (bls_one _) (by omega) (.inr ⟨by omega, by omega⟩) (by simp; omega) _ _ rfl rfl rfl rfl ?_)
              intro A4 c4 w4 own4 g4 hA4 _
              have G4 : Fr w3 w4 (fun b => A2.map (·.block) = some b) := (Fr.of_ext ((Ext.refl w3).alloc _) _).trans (Fr.grows g4) (fun _ _ e => e)
              have hb2 : ∀ b, A2.map (·.block) = some b → g + 1 ≤ b := fun b hb => o23.base_le b hb
              have F4 := Fr.ext F3 G4 (fun i hm => by have := hb2 i hm; omega)
              have sv4 := sv3.keep G4 (fun hm => by have := hb2 g hm; omega)
              have blk4 := k3.keep G4 (fun hm => by have := hb2 _ hm; omega)
              have o14 := o13.away G4 (fun a ha hm => by
                obtain ⟨b, hb, hbb⟩ := Option.map_eq_some_iff.1 hm
                exact ne3 a b ha hb hbb.symm)
              have ne4 : ∀ a b, A3 = some a → A4 = some b → a.block ≠ b.block := fun a b ha hb => by
                rcases hA4 with e | e
                · exact ne3 a b ha (e.symm.trans hb)
                · rw [e] at hb
                  injection hb with hb
                  subst hb
                  have h1 := o13.lt_of ha
                  simp
                  omega
              rw [bls_app] at o14 own4
              obtain ⟨D', hD1, hD2⟩ := D3
              clear G4 g4 hA4
              go_wp2_with fail
              go_roundw
              case rel => exact ⟨k + 1, _, wb, ws ++ [wb], hs ++ [true], A3, c3, A4, c4, rfl, rfl, by go_num, by omega, by omega, ⟨sv4, F4, blk4, o14, own4, ne4, ⟨D', by rw [show ((k + 1 : Nat) : Int) = (k : Int) + 1 by omega]; exact hD1, hD2⟩, by first | (simp only; omega) | omega, by simp [hI.lh], by simp [hI.lw], hI.hg⟩⟩
              case measure => simp [intOf]; omega
          · skip
            go_wp2_with fail
            refine (charge_yes w2 sv2 hrd (by omega)).mono ?_
            rintro en w3 ⟨rfl, sv3, f3⟩
            have F3 := Fr.ext F2 f3 (fun i hi => by omega)
            have o13 := own3.away f3 (fun a ha => by have := own3.base_le a.block (by rw [ha]; rfl); omega)
            have o23 := o22.away f3 (fun a ha => by have := o22.base_le a.block (by rw [ha]; rfl); omega)
            have k3 := blk2.keep f3 (by omega)
            have D3 := TK (c2 := ⟨c'.b - 1, c'.d, c'.on⟩) true rfl (by simp) (by simp only; omega) (fun _ => by cases wb <;> simp at hrd; rfl) (fun h => by cases h)
            have gl2 : g < w3.heap.size := sv3.lt
            go_wp2_with (at_builtin; refine held ?_)
            refine Held.go (wp_app (m := 1) (news := bls [true]) eltB (o23.alloc _) (Rd.new _ _ _ _) (bls_one _) (by omega) (.inr ⟨by omega, by omega⟩) (by simp; omega) _ _ rfl rfl rfl rfl ?_)
            intro A4 c4 w4 own4 g4 hA4 _
            have G4 : Fr w3 w4 (fun b => A2.map (·.block) = some b) := (Fr.of_ext ((Ext.refl w3).alloc _) _).trans (Fr.grows g4) (fun _ _ e => e)
            have hb2 : ∀ b, A2.map (·.block) = some b → g + 1 ≤ b := fun b hb => o23.base_le b hb
            have F4 := Fr.ext F3 G4 (fun i hm => by have := hb2 i hm; omega)
            have sv4 := sv3.keep G4 (fun hm => by have := hb2 g hm; omega)
            have blk4 := k3.keep G4 (fun hm => by have := hb2 _ hm; omega)
            have o14 := o13.away G4 (fun a ha hm => by
              obtain ⟨b, hb, hbb⟩ := Option.map_eq_some_iff.1 hm
              exact ne3 a b ha hb hbb.symm)
            have ne4 : ∀ a b, A3 = some a → A4 = some b → a.block ≠ b.block := fun a b ha hb => by
              rcases hA4 with e | e
              · exact ne3 a b ha (e.symm.trans hb)
              · rw [e] at hb
                injection hb with hb
                subst hb
                have h1 := o13.lt_of ha
                simp
                omega
            rw [bls_app] at o14 own4
            obtain ⟨D', hD1, hD2⟩ := D3
            clear G4 g4 hA4
            go_wp2_with fail
            go_roundw
            case rel => exact ⟨k + 1, _, wb, ws ++ [wb], hs ++ [true], A3, c3, A4, c4, rfl, rfl, by go_num, by omega, by omega, ⟨sv4, F4, blk4, o14, own4, ne4, ⟨D', by rw [show ((k + 1 : Nat) : Int) = (k : Int) + 1 by omega]; exact hD1, hD2⟩, by first | (simp only; omega) | omega, by simp [hI.lh], by simp [hI.lw], hI.hg⟩⟩
            case measure => simp [intOf]; omega
    · skip
      obtain ⟨W1, hW1⟩ : ∃ W1, W1 = wr := ⟨_, rfl⟩
      subst hW1
      obtain ⟨D0, hDT0, hD0⟩ := hI.sp
      have HS := Lib.hid hD0.ok
      have R1 := Lib.hid hI.o1.rd
      have R2 := Lib.hid hI.o2.rd
      have HB := Lib.hid hI.blk
      have HX := Lib.hid hI.hx
      have HL1 := Lib.hid hI.lw
      have HL2 := Lib.hid hI.lh
      clear hD0 hDT0 hI NW AL LG HR
      go_wp2_with fail
      go_loopw [92] (fun vi w5 => ∃ (a : Nat), vi = .int .i64 (a : Int) ∧ a ≤ k ∧ Ext W1 w5) (fun vi _ => (402 - intOf vi).toNat)
      case atStart => exact ⟨0, rfl, by omega, Ext.refl _⟩
      case round =>
        clear b0 b1 b2 b3 b4
        obtain ⟨a, rfl, ha, hx⟩ := hrel
        by_cases hak : a < k
        · go_wp2_with fail
          go_loopw [13, 14] (fun vn vb w6 => ∃ (j : Nat) (N : Int), vn = .int .i64 N ∧ vb = .int .i64 (j : Int) ∧ a ≤ j ∧ j ≤ k ∧ Hid (N = cb hs a j) ∧ Hid (Busy ws a j) ∧ Ext W1 w6) (fun _ vb _ => (402 - intOf vb).toNat)
          case atStart => exact ⟨a, 0, rfl, rfl, by omega, by omega, Lib.hid (cb_start _ _).symm, Lib.hid (fun i h1 h2 => by omega), hx⟩
          case round =>
            clear hx
            obtain ⟨j, N, rfl, rfl, haj, hjk, hN, hBu, hx⟩ := hrel
            by_cases hj : j < k
            · obtain ⟨ad1, y, rfl, hly, hcy⟩ := (R1.out.ext hx).bl hj
              obtain ⟨ad2, x2, rfl, hlx2, hcx2⟩ := (R2.out.ext hx).bl hj
              obtain ⟨b0, b1, b2, b3, b4⟩ := (HB.out.ext hx).five
              cases y
              · go_wp2_with fail
                go_roundw
                case rel => exact ⟨a + 1, by go_num, by omega, hx⟩
                case measure => simp [intOf]; omega
              · have hst := cb_step haj hlx2
                rw [← hN.out] at hst
                have hbd := cb_bound hs a j
                rw [← hN.out, HL2.out] at hbd
                obtain ⟨N', hN'⟩ : ∃ N', N + (if x2 then 1 else 0) = N' := ⟨_, rfl⟩
                have NX : Hid (N' = cb hs a (j + 1)) := by rw [hst, ← hN']; exact rfl
                have BN : Busy ws a (j + 1) := fun i h1 h2 => by
                  by_cases hi : i < j
                  · exact hBu.out i h1 hi
                  · rw [show i = j by omega]; exact hly
                have hle := HS.out a j haj (by rw [HL2.out]; exact hj) BN
                have hle' : given (gapOf K Q T) Q T ((j : Int) - a + 1) ≤ N' := by rw [NX.out]; exact hle
                have BB := Lib.hid (fun w' => RB.out ((j : Int) - a + 1) w' (by omega) (by omega))
                have HBN := Lib.hid BN
                obtain ⟨G, hG⟩ : ∃ G, given (gapOf K Q T) Q T ((j : Int) - a + 1) = G := ⟨_, rfl⟩
                rw [hG] at hle' BB
                have e1 : IntKind.i64.wrap ((j : Int) - (a : Int)) = (j : Int) - (a : Int) := by rw [IntKind.wrap_i64]; omega
                have e2 : IntKind.i64.wrap ((j : Int) - (a : Int) + 1) = (j : Int) - (a : Int) + 1 := by rw [IntKind.wrap_i64]; omega
                have e7 : (N' < G) = False := by simp; omega
                clear hG hle hst hlx2 hly hN BN hle'
                cases x2
                · simp only [Bool.false_eq_true, if_false, Int.add_zero] at hN'
                  subst hN'
                  go_wp2_with fail
                  refine (BB.out _).mono ?_
                  rintro en w7 ⟨rfl, hy⟩
                  go_wp2_with fail
                  go_roundw
                  case rel => exact ⟨j + 1, N, rfl, by go_num, by omega, by omega, NX, HBN, hx.trans hy⟩
                  case measure => simp [intOf]; omega
                · simp only [if_true] at hN'
                  have e8 : IntKind.i64.wrap (N + 1) = N' := by rw [hN', IntKind.wrap_i64]; omega
                  clear hN'
                  go_wp2_with fail
                  refine (BB.out _).mono ?_
                  rintro en w7 ⟨rfl, hy⟩
                  go_wp2_with fail
                  go_roundw
                  case rel => exact ⟨j + 1, N', rfl, by go_num, by omega, by omega, NX, HBN, hx.trans hy⟩
                  case measure => simp [intOf]; omega
            · go_wp2_with fail
              go_roundw
              case rel => exact ⟨a + 1, by go_num, by omega, hx⟩
              case measure => simp [intOf]; omega
        · go_wp2_with fail
          go_ret
          exact ⟨rfl, HX.out.trans hx⟩
theorem supplies_any (K Q T now : Int) (A : Option Addr) (n c0 : Nat) (l : List Int) (w : World) {p : Addr} (hS : Sen w 0 p) (hr : Rd w 1 A n (ints l)) :
    Calls Tryd.prog 6 #[srow K Q T now A n c0] w fun e w' => e = .returned (.bool true) ∧ Ext w w' := by
  by_cases h : Legal K Q T
  · by_cases hn : 0 ≤ now ∧ now ≤ 1099511627776
    · exact supplies_yes K Q T now A n c0 l w hS h hn hr
    · exact supplies_no K Q T now A n c0 w hS (Lib.hid (fun w => legal_late K Q T now w h hn))
  · exact supplies_no K Q T now A n c0 w hS (Lib.hid (fun w => legal_no K Q T now w h))
end Go.Proofs.YtakilnelbmbjdaaDoor
