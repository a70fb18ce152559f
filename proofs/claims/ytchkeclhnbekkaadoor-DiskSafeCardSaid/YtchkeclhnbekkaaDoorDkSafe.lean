/-
  The statement DiskSafe, walked.
-/
import Derived.Test.YtchkeclhnbekkaaDoorDkSafeS
import Derived.BigRegion
namespace Go.Proofs.YtchkeclhnbekkaaDoor
set_option maxRecDepth 100000
open Go.RowKit Go.Maps
set_option linter.unusedVariables false
theorem add_lit (a : Addr) {k : Nat} (hk : k ≠ 0) : a.add k = ⟨a.block, a.off + k, none⟩ := by unfold Addr.add; rw [if_neg hk]
theorem half0Run {w : World} {sb r : Nat} {s : List Nat} (h : Rd w 1 (some ⟨sb, 0, none⟩) r (u8s s)) (hr : r = 64 := by rfl) : (convert 32 9 (.slice (some ⟨sb, 0, none⟩) 32 64)).run Tryd.prog w = .ok (.string (str (halfL 0 s))) w := by
  subst hr
  exact run_str Tryd.underlying32 Tryd.underlying5 Tryd.underlying9 64 (h.u8take (k := 32) (by omega))
theorem half1Run {w : World} {sb r : Nat} {s : List Nat} (h : Rd w 1 (some ⟨sb, 0, none⟩) r (u8s s)) (hr : r = 64 := by rfl) : (convert 32 9 (.slice (some ⟨sb, 32, none⟩) 32 32)).run Tryd.prog w = .ok (.string (str (halfL 1 s))) w := by
  subst hr
  have h1 := (h.u8off (k := 32) (by omega)).u8take (k := 32) (by omega)
  rw [Nat.zero_add] at h1
  exact run_str Tryd.underlying32 Tryd.underlying5 Tryd.underlying9 32 h1
/-- The rows beside the disk: what was flushed last, what was written behind it. -/
structure SB (w wr : World) (X : Nat → Prop) (bb : Nat) (LA : Option Addr) (lm lc : Nat) (bs : List Nat) (lb : List (Nat × List Nat)) : Prop where
  brd : Rd wr 1 (some ⟨bb, 0, none⟩) 64 (u8s bs)
  xb : X bb
  lrd : ∀ p ∈ lb, X p.1 ∧ Rd wr 1 (some ⟨p.1, 0, none⟩) 64 (u8s p.2)
  own : Own wr w.heap.size 32 1 LA lm lc (lvals lb)
  la : ∀ a, LA = some a → X a.block ∧ a.block ≠ bb ∧ ∀ p ∈ lb, a.block ≠ p.1
theorem Own.none_zero {w : World} {base n c : Nat} {e : TypeId} {size : Nat} {xs : List Value} (h : Own w base e size none n c xs) : n = 0 := by
  rcases h.2 with ⟨h1, h2⟩ | ⟨q, cap, cur, h1, _⟩
  · exact h2
  · cases h1
theorem Own.some_head {w : World} {base n c : Nat} {e : TypeId} {size : Nat} {a : Addr} {xs : List Value} (h : Own w base e size (some a) n c xs) : ∃ T, a = ⟨T, 0, none⟩ := by
  rcases h.2 with ⟨h1, h2⟩ | ⟨q, cap, cur, h1, _⟩
  · cases h1
  · injection h1 with h1
    injection h1 with h1
    exact ⟨q, h1⟩
def SS (w wr : World) (g bb : Nat) (LA : Option Addr) (lm lc : Nat) (lb : List (Nat × List Nat)) (Zm : Nat) : Prop := ∃ X bs r, SD w wr g X bs (lb.map (·.2)) r Zm ∧ SB w wr X bb LA lm lc bs lb
theorem SS.ex {w wr : World} {g bb : Nat} {LA : Option Addr} {lm lc : Nat} {lb : List (Nat × List Nat)} {Zm : Nat} (h : SS w wr g bb LA lm lc lb Zm) : ∃ X bs r, SD w wr g X bs (lb.map (·.2)) r Zm ∧ SB w wr X bb LA lm lc bs lb := h
theorem rd0' {w w' : World} {P : Nat → Prop} {q n : Nat} {xs : List Value} (hf : Fr w w' P) (h : Rd w 1 (some ⟨q, 0, none⟩) n xs) (hq : ¬ P q) : Rd w' 1 (some ⟨q, 0, none⟩) n xs :=
  hf.rd h (fun a ha => by injection ha with ha; subst ha; exact hq)
theorem rd_keep {w w' : World} {q n : Nat} {xs : List Value} (h : Rd w 1 (some ⟨q, 0, none⟩) n xs) (hk : w'.heap[q]? = w.heap[q]?) (hz : w.heap.size ≤ w'.heap.size) : Rd w' 1 (some ⟨q, 0, none⟩) n xs :=
  ⟨h.1, fun hn => by
    obtain ⟨ad, e, hlt, hc⟩ := h.2 hn
    injection e with e
    subst e
    refine ⟨_, rfl, Nat.lt_of_lt_of_le hlt hz, fun j u hu => (World.cell?_of_block ?_).trans (hc j u hu)⟩
    rw [add_block]
    exact hk⟩
section
variable {w wr w' : World} {X Y : Nat → Prop} {bb lm lc g Zm : Nat} {LA : Option Addr} {bs r : List Nat} {lb : List (Nat × List Nat)} {cs : List (List Nat)}
theorem SB.keep (h : SB w wr X bb LA lm lc bs lb) (k : Kp X wr w') : SB w w' X bb LA lm lc bs lb :=
  have hk := k.kp
  have hz := k.sz
  ⟨rd_keep h.brd (hk _ h.xb) hz, h.xb, fun p hp => ⟨(h.lrd p hp).1, rd_keep (h.lrd p hp).2 (hk _ (h.lrd p hp).1) hz⟩, by
    refine ⟨h.own.1, ?_⟩
    rcases h.own.2 with h1 | ⟨q, cap, cur, h1, hb, hgg, rest⟩
    · exact .inl h1
    · refine .inr ⟨q, cap, cur, h1, hb, (hk q ?_).trans hgg, rest⟩
      injection h1 with h1
      exact (h.la _ h1).1, h.la⟩
theorem SB.ext (h : SB w wr X bb LA lm lc bs lb) (hx : Ext wr w') : SB w w' X bb LA lm lc bs lb :=
  ⟨h.brd.ext hx, h.xb, fun p hp => ⟨(h.lrd p hp).1, (h.lrd p hp).2.ext hx⟩, h.own.ext hx, h.la⟩
theorem SB.wide (h : SB w wr X bb LA lm lc bs lb) (hY : ∀ q, X q → Y q) : SB w wr Y bb LA lm lc bs lb :=
  ⟨h.brd, hY _ h.xb, fun p hp => ⟨hY _ (h.lrd p hp).1, (h.lrd p hp).2⟩, h.own, fun a ha => ⟨hY _ (h.la a ha).1, (h.la a ha).2⟩⟩
/-- One more sector behind the base. -/
theorem ss_app {w5 wq w6 : World} {s : List Nat} {fb3 c6 : Nat} {A6 : Option Addr} (hS : SD w w5 g X bs (lb.map (·.2) ++ [s]) s Zm) (hB : SB w w5 X bb LA lm lc bs lb) (hx : Ext w5 wq) (hfx : X fb3) (r5 : Rd w5 1 (some ⟨fb3, 0, none⟩) 64 (u8s s)) (hfl : ∀ a, LA = some a → a.block ≠ fb3)
    (o6 : Own w6 w.heap.size 32 1 A6 (lm + 1) c6 (lvals lb ++ [.slice (some ⟨fb3, 0, none⟩) 64 64])) (g6 : Grows wq w6 LA) (hA6 : A6 = LA ∨ A6 = some ⟨wq.heap.size, 0, none⟩) :
    ∃ X', SD w w6 g X' bs ((lb ++ [(fb3, s)]).map (·.2)) s Zm ∧ SB w w6 X' bb A6 (lm + 1) c6 bs (lb ++ [(fb3, s)]) := by
  have ff : Fr w5 w6 (fun b => LA.map (·.block) = some b) := (Fr.of_ext hx _).trans (Fr.grows g6) (fun _ _ h => h)
  have hz := hx.size
  have hz6 := ff.size
  have nLA : ∀ q, (∀ a, LA = some a → a.block ≠ q) → ¬ LA.map (·.block) = some q := fun q hq e => by
    obtain ⟨a, ha, hab⟩ := Option.map_eq_some_iff.1 e
    exact hq a ha hab
  obtain ⟨f, l, nw, h0, hr⟩ := hS.ex
  obtain ⟨F, b, m, c, Z, A, h1, h2, h3, h4, h5, h6⟩ := h0.ex
  have nF : ∀ p, F p → ¬ LA.map (·.block) = some p := fun p hp e => by
    obtain ⟨a, ha, hab⟩ := Option.map_eq_some_iff.1 e
    exact (h6 p hp).2.1 (hab ▸ (hB.la a ha).1)
  have hLw : ∀ q, LA.map (·.block) = some q → w.heap.size ≤ q := fun q e => hB.own.base_le q e
  have hA6l : ∀ a, A6 = some a → a.block < w6.heap.size := fun a ha => o6.lt_at ha
  refine ⟨fun q => X q ∨ A6.map (·.block) = some q, ⟨f, l, nw, ⟨⟨F, b, m, c, Z, A, h1.fr ff (nF g h2) (nF b h3) (fun a ha => nF _ (h4 a ha)), h2, h3, h4, h5, fun p hp => ⟨(h6 p hp).1, fun e => ?_, Nat.lt_of_lt_of_le (h6 p hp).2.2 hz6⟩⟩, h0.nws, Fr.ext h0.ext ff hLw, fun p hp => ?_⟩, ?_⟩, ⟨rd0' ff hB.brd (nLA bb (fun a ha => (hB.la a ha).2.1)), .inl hB.xb, fun p hp => ?_, ?_, fun a ha => ?_⟩⟩
  · rcases e with e | e
    · exact (h6 p hp).2.1 e
    · obtain ⟨a, ha, rfl⟩ := Option.map_eq_some_iff.1 e
      rcases hA6 with e2 | e2
      · rw [e2] at ha
        exact (h6 _ hp).2.1 (hB.la a ha).1
      · rw [e2] at ha
        injection ha with ha
        subst ha
        have h7 := (h6 _ hp).2.2
        have h7 : wq.heap.size < w5.heap.size := h7
        omega
  · rcases hp with hp | hp
    · exact Nat.lt_of_lt_of_le (h0.xl p hp) hz6
    · obtain ⟨a, ha, rfl⟩ := Option.map_eq_some_iff.1 hp
      exact hA6l a ha
  · obtain ⟨k1, k2, k3, k4, k5⟩ := hr
    refine ⟨k1, k2, k3, fun x hx2 e => ?_, k5⟩
    have := k4 x hx2 e
    rw [List.map_append]
    exact this
  · rcases List.mem_append.1 hp with hp | hp
    · exact ⟨.inl (hB.lrd p hp).1, rd0' ff (hB.lrd p hp).2 (nLA _ (fun a ha => (hB.la a ha).2.2 p hp))⟩
    · simp at hp
      subst hp
      exact ⟨.inl hfx, rd0' ff r5 (nLA fb3 hfl)⟩
  · rw [show lvals (lb ++ [(fb3, s)]) = lvals lb ++ [.slice (some ⟨fb3, 0, none⟩) 64 64] by simp [lvals]]
    exact o6
  · refine ⟨.inr (by rw [ha]; rfl), ?_⟩
    rcases hA6 with e2 | e2
    · rw [e2] at ha
      refine ⟨(hB.la a ha).2.1, fun p hp => ?_⟩
      rcases List.mem_append.1 hp with hp | hp
      · exact (hB.la a ha).2.2 p hp
      · simp at hp
        subst hp
        exact hfl a ha
    · rw [e2] at ha
      injection ha with ha
      subst ha
      have hbl : bb < w5.heap.size := h0.xl bb hB.xb
      have hfl2 : fb3 < w5.heap.size := h0.xl fb3 hfx
      refine ⟨by show wq.heap.size ≠ bb; omega, fun p hp => ?_⟩
      rcases List.mem_append.1 hp with hp | hp
      · have := h0.xl p.1 (hB.lrd p hp).1
        show wq.heap.size ≠ p.1
        omega
      · simp at hp
        subst hp
        show wq.heap.size ≠ fb3
        omega
end
set_option maxHeartbeats 12800000 in
theorem dsafe_any (A : Option Addr) (n c0 kp : Nat) (vs : List Value) (ps : List (List Nat)) (fl torn : Int) (w : World) (hW : WL w n A vs ps) (hn : n * 24 ≤ 140737488351232) (hkp : kp < 18446744073709551616) {pn pl pg : Addr} (hE : DE w pn pl pg) :
    Calls Tryd.prog 3 #[.agg #[.slice A n c0, .int .i64 fl, .int .i64 torn, .int .u64 (kp : Int)]] w fun e w' => e = .returned (.bool true) ∧ Ext w w' := by
  have X0 := (Ext.refl w).alloc (.cells #[.slice A n c0, .int .i64 fl, .int .i64 torn, .int .u64 (kp : Int)] 25)
  have hb0 := heap_alloc_new w (.cells #[.slice A n c0, .int .i64 fl, .int .i64 torn, .int .u64 (kp : Int)] 25)
  have HE := Lib.hid hE
  have HW := Lib.hid (And.intro hW (And.intro hn hkp))
  have HX0 := Lib.hid (And.intro X0 (hE.ext X0))
  have q0 : (w.alloc (.cells #[.slice A n c0, .int .i64 fl, .int .i64 torn, .int .u64 (kp : Int)] 25)).cell? ⟨w.heap.size, 0, none⟩ = some (.slice A n c0) := block_cell hb0 0
  have q1 : (w.alloc (.cells #[.slice A n c0, .int .i64 fl, .int .i64 torn, .int .u64 (kp : Int)] 25)).cell? ⟨w.heap.size, 1, none⟩ = some (.int .i64 fl) := block_cell hb0 1
  have q2 : (w.alloc (.cells #[.slice A n c0, .int .i64 fl, .int .i64 torn, .int .u64 (kp : Int)] 25)).cell? ⟨w.heap.size, 2, none⟩ = some (.int .i64 torn) := block_cell hb0 2
  have q3 : (w.alloc (.cells #[.slice A n c0, .int .i64 fl, .int .i64 torn, .int .u64 (kp : Int)] 25)).cell? ⟨w.heap.size, 3, none⟩ = some (.int .u64 (kp : Int)) := block_cell hb0 3
  clear hW hE hkp X0 hb0
  go_enter Tryd.func3, Tryd.ntmps3
  go_wp2_with fail
  go_quiet (fail)
  have AL := fun q => Lib.hid (dalive_any ((w.alloc (.cells #[.slice A n c0, .int .i64 fl, .int .i64 torn, .int .u64 (kp : Int)] 25)).drewN q) (HX0.out.2.ext ((Ext.refl _).drewN q)))
  have HX1 := Lib.hid (fun q => HX0.out.1.drewN q)
  clear q0 q1 q2 q3
  go_wp2_with fail
  refine (AL _).out.mono ?_
  rintro e0 w1 ⟨rfl, x1⟩
  have x1' : Ext w w1 := (HX1.out _).trans x1
  have NW := Lib.hid (DL.new w1 x1' 3 (by omega) (by omega))
  clear AL x1 x1' HX0 HX1
  go_wp2_with fail
  refine NW.out.mono ?_
  rintro e0 w2 ⟨rfl, d2, x2⟩
  generalize w1.heap.size + 1 = g at *
  have FI := Lib.hid (filled_any none 0 0 [] w2 (by omega) Rd.nil_)
  have D2 := Lib.hid (d2.sub (Y := fun _ => False) (fun q h => h.elim))
  clear NW d2 x2
  go_wp2_with fail
  refine FI.out.mono ?_
  rintro e0 w3 ⟨rfl, o3, x3⟩
  have d3 : SD w w3 g (fun b => False ∨ b = w2.heap.size) z64 [] z64 0 := ⟨_, _, _, D2.out.add x3 (Nat.le_refl _) o3.lt, rfl, (fun x hx => by cases hx), rfl, (fun x hx => by cases hx), rfl⟩
  have r3 : Rd w3 1 (some ⟨w2.heap.size, 0, none⟩) 64 (u8s z64) := o3.rd
  have D3 := Lib.hid (And.intro d3 r3)
  clear FI o3 x3 d3 r3 D2
  generalize w2.heap.size = bb at *
  have A3 := Lib.hid (show SS w (w3.alloc (.cells #[] 32)) g bb (some ⟨w3.heap.size, 0, none⟩) 0 0 [] 0 from by
    have hx := (Ext.refl w3).alloc (.cells #[] 32)
    have hw := D3.out.1.wext.size
    have ho : Own (w3.alloc (.cells #[] 32)) w.heap.size 32 1 (some ⟨w3.heap.size, 0, none⟩) 0 0 [] := World.ownsRow_lit (size := 1) w3 #[] 0 hw (by simp [maxLen]) rfl
    refine ⟨_, z64, z64, D3.out.1.add hx (Nat.le_refl _) (by simp), ⟨D3.out.2.ext hx, .inl (.inr rfl), (fun p hp => by cases hp), ho, fun a ha => ?_⟩⟩
    injection ha with ha
    subst ha
    refine ⟨.inr rfl, fun e => ?_, fun p hp => by cases hp⟩
    have h1 := D3.out.1.xl (q := bb) (.inr rfl)
    have e : w3.heap.size = bb := e
    omega)
  clear D3
  go_wp2_with fail
  generalize w3.alloc (.cells #[] 32) = w4 at *
  generalize w3.heap.size = lb0 at *
  go_loopw [9, 10, 44] (fun v9 v10 v44 wr => ∃ (i bb lm lc : Nat) (LA : Option Addr) (lb : List (Nat × List Nat)), v44 = .int .i64 (i : Int) ∧ v9 = .slice (some ⟨bb, 0, none⟩) 64 64 ∧ v10 = .slice LA lm lc ∧ i ≤ n ∧ i ≤ 101 ∧ lm ≤ i ∧ Hid (SS w wr g bb LA lm lc lb (2 * i))) (fun _ _ v44 _ => n - (intOf v44).toNat)
  case atStart => exact ⟨0, bb, 0, 0, _, [], rfl, rfl, rfl, by omega, by omega, by omega, A3.out⟩
  case round =>
    obtain ⟨i, bb', lm, lc, LA, lb, rfl, rfl, rfl, hi, h101, hlm, HI⟩ := hrel
    obtain ⟨U2, hU2⟩ : ∃ V : World, V = wr := ⟨_, rfl⟩
    subst hU2
    obtain ⟨X, bs, r, hS0, hB0⟩ := HI.out.ex
    have HA := Lib.hid (And.intro hS0 hB0)
    clear HI hS0 hB0
    rcases LA with _ | a
    · obtain rfl : lm = 0 := HA.out.2.own.none_zero
      by_cases hlt : i < n
      · have hext0 := HA.out.1.wext
        obtain ⟨ad, rfl, _, hcell⟩ := (HW.out.1.rd.ext hext0).2 (show 0 < n by omega)
        obtain ⟨p, hp⟩ : ∃ p, ps[i]? = some p := ⟨_, List.getElem?_eq_getElem (by have := HW.out.1.len; omega)⟩
        obtain ⟨⟨B, d, hv, hrB⟩, hbyte, hplen⟩ := HW.out.1.at_ i p hp
        have cv := hcell i _ hv
        have z0 : (0 : Int) ≤ i := by omega
        have z1 : (i : Int) < n := by omega
        have HP := Lib.hid (And.intro hrB (And.intro (fillL_sec hbyte) hplen))
        clear hext0 hcell hp hv hrB hbyte hplen
        obtain ⟨s, hs⟩ : ∃ s, fillL p = s := ⟨_, rfl⟩
        have HSS := Lib.hid hs
        clear hs
        go_upto_region 12 with (fail)
        clear cv
        by_cases h100 : (100 : Int) < (i : Int)
        · have CR := Lib.hid (HA.out.1.crash (by omega) kp HW.out.2.2 torn)
          go_wp2_with fail
          refine CR.out.mono ?_
          rintro e0 w1 ⟨rfl, c1, k1⟩
          have S1 := HA.out.2.keep k1
          obtain ⟨f, nw, d1, hf0, hh⟩ := c1.ex
          have RD1 := Lib.hid (d1.read HE.out (by omega) 1 (by omega) (by omega))
          have H1 := Lib.hid (And.intro d1 S1)
          have HH0 := Lib.hid (And.intro hf0 hh)
          clear CR c1 k1 S1 d1 hf0 hh
          go_wp2_with fail
          refine RD1.out.mono ?_
          rintro e0 w2 ⟨vb, rfl, r2, _, _, x2⟩
          have RD0 := Lib.hid ((H1.out.1.ex' x2).read HE.out (by omega) 0 (by omega) (by omega))
          rw [readW_stays (fun x hx => by cases hx)] at r2
          have H2 := Lib.hid (And.intro r2 (And.intro (H1.out.1.ex' x2) (H1.out.2.ext x2)))
          clear RD1 r2 x2
          go_wp2_with fail
          refine RD0.out.mono ?_
          rintro e0 w3 ⟨zb, rfl, r3, _, _, x3⟩
          rw [readW_stays (fun x hx => by cases hx), HH0.out.1] at r3
          have H3 := Lib.hid (And.intro (H2.out.1.ext x3) (And.intro r3 (And.intro (H2.out.2.1.ex' x3).ext (H2.out.2.2.ext x3))))
          clear RD0 r3 x3
          have HS1 : (convert 32 9 (.slice (some ⟨zb, 0, none⟩) 64 64)).run Tryd.prog w3.drew = .ok (.string (str z64)) w3.drew := strRun (H3.out.2.1.ext (Ext.refl w3).drew)
          have FI := Lib.hid (filled_any none 0 0 [] w3.drew (by omega) Rd.nil_)
          go_upto_region 24 with (fail)
          refine d_region (fun W : World => (convert 32 9 (.slice (some ⟨zb, 0, none⟩) 64 64)).run Tryd.prog W = .ok (.string (str z64)) W) [] (by kernel_rfl) ?_
          refine d_take (i := 0) (v := ?_) [] (some 91) rfl (by rfl) (by kernel_rfl) (by kernel_rfl) (by kernel_rfl) (by kernel_rfl) (by kernel_rfl) (by kernel_rfl) (fun _ _ _ h => h) (.inl ⟨by rfl, ?_⟩) HS1 ?_
          rotate_left 1
          · (intro W hW; (try dsimp only at hW); go_simp; try with_reducible rfl)
          try simp only [Act.put, List.setIfInBounds_toArray, List.set_cons_zero, List.set_cons_succ]
          refine d_take (i := 1) (v := ?_) [] (some 92) rfl (by rfl) (by kernel_rfl) (by kernel_rfl) (by kernel_rfl) (by kernel_rfl) (by kernel_rfl) (by kernel_rfl) (fun _ _ _ h => h) (.inl ⟨by rfl, ?_⟩) HS1 ?_
          rotate_left 1
          · (intro W hW; (try dsimp only at hW); go_simp; try with_reducible rfl)
          try simp only [Act.put, List.setIfInBounds_toArray, List.set_cons_zero, List.set_cons_succ]
          refine d_take (i := 2) (v := ?_) [] (some 93) rfl (by rfl) (by kernel_rfl) (by kernel_rfl) (by kernel_rfl) (by kernel_rfl) (by kernel_rfl) (by kernel_rfl) (fun _ _ _ h => h) (.inl ⟨by rfl, ?_⟩) HS1 ?_
          rotate_left 1
          · (intro W hW; (try dsimp only at hW); go_simp; try with_reducible rfl)
          try simp only [Act.put, List.setIfInBounds_toArray, List.set_cons_zero, List.set_cons_succ]
          refine d_take (i := 3) (v := ?_) [] (some 94) rfl (by rfl) (by kernel_rfl) (by kernel_rfl) (by kernel_rfl) (by kernel_rfl) (by kernel_rfl) (by kernel_rfl) (fun _ _ _ h => h) (.inl ⟨by rfl, ?_⟩) HS1 ?_
          rotate_left 1
          · (intro W hW; (try dsimp only at hW); go_simp; try with_reducible rfl)
          try simp only [Act.put, List.setIfInBounds_toArray, List.set_cons_zero, List.set_cons_succ]
          refine d_take (i := 4) (v := ?_) [] (some 95) rfl (by rfl) (by kernel_rfl) (by kernel_rfl) (by kernel_rfl) (by kernel_rfl) (by kernel_rfl) (by kernel_rfl) (fun _ _ _ h => h) (.inl ⟨by rfl, ?_⟩) HS1 ?_
          rotate_left 1
          · (intro W hW; (try dsimp only at hW); go_simp; try with_reducible rfl)
          try simp only [Act.put, List.setIfInBounds_toArray, List.set_cons_zero, List.set_cons_succ]
          refine d_take (i := 5) (v := ?_) [] (some 96) rfl (by rfl) (by kernel_rfl) (by kernel_rfl) (by kernel_rfl) (by kernel_rfl) (by kernel_rfl) (by kernel_rfl) (fun _ _ _ h => h) (.inl ⟨by rfl, ?_⟩) HS1 ?_
          rotate_left 1
          · (intro W hW; (try dsimp only at hW); go_simp; try with_reducible rfl)
          try simp only [Act.put, List.setIfInBounds_toArray, List.set_cons_zero, List.set_cons_succ]
          refine d_take (i := 6) (v := ?_) [] (some 97) rfl (by rfl) (by kernel_rfl) (by kernel_rfl) (by kernel_rfl) (by kernel_rfl) (by kernel_rfl) (by kernel_rfl) (fun _ _ _ h => h) (.inl ⟨by rfl, ?_⟩) HS1 ?_
          rotate_left 1
          · (intro W hW; (try dsimp only at hW); go_simp; try with_reducible rfl)
          try simp only [Act.put, List.setIfInBounds_toArray, List.set_cons_zero, List.set_cons_succ]
          refine d_take (i := 7) (v := ?_) [] (some 98) rfl (by rfl) (by kernel_rfl) (by kernel_rfl) (by kernel_rfl) (by kernel_rfl) (by kernel_rfl) (by kernel_rfl) (fun _ _ _ h => h) (.inl ⟨by rfl, ?_⟩) HS1 ?_
          rotate_left 1
          · (intro W hW; (try dsimp only at hW); go_simp; try with_reducible rfl)
          try simp only [Act.put, List.setIfInBounds_toArray, List.set_cons_zero, List.set_cons_succ]
          refine d_take (i := 8) (v := ?_) [] (some 99) rfl (by rfl) (by kernel_rfl) (by kernel_rfl) (by kernel_rfl) (by kernel_rfl) (by kernel_rfl) (by kernel_rfl) (fun _ _ _ h => h) (.inl ⟨by rfl, ?_⟩) HS1 ?_
          rotate_left 1
          · (intro W hW; (try dsimp only at hW); go_simp; try with_reducible rfl)
          try simp only [Act.put, List.setIfInBounds_toArray, List.set_cons_zero, List.set_cons_succ]
          have H4 := Lib.hid (And.intro (H3.out.1.ext (Ext.refl w3).drew) (And.intro (H3.out.2.1.ext (Ext.refl w3).drew) (And.intro (H3.out.2.2.1.trans (Ext.refl w3).drew) (H3.out.2.2.2.ext (Ext.refl w3).drew))))
          clear H3
          generalize w3.drew = w4 at *
          refine d_call (i := 9) (by kernel_rfl) rfl (by rfl) (fun K hK => ?_)
          simp only [List.getElem_toArray, List.getElem_cons_succ, List.getElem_cons_zero]
          go_simp
          refine FI.out.mono ?_
          rintro e0 w5 ⟨rfl, o5, x5⟩
          have HS3 : (convert 32 9 (.slice (some ⟨zb, 0, none⟩) 64 64)).run Tryd.prog w5 = .ok (.string (str z64)) w5 := strRun (H4.out.2.1.ext x5)
          have cv := strRun o5.rd
          rw [show fillL [] = z64 from rfl] at cv
          have H5 := Lib.hid (And.intro (H4.out.1.ext x5) (And.intro (H4.out.2.2.1.trans x5) (H4.out.2.2.2.ext x5)))
          clear FI o5 x5 H4
          generalize w4.heap.size = nb4 at *
          go_simp
          refine hK.out _ _ (fun _ => HS3) ?_
          clear hK K
          try simp only [Act.put, List.setIfInBounds_toArray, List.set_cons_zero, List.set_cons_succ]
          refine d_call (i := 10) (by kernel_rfl) rfl (by rfl) (fun K hK => ?_)
          simp only [List.getElem_toArray, List.getElem_cons_succ, List.getElem_cons_zero]
          go_simp
          refine hK.out _ _ (fun _ => HS3) ?_
          clear hK K cv
          try simp only [Act.put, List.setIfInBounds_toArray, List.set_cons_zero, List.set_cons_succ]
          refine d_take (i := 11) (v := ?_) [] (some 102) rfl (by rfl) (by kernel_rfl) (by kernel_rfl) (by kernel_rfl) (by kernel_rfl) (by kernel_rfl) (by kernel_rfl) (fun _ _ _ h => h) (.inl ⟨by rfl, ?_⟩) HS3 ?_
          rotate_left 1
          · (intro W hW; (try dsimp only at hW); go_simp; try with_reducible rfl)
          try simp only [Act.put, List.setIfInBounds_toArray, List.set_cons_zero, List.set_cons_succ]
          refine d_take (i := 12) (v := ?_) [] (some 103) rfl (by rfl) (by kernel_rfl) (by kernel_rfl) (by kernel_rfl) (by kernel_rfl) (by kernel_rfl) (by kernel_rfl) (fun _ _ _ h => h) (.inl ⟨by rfl, ?_⟩) HS3 ?_
          rotate_left 1
          · (intro W hW; (try dsimp only at hW); go_simp; try with_reducible rfl)
          try simp only [Act.put, List.setIfInBounds_toArray, List.set_cons_zero, List.set_cons_succ]
          refine d_take (i := 13) (v := ?_) [] (some 104) rfl (by rfl) (by kernel_rfl) (by kernel_rfl) (by kernel_rfl) (by kernel_rfl) (by kernel_rfl) (by kernel_rfl) (fun _ _ _ h => h) (.inl ⟨by rfl, ?_⟩) HS3 ?_
          rotate_left 1
          · (intro W hW; (try dsimp only at hW); go_simp; try with_reducible rfl)
          try simp only [Act.put, List.setIfInBounds_toArray, List.set_cons_zero, List.set_cons_succ]
          refine d_take (i := 14) (v := ?_) [] (some 105) rfl (by rfl) (by kernel_rfl) (by kernel_rfl) (by kernel_rfl) (by kernel_rfl) (by kernel_rfl) (by kernel_rfl) (fun _ _ _ h => h) (.inl ⟨by rfl, ?_⟩) HS3 ?_
          rotate_left 1
          · (intro W hW; (try dsimp only at hW); go_simp; try with_reducible rfl)
          try simp only [Act.put, List.setIfInBounds_toArray, List.set_cons_zero, List.set_cons_succ]
          refine d_take (i := 15) (v := ?_) [] (some 106) rfl (by rfl) (by kernel_rfl) (by kernel_rfl) (by kernel_rfl) (by kernel_rfl) (by kernel_rfl) (by kernel_rfl) (fun _ _ _ h => h) (.inl ⟨by rfl, ?_⟩) HS3 ?_
          rotate_left 1
          · (intro W hW; (try dsimp only at hW); go_simp; try with_reducible rfl)
          try simp only [Act.put, List.setIfInBounds_toArray, List.set_cons_zero, List.set_cons_succ]
          refine d_take (i := 16) (v := ?_) [] (some 107) rfl (by rfl) (by kernel_rfl) (by kernel_rfl) (by kernel_rfl) (by kernel_rfl) (by kernel_rfl) (by kernel_rfl) (fun _ _ _ h => h) (.inl ⟨by rfl, ?_⟩) HS3 ?_
          rotate_left 1
          · (intro W hW; (try dsimp only at hW); go_simp; try with_reducible rfl)
          try simp only [Act.put, List.setIfInBounds_toArray, List.set_cons_zero, List.set_cons_succ]
          refine d_take (i := 17) (v := ?_) [] (some 108) rfl (by rfl) (by kernel_rfl) (by kernel_rfl) (by kernel_rfl) (by kernel_rfl) (by kernel_rfl) (by kernel_rfl) (fun _ _ _ h => h) (.inl ⟨by rfl, ?_⟩) HS3 ?_
          rotate_left 1
          · (intro W hW; (try dsimp only at hW); go_simp; try with_reducible rfl)
          try simp only [Act.put, List.setIfInBounds_toArray, List.set_cons_zero, List.set_cons_succ]
          refine d_done (by kernel_rfl) ?_ _
          clear HS1 HS3
          obtain ⟨v, hv⟩ : ∃ v, f 1 = v := ⟨_, rfl⟩
          have HV := Lib.hid (show Rd w5 1 (some ⟨vb, 0, none⟩) 64 (u8s v) from by have h1 := H5.out.1; rwa [hv] at h1)
          have HH := Lib.hid (show ∀ h, h < 2 → halfL h v = halfL h bs ∨ ∃ s ∈ lb.map (·.2), halfL h v = halfL h s from by have h1 := HH0.out.2; rwa [hv] at h1)
          have HBS := Lib.hid (And.intro H5.out.2.2.brd H5.out.2.2)
          have HEX := Lib.hid H5.out.2.1
          clear hv HH0 H5 H1 H2
          go_wp2_with fail
          go_loopw [16] (fun v16 wr => ∃ h : Nat, v16 = .int .i64 (h : Int) ∧ h ≤ 2 ∧ Hid (Ext w5 wr)) (fun v16 _ => 2 - (intOf v16).toNat)
          case atStart => exact ⟨0, rfl, by omega, Ext.refl w5⟩
          case round =>
            obtain ⟨h, rfl, hh2, HK⟩ := hrel
            obtain ⟨U4, hU4⟩ : ∃ V : World, V = wr := ⟨_, rfl⟩
            subst hU4
            by_cases hlt2 : h < 2
            · obtain rfl | rfl : h = 0 ∨ h = 1 := by omega
              · simp only [show ((0 : Nat) : Int) = 0 from rfl]
                have cvb := fun q => half0Run (r := 64) (HV.out.ext (HK.out.trans ((Ext.refl U4).drewN q)))
                have cvs := fun q => half0Run (r := 64) (HBS.out.1.ext (HK.out.trans ((Ext.refl U4).drewN q)))
                have HX := Lib.hid (fun q => HK.out.trans ((Ext.refl U4).drewN q))
                obtain ⟨fb0, hfb0, hst⟩ : ∃ fb0 : Bool, ((str (halfL 0 v)).toList == (str (halfL 0 bs)).toList) = fb0 ∧ (fb0 = true ∨ ∃ j : Nat, 0 ≤ j ∧ ∃ p, lb[j]? = some p ∧ halfL 0 v = halfL 0 p.2) := by
                  refine ⟨_, rfl, ?_⟩
                  rcases HH.out 0 (by omega) with e | ⟨s, hs, e⟩
                  · left; rw [e]; exact BEq.rfl
                  · obtain ⟨p, hp, rfl⟩ := List.mem_map.1 hs
                    obtain ⟨j, hj⟩ := List.getElem?_of_mem hp
                    exact .inr ⟨j, Nat.zero_le _, p, hj, e⟩
                have HST := Lib.hid hst
                clear hst
                go_wp2_with fail
                go_quiet (fail)
                clear cvb cvs
                go_wp2_with fail
                clear hfb0
                go_loopw [17, 132] (fun v17 v132 wr => ∃ (k : Nat) (fb : Bool), v132 = .int .i64 (k : Int) ∧ v17 = .bool fb ∧ k ≤ 0 ∧ Hid (Ext w5 wr ∧ (fb = true ∨ ∃ j : Nat, k ≤ j ∧ ∃ p, lb[j]? = some p ∧ halfL 0 v = halfL 0 p.2))) (fun _ v132 _ => 0 - (intOf v132).toNat)
                case atStart => exact ⟨0, fb0, rfl, rfl, by omega, HX.out _, HST.out⟩
                case round =>
                  obtain ⟨k, fb, rfl, rfl, hk, HJ⟩ := hrel
                  obtain ⟨U6, hU6⟩ : ∃ V : World, V = wr := ⟨_, rfl⟩
                  subst hU6
                  by_cases hk1 : k < 0
                  · exact absurd hk1 (by omega)
                  · obtain rfl : k = 0 := by omega
                    have hfb : fb = true := by
                      rcases HJ.out.2 with e | ⟨j, hj, p, hp, _⟩
                      · exact e
                      · have h1 := (List.getElem?_eq_some_iff.1 hp).1
                        have h2 := HBS.out.2.own.len
                        rw [lvals_len] at h2
                        omega
                    subst hfb
                    have HN := Lib.hid HJ.out.1
                    go_wp2_with fail
                    go_roundw
                    case rel => exact ⟨0 + 1, by go_num, by omega, HN.out⟩
                    case measure => simp [intOf]
              · simp only [show ((1 : Nat) : Int) = 1 from rfl]
                have cvb := fun q => half1Run (r := 64) (HV.out.ext (HK.out.trans ((Ext.refl U4).drewN q)))
                have cvs := fun q => half1Run (r := 64) (HBS.out.1.ext (HK.out.trans ((Ext.refl U4).drewN q)))
                have HX := Lib.hid (fun q => HK.out.trans ((Ext.refl U4).drewN q))
                obtain ⟨fb0, hfb0, hst⟩ : ∃ fb0 : Bool, ((str (halfL 1 v)).toList == (str (halfL 1 bs)).toList) = fb0 ∧ (fb0 = true ∨ ∃ j : Nat, 0 ≤ j ∧ ∃ p, lb[j]? = some p ∧ halfL 1 v = halfL 1 p.2) := by
                  refine ⟨_, rfl, ?_⟩
                  rcases HH.out 1 (by omega) with e | ⟨s, hs, e⟩
                  · left; rw [e]; exact BEq.rfl
                  · obtain ⟨p, hp, rfl⟩ := List.mem_map.1 hs
                    obtain ⟨j, hj⟩ := List.getElem?_of_mem hp
                    exact .inr ⟨j, Nat.zero_le _, p, hj, e⟩
                have HST := Lib.hid hst
                clear hst
                go_wp2_with fail
                go_quiet (fail)
                clear cvb cvs
                go_wp2_with fail
                clear hfb0
                go_loopw [17, 132] (fun v17 v132 wr => ∃ (k : Nat) (fb : Bool), v132 = .int .i64 (k : Int) ∧ v17 = .bool fb ∧ k ≤ 0 ∧ Hid (Ext w5 wr ∧ (fb = true ∨ ∃ j : Nat, k ≤ j ∧ ∃ p, lb[j]? = some p ∧ halfL 1 v = halfL 1 p.2))) (fun _ v132 _ => 0 - (intOf v132).toNat)
                case atStart => exact ⟨0, fb0, rfl, rfl, by omega, HX.out _, HST.out⟩
                case round =>
                  obtain ⟨k, fb, rfl, rfl, hk, HJ⟩ := hrel
                  obtain ⟨U6, hU6⟩ : ∃ V : World, V = wr := ⟨_, rfl⟩
                  subst hU6
                  by_cases hk1 : k < 0
                  · exact absurd hk1 (by omega)
                  · obtain rfl : k = 0 := by omega
                    have hfb : fb = true := by
                      rcases HJ.out.2 with e | ⟨j, hj, p, hp, _⟩
                      · exact e
                      · have h1 := (List.getElem?_eq_some_iff.1 hp).1
                        have h2 := HBS.out.2.own.len
                        rw [lvals_len] at h2
                        omega
                    subst hfb
                    have HN := Lib.hid HJ.out.1
                    go_wp2_with fail
                    go_roundw
                    case rel => exact ⟨1 + 1, by go_num, by omega, HN.out⟩
                    case measure => simp [intOf]
            · obtain rfl : h = 2 := by omega
              have HZ := Lib.hid (HEX.out.trans HK.out)
              go_wp2_with fail
              go_returns
              exact ⟨rfl, HZ.out⟩
        · have i100 : i ≤ 100 := by omega
          have FI := Lib.hid (filled_any B p.length d p U2 HP.out.2.2 (HP.out.1.ext HA.out.1.wext))
          rw [HSS.out] at FI
          have hsec : IsSec s := by rw [← HSS.out]; exact HP.out.2.1
          have HSEC := Lib.hid hsec
          clear hsec
          go_wp2_with fail
          refine FI.out.mono ?_
          rintro e0 w1 ⟨rfl, o1, x1⟩
          have sd1 := (HA.out.1.wider (ds := lb.map (·.2) ++ [s]) (fun q hq => List.mem_append.2 (.inl hq))).add x1 (q := U2.heap.size) (Nat.le_refl _) o1.lt
          have B1 := Lib.hid ((HA.out.2.ext x1).wide (Y := fun q => X q ∨ q = U2.heap.size) (fun q hq => .inl hq))
          have W1 := Lib.hid (sd1.write1 HE.out (by omega) HSEC.out o1.rd (.inr rfl) (by simp))
          clear FI o1 x1 sd1
          generalize U2.heap.size = fb1 at *
          go_wp2_with fail
          refine W1.out.mono ?_
          rintro e0 w2 ⟨rfl, sd2, k2⟩
          have D2 := Lib.hid (And.intro sd2 (B1.out.keep k2))
          have XB := (Ext.refl w2).alloc (.cells #[.int .u8 9] 5)
          have FI := Lib.hid (filled_any (some ⟨w2.heap.size, 0, none⟩) 1 1 [9] (w2.alloc (.cells #[.int .u8 9] 5)) (by omega) (Rd.new w2 #[.int .u8 9] 5 (0, 0)))
          clear W1 sd2 k2 B1
          go_wp2_with fail
          refine FI.out.mono ?_
          rintro e0 w3 ⟨rfl, o3, x3⟩
          have sd3 := (D2.out.1.ex' XB).add x3 (q := (w2.alloc (.cells #[.int .u8 9] 5)).heap.size) (Nat.le_refl _) o3.lt
          have B3 := Lib.hid (((D2.out.2.ext XB).ext x3).wide (Y := fun q => (X q ∨ q = fb1) ∨ q = (w2.alloc (.cells #[.int .u8 9] 5)).heap.size) (fun q hq => .inl hq))
          have W2 := Lib.hid (sd3.write2 HE.out (by omega) (sec_one (x := 9) (by omega)) o3.rd (.inr rfl))
          clear FI o3 x3 sd3 XB
          generalize (w2.alloc (.cells #[.int .u8 9] 5)).heap.size = fb2 at *
          go_wp2_with fail
          refine W2.out.mono ?_
          rintro e0 w4 ⟨rfl, sd4, k4⟩
          have D4 := Lib.hid (And.intro sd4 (B3.out.keep k4))
          have FI := Lib.hid (filled_any B p.length d p w4 HP.out.2.2 (HP.out.1.ext sd4.wext))
          rw [HSS.out] at FI
          clear W2 sd4 k4 B3
          go_wp2_with fail
          refine FI.out.mono ?_
          rintro e0 w5 ⟨rfl, o5, x5⟩
          have D5 := Lib.hid (And.intro (D4.out.1.add x5 (q := w4.heap.size) (Nat.le_refl _) o5.lt) (And.intro ((D4.out.2.ext x5).wide (Y := fun q => ((X q ∨ q = fb1) ∨ q = fb2) ∨ q = w4.heap.size) (fun q hq => .inl hq)) (And.intro o5.rd (fun (a : Addr) (ha : (none : Option Addr) = some a) => (show a.block ≠ w4.heap.size from by
            have h1 := D4.out.1.xl (D4.out.2.la a ha).1
            omega)))))
          clear FI o5 x5
          generalize w4.heap.size = fb3 at *
          have XC := (Ext.refl w5).alloc (.cells #[.slice (some ⟨fb3, 0, none⟩) 64 64] 32)
          have RN : Rd (w5.alloc (.cells #[.slice (some ⟨fb3, 0, none⟩) 64 64] 32)) 1 (some ⟨w5.heap.size, 0, none⟩) 1 [.slice (some ⟨fb3, 0, none⟩) 64 64] := Rd.new w5 #[.slice (some ⟨fb3, 0, none⟩) 64 64] 32 (0, 0)
          go_wp2_with (at_builtin; refine held ?_)
          refine Held.go (wp_app (m := 1) (news := [.slice (some ⟨fb3, 0, none⟩) 64 64]) eltB (D5.out.2.1.own.alloc _) RN (by simp [Value.oneCell']) (by omega) (.inr ⟨by omega, by omega⟩) (by have h1 := D5.out.1.wext.size; simp; omega) _ _ rfl rfl rfl rfl ?_)
          intro A6 c6 w6 o6 g6 hA6 _
          obtain ⟨X6, s6, b6⟩ := ss_app D5.out.1 D5.out.2.1 XC (.inr rfl) D5.out.2.2.1 D5.out.2.2.2 o6 g6 hA6
          have D6 := Lib.hid (And.intro s6 b6)
          clear o6 g6 hA6 s6 b6 RN XC
          by_cases hfe : (i : Int) = fl
          · have hfb : ((i : Int) == fl) = true := by simpa using hfe
            have FL := Lib.hid (D6.out.1.flush (by omega))
            clear hfe
            go_wp2_with fail
            clear hfb
            refine FL.out.mono ?_
            rintro e0 w7 ⟨rfl, s7, k7⟩
            have FI := Lib.hid (filled_any B p.length d p w7 HP.out.2.2 (HP.out.1.ext s7.wext))
            rw [HSS.out] at FI
            have D7 := Lib.hid s7
            clear FL s7 k7
            go_wp2_with fail
            refine FI.out.mono ?_
            rintro e0 w8 ⟨rfl, o8, x8⟩
            have HN := Lib.hid (show SS w w8 g w7.heap.size none 0 0 [] (2 * (i + 1)) from ⟨fun q => X6 q ∨ q = w7.heap.size, s, s, (D7.out.add x8 (q := w7.heap.size) (Nat.le_refl _) o8.lt).mono (by omega), ⟨o8.rd, .inr rfl, (fun p hp => by cases hp), Own.nil_, (fun a ha => by cases ha)⟩⟩)
            clear FI o8 x8
            generalize w7.heap.size = fb4 at *
            go_wp2_with fail
            go_roundw
            case rel => exact ⟨i + 1, fb4, 0, 0, none, [], by go_num, rfl, rfl, by omega, by omega, by omega, HN.out⟩
            case measure => simp [intOf]; omega
          · have hfb : ((i : Int) == fl) = false := by simpa using hfe
            clear hfe
            have HN := Lib.hid (show SS w w6 g bb' A6 (0 + 1) c6 (lb ++ [(fb3, s)]) (2 * (i + 1)) from ⟨X6, bs, s, D6.out.1.mono (by omega), D6.out.2⟩)
            go_wp2_with fail
            go_roundw
            case rel => exact ⟨i + 1, bb', 0 + 1, c6, A6, lb ++ [(fb3, s)], by go_num, rfl, rfl, by omega, by omega, by omega, HN.out⟩
            case measure => simp [intOf]; omega
      · obtain rfl : n = i := by omega
        have CR := Lib.hid (HA.out.1.crash (by omega) kp HW.out.2.2 torn)
        go_wp2_with fail
        refine CR.out.mono ?_
        rintro e0 w1 ⟨rfl, c1, k1⟩
        have S1 := HA.out.2.keep k1
        obtain ⟨f, nw, d1, hf0, hh⟩ := c1.ex
        have RD1 := Lib.hid (d1.read HE.out (by omega) 1 (by omega) (by omega))
        have H1 := Lib.hid (And.intro d1 S1)
        have HH0 := Lib.hid (And.intro hf0 hh)
        clear CR c1 k1 S1 d1 hf0 hh
        go_wp2_with fail
        refine RD1.out.mono ?_
        rintro e0 w2 ⟨vb, rfl, r2, _, _, x2⟩
        have RD0 := Lib.hid ((H1.out.1.ex' x2).read HE.out (by omega) 0 (by omega) (by omega))
        rw [readW_stays (fun x hx => by cases hx)] at r2
        have H2 := Lib.hid (And.intro r2 (And.intro (H1.out.1.ex' x2) (H1.out.2.ext x2)))
        clear RD1 r2 x2
        go_wp2_with fail
        refine RD0.out.mono ?_
        rintro e0 w3 ⟨zb, rfl, r3, _, _, x3⟩
        rw [readW_stays (fun x hx => by cases hx), HH0.out.1] at r3
        have H3 := Lib.hid (And.intro (H2.out.1.ext x3) (And.intro r3 (And.intro (H2.out.2.1.ex' x3).ext (H2.out.2.2.ext x3))))
        clear RD0 r3 x3
        have HS1 : (convert 32 9 (.slice (some ⟨zb, 0, none⟩) 64 64)).run Tryd.prog w3.drew = .ok (.string (str z64)) w3.drew := strRun (H3.out.2.1.ext (Ext.refl w3).drew)
        have FI := Lib.hid (filled_any none 0 0 [] w3.drew (by omega) Rd.nil_)
        go_upto_region 24 with (fail)
        refine d_region (fun W : World => (convert 32 9 (.slice (some ⟨zb, 0, none⟩) 64 64)).run Tryd.prog W = .ok (.string (str z64)) W) [] (by kernel_rfl) ?_
        refine d_take (i := 0) (v := ?_) [] (some 91) rfl (by rfl) (by kernel_rfl) (by kernel_rfl) (by kernel_rfl) (by kernel_rfl) (by kernel_rfl) (by kernel_rfl) (fun _ _ _ h => h) (.inl ⟨by rfl, ?_⟩) HS1 ?_
        rotate_left 1
        · (intro W hW; (try dsimp only at hW); go_simp; try with_reducible rfl)
        try simp only [Act.put, List.setIfInBounds_toArray, List.set_cons_zero, List.set_cons_succ]
        refine d_take (i := 1) (v := ?_) [] (some 92) rfl (by rfl) (by kernel_rfl) (by kernel_rfl) (by kernel_rfl) (by kernel_rfl) (by kernel_rfl) (by kernel_rfl) (fun _ _ _ h => h) (.inl ⟨by rfl, ?_⟩) HS1 ?_
        rotate_left 1
        · (intro W hW; (try dsimp only at hW); go_simp; try with_reducible rfl)
        try simp only [Act.put, List.setIfInBounds_toArray, List.set_cons_zero, List.set_cons_succ]
        refine d_take (i := 2) (v := ?_) [] (some 93) rfl (by rfl) (by kernel_rfl) (by kernel_rfl) (by kernel_rfl) (by kernel_rfl) (by kernel_rfl) (by kernel_rfl) (fun _ _ _ h => h) (.inl ⟨by rfl, ?_⟩) HS1 ?_
        rotate_left 1
        · (intro W hW; (try dsimp only at hW); go_simp; try with_reducible rfl)
        try simp only [Act.put, List.setIfInBounds_toArray, List.set_cons_zero, List.set_cons_succ]
        refine d_take (i := 3) (v := ?_) [] (some 94) rfl (by rfl) (by kernel_rfl) (by kernel_rfl) (by kernel_rfl) (by kernel_rfl) (by kernel_rfl) (by kernel_rfl) (fun _ _ _ h => h) (.inl ⟨by rfl, ?_⟩) HS1 ?_
        rotate_left 1
        · (intro W hW; (try dsimp only at hW); go_simp; try with_reducible rfl)
        try simp only [Act.put, List.setIfInBounds_toArray, List.set_cons_zero, List.set_cons_succ]
        refine d_take (i := 4) (v := ?_) [] (some 95) rfl (by rfl) (by kernel_rfl) (by kernel_rfl) (by kernel_rfl) (by kernel_rfl) (by kernel_rfl) (by kernel_rfl) (fun _ _ _ h => h) (.inl ⟨by rfl, ?_⟩) HS1 ?_
        rotate_left 1
        · (intro W hW; (try dsimp only at hW); go_simp; try with_reducible rfl)
        try simp only [Act.put, List.setIfInBounds_toArray, List.set_cons_zero, List.set_cons_succ]
        refine d_take (i := 5) (v := ?_) [] (some 96) rfl (by rfl) (by kernel_rfl) (by kernel_rfl) (by kernel_rfl) (by kernel_rfl) (by kernel_rfl) (by kernel_rfl) (fun _ _ _ h => h) (.inl ⟨by rfl, ?_⟩) HS1 ?_
        rotate_left 1
        · (intro W hW; (try dsimp only at hW); go_simp; try with_reducible rfl)
        try simp only [Act.put, List.setIfInBounds_toArray, List.set_cons_zero, List.set_cons_succ]
        refine d_take (i := 6) (v := ?_) [] (some 97) rfl (by rfl) (by kernel_rfl) (by kernel_rfl) (by kernel_rfl) (by kernel_rfl) (by kernel_rfl) (by kernel_rfl) (fun _ _ _ h => h) (.inl ⟨by rfl, ?_⟩) HS1 ?_
        rotate_left 1
        · (intro W hW; (try dsimp only at hW); go_simp; try with_reducible rfl)
        try simp only [Act.put, List.setIfInBounds_toArray, List.set_cons_zero, List.set_cons_succ]
        refine d_take (i := 7) (v := ?_) [] (some 98) rfl (by rfl) (by kernel_rfl) (by kernel_rfl) (by kernel_rfl) (by kernel_rfl) (by kernel_rfl) (by kernel_rfl) (fun _ _ _ h => h) (.inl ⟨by rfl, ?_⟩) HS1 ?_
        rotate_left 1
        · (intro W hW; (try dsimp only at hW); go_simp; try with_reducible rfl)
        try simp only [Act.put, List.setIfInBounds_toArray, List.set_cons_zero, List.set_cons_succ]
        refine d_take (i := 8) (v := ?_) [] (some 99) rfl (by rfl) (by kernel_rfl) (by kernel_rfl) (by kernel_rfl) (by kernel_rfl) (by kernel_rfl) (by kernel_rfl) (fun _ _ _ h => h) (.inl ⟨by rfl, ?_⟩) HS1 ?_
        rotate_left 1
        · (intro W hW; (try dsimp only at hW); go_simp; try with_reducible rfl)
        try simp only [Act.put, List.setIfInBounds_toArray, List.set_cons_zero, List.set_cons_succ]
        have H4 := Lib.hid (And.intro (H3.out.1.ext (Ext.refl w3).drew) (And.intro (H3.out.2.1.ext (Ext.refl w3).drew) (And.intro (H3.out.2.2.1.trans (Ext.refl w3).drew) (H3.out.2.2.2.ext (Ext.refl w3).drew))))
        clear H3
        generalize w3.drew = w4 at *
        refine d_call (i := 9) (by kernel_rfl) rfl (by rfl) (fun K hK => ?_)
        simp only [List.getElem_toArray, List.getElem_cons_succ, List.getElem_cons_zero]
        go_simp
        refine FI.out.mono ?_
        rintro e0 w5 ⟨rfl, o5, x5⟩
        have HS3 : (convert 32 9 (.slice (some ⟨zb, 0, none⟩) 64 64)).run Tryd.prog w5 = .ok (.string (str z64)) w5 := strRun (H4.out.2.1.ext x5)
        have cv := strRun o5.rd
        rw [show fillL [] = z64 from rfl] at cv
        have H5 := Lib.hid (And.intro (H4.out.1.ext x5) (And.intro (H4.out.2.2.1.trans x5) (H4.out.2.2.2.ext x5)))
        clear FI o5 x5 H4
        generalize w4.heap.size = nb4 at *
        go_simp
        refine hK.out _ _ (fun _ => HS3) ?_
        clear hK K
        try simp only [Act.put, List.setIfInBounds_toArray, List.set_cons_zero, List.set_cons_succ]
        refine d_call (i := 10) (by kernel_rfl) rfl (by rfl) (fun K hK => ?_)
        simp only [List.getElem_toArray, List.getElem_cons_succ, List.getElem_cons_zero]
        go_simp
        refine hK.out _ _ (fun _ => HS3) ?_
        clear hK K cv
        try simp only [Act.put, List.setIfInBounds_toArray, List.set_cons_zero, List.set_cons_succ]
        refine d_take (i := 11) (v := ?_) [] (some 102) rfl (by rfl) (by kernel_rfl) (by kernel_rfl) (by kernel_rfl) (by kernel_rfl) (by kernel_rfl) (by kernel_rfl) (fun _ _ _ h => h) (.inl ⟨by rfl, ?_⟩) HS3 ?_
        rotate_left 1
        · (intro W hW; (try dsimp only at hW); go_simp; try with_reducible rfl)
        try simp only [Act.put, List.setIfInBounds_toArray, List.set_cons_zero, List.set_cons_succ]
        refine d_take (i := 12) (v := ?_) [] (some 103) rfl (by rfl) (by kernel_rfl) (by kernel_rfl) (by kernel_rfl) (by kernel_rfl) (by kernel_rfl) (by kernel_rfl) (fun _ _ _ h => h) (.inl ⟨by rfl, ?_⟩) HS3 ?_
        rotate_left 1
        · (intro W hW; (try dsimp only at hW); go_simp; try with_reducible rfl)
        try simp only [Act.put, List.setIfInBounds_toArray, List.set_cons_zero, List.set_cons_succ]
        refine d_take (i := 13) (v := ?_) [] (some 104) rfl (by rfl) (by kernel_rfl) (by kernel_rfl) (by kernel_rfl) (by kernel_rfl) (by kernel_rfl) (by kernel_rfl) (fun _ _ _ h => h) (.inl ⟨by rfl, ?_⟩) HS3 ?_
        rotate_left 1
        · (intro W hW; (try dsimp only at hW); go_simp; try with_reducible rfl)
        try simp only [Act.put, List.setIfInBounds_toArray, List.set_cons_zero, List.set_cons_succ]
        refine d_take (i := 14) (v := ?_) [] (some 105) rfl (by rfl) (by kernel_rfl) (by kernel_rfl) (by kernel_rfl) (by kernel_rfl) (by kernel_rfl) (by kernel_rfl) (fun _ _ _ h => h) (.inl ⟨by rfl, ?_⟩) HS3 ?_
        rotate_left 1
        · (intro W hW; (try dsimp only at hW); go_simp; try with_reducible rfl)
        try simp only [Act.put, List.setIfInBounds_toArray, List.set_cons_zero, List.set_cons_succ]
        refine d_take (i := 15) (v := ?_) [] (some 106) rfl (by rfl) (by kernel_rfl) (by kernel_rfl) (by kernel_rfl) (by kernel_rfl) (by kernel_rfl) (by kernel_rfl) (fun _ _ _ h => h) (.inl ⟨by rfl, ?_⟩) HS3 ?_
        rotate_left 1
        · (intro W hW; (try dsimp only at hW); go_simp; try with_reducible rfl)
        try simp only [Act.put, List.setIfInBounds_toArray, List.set_cons_zero, List.set_cons_succ]
        refine d_take (i := 16) (v := ?_) [] (some 107) rfl (by rfl) (by kernel_rfl) (by kernel_rfl) (by kernel_rfl) (by kernel_rfl) (by kernel_rfl) (by kernel_rfl) (fun _ _ _ h => h) (.inl ⟨by rfl, ?_⟩) HS3 ?_
        rotate_left 1
        · (intro W hW; (try dsimp only at hW); go_simp; try with_reducible rfl)
        try simp only [Act.put, List.setIfInBounds_toArray, List.set_cons_zero, List.set_cons_succ]
        refine d_take (i := 17) (v := ?_) [] (some 108) rfl (by rfl) (by kernel_rfl) (by kernel_rfl) (by kernel_rfl) (by kernel_rfl) (by kernel_rfl) (by kernel_rfl) (fun _ _ _ h => h) (.inl ⟨by rfl, ?_⟩) HS3 ?_
        rotate_left 1
        · (intro W hW; (try dsimp only at hW); go_simp; try with_reducible rfl)
        try simp only [Act.put, List.setIfInBounds_toArray, List.set_cons_zero, List.set_cons_succ]
        refine d_done (by kernel_rfl) ?_ _
        clear HS1 HS3
        obtain ⟨v, hv⟩ : ∃ v, f 1 = v := ⟨_, rfl⟩
        have HV := Lib.hid (show Rd w5 1 (some ⟨vb, 0, none⟩) 64 (u8s v) from by have h1 := H5.out.1; rwa [hv] at h1)
        have HH := Lib.hid (show ∀ h, h < 2 → halfL h v = halfL h bs ∨ ∃ s ∈ lb.map (·.2), halfL h v = halfL h s from by have h1 := HH0.out.2; rwa [hv] at h1)
        have HBS := Lib.hid (And.intro H5.out.2.2.brd H5.out.2.2)
        have HEX := Lib.hid H5.out.2.1
        clear hv HH0 H5 H1 H2
        go_wp2_with fail
        go_loopw [16] (fun v16 wr => ∃ h : Nat, v16 = .int .i64 (h : Int) ∧ h ≤ 2 ∧ Hid (Ext w5 wr)) (fun v16 _ => 2 - (intOf v16).toNat)
        case atStart => exact ⟨0, rfl, by omega, Ext.refl w5⟩
        case round =>
          obtain ⟨h, rfl, hh2, HK⟩ := hrel
          obtain ⟨U4, hU4⟩ : ∃ V : World, V = wr := ⟨_, rfl⟩
          subst hU4
          by_cases hlt2 : h < 2
          · obtain rfl | rfl : h = 0 ∨ h = 1 := by omega
            · simp only [show ((0 : Nat) : Int) = 0 from rfl]
              have cvb := fun q => half0Run (r := 64) (HV.out.ext (HK.out.trans ((Ext.refl U4).drewN q)))
              have cvs := fun q => half0Run (r := 64) (HBS.out.1.ext (HK.out.trans ((Ext.refl U4).drewN q)))
              have HX := Lib.hid (fun q => HK.out.trans ((Ext.refl U4).drewN q))
              obtain ⟨fb0, hfb0, hst⟩ : ∃ fb0 : Bool, ((str (halfL 0 v)).toList == (str (halfL 0 bs)).toList) = fb0 ∧ (fb0 = true ∨ ∃ j : Nat, 0 ≤ j ∧ ∃ p, lb[j]? = some p ∧ halfL 0 v = halfL 0 p.2) := by
                refine ⟨_, rfl, ?_⟩
                rcases HH.out 0 (by omega) with e | ⟨s, hs, e⟩
                · left; rw [e]; exact BEq.rfl
                · obtain ⟨p, hp, rfl⟩ := List.mem_map.1 hs
                  obtain ⟨j, hj⟩ := List.getElem?_of_mem hp
                  exact .inr ⟨j, Nat.zero_le _, p, hj, e⟩
              have HST := Lib.hid hst
              clear hst
              go_wp2_with fail
              go_quiet (fail)
              clear cvb cvs
              go_wp2_with fail
              clear hfb0
              go_loopw [17, 132] (fun v17 v132 wr => ∃ (k : Nat) (fb : Bool), v132 = .int .i64 (k : Int) ∧ v17 = .bool fb ∧ k ≤ 0 ∧ Hid (Ext w5 wr ∧ (fb = true ∨ ∃ j : Nat, k ≤ j ∧ ∃ p, lb[j]? = some p ∧ halfL 0 v = halfL 0 p.2))) (fun _ v132 _ => 0 - (intOf v132).toNat)
              case atStart => exact ⟨0, fb0, rfl, rfl, by omega, HX.out _, HST.out⟩
              case round =>
                obtain ⟨k, fb, rfl, rfl, hk, HJ⟩ := hrel
                obtain ⟨U6, hU6⟩ : ∃ V : World, V = wr := ⟨_, rfl⟩
                subst hU6
                by_cases hk1 : k < 0
                · exact absurd hk1 (by omega)
                · obtain rfl : k = 0 := by omega
                  have hfb : fb = true := by
                    rcases HJ.out.2 with e | ⟨j, hj, p, hp, _⟩
                    · exact e
                    · have h1 := (List.getElem?_eq_some_iff.1 hp).1
                      have h2 := HBS.out.2.own.len
                      rw [lvals_len] at h2
                      omega
                  subst hfb
                  have HN := Lib.hid HJ.out.1
                  go_wp2_with fail
                  go_roundw
                  case rel => exact ⟨0 + 1, by go_num, by omega, HN.out⟩
                  case measure => simp [intOf]
            · simp only [show ((1 : Nat) : Int) = 1 from rfl]
              have cvb := fun q => half1Run (r := 64) (HV.out.ext (HK.out.trans ((Ext.refl U4).drewN q)))
              have cvs := fun q => half1Run (r := 64) (HBS.out.1.ext (HK.out.trans ((Ext.refl U4).drewN q)))
              have HX := Lib.hid (fun q => HK.out.trans ((Ext.refl U4).drewN q))
              obtain ⟨fb0, hfb0, hst⟩ : ∃ fb0 : Bool, ((str (halfL 1 v)).toList == (str (halfL 1 bs)).toList) = fb0 ∧ (fb0 = true ∨ ∃ j : Nat, 0 ≤ j ∧ ∃ p, lb[j]? = some p ∧ halfL 1 v = halfL 1 p.2) := by
                refine ⟨_, rfl, ?_⟩
                rcases HH.out 1 (by omega) with e | ⟨s, hs, e⟩
                · left; rw [e]; exact BEq.rfl
                · obtain ⟨p, hp, rfl⟩ := List.mem_map.1 hs
                  obtain ⟨j, hj⟩ := List.getElem?_of_mem hp
                  exact .inr ⟨j, Nat.zero_le _, p, hj, e⟩
              have HST := Lib.hid hst
              clear hst
              go_wp2_with fail
              go_quiet (fail)
              clear cvb cvs
              go_wp2_with fail
              clear hfb0
              go_loopw [17, 132] (fun v17 v132 wr => ∃ (k : Nat) (fb : Bool), v132 = .int .i64 (k : Int) ∧ v17 = .bool fb ∧ k ≤ 0 ∧ Hid (Ext w5 wr ∧ (fb = true ∨ ∃ j : Nat, k ≤ j ∧ ∃ p, lb[j]? = some p ∧ halfL 1 v = halfL 1 p.2))) (fun _ v132 _ => 0 - (intOf v132).toNat)
              case atStart => exact ⟨0, fb0, rfl, rfl, by omega, HX.out _, HST.out⟩
              case round =>
                obtain ⟨k, fb, rfl, rfl, hk, HJ⟩ := hrel
                obtain ⟨U6, hU6⟩ : ∃ V : World, V = wr := ⟨_, rfl⟩
                subst hU6
                by_cases hk1 : k < 0
                · exact absurd hk1 (by omega)
                · obtain rfl : k = 0 := by omega
                  have hfb : fb = true := by
                    rcases HJ.out.2 with e | ⟨j, hj, p, hp, _⟩
                    · exact e
                    · have h1 := (List.getElem?_eq_some_iff.1 hp).1
                      have h2 := HBS.out.2.own.len
                      rw [lvals_len] at h2
                      omega
                  subst hfb
                  have HN := Lib.hid HJ.out.1
                  go_wp2_with fail
                  go_roundw
                  case rel => exact ⟨1 + 1, by go_num, by omega, HN.out⟩
                  case measure => simp [intOf]
          · obtain rfl : h = 2 := by omega
            have HZ := Lib.hid (HEX.out.trans HK.out)
            go_wp2_with fail
            go_returns
            exact ⟨rfl, HZ.out⟩
    · obtain ⟨T, rfl⟩ := HA.out.2.own.some_head
      by_cases hlt : i < n
      · have hext0 := HA.out.1.wext
        obtain ⟨ad, rfl, _, hcell⟩ := (HW.out.1.rd.ext hext0).2 (show 0 < n by omega)
        obtain ⟨p, hp⟩ : ∃ p, ps[i]? = some p := ⟨_, List.getElem?_eq_getElem (by have := HW.out.1.len; omega)⟩
        obtain ⟨⟨B, d, hv, hrB⟩, hbyte, hplen⟩ := HW.out.1.at_ i p hp
        have cv := hcell i _ hv
        have z0 : (0 : Int) ≤ i := by omega
        have z1 : (i : Int) < n := by omega
        have HP := Lib.hid (And.intro hrB (And.intro (fillL_sec hbyte) hplen))
        clear hext0 hcell hp hv hrB hbyte hplen
        obtain ⟨s, hs⟩ : ∃ s, fillL p = s := ⟨_, rfl⟩
        have HSS := Lib.hid hs
        clear hs
        go_upto_region 12 with (fail)
        clear cv
        by_cases h100 : (100 : Int) < (i : Int)
        · have CR := Lib.hid (HA.out.1.crash (by omega) kp HW.out.2.2 torn)
          go_wp2_with fail
          refine CR.out.mono ?_
          rintro e0 w1 ⟨rfl, c1, k1⟩
          have S1 := HA.out.2.keep k1
          obtain ⟨f, nw, d1, hf0, hh⟩ := c1.ex
          have RD1 := Lib.hid (d1.read HE.out (by omega) 1 (by omega) (by omega))
          have H1 := Lib.hid (And.intro d1 S1)
          have HH0 := Lib.hid (And.intro hf0 hh)
          clear CR c1 k1 S1 d1 hf0 hh
          go_wp2_with fail
          refine RD1.out.mono ?_
          rintro e0 w2 ⟨vb, rfl, r2, _, _, x2⟩
          have RD0 := Lib.hid ((H1.out.1.ex' x2).read HE.out (by omega) 0 (by omega) (by omega))
          rw [readW_stays (fun x hx => by cases hx)] at r2
          have H2 := Lib.hid (And.intro r2 (And.intro (H1.out.1.ex' x2) (H1.out.2.ext x2)))
          clear RD1 r2 x2
          go_wp2_with fail
          refine RD0.out.mono ?_
          rintro e0 w3 ⟨zb, rfl, r3, _, _, x3⟩
          rw [readW_stays (fun x hx => by cases hx), HH0.out.1] at r3
          have H3 := Lib.hid (And.intro (H2.out.1.ext x3) (And.intro r3 (And.intro (H2.out.2.1.ex' x3).ext (H2.out.2.2.ext x3))))
          clear RD0 r3 x3
          have HS1 : (convert 32 9 (.slice (some ⟨zb, 0, none⟩) 64 64)).run Tryd.prog w3.drew = .ok (.string (str z64)) w3.drew := strRun (H3.out.2.1.ext (Ext.refl w3).drew)
          have FI := Lib.hid (filled_any none 0 0 [] w3.drew (by omega) Rd.nil_)
          go_upto_region 24 with (fail)
          refine d_region (fun W : World => (convert 32 9 (.slice (some ⟨zb, 0, none⟩) 64 64)).run Tryd.prog W = .ok (.string (str z64)) W) [] (by kernel_rfl) ?_
          refine d_take (i := 0) (v := ?_) [] (some 91) rfl (by rfl) (by kernel_rfl) (by kernel_rfl) (by kernel_rfl) (by kernel_rfl) (by kernel_rfl) (by kernel_rfl) (fun _ _ _ h => h) (.inl ⟨by rfl, ?_⟩) HS1 ?_
          rotate_left 1
          · (intro W hW; (try dsimp only at hW); go_simp; try with_reducible rfl)
          try simp only [Act.put, List.setIfInBounds_toArray, List.set_cons_zero, List.set_cons_succ]
          refine d_take (i := 1) (v := ?_) [] (some 92) rfl (by rfl) (by kernel_rfl) (by kernel_rfl) (by kernel_rfl) (by kernel_rfl) (by kernel_rfl) (by kernel_rfl) (fun _ _ _ h => h) (.inl ⟨by rfl, ?_⟩) HS1 ?_
          rotate_left 1
          · (intro W hW; (try dsimp only at hW); go_simp; try with_reducible rfl)
          try simp only [Act.put, List.setIfInBounds_toArray, List.set_cons_zero, List.set_cons_succ]
          refine d_take (i := 2) (v := ?_) [] (some 93) rfl (by rfl) (by kernel_rfl) (by kernel_rfl) (by kernel_rfl) (by kernel_rfl) (by kernel_rfl) (by kernel_rfl) (fun _ _ _ h => h) (.inl ⟨by rfl, ?_⟩) HS1 ?_
          rotate_left 1
          · (intro W hW; (try dsimp only at hW); go_simp; try with_reducible rfl)
          try simp only [Act.put, List.setIfInBounds_toArray, List.set_cons_zero, List.set_cons_succ]
          refine d_take (i := 3) (v := ?_) [] (some 94) rfl (by rfl) (by kernel_rfl) (by kernel_rfl) (by kernel_rfl) (by kernel_rfl) (by kernel_rfl) (by kernel_rfl) (fun _ _ _ h => h) (.inl ⟨by rfl, ?_⟩) HS1 ?_
          rotate_left 1
          · (intro W hW; (try dsimp only at hW); go_simp; try with_reducible rfl)
          try simp only [Act.put, List.setIfInBounds_toArray, List.set_cons_zero, List.set_cons_succ]
          refine d_take (i := 4) (v := ?_) [] (some 95) rfl (by rfl) (by kernel_rfl) (by kernel_rfl) (by kernel_rfl) (by kernel_rfl) (by kernel_rfl) (by kernel_rfl) (fun _ _ _ h => h) (.inl ⟨by rfl, ?_⟩) HS1 ?_
          rotate_left 1
          · (intro W hW; (try dsimp only at hW); go_simp; try with_reducible rfl)
          try simp only [Act.put, List.setIfInBounds_toArray, List.set_cons_zero, List.set_cons_succ]
          refine d_take (i := 5) (v := ?_) [] (some 96) rfl (by rfl) (by kernel_rfl) (by kernel_rfl) (by kernel_rfl) (by kernel_rfl) (by kernel_rfl) (by kernel_rfl) (fun _ _ _ h => h) (.inl ⟨by rfl, ?_⟩) HS1 ?_
          rotate_left 1
          · (intro W hW; (try dsimp only at hW); go_simp; try with_reducible rfl)
          try simp only [Act.put, List.setIfInBounds_toArray, List.set_cons_zero, List.set_cons_succ]
          refine d_take (i := 6) (v := ?_) [] (some 97) rfl (by rfl) (by kernel_rfl) (by kernel_rfl) (by kernel_rfl) (by kernel_rfl) (by kernel_rfl) (by kernel_rfl) (fun _ _ _ h => h) (.inl ⟨by rfl, ?_⟩) HS1 ?_
          rotate_left 1
          · (intro W hW; (try dsimp only at hW); go_simp; try with_reducible rfl)
          try simp only [Act.put, List.setIfInBounds_toArray, List.set_cons_zero, List.set_cons_succ]
          refine d_take (i := 7) (v := ?_) [] (some 98) rfl (by rfl) (by kernel_rfl) (by kernel_rfl) (by kernel_rfl) (by kernel_rfl) (by kernel_rfl) (by kernel_rfl) (fun _ _ _ h => h) (.inl ⟨by rfl, ?_⟩) HS1 ?_
          rotate_left 1
          · (intro W hW; (try dsimp only at hW); go_simp; try with_reducible rfl)
          try simp only [Act.put, List.setIfInBounds_toArray, List.set_cons_zero, List.set_cons_succ]
          refine d_take (i := 8) (v := ?_) [] (some 99) rfl (by rfl) (by kernel_rfl) (by kernel_rfl) (by kernel_rfl) (by kernel_rfl) (by kernel_rfl) (by kernel_rfl) (fun _ _ _ h => h) (.inl ⟨by rfl, ?_⟩) HS1 ?_
          rotate_left 1
          · (intro W hW; (try dsimp only at hW); go_simp; try with_reducible rfl)
          try simp only [Act.put, List.setIfInBounds_toArray, List.set_cons_zero, List.set_cons_succ]
          have H4 := Lib.hid (And.intro (H3.out.1.ext (Ext.refl w3).drew) (And.intro (H3.out.2.1.ext (Ext.refl w3).drew) (And.intro (H3.out.2.2.1.trans (Ext.refl w3).drew) (H3.out.2.2.2.ext (Ext.refl w3).drew))))
          clear H3
          generalize w3.drew = w4 at *
          refine d_call (i := 9) (by kernel_rfl) rfl (by rfl) (fun K hK => ?_)
          simp only [List.getElem_toArray, List.getElem_cons_succ, List.getElem_cons_zero]
          go_simp
          refine FI.out.mono ?_
          rintro e0 w5 ⟨rfl, o5, x5⟩
          have HS3 : (convert 32 9 (.slice (some ⟨zb, 0, none⟩) 64 64)).run Tryd.prog w5 = .ok (.string (str z64)) w5 := strRun (H4.out.2.1.ext x5)
          have cv := strRun o5.rd
          rw [show fillL [] = z64 from rfl] at cv
          have H5 := Lib.hid (And.intro (H4.out.1.ext x5) (And.intro (H4.out.2.2.1.trans x5) (H4.out.2.2.2.ext x5)))
          clear FI o5 x5 H4
          generalize w4.heap.size = nb4 at *
          go_simp
          refine hK.out _ _ (fun _ => HS3) ?_
          clear hK K
          try simp only [Act.put, List.setIfInBounds_toArray, List.set_cons_zero, List.set_cons_succ]
          refine d_call (i := 10) (by kernel_rfl) rfl (by rfl) (fun K hK => ?_)
          simp only [List.getElem_toArray, List.getElem_cons_succ, List.getElem_cons_zero]
          go_simp
          refine hK.out _ _ (fun _ => HS3) ?_
          clear hK K cv
          try simp only [Act.put, List.setIfInBounds_toArray, List.set_cons_zero, List.set_cons_succ]
          refine d_take (i := 11) (v := ?_) [] (some 102) rfl (by rfl) (by kernel_rfl) (by kernel_rfl) (by kernel_rfl) (by kernel_rfl) (by kernel_rfl) (by kernel_rfl) (fun _ _ _ h => h) (.inl ⟨by rfl, ?_⟩) HS3 ?_
          rotate_left 1
          · (intro W hW; (try dsimp only at hW); go_simp; try with_reducible rfl)
          try simp only [Act.put, List.setIfInBounds_toArray, List.set_cons_zero, List.set_cons_succ]
          refine d_take (i := 12) (v := ?_) [] (some 103) rfl (by rfl) (by kernel_rfl) (by kernel_rfl) (by kernel_rfl) (by kernel_rfl) (by kernel_rfl) (by kernel_rfl) (fun _ _ _ h => h) (.inl ⟨by rfl, ?_⟩) HS3 ?_
          rotate_left 1
          · (intro W hW; (try dsimp only at hW); go_simp; try with_reducible rfl)
          try simp only [Act.put, List.setIfInBounds_toArray, List.set_cons_zero, List.set_cons_succ]
          refine d_take (i := 13) (v := ?_) [] (some 104) rfl (by rfl) (by kernel_rfl) (by kernel_rfl) (by kernel_rfl) (by kernel_rfl) (by kernel_rfl) (by kernel_rfl) (fun _ _ _ h => h) (.inl ⟨by rfl, ?_⟩) HS3 ?_
          rotate_left 1
          · (intro W hW; (try dsimp only at hW); go_simp; try with_reducible rfl)
          try simp only [Act.put, List.setIfInBounds_toArray, List.set_cons_zero, List.set_cons_succ]
          refine d_take (i := 14) (v := ?_) [] (some 105) rfl (by rfl) (by kernel_rfl) (by kernel_rfl) (by kernel_rfl) (by kernel_rfl) (by kernel_rfl) (by kernel_rfl) (fun _ _ _ h => h) (.inl ⟨by rfl, ?_⟩) HS3 ?_
          rotate_left 1
          · (intro W hW; (try dsimp only at hW); go_simp; try with_reducible rfl)
          try simp only [Act.put, List.setIfInBounds_toArray, List.set_cons_zero, List.set_cons_succ]
          refine d_take (i := 15) (v := ?_) [] (some 106) rfl (by rfl) (by kernel_rfl) (by kernel_rfl) (by kernel_rfl) (by kernel_rfl) (by kernel_rfl) (by kernel_rfl) (fun _ _ _ h => h) (.inl ⟨by rfl, ?_⟩) HS3 ?_
          rotate_left 1
          · (intro W hW; (try dsimp only at hW); go_simp; try with_reducible rfl)
          try simp only [Act.put, List.setIfInBounds_toArray, List.set_cons_zero, List.set_cons_succ]
          refine d_take (i := 16) (v := ?_) [] (some 107) rfl (by rfl) (by kernel_rfl) (by kernel_rfl) (by kernel_rfl) (by kernel_rfl) (by kernel_rfl) (by kernel_rfl) (fun _ _ _ h => h) (.inl ⟨by rfl, ?_⟩) HS3 ?_
          rotate_left 1
          · (intro W hW; (try dsimp only at hW); go_simp; try with_reducible rfl)
          try simp only [Act.put, List.setIfInBounds_toArray, List.set_cons_zero, List.set_cons_succ]
          refine d_take (i := 17) (v := ?_) [] (some 108) rfl (by rfl) (by kernel_rfl) (by kernel_rfl) (by kernel_rfl) (by kernel_rfl) (by kernel_rfl) (by kernel_rfl) (fun _ _ _ h => h) (.inl ⟨by rfl, ?_⟩) HS3 ?_
          rotate_left 1
          · (intro W hW; (try dsimp only at hW); go_simp; try with_reducible rfl)
          try simp only [Act.put, List.setIfInBounds_toArray, List.set_cons_zero, List.set_cons_succ]
          refine d_done (by kernel_rfl) ?_ _
          clear HS1 HS3
          obtain ⟨v, hv⟩ : ∃ v, f 1 = v := ⟨_, rfl⟩
          have HV := Lib.hid (show Rd w5 1 (some ⟨vb, 0, none⟩) 64 (u8s v) from by have h1 := H5.out.1; rwa [hv] at h1)
          have HH := Lib.hid (show ∀ h, h < 2 → halfL h v = halfL h bs ∨ ∃ s ∈ lb.map (·.2), halfL h v = halfL h s from by have h1 := HH0.out.2; rwa [hv] at h1)
          have HBS := Lib.hid (And.intro H5.out.2.2.brd H5.out.2.2)
          have HEX := Lib.hid H5.out.2.1
          clear hv HH0 H5 H1 H2
          go_wp2_with fail
          go_loopw [16] (fun v16 wr => ∃ h : Nat, v16 = .int .i64 (h : Int) ∧ h ≤ 2 ∧ Hid (Ext w5 wr)) (fun v16 _ => 2 - (intOf v16).toNat)
          case atStart => exact ⟨0, rfl, by omega, Ext.refl w5⟩
          case round =>
            obtain ⟨h, rfl, hh2, HK⟩ := hrel
            obtain ⟨U4, hU4⟩ : ∃ V : World, V = wr := ⟨_, rfl⟩
            subst hU4
            by_cases hlt2 : h < 2
            · obtain rfl | rfl : h = 0 ∨ h = 1 := by omega
              · simp only [show ((0 : Nat) : Int) = 0 from rfl]
                have cvb := fun q => half0Run (r := 64) (HV.out.ext (HK.out.trans ((Ext.refl U4).drewN q)))
                have cvs := fun q => half0Run (r := 64) (HBS.out.1.ext (HK.out.trans ((Ext.refl U4).drewN q)))
                have HX := Lib.hid (fun q => HK.out.trans ((Ext.refl U4).drewN q))
                obtain ⟨fb0, hfb0, hst⟩ : ∃ fb0 : Bool, ((str (halfL 0 v)).toList == (str (halfL 0 bs)).toList) = fb0 ∧ (fb0 = true ∨ ∃ j : Nat, 0 ≤ j ∧ ∃ p, lb[j]? = some p ∧ halfL 0 v = halfL 0 p.2) := by
                  refine ⟨_, rfl, ?_⟩
                  rcases HH.out 0 (by omega) with e | ⟨s, hs, e⟩
                  · left; rw [e]; exact BEq.rfl
                  · obtain ⟨p, hp, rfl⟩ := List.mem_map.1 hs
                    obtain ⟨j, hj⟩ := List.getElem?_of_mem hp
                    exact .inr ⟨j, Nat.zero_le _, p, hj, e⟩
                have HST := Lib.hid hst
                clear hst
                go_wp2_with fail
                go_quiet (fail)
                clear cvb cvs
                go_wp2_with fail
                clear hfb0
                go_loopw [17, 132] (fun v17 v132 wr => ∃ (k : Nat) (fb : Bool), v132 = .int .i64 (k : Int) ∧ v17 = .bool fb ∧ k ≤ lm ∧ Hid (Ext w5 wr ∧ (fb = true ∨ ∃ j : Nat, k ≤ j ∧ ∃ p, lb[j]? = some p ∧ halfL 0 v = halfL 0 p.2))) (fun _ v132 _ => lm - (intOf v132).toNat)
                case atStart => exact ⟨0, fb0, rfl, rfl, by omega, HX.out _, HST.out⟩
                case round =>
                  obtain ⟨k, fb, rfl, rfl, hk, HJ⟩ := hrel
                  obtain ⟨U6, hU6⟩ : ∃ V : World, V = wr := ⟨_, rfl⟩
                  subst hU6
                  by_cases hk1 : k < lm
                  · obtain ⟨p, hp⟩ : ∃ p, lb[k]? = some p := ⟨_, List.getElem?_eq_getElem (by have h2 := HBS.out.2.own.len; rw [lvals_len] at h2; omega)⟩
                    have ck : U6.cell? ⟨T, k, none⟩ = some (.slice (some ⟨p.1, 0, none⟩) 64 64) := (HBS.out.2.own.ext HJ.out.1).celln (lvals_at hp)
                    have z0 : (0 : Int) ≤ k := by omega
                    have z1 : (k : Int) < lm := by omega
                    cases fb with
                    | true =>
                      have HN := Lib.hid (fun q => HJ.out.1.trans ((Ext.refl U6).drewN q))
                      go_wp2_with fail
                      go_quiet (fail)
                      go_wp2_with fail
                      go_roundw
                      case rel => exact ⟨k + 1, true, by go_num, rfl, by omega, HN.out _, .inl rfl⟩
                      case measure => simp [intOf]; omega
                    | false =>
                      have cvb := fun q => half0Run (r := 64) (HV.out.ext (HJ.out.1.trans ((Ext.refl U6).drewN q)))
                      have cvs := fun q => half0Run (r := 64) ((HBS.out.2.lrd p (List.mem_of_getElem? hp)).2.ext (HJ.out.1.trans ((Ext.refl U6).drewN q)))
                      obtain ⟨fb1, hfb1, hst1⟩ : ∃ fb1 : Bool, ((str (halfL 0 v)).toList == (str (halfL 0 p.2)).toList) = fb1 ∧ (fb1 = true ∨ ∃ j : Nat, k + 1 ≤ j ∧ ∃ p, lb[j]? = some p ∧ halfL 0 v = halfL 0 p.2) := by
                        refine ⟨_, rfl, ?_⟩
                        rcases HJ.out.2 with e | ⟨j, hj, p', hp', e⟩
                        · cases e
                        · rcases Nat.eq_or_lt_of_le hj with e2 | e2
                          · subst e2
                            rw [hp] at hp'
                            injection hp' with hp'
                            left; rw [e, hp']; exact BEq.rfl
                          · exact .inr ⟨j, e2, p', hp', e⟩
                      have HN := Lib.hid (fun q => And.intro (HJ.out.1.trans ((Ext.refl U6).drewN q)) hst1)
                      clear hst1 hp
                      go_wp2_with fail
                      go_quiet (fail)
                      go_wp2_with fail
                      go_roundw
                      case rel => exact ⟨k + 1, fb1, by go_num, rfl, by omega, HN.out _⟩
                      case measure => simp [intOf]; omega
                  · obtain rfl : lm = k := by omega
                    have hfb : fb = true := by
                      rcases HJ.out.2 with e | ⟨j, hj, p, hp, _⟩
                      · exact e
                      · have h1 := (List.getElem?_eq_some_iff.1 hp).1
                        have h2 := HBS.out.2.own.len
                        rw [lvals_len] at h2
                        omega
                    subst hfb
                    have HN := Lib.hid HJ.out.1
                    go_wp2_with fail
                    go_roundw
                    case rel => exact ⟨0 + 1, by go_num, by omega, HN.out⟩
                    case measure => simp [intOf]
              · simp only [show ((1 : Nat) : Int) = 1 from rfl]
                have cvb := fun q => half1Run (r := 64) (HV.out.ext (HK.out.trans ((Ext.refl U4).drewN q)))
                have cvs := fun q => half1Run (r := 64) (HBS.out.1.ext (HK.out.trans ((Ext.refl U4).drewN q)))
                have HX := Lib.hid (fun q => HK.out.trans ((Ext.refl U4).drewN q))
                obtain ⟨fb0, hfb0, hst⟩ : ∃ fb0 : Bool, ((str (halfL 1 v)).toList == (str (halfL 1 bs)).toList) = fb0 ∧ (fb0 = true ∨ ∃ j : Nat, 0 ≤ j ∧ ∃ p, lb[j]? = some p ∧ halfL 1 v = halfL 1 p.2) := by
                  refine ⟨_, rfl, ?_⟩
                  rcases HH.out 1 (by omega) with e | ⟨s, hs, e⟩
                  · left; rw [e]; exact BEq.rfl
                  · obtain ⟨p, hp, rfl⟩ := List.mem_map.1 hs
                    obtain ⟨j, hj⟩ := List.getElem?_of_mem hp
                    exact .inr ⟨j, Nat.zero_le _, p, hj, e⟩
                have HST := Lib.hid hst
                clear hst
                go_wp2_with fail
                go_quiet (fail)
                clear cvb cvs
                go_wp2_with fail
                clear hfb0
                go_loopw [17, 132] (fun v17 v132 wr => ∃ (k : Nat) (fb : Bool), v132 = .int .i64 (k : Int) ∧ v17 = .bool fb ∧ k ≤ lm ∧ Hid (Ext w5 wr ∧ (fb = true ∨ ∃ j : Nat, k ≤ j ∧ ∃ p, lb[j]? = some p ∧ halfL 1 v = halfL 1 p.2))) (fun _ v132 _ => lm - (intOf v132).toNat)
                case atStart => exact ⟨0, fb0, rfl, rfl, by omega, HX.out _, HST.out⟩
                case round =>
                  obtain ⟨k, fb, rfl, rfl, hk, HJ⟩ := hrel
                  obtain ⟨U6, hU6⟩ : ∃ V : World, V = wr := ⟨_, rfl⟩
                  subst hU6
                  by_cases hk1 : k < lm
                  · obtain ⟨p, hp⟩ : ∃ p, lb[k]? = some p := ⟨_, List.getElem?_eq_getElem (by have h2 := HBS.out.2.own.len; rw [lvals_len] at h2; omega)⟩
                    have ck : U6.cell? ⟨T, k, none⟩ = some (.slice (some ⟨p.1, 0, none⟩) 64 64) := (HBS.out.2.own.ext HJ.out.1).celln (lvals_at hp)
                    have z0 : (0 : Int) ≤ k := by omega
                    have z1 : (k : Int) < lm := by omega
                    cases fb with
                    | true =>
                      have HN := Lib.hid (fun q => HJ.out.1.trans ((Ext.refl U6).drewN q))
                      go_wp2_with fail
                      go_quiet (fail)
                      go_wp2_with fail
                      go_roundw
                      case rel => exact ⟨k + 1, true, by go_num, rfl, by omega, HN.out _, .inl rfl⟩
                      case measure => simp [intOf]; omega
                    | false =>
                      have cvb := fun q => half1Run (r := 64) (HV.out.ext (HJ.out.1.trans ((Ext.refl U6).drewN q)))
                      have cvs := fun q => half1Run (r := 64) ((HBS.out.2.lrd p (List.mem_of_getElem? hp)).2.ext (HJ.out.1.trans ((Ext.refl U6).drewN q)))
                      obtain ⟨fb1, hfb1, hst1⟩ : ∃ fb1 : Bool, ((str (halfL 1 v)).toList == (str (halfL 1 p.2)).toList) = fb1 ∧ (fb1 = true ∨ ∃ j : Nat, k + 1 ≤ j ∧ ∃ p, lb[j]? = some p ∧ halfL 1 v = halfL 1 p.2) := by
                        refine ⟨_, rfl, ?_⟩
                        rcases HJ.out.2 with e | ⟨j, hj, p', hp', e⟩
                        · cases e
                        · rcases Nat.eq_or_lt_of_le hj with e2 | e2
                          · subst e2
                            rw [hp] at hp'
                            injection hp' with hp'
                            left; rw [e, hp']; exact BEq.rfl
                          · exact .inr ⟨j, e2, p', hp', e⟩
                      have HN := Lib.hid (fun q => And.intro (HJ.out.1.trans ((Ext.refl U6).drewN q)) hst1)
                      clear hst1 hp
                      go_wp2_with fail
                      go_quiet (fail)
                      go_wp2_with fail
                      go_roundw
                      case rel => exact ⟨k + 1, fb1, by go_num, rfl, by omega, HN.out _⟩
                      case measure => simp [intOf]; omega
                  · obtain rfl : lm = k := by omega
                    have hfb : fb = true := by
                      rcases HJ.out.2 with e | ⟨j, hj, p, hp, _⟩
                      · exact e
                      · have h1 := (List.getElem?_eq_some_iff.1 hp).1
                        have h2 := HBS.out.2.own.len
                        rw [lvals_len] at h2
                        omega
                    subst hfb
                    have HN := Lib.hid HJ.out.1
                    go_wp2_with fail
                    go_roundw
                    case rel => exact ⟨1 + 1, by go_num, by omega, HN.out⟩
                    case measure => simp [intOf]
            · obtain rfl : h = 2 := by omega
              have HZ := Lib.hid (HEX.out.trans HK.out)
              go_wp2_with fail
              go_returns
              exact ⟨rfl, HZ.out⟩
        · have i100 : i ≤ 100 := by omega
          have FI := Lib.hid (filled_any B p.length d p U2 HP.out.2.2 (HP.out.1.ext HA.out.1.wext))
          rw [HSS.out] at FI
          have hsec : IsSec s := by rw [← HSS.out]; exact HP.out.2.1
          have HSEC := Lib.hid hsec
          clear hsec
          go_wp2_with fail
          refine FI.out.mono ?_
          rintro e0 w1 ⟨rfl, o1, x1⟩
          have sd1 := (HA.out.1.wider (ds := lb.map (·.2) ++ [s]) (fun q hq => List.mem_append.2 (.inl hq))).add x1 (q := U2.heap.size) (Nat.le_refl _) o1.lt
          have B1 := Lib.hid ((HA.out.2.ext x1).wide (Y := fun q => X q ∨ q = U2.heap.size) (fun q hq => .inl hq))
          have W1 := Lib.hid (sd1.write1 HE.out (by omega) HSEC.out o1.rd (.inr rfl) (by simp))
          clear FI o1 x1 sd1
          generalize U2.heap.size = fb1 at *
          go_wp2_with fail
          refine W1.out.mono ?_
          rintro e0 w2 ⟨rfl, sd2, k2⟩
          have D2 := Lib.hid (And.intro sd2 (B1.out.keep k2))
          have XB := (Ext.refl w2).alloc (.cells #[.int .u8 9] 5)
          have FI := Lib.hid (filled_any (some ⟨w2.heap.size, 0, none⟩) 1 1 [9] (w2.alloc (.cells #[.int .u8 9] 5)) (by omega) (Rd.new w2 #[.int .u8 9] 5 (0, 0)))
          clear W1 sd2 k2 B1
          go_wp2_with fail
          refine FI.out.mono ?_
          rintro e0 w3 ⟨rfl, o3, x3⟩
          have sd3 := (D2.out.1.ex' XB).add x3 (q := (w2.alloc (.cells #[.int .u8 9] 5)).heap.size) (Nat.le_refl _) o3.lt
          have B3 := Lib.hid (((D2.out.2.ext XB).ext x3).wide (Y := fun q => (X q ∨ q = fb1) ∨ q = (w2.alloc (.cells #[.int .u8 9] 5)).heap.size) (fun q hq => .inl hq))
          have W2 := Lib.hid (sd3.write2 HE.out (by omega) (sec_one (x := 9) (by omega)) o3.rd (.inr rfl))
          clear FI o3 x3 sd3 XB
          generalize (w2.alloc (.cells #[.int .u8 9] 5)).heap.size = fb2 at *
          go_wp2_with fail
          refine W2.out.mono ?_
          rintro e0 w4 ⟨rfl, sd4, k4⟩
          have D4 := Lib.hid (And.intro sd4 (B3.out.keep k4))
          have FI := Lib.hid (filled_any B p.length d p w4 HP.out.2.2 (HP.out.1.ext sd4.wext))
          rw [HSS.out] at FI
          clear W2 sd4 k4 B3
          go_wp2_with fail
          refine FI.out.mono ?_
          rintro e0 w5 ⟨rfl, o5, x5⟩
          have D5 := Lib.hid (And.intro (D4.out.1.add x5 (q := w4.heap.size) (Nat.le_refl _) o5.lt) (And.intro ((D4.out.2.ext x5).wide (Y := fun q => ((X q ∨ q = fb1) ∨ q = fb2) ∨ q = w4.heap.size) (fun q hq => .inl hq)) (And.intro o5.rd (fun (a : Addr) (ha : (some (⟨T, 0, none⟩ : Addr)) = some a) => (show a.block ≠ w4.heap.size from by
            have h1 := D4.out.1.xl (D4.out.2.la a ha).1
            omega)))))
          clear FI o5 x5
          generalize w4.heap.size = fb3 at *
          have XC := (Ext.refl w5).alloc (.cells #[.slice (some ⟨fb3, 0, none⟩) 64 64] 32)
          have RN : Rd (w5.alloc (.cells #[.slice (some ⟨fb3, 0, none⟩) 64 64] 32)) 1 (some ⟨w5.heap.size, 0, none⟩) 1 [.slice (some ⟨fb3, 0, none⟩) 64 64] := Rd.new w5 #[.slice (some ⟨fb3, 0, none⟩) 64 64] 32 (0, 0)
          go_wp2_with (at_builtin; refine held ?_)
          refine Held.go (wp_app (m := 1) (news := [.slice (some ⟨fb3, 0, none⟩) 64 64]) eltB (D5.out.2.1.own.alloc _) RN (by simp [Value.oneCell']) (by omega) (.inr ⟨by omega, by omega⟩) (by have h1 := D5.out.1.wext.size; simp; omega) _ _ rfl rfl rfl rfl ?_)
          intro A6 c6 w6 o6 g6 hA6 _
          obtain ⟨X6, s6, b6⟩ := ss_app D5.out.1 D5.out.2.1 XC (.inr rfl) D5.out.2.2.1 D5.out.2.2.2 o6 g6 hA6
          have D6 := Lib.hid (And.intro s6 b6)
          clear o6 g6 hA6 s6 b6 RN XC
          by_cases hfe : (i : Int) = fl
          · have hfb : ((i : Int) == fl) = true := by simpa using hfe
            have FL := Lib.hid (D6.out.1.flush (by omega))
            clear hfe
            go_wp2_with fail
            clear hfb
            refine FL.out.mono ?_
            rintro e0 w7 ⟨rfl, s7, k7⟩
            have FI := Lib.hid (filled_any B p.length d p w7 HP.out.2.2 (HP.out.1.ext s7.wext))
            rw [HSS.out] at FI
            have D7 := Lib.hid s7
            clear FL s7 k7
            go_wp2_with fail
            refine FI.out.mono ?_
            rintro e0 w8 ⟨rfl, o8, x8⟩
            have HN := Lib.hid (show SS w w8 g w7.heap.size none 0 0 [] (2 * (i + 1)) from ⟨fun q => X6 q ∨ q = w7.heap.size, s, s, (D7.out.add x8 (q := w7.heap.size) (Nat.le_refl _) o8.lt).mono (by omega), ⟨o8.rd, .inr rfl, (fun p hp => by cases hp), Own.nil_, (fun a ha => by cases ha)⟩⟩)
            clear FI o8 x8
            generalize w7.heap.size = fb4 at *
            go_wp2_with fail
            go_roundw
            case rel => exact ⟨i + 1, fb4, 0, 0, none, [], by go_num, rfl, rfl, by omega, by omega, by omega, HN.out⟩
            case measure => simp [intOf]; omega
          · have hfb : ((i : Int) == fl) = false := by simpa using hfe
            clear hfe
            have HN := Lib.hid (show SS w w6 g bb' A6 (lm + 1) c6 (lb ++ [(fb3, s)]) (2 * (i + 1)) from ⟨X6, bs, s, D6.out.1.mono (by omega), D6.out.2⟩)
            go_wp2_with fail
            go_roundw
            case rel => exact ⟨i + 1, bb', lm + 1, c6, A6, lb ++ [(fb3, s)], by go_num, rfl, rfl, by omega, by omega, by omega, HN.out⟩
            case measure => simp [intOf]; omega
      · obtain rfl : n = i := by omega
        have CR := Lib.hid (HA.out.1.crash (by omega) kp HW.out.2.2 torn)
        go_wp2_with fail
        refine CR.out.mono ?_
        rintro e0 w1 ⟨rfl, c1, k1⟩
        have S1 := HA.out.2.keep k1
        obtain ⟨f, nw, d1, hf0, hh⟩ := c1.ex
        have RD1 := Lib.hid (d1.read HE.out (by omega) 1 (by omega) (by omega))
        have H1 := Lib.hid (And.intro d1 S1)
        have HH0 := Lib.hid (And.intro hf0 hh)
        clear CR c1 k1 S1 d1 hf0 hh
        go_wp2_with fail
        refine RD1.out.mono ?_
        rintro e0 w2 ⟨vb, rfl, r2, _, _, x2⟩
        have RD0 := Lib.hid ((H1.out.1.ex' x2).read HE.out (by omega) 0 (by omega) (by omega))
        rw [readW_stays (fun x hx => by cases hx)] at r2
        have H2 := Lib.hid (And.intro r2 (And.intro (H1.out.1.ex' x2) (H1.out.2.ext x2)))
        clear RD1 r2 x2
        go_wp2_with fail
        refine RD0.out.mono ?_
        rintro e0 w3 ⟨zb, rfl, r3, _, _, x3⟩
        rw [readW_stays (fun x hx => by cases hx), HH0.out.1] at r3
        have H3 := Lib.hid (And.intro (H2.out.1.ext x3) (And.intro r3 (And.intro (H2.out.2.1.ex' x3).ext (H2.out.2.2.ext x3))))
        clear RD0 r3 x3
        have HS1 : (convert 32 9 (.slice (some ⟨zb, 0, none⟩) 64 64)).run Tryd.prog w3.drew = .ok (.string (str z64)) w3.drew := strRun (H3.out.2.1.ext (Ext.refl w3).drew)
        have FI := Lib.hid (filled_any none 0 0 [] w3.drew (by omega) Rd.nil_)
        go_upto_region 24 with (fail)
        refine d_region (fun W : World => (convert 32 9 (.slice (some ⟨zb, 0, none⟩) 64 64)).run Tryd.prog W = .ok (.string (str z64)) W) [] (by kernel_rfl) ?_
        refine d_take (i := 0) (v := ?_) [] (some 91) rfl (by rfl) (by kernel_rfl) (by kernel_rfl) (by kernel_rfl) (by kernel_rfl) (by kernel_rfl) (by kernel_rfl) (fun _ _ _ h => h) (.inl ⟨by rfl, ?_⟩) HS1 ?_
        rotate_left 1
        · (intro W hW; (try dsimp only at hW); go_simp; try with_reducible rfl)
        try simp only [Act.put, List.setIfInBounds_toArray, List.set_cons_zero, List.set_cons_succ]
        refine d_take (i := 1) (v := ?_) [] (some 92) rfl (by rfl) (by kernel_rfl) (by kernel_rfl) (by kernel_rfl) (by kernel_rfl) (by kernel_rfl) (by kernel_rfl) (fun _ _ _ h => h) (.inl ⟨by rfl, ?_⟩) HS1 ?_
        rotate_left 1
        · (intro W hW; (try dsimp only at hW); go_simp; try with_reducible rfl)
        try simp only [Act.put, List.setIfInBounds_toArray, List.set_cons_zero, List.set_cons_succ]
        refine d_take (i := 2) (v := ?_) [] (some 93) rfl (by rfl) (by kernel_rfl) (by kernel_rfl) (by kernel_rfl) (by kernel_rfl) (by kernel_rfl) (by kernel_rfl) (fun _ _ _ h => h) (.inl ⟨by rfl, ?_⟩) HS1 ?_
        rotate_left 1
        · (intro W hW; (try dsimp only at hW); go_simp; try with_reducible rfl)
        try simp only [Act.put, List.setIfInBounds_toArray, List.set_cons_zero, List.set_cons_succ]
        refine d_take (i := 3) (v := ?_) [] (some 94) rfl (by rfl) (by kernel_rfl) (by kernel_rfl) (by kernel_rfl) (by kernel_rfl) (by kernel_rfl) (by kernel_rfl) (fun _ _ _ h => h) (.inl ⟨by rfl, ?_⟩) HS1 ?_
        rotate_left 1
        · (intro W hW; (try dsimp only at hW); go_simp; try with_reducible rfl)
        try simp only [Act.put, List.setIfInBounds_toArray, List.set_cons_zero, List.set_cons_succ]
        refine d_take (i := 4) (v := ?_) [] (some 95) rfl (by rfl) (by kernel_rfl) (by kernel_rfl) (by kernel_rfl) (by kernel_rfl) (by kernel_rfl) (by kernel_rfl) (fun _ _ _ h => h) (.inl ⟨by rfl, ?_⟩) HS1 ?_
        rotate_left 1
        · (intro W hW; (try dsimp only at hW); go_simp; try with_reducible rfl)
        try simp only [Act.put, List.setIfInBounds_toArray, List.set_cons_zero, List.set_cons_succ]
        refine d_take (i := 5) (v := ?_) [] (some 96) rfl (by rfl) (by kernel_rfl) (by kernel_rfl) (by kernel_rfl) (by kernel_rfl) (by kernel_rfl) (by kernel_rfl) (fun _ _ _ h => h) (.inl ⟨by rfl, ?_⟩) HS1 ?_
        rotate_left 1
        · (intro W hW; (try dsimp only at hW); go_simp; try with_reducible rfl)
        try simp only [Act.put, List.setIfInBounds_toArray, List.set_cons_zero, List.set_cons_succ]
        refine d_take (i := 6) (v := ?_) [] (some 97) rfl (by rfl) (by kernel_rfl) (by kernel_rfl) (by kernel_rfl) (by kernel_rfl) (by kernel_rfl) (by kernel_rfl) (fun _ _ _ h => h) (.inl ⟨by rfl, ?_⟩) HS1 ?_
        rotate_left 1
        · (intro W hW; (try dsimp only at hW); go_simp; try with_reducible rfl)
        try simp only [Act.put, List.setIfInBounds_toArray, List.set_cons_zero, List.set_cons_succ]
        refine d_take (i := 7) (v := ?_) [] (some 98) rfl (by rfl) (by kernel_rfl) (by kernel_rfl) (by kernel_rfl) (by kernel_rfl) (by kernel_rfl) (by kernel_rfl) (fun _ _ _ h => h) (.inl ⟨by rfl, ?_⟩) HS1 ?_
        rotate_left 1
        · (intro W hW; (try dsimp only at hW); go_simp; try with_reducible rfl)
        try simp only [Act.put, List.setIfInBounds_toArray, List.set_cons_zero, List.set_cons_succ]
        refine d_take (i := 8) (v := ?_) [] (some 99) rfl (by rfl) (by kernel_rfl) (by kernel_rfl) (by kernel_rfl) (by kernel_rfl) (by kernel_rfl) (by kernel_rfl) (fun _ _ _ h => h) (.inl ⟨by rfl, ?_⟩) HS1 ?_
        rotate_left 1
        · (intro W hW; (try dsimp only at hW); go_simp; try with_reducible rfl)
        try simp only [Act.put, List.setIfInBounds_toArray, List.set_cons_zero, List.set_cons_succ]
        have H4 := Lib.hid (And.intro (H3.out.1.ext (Ext.refl w3).drew) (And.intro (H3.out.2.1.ext (Ext.refl w3).drew) (And.intro (H3.out.2.2.1.trans (Ext.refl w3).drew) (H3.out.2.2.2.ext (Ext.refl w3).drew))))
        clear H3
        generalize w3.drew = w4 at *
        refine d_call (i := 9) (by kernel_rfl) rfl (by rfl) (fun K hK => ?_)
        simp only [List.getElem_toArray, List.getElem_cons_succ, List.getElem_cons_zero]
        go_simp
        refine FI.out.mono ?_
        rintro e0 w5 ⟨rfl, o5, x5⟩
        have HS3 : (convert 32 9 (.slice (some ⟨zb, 0, none⟩) 64 64)).run Tryd.prog w5 = .ok (.string (str z64)) w5 := strRun (H4.out.2.1.ext x5)
        have cv := strRun o5.rd
        rw [show fillL [] = z64 from rfl] at cv
        have H5 := Lib.hid (And.intro (H4.out.1.ext x5) (And.intro (H4.out.2.2.1.trans x5) (H4.out.2.2.2.ext x5)))
        clear FI o5 x5 H4
        generalize w4.heap.size = nb4 at *
        go_simp
        refine hK.out _ _ (fun _ => HS3) ?_
        clear hK K
        try simp only [Act.put, List.setIfInBounds_toArray, List.set_cons_zero, List.set_cons_succ]
        refine d_call (i := 10) (by kernel_rfl) rfl (by rfl) (fun K hK => ?_)
        simp only [List.getElem_toArray, List.getElem_cons_succ, List.getElem_cons_zero]
        go_simp
        refine hK.out _ _ (fun _ => HS3) ?_
        clear hK K cv
        try simp only [Act.put, List.setIfInBounds_toArray, List.set_cons_zero, List.set_cons_succ]
        refine d_take (i := 11) (v := ?_) [] (some 102) rfl (by rfl) (by kernel_rfl) (by kernel_rfl) (by kernel_rfl) (by kernel_rfl) (by kernel_rfl) (by kernel_rfl) (fun _ _ _ h => h) (.inl ⟨by rfl, ?_⟩) HS3 ?_
        rotate_left 1
        · (intro W hW; (try dsimp only at hW); go_simp; try with_reducible rfl)
        try simp only [Act.put, List.setIfInBounds_toArray, List.set_cons_zero, List.set_cons_succ]
        refine d_take (i := 12) (v := ?_) [] (some 103) rfl (by rfl) (by kernel_rfl) (by kernel_rfl) (by kernel_rfl) (by kernel_rfl) (by kernel_rfl) (by kernel_rfl) (fun _ _ _ h => h) (.inl ⟨by rfl, ?_⟩) HS3 ?_
        rotate_left 1
        · (intro W hW; (try dsimp only at hW); go_simp; try with_reducible rfl)
        try simp only [Act.put, List.setIfInBounds_toArray, List.set_cons_zero, List.set_cons_succ]
        refine d_take (i := 13) (v := ?_) [] (some 104) rfl (by rfl) (by kernel_rfl) (by kernel_rfl) (by kernel_rfl) (by kernel_rfl) (by kernel_rfl) (by kernel_rfl) (fun _ _ _ h => h) (.inl ⟨by rfl, ?_⟩) HS3 ?_
        rotate_left 1
        · (intro W hW; (try dsimp only at hW); go_simp; try with_reducible rfl)
        try simp only [Act.put, List.setIfInBounds_toArray, List.set_cons_zero, List.set_cons_succ]
        refine d_take (i := 14) (v := ?_) [] (some 105) rfl (by rfl) (by kernel_rfl) (by kernel_rfl) (by kernel_rfl) (by kernel_rfl) (by kernel_rfl) (by kernel_rfl) (fun _ _ _ h => h) (.inl ⟨by rfl, ?_⟩) HS3 ?_
        rotate_left 1
        · (intro W hW; (try dsimp only at hW); go_simp; try with_reducible rfl)
        try simp only [Act.put, List.setIfInBounds_toArray, List.set_cons_zero, List.set_cons_succ]
        refine d_take (i := 15) (v := ?_) [] (some 106) rfl (by rfl) (by kernel_rfl) (by kernel_rfl) (by kernel_rfl) (by kernel_rfl) (by kernel_rfl) (by kernel_rfl) (fun _ _ _ h => h) (.inl ⟨by rfl, ?_⟩) HS3 ?_
        rotate_left 1
        · (intro W hW; (try dsimp only at hW); go_simp; try with_reducible rfl)
        try simp only [Act.put, List.setIfInBounds_toArray, List.set_cons_zero, List.set_cons_succ]
        refine d_take (i := 16) (v := ?_) [] (some 107) rfl (by rfl) (by kernel_rfl) (by kernel_rfl) (by kernel_rfl) (by kernel_rfl) (by kernel_rfl) (by kernel_rfl) (fun _ _ _ h => h) (.inl ⟨by rfl, ?_⟩) HS3 ?_
        rotate_left 1
        · (intro W hW; (try dsimp only at hW); go_simp; try with_reducible rfl)
        try simp only [Act.put, List.setIfInBounds_toArray, List.set_cons_zero, List.set_cons_succ]
        refine d_take (i := 17) (v := ?_) [] (some 108) rfl (by rfl) (by kernel_rfl) (by kernel_rfl) (by kernel_rfl) (by kernel_rfl) (by kernel_rfl) (by kernel_rfl) (fun _ _ _ h => h) (.inl ⟨by rfl, ?_⟩) HS3 ?_
        rotate_left 1
        · (intro W hW; (try dsimp only at hW); go_simp; try with_reducible rfl)
        try simp only [Act.put, List.setIfInBounds_toArray, List.set_cons_zero, List.set_cons_succ]
        refine d_done (by kernel_rfl) ?_ _
        clear HS1 HS3
        obtain ⟨v, hv⟩ : ∃ v, f 1 = v := ⟨_, rfl⟩
        have HV := Lib.hid (show Rd w5 1 (some ⟨vb, 0, none⟩) 64 (u8s v) from by have h1 := H5.out.1; rwa [hv] at h1)
        have HH := Lib.hid (show ∀ h, h < 2 → halfL h v = halfL h bs ∨ ∃ s ∈ lb.map (·.2), halfL h v = halfL h s from by have h1 := HH0.out.2; rwa [hv] at h1)
        have HBS := Lib.hid (And.intro H5.out.2.2.brd H5.out.2.2)
        have HEX := Lib.hid H5.out.2.1
        clear hv HH0 H5 H1 H2
        go_wp2_with fail
        go_loopw [16] (fun v16 wr => ∃ h : Nat, v16 = .int .i64 (h : Int) ∧ h ≤ 2 ∧ Hid (Ext w5 wr)) (fun v16 _ => 2 - (intOf v16).toNat)
        case atStart => exact ⟨0, rfl, by omega, Ext.refl w5⟩
        case round =>
          obtain ⟨h, rfl, hh2, HK⟩ := hrel
          obtain ⟨U4, hU4⟩ : ∃ V : World, V = wr := ⟨_, rfl⟩
          subst hU4
          by_cases hlt2 : h < 2
          · obtain rfl | rfl : h = 0 ∨ h = 1 := by omega
            · simp only [show ((0 : Nat) : Int) = 0 from rfl]
              have cvb := fun q => half0Run (r := 64) (HV.out.ext (HK.out.trans ((Ext.refl U4).drewN q)))
              have cvs := fun q => half0Run (r := 64) (HBS.out.1.ext (HK.out.trans ((Ext.refl U4).drewN q)))
              have HX := Lib.hid (fun q => HK.out.trans ((Ext.refl U4).drewN q))
              obtain ⟨fb0, hfb0, hst⟩ : ∃ fb0 : Bool, ((str (halfL 0 v)).toList == (str (halfL 0 bs)).toList) = fb0 ∧ (fb0 = true ∨ ∃ j : Nat, 0 ≤ j ∧ ∃ p, lb[j]? = some p ∧ halfL 0 v = halfL 0 p.2) := by
                refine ⟨_, rfl, ?_⟩
                rcases HH.out 0 (by omega) with e | ⟨s, hs, e⟩
                · left; rw [e]; exact BEq.rfl
                · obtain ⟨p, hp, rfl⟩ := List.mem_map.1 hs
                  obtain ⟨j, hj⟩ := List.getElem?_of_mem hp
                  exact .inr ⟨j, Nat.zero_le _, p, hj, e⟩
              have HST := Lib.hid hst
              clear hst
              go_wp2_with fail
              go_quiet (fail)
              clear cvb cvs
              go_wp2_with fail
              clear hfb0
              go_loopw [17, 132] (fun v17 v132 wr => ∃ (k : Nat) (fb : Bool), v132 = .int .i64 (k : Int) ∧ v17 = .bool fb ∧ k ≤ lm ∧ Hid (Ext w5 wr ∧ (fb = true ∨ ∃ j : Nat, k ≤ j ∧ ∃ p, lb[j]? = some p ∧ halfL 0 v = halfL 0 p.2))) (fun _ v132 _ => lm - (intOf v132).toNat)
              case atStart => exact ⟨0, fb0, rfl, rfl, by omega, HX.out _, HST.out⟩
              case round =>
                obtain ⟨k, fb, rfl, rfl, hk, HJ⟩ := hrel
                obtain ⟨U6, hU6⟩ : ∃ V : World, V = wr := ⟨_, rfl⟩
                subst hU6
                by_cases hk1 : k < lm
                · obtain ⟨p, hp⟩ : ∃ p, lb[k]? = some p := ⟨_, List.getElem?_eq_getElem (by have h2 := HBS.out.2.own.len; rw [lvals_len] at h2; omega)⟩
                  have ck : U6.cell? ⟨T, k, none⟩ = some (.slice (some ⟨p.1, 0, none⟩) 64 64) := (HBS.out.2.own.ext HJ.out.1).celln (lvals_at hp)
                  have z0 : (0 : Int) ≤ k := by omega
                  have z1 : (k : Int) < lm := by omega
                  cases fb with
                  | true =>
                    have HN := Lib.hid (fun q => HJ.out.1.trans ((Ext.refl U6).drewN q))
                    go_wp2_with fail
                    go_quiet (fail)
                    go_wp2_with fail
                    go_roundw
                    case rel => exact ⟨k + 1, true, by go_num, rfl, by omega, HN.out _, .inl rfl⟩
                    case measure => simp [intOf]; omega
                  | false =>
                    have cvb := fun q => half0Run (r := 64) (HV.out.ext (HJ.out.1.trans ((Ext.refl U6).drewN q)))
                    have cvs := fun q => half0Run (r := 64) ((HBS.out.2.lrd p (List.mem_of_getElem? hp)).2.ext (HJ.out.1.trans ((Ext.refl U6).drewN q)))
                    obtain ⟨fb1, hfb1, hst1⟩ : ∃ fb1 : Bool, ((str (halfL 0 v)).toList == (str (halfL 0 p.2)).toList) = fb1 ∧ (fb1 = true ∨ ∃ j : Nat, k + 1 ≤ j ∧ ∃ p, lb[j]? = some p ∧ halfL 0 v = halfL 0 p.2) := by
                      refine ⟨_, rfl, ?_⟩
                      rcases HJ.out.2 with e | ⟨j, hj, p', hp', e⟩
                      · cases e
                      · rcases Nat.eq_or_lt_of_le hj with e2 | e2
                        · subst e2
                          rw [hp] at hp'
                          injection hp' with hp'
                          left; rw [e, hp']; exact BEq.rfl
                        · exact .inr ⟨j, e2, p', hp', e⟩
                    have HN := Lib.hid (fun q => And.intro (HJ.out.1.trans ((Ext.refl U6).drewN q)) hst1)
                    clear hst1 hp
                    go_wp2_with fail
                    go_quiet (fail)
                    go_wp2_with fail
                    go_roundw
                    case rel => exact ⟨k + 1, fb1, by go_num, rfl, by omega, HN.out _⟩
                    case measure => simp [intOf]; omega
                · obtain rfl : lm = k := by omega
                  have hfb : fb = true := by
                    rcases HJ.out.2 with e | ⟨j, hj, p, hp, _⟩
                    · exact e
                    · have h1 := (List.getElem?_eq_some_iff.1 hp).1
                      have h2 := HBS.out.2.own.len
                      rw [lvals_len] at h2
                      omega
                  subst hfb
                  have HN := Lib.hid HJ.out.1
                  go_wp2_with fail
                  go_roundw
                  case rel => exact ⟨0 + 1, by go_num, by omega, HN.out⟩
                  case measure => simp [intOf]
            · simp only [show ((1 : Nat) : Int) = 1 from rfl]
              have cvb := fun q => half1Run (r := 64) (HV.out.ext (HK.out.trans ((Ext.refl U4).drewN q)))
              have cvs := fun q => half1Run (r := 64) (HBS.out.1.ext (HK.out.trans ((Ext.refl U4).drewN q)))
              have HX := Lib.hid (fun q => HK.out.trans ((Ext.refl U4).drewN q))
              obtain ⟨fb0, hfb0, hst⟩ : ∃ fb0 : Bool, ((str (halfL 1 v)).toList == (str (halfL 1 bs)).toList) = fb0 ∧ (fb0 = true ∨ ∃ j : Nat, 0 ≤ j ∧ ∃ p, lb[j]? = some p ∧ halfL 1 v = halfL 1 p.2) := by
                refine ⟨_, rfl, ?_⟩
                rcases HH.out 1 (by omega) with e | ⟨s, hs, e⟩
                · left; rw [e]; exact BEq.rfl
                · obtain ⟨p, hp, rfl⟩ := List.mem_map.1 hs
                  obtain ⟨j, hj⟩ := List.getElem?_of_mem hp
                  exact .inr ⟨j, Nat.zero_le _, p, hj, e⟩
              have HST := Lib.hid hst
              clear hst
              go_wp2_with fail
              go_quiet (fail)
              clear cvb cvs
              go_wp2_with fail
              clear hfb0
              go_loopw [17, 132] (fun v17 v132 wr => ∃ (k : Nat) (fb : Bool), v132 = .int .i64 (k : Int) ∧ v17 = .bool fb ∧ k ≤ lm ∧ Hid (Ext w5 wr ∧ (fb = true ∨ ∃ j : Nat, k ≤ j ∧ ∃ p, lb[j]? = some p ∧ halfL 1 v = halfL 1 p.2))) (fun _ v132 _ => lm - (intOf v132).toNat)
              case atStart => exact ⟨0, fb0, rfl, rfl, by omega, HX.out _, HST.out⟩
              case round =>
                obtain ⟨k, fb, rfl, rfl, hk, HJ⟩ := hrel
                obtain ⟨U6, hU6⟩ : ∃ V : World, V = wr := ⟨_, rfl⟩
                subst hU6
                by_cases hk1 : k < lm
                · obtain ⟨p, hp⟩ : ∃ p, lb[k]? = some p := ⟨_, List.getElem?_eq_getElem (by have h2 := HBS.out.2.own.len; rw [lvals_len] at h2; omega)⟩
                  have ck : U6.cell? ⟨T, k, none⟩ = some (.slice (some ⟨p.1, 0, none⟩) 64 64) := (HBS.out.2.own.ext HJ.out.1).celln (lvals_at hp)
                  have z0 : (0 : Int) ≤ k := by omega
                  have z1 : (k : Int) < lm := by omega
                  cases fb with
                  | true =>
                    have HN := Lib.hid (fun q => HJ.out.1.trans ((Ext.refl U6).drewN q))
                    go_wp2_with fail
                    go_quiet (fail)
                    go_wp2_with fail
                    go_roundw
                    case rel => exact ⟨k + 1, true, by go_num, rfl, by omega, HN.out _, .inl rfl⟩
                    case measure => simp [intOf]; omega
                  | false =>
                    have cvb := fun q => half1Run (r := 64) (HV.out.ext (HJ.out.1.trans ((Ext.refl U6).drewN q)))
                    have cvs := fun q => half1Run (r := 64) ((HBS.out.2.lrd p (List.mem_of_getElem? hp)).2.ext (HJ.out.1.trans ((Ext.refl U6).drewN q)))
                    obtain ⟨fb1, hfb1, hst1⟩ : ∃ fb1 : Bool, ((str (halfL 1 v)).toList == (str (halfL 1 p.2)).toList) = fb1 ∧ (fb1 = true ∨ ∃ j : Nat, k + 1 ≤ j ∧ ∃ p, lb[j]? = some p ∧ halfL 1 v = halfL 1 p.2) := by
                      refine ⟨_, rfl, ?_⟩
                      rcases HJ.out.2 with e | ⟨j, hj, p', hp', e⟩
                      · cases e
                      · rcases Nat.eq_or_lt_of_le hj with e2 | e2
                        · subst e2
                          rw [hp] at hp'
                          injection hp' with hp'
                          left; rw [e, hp']; exact BEq.rfl
                        · exact .inr ⟨j, e2, p', hp', e⟩
                    have HN := Lib.hid (fun q => And.intro (HJ.out.1.trans ((Ext.refl U6).drewN q)) hst1)
                    clear hst1 hp
                    go_wp2_with fail
                    go_quiet (fail)
                    go_wp2_with fail
                    go_roundw
                    case rel => exact ⟨k + 1, fb1, by go_num, rfl, by omega, HN.out _⟩
                    case measure => simp [intOf]; omega
                · obtain rfl : lm = k := by omega
                  have hfb : fb = true := by
                    rcases HJ.out.2 with e | ⟨j, hj, p, hp, _⟩
                    · exact e
                    · have h1 := (List.getElem?_eq_some_iff.1 hp).1
                      have h2 := HBS.out.2.own.len
                      rw [lvals_len] at h2
                      omega
                  subst hfb
                  have HN := Lib.hid HJ.out.1
                  go_wp2_with fail
                  go_roundw
                  case rel => exact ⟨1 + 1, by go_num, by omega, HN.out⟩
                  case measure => simp [intOf]
          · obtain rfl : h = 2 := by omega
            have HZ := Lib.hid (HEX.out.trans HK.out)
            go_wp2_with fail
            go_returns
            exact ⟨rfl, HZ.out⟩
end Go.Proofs.YtchkeclhnbekkaaDoor
