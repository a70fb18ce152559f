/-
  The statement ServerPlays, walked.
-/
import Derived.Test.YtakilnelbmbjdaaDoorSvRef
import Derived.Test.YtakilnelbmbjdaaDoorNum
import Derived.Deep.Cut
namespace Go.Proofs.YtakilnelbmbjdaaDoor
open Go.RowKit
set_option linter.unusedVariables false
/-- What holds of both servers in a walk over a row. -/
structure InPlay (w wr : World) (K Q T now : Int) (A : Option Addr) (n c0 g m : Nat) (c : Ck) (wk : Bool) : Prop where
  sv : Sv wr g ⟨K, Q, T, now⟩ c wk
  rv : Rv wr m ⟨K, Q, T, now⟩ c wk
  bd : 0 ≤ c.b ∧ c.b ≤ 256
  iv : c.on = false → c.b = 0
  hx : Ext w wr
  blk : Blk wr w.heap.size #[.int .i64 K, .int .i64 Q, .int .i64 T, .int .i64 now, .slice A n c0]
  hg : w.heap.size < g ∧ g < m
section
variable {w wr w1 : World} {K Q T now : Int} {A : Option Addr} {n c0 g m : Nat} {c c' : Ck} {wk wk' : Bool}
theorem InPlay.ext (h : InPlay w wr K Q T now A n c0 g m c wk) (hx : Ext wr w1) : InPlay w w1 K Q T now A n c0 g m c wk :=
  ⟨h.sv.ext hx, h.rv.ext hx, h.bd, h.iv, h.hx.trans hx, h.blk.ext hx, h.hg⟩
/-- Both blocks are written. -/
theorem InPlay.both (h : InPlay w wr K Q T now A n c0 g m c wk) (hs : Sv w1 g ⟨K, Q, T, now⟩ c' wk') (hr : Rv w1 m ⟨K, Q, T, now⟩ c' wk') (hf : Fr wr w1 (fun b => b = g ∨ b = m)) (hb : 0 ≤ c'.b ∧ c'.b ≤ 256) (hi : c'.on = false → c'.b = 0) :
    InPlay w w1 K Q T now A n c0 g m c' wk' :=
  ⟨hs, hr, hb, hi, Fr.ext h.hx hf (fun i hi => by have := h.hg; omega), h.blk.keep hf (by have := h.hg; omega), h.hg⟩
end
theorem Fr.left {a b : World} {g m : Nat} (h : Fr a b (· = g)) : Fr a b (fun k => k = g ∨ k = m) := (Fr.refl a (fun k => k = g ∨ k = m)).trans h (fun _ _ e => .inl e)
theorem Fr.right {a b : World} {g m : Nat} (h : Fr a b (· = m)) : Fr a b (fun k => k = g ∨ k = m) := (Fr.refl a (fun k => k = g ∨ k = m)).trans h (fun _ _ e => .inr e)
theorem Fr.and {a b c : World} {g m : Nat} (h : Fr a b (fun k => k = g ∨ k = m)) (h2 : Fr b c (fun k => k = g ∨ k = m)) : Fr a c (fun k => k = g ∨ k = m) := h.trans h2 (fun _ _ e => e)
set_option maxHeartbeats 3200000 in
theorem plays_kind (K Q T now : Int) (A : Option Addr) (n c0 : Nat) (E : Nat → Addr) (w : World) (hE : Errs w E) (hK : I64 K) (hQ : I64 Q) (hT : I64 T) (h : ¬ Legal K Q T) :
    Calls Tryd.prog 8 #[srow K Q T now A n c0] w fun e w' => e = .returned (.bool true) ∧ Ext w w' := by
  have AL := Lib.hid (fun w' (hx : Ext w w') => alive_any w' ((hE.ext hx).sen 0 (by decide)))
  have NW := Lib.hid (fun w' (hx : Ext w w') => new_kind K Q T now w' h hK hQ hT ((hE.ext hx).sen 10 (by decide)))
  have LG := Lib.hid (fun w => legal_no K Q T now w h)
  have RL := Lib.hid (fun w => rlegal8_no K Q T w h)
  have NU := Lib.hid (fun w' (hx : Ext w w') => num_at E 9 10 w' (hE.ext hx) (by decide))
  clear h hE hK hQ hT
  unfold srow
  unfold srv at *
  go_enter Tryd.func8, Tryd.ntmps8
  go_wp2_with fail
  have hx : Ext w (w.alloc (.cells #[.int .i64 K, .int .i64 Q, .int .i64 T, .int .i64 now, .slice A n c0] 26)) := (Ext.refl w).alloc _
  have bA := Blk.new w #[.int .i64 K, .int .i64 Q, .int .i64 T, .int .i64 now, .slice A n c0] 26
  refine (AL.out _ hx).mono ?_
  rintro e u0 ⟨rfl, hy⟩
  have hx0 := hx.trans hy
  have bA0 := bA.ext hy
  obtain ⟨b0, b1, b2, b3, b4⟩ := bA0.five
  clear hx hy bA
  go_wp2_with fail
  refine (NW.out _ hx0).mono ?_
  rintro e u1 ⟨rfl, hy⟩
  have hx1 := hx0.trans hy
  have bA1 := bA0.ext hy
  clear b0 b1 b2 b3 b4
  obtain ⟨b0, b1, b2, b3, b4⟩ := bA1.five
  clear hx0 hy bA0
  go_wp2_with fail
  refine (LG.out _).mono ?_
  rintro e u2 ⟨rfl, hy⟩
  have hx2 := hx1.trans hy
  have bA2 := bA1.ext hy
  clear b0 b1 b2 b3 b4
  obtain ⟨b0, b1, b2, b3, b4⟩ := bA2.five
  clear hx1 hy bA1
  go_wp2_with fail
  refine (RL.out _).mono ?_
  rintro e u3 ⟨rfl, hy⟩
  have hx3 := hx2.trans hy
  have bA3 := bA2.ext hy
  clear b0 b1 b2 b3 b4
  obtain ⟨b0, b1, b2, b3, b4⟩ := bA3.five
  clear hx2 hy bA2
  go_wp2_with fail
  refine (NU.out _ hx3).mono ?_
  rintro e u4 ⟨rfl, hy⟩
  go_wp2_with fail
  go_ret
  exact ⟨rfl, hx3.trans hy⟩
set_option maxHeartbeats 3200000 in
theorem plays_late (K Q T now : Int) (A : Option Addr) (n c0 : Nat) (E : Nat → Addr) (w : World) (hE : Errs w E) (hK : I64 K) (hQ : I64 Q) (hT : I64 T) (h : Legal K Q T) (hn : 1099511627776 < now) :
    Calls Tryd.prog 8 #[srow K Q T now A n c0] w fun e w' => e = .returned (.bool true) ∧ Ext w w' := by
  have AL := Lib.hid (fun w' (hx : Ext w w') => alive_any w' ((hE.ext hx).sen 0 (by decide)))
  have NW := Lib.hid (fun w' (hx : Ext w w') => new_late K Q T now w' h hn ((hE.ext hx).sen 1 (by decide)))
  have LG := Lib.hid (fun w => legal_late K Q T now w h (by omega))
  have RL := Lib.hid (fun w => rlegal8_yes K Q T w h)
  have NU := Lib.hid (fun w' (hx : Ext w w') => num_at E 0 1 w' (hE.ext hx) (by decide))
  clear h hE hK hQ hT
  unfold srow
  unfold srv at *
  go_enter Tryd.func8, Tryd.ntmps8
  go_wp2_with fail
  have hx : Ext w (w.alloc (.cells #[.int .i64 K, .int .i64 Q, .int .i64 T, .int .i64 now, .slice A n c0] 26)) := (Ext.refl w).alloc _
  have bA := Blk.new w #[.int .i64 K, .int .i64 Q, .int .i64 T, .int .i64 now, .slice A n c0] 26
  refine (AL.out _ hx).mono ?_
  rintro e u0 ⟨rfl, hy⟩
  have hx0 := hx.trans hy
  have bA0 := bA.ext hy
  obtain ⟨b0, b1, b2, b3, b4⟩ := bA0.five
  clear hx hy bA
  go_wp2_with fail
  refine (NW.out _ hx0).mono ?_
  rintro e u1 ⟨rfl, hy⟩
  have hx1 := hx0.trans hy
  have bA1 := bA0.ext hy
  clear b0 b1 b2 b3 b4
  obtain ⟨b0, b1, b2, b3, b4⟩ := bA1.five
  clear hx0 hy bA0
  go_wp2_with fail
  refine (LG.out _).mono ?_
  rintro e u2 ⟨rfl, hy⟩
  have hx2 := hx1.trans hy
  have bA2 := bA1.ext hy
  clear b0 b1 b2 b3 b4
  obtain ⟨b0, b1, b2, b3, b4⟩ := bA2.five
  clear hx1 hy bA1
  go_wp2_with fail
  refine (RL.out _).mono ?_
  rintro e u3 ⟨rfl, hy⟩
  have hx3 := hx2.trans hy
  have bA3 := bA2.ext hy
  clear b0 b1 b2 b3 b4
  obtain ⟨b0, b1, b2, b3, b4⟩ := bA3.five
  clear hx2 hy bA2
  go_wp2_with fail
  refine (NU.out _ hx3).mono ?_
  rintro e u4 ⟨rfl, hy⟩
  go_wp2_with fail
  go_ret
  exact ⟨rfl, hx3.trans hy⟩
set_option maxHeartbeats 3200000 in
theorem plays_early (K Q T now : Int) (A : Option Addr) (n c0 : Nat) (E : Nat → Addr) (w : World) (hE : Errs w E) (hK : I64 K) (hQ : I64 Q) (hT : I64 T) (h : Legal K Q T) (hn : now < 0) :
    Calls Tryd.prog 8 #[srow K Q T now A n c0] w fun e w' => e = .returned (.bool true) ∧ Ext w w' := by
  have AL := Lib.hid (fun w' (hx : Ext w w') => alive_any w' ((hE.ext hx).sen 0 (by decide)))
  have NW := Lib.hid (fun w' (hx : Ext w w') => new_early K Q T now w' h hn ((hE.ext hx).sen 1 (by decide)))
  have LG := Lib.hid (fun w => legal_late K Q T now w h (by omega))
  have RL := Lib.hid (fun w => rlegal8_yes K Q T w h)
  have NU := Lib.hid (fun w' (hx : Ext w w') => num_at E 0 1 w' (hE.ext hx) (by decide))
  clear h hE hK hQ hT
  unfold srow
  unfold srv at *
  go_enter Tryd.func8, Tryd.ntmps8
  go_wp2_with fail
  have hx : Ext w (w.alloc (.cells #[.int .i64 K, .int .i64 Q, .int .i64 T, .int .i64 now, .slice A n c0] 26)) := (Ext.refl w).alloc _
  have bA := Blk.new w #[.int .i64 K, .int .i64 Q, .int .i64 T, .int .i64 now, .slice A n c0] 26
  refine (AL.out _ hx).mono ?_
  rintro e u0 ⟨rfl, hy⟩
  have hx0 := hx.trans hy
  have bA0 := bA.ext hy
  obtain ⟨b0, b1, b2, b3, b4⟩ := bA0.five
  clear hx hy bA
  go_wp2_with fail
  refine (NW.out _ hx0).mono ?_
  rintro e u1 ⟨rfl, hy⟩
  have hx1 := hx0.trans hy
  have bA1 := bA0.ext hy
  clear b0 b1 b2 b3 b4
  obtain ⟨b0, b1, b2, b3, b4⟩ := bA1.five
  clear hx0 hy bA0
  go_wp2_with fail
  refine (LG.out _).mono ?_
  rintro e u2 ⟨rfl, hy⟩
  have hx2 := hx1.trans hy
  have bA2 := bA1.ext hy
  clear b0 b1 b2 b3 b4
  obtain ⟨b0, b1, b2, b3, b4⟩ := bA2.five
  clear hx1 hy bA1
  go_wp2_with fail
  refine (RL.out _).mono ?_
  rintro e u3 ⟨rfl, hy⟩
  have hx3 := hx2.trans hy
  have bA3 := bA2.ext hy
  clear b0 b1 b2 b3 b4
  obtain ⟨b0, b1, b2, b3, b4⟩ := bA3.five
  clear hx2 hy bA2
  go_wp2_with fail
  refine (NU.out _ hx3).mono ?_
  rintro e u4 ⟨rfl, hy⟩
  go_wp2_with fail
  go_ret
  exact ⟨rfl, hx3.trans hy⟩
set_option maxRecDepth 8000 in
set_option maxHeartbeats 12800000 in
theorem plays_yes (K Q T now : Int) (A : Option Addr) (n c0 : Nat) (l : List Int) (w : World) {p : Addr} (hS : Sen w 0 p) (h : Legal K Q T) (hn : 0 ≤ now ∧ now ≤ 1099511627776) (hr : Rd w 1 A n (ints l)) :
    Calls Tryd.prog 8 #[srow K Q T now A n c0] w fun e w' => e = .returned (.bool true) ∧ Ext w w' := by
  have AL := Lib.hid (fun w' (hx : Ext w w') => alive_any w' (hS.ext hx))
  have SE := Lib.hid (fun w' (hx : Ext w w') => hS.ext hx)
  have LG := Lib.hid (fun w => legal_yes K Q T now w h hn)
  have NW := Lib.hid (fun w => new_ok K Q T now w h hn)
  have RN := Lib.hid (fun w => rnew_any K Q T now w)
  have HR := Lib.hid hr
  obtain ⟨l1, l2, l3, l4, l5⟩ := h
  clear hS hr
  unfold srow
  unfold srv at *
  go_enter Tryd.func8, Tryd.ntmps8
  go_wp2_with fail
  have hx : Ext w (w.alloc (.cells #[.int .i64 K, .int .i64 Q, .int .i64 T, .int .i64 now, .slice A n c0] 26)) := (Ext.refl w).alloc _
  have bA := Blk.new w #[.int .i64 K, .int .i64 Q, .int .i64 T, .int .i64 now, .slice A n c0] 26
  refine (AL.out _ hx).mono ?_
  rintro e u0 ⟨rfl, hy⟩
  have hx0 := hx.trans hy
  have bA0 := bA.ext hy
  obtain ⟨b0, b1, b2, b3, b4⟩ := bA0.five
  clear hx hy bA
  go_wp2_with fail
  refine (NW.out _).mono ?_
  rintro e u1 ⟨g, rfl, hs, hy, hg⟩
  have hx1 := hx0.trans hy
  have bA1 := bA0.ext hy
  have hgA : w.heap.size < g := Nat.lt_of_lt_of_le bA0.lt hg
  clear hg
  clear b0 b1 b2 b3 b4
  obtain ⟨b0, b1, b2, b3, b4⟩ := bA1.five
  clear hx0 hy bA0
  go_wp2_with fail
  refine (LG.out _).mono ?_
  rintro e u2 ⟨rfl, hy⟩
  have hx2 := hx1.trans hy
  have bA2 := bA1.ext hy
  have hs2 := hs.ext hy
  clear hs
  clear b0 b1 b2 b3 b4
  obtain ⟨b0, b1, b2, b3, b4⟩ := bA2.five
  clear hx1 hy bA1
  go_wp2_with fail
  refine (RN.out _).mono ?_
  rintro e u3 ⟨m, rfl, hm, hy, hmg⟩
  have hx3 := hx2.trans hy
  have bA3 := bA2.ext hy
  have hs3 := hs2.ext hy
  have hgm : g < m := Nat.lt_of_lt_of_le hs2.lt hmg
  clear hs2 hmg
  clear b0 b1 b2 b3 b4
  obtain ⟨b0, b1, b2, b3, b4⟩ := bA3.five
  have hI0 : InPlay w u3 K Q T now A n c0 g m ⟨0, now, false⟩ false := ⟨hs3, hm, by simp only; omega, fun _ => rfl, hx3, bA3, hgA, hgm⟩
  clear hx2 hy bA2 hs3 hm hx3 bA3
  go_wp2_with fail
  clear b0 b1 b2 b3 b4
  go_loopw [51] (fun vi wr => ∃ (k : Nat) (c : Ck) (wk : Bool), vi = .int .i64 (k : Int) ∧ k ≤ n ∧ k ≤ 3001 ∧ InPlay w wr K Q T now A n c0 g m c wk) (fun vi _ => (3002 - intOf vi).toNat)
  case atStart => exact ⟨0, _, _, rfl, by omega, by omega, hI0⟩
  case round =>
    clear hI0
    obtain ⟨k, c, wk, rfl, hk, hk1, hI⟩ := hrel
    by_cases hkn : k < n
    · obtain ⟨ad, x, rfl, hlx, hcx⟩ := (HR.out.ext hI.hx).int hkn
      obtain ⟨b0, b1, b2, b3, b4⟩ := hI.blk.five
      by_cases h1000 : 3000 < k
      · go_wp2_with fail
        go_ret
        exact ⟨rfl, hI.hx⟩
      · obtain ⟨wb, m1⟩ := bit0 x
        obtain ⟨tb, m2⟩ := bit1 x
        have BG := Lib.hid (fun w' (hs' : Sv w' g ⟨K, Q, T, now⟩ c wk) => begin_any w' (now + (k : Int)) wb hs' (by simp only; omega) (by simp only; omega) (by simp only; omega))
        have RB := Lib.hid (fun w' (hs' : Rv w' m ⟨K, Q, T, now⟩ c wk) => rbegin_any w' (now + (k : Int)) wb hs' (by simp only; omega) (by simp only; omega) (by simp only; omega) (by simp only; omega) hI.iv)
        have hb' := beg_bound (K := K) (T := T) (s := now) (now := now + (k : Int)) (wk := wb) (show 1 ≤ Q ∧ Q ≤ 256 by omega) hI.bd
        have hi' := beg_inv (K := K) (Q := Q) (T := T) (s := now) (now := now + (k : Int)) (wk := wb) hI.iv
        have w5 : IntKind.i64.wrap (now + (k : Int)) = now + (k : Int) := by rw [IntKind.wrap_i64]; omega
        obtain ⟨c', hc'⟩ : ∃ c', begC ⟨K, Q, T, now⟩ c (now + (k : Int)) wb = c' := ⟨_, rfl⟩
        rw [hc'] at hb' hi' BG RB
        clear hc'
        have m3 : ((if wb = true then 1 else 0 : Int) == 1) = wb := by cases wb <;> rfl
        rw [← m1] at m3
        clear m1
        obtain ⟨rd, hrd⟩ : ∃ rd, (wb && decide (0 < c'.b)) = rd := ⟨_, rfl⟩
        rw [hrd] at BG RB
        cases rd
        · skip
          have BX := Lib.hid (fun w' (hf : Fr wr w' (fun b => b = g ∨ b = m)) => (⟨(hI.blk.keep hf (by omega)).five.2.2.2.1, hf⟩ : w'.cell? ⟨w.heap.size, 3, none⟩ = some (.int .i64 now) ∧ Fr wr w' (fun b => b = g ∨ b = m)))
          obtain ⟨i0, i1⟩ := BX.out wr (Fr.refl _ _)
          go_wp2_with fail
          go_region_held3 (fun w' => w'.cell? ⟨w.heap.size, 3, none⟩ = some (.int .i64 now) ∧ Fr wr w' (fun b => b = g ∨ b = m))
            (first | (refine BX.out _ ?_; first | with_reducible assumption | with_reducible exact Fr.refl _ _ | with_reducible exact (Fr.refl _ _).drew | with_reducible exact Fr.drew (by with_reducible assumption)))
            (first
              | (go_at_call 14; (with_reducible refine (BG.out _ (by first | exact hI.sv | exact hI.sv.ext ((Ext.refl _).drew) | exact (hI.sv.keep f2 (by omega)) | exact ((hI.sv.ext ((Ext.refl _).drew)).keep f2 (by omega)) | exact (hI.sv.keep f2 (by omega)).ext ((Ext.refl _).drew) | exact ((hI.sv.ext ((Ext.refl _).drew)).keep f2 (by omega)).ext ((Ext.refl _).drew))).mono ?_); rintro en vG ⟨rfl, h1, f1⟩; have FvG : Fr wr vG (fun b => b = g ∨ b = m) := (by first | exact Fr.left f1 | exact Fr.and ((Fr.refl _ _).drew) (Fr.left f1) | exact Fr.and (by assumption) (Fr.left f1) | exact Fr.and (Fr.drew (by assumption)) (Fr.left f1)))
              | (go_at_call 23; (with_reducible refine (RB.out _ (by first | exact hI.rv | exact hI.rv.ext ((Ext.refl _).drew) | exact (hI.rv.keep f1 (by omega)) | exact ((hI.rv.ext ((Ext.refl _).drew)).keep f1 (by omega)) | exact (hI.rv.keep f1 (by omega)).ext ((Ext.refl _).drew) | exact ((hI.rv.ext ((Ext.refl _).drew)).keep f1 (by omega)).ext ((Ext.refl _).drew))).mono ?_); rintro en vM ⟨rfl, h2, f2⟩; have FvM : Fr wr vM (fun b => b = g ∨ b = m) := (by first | exact Fr.right f2 | exact Fr.and ((Fr.refl _ _).drew) (Fr.right f2) | exact Fr.and (by assumption) (Fr.right f2) | exact Fr.and (Fr.drew (by assumption)) (Fr.right f2))))
          all_goals
            first
              | (obtain ⟨u1, hu1, hI1⟩ : ∃ u, u = vM ∧ InPlay w u K Q T now _ n c0 g m c' wb := ⟨vM, rfl, hI.both (h1.keep f2 (by omega)) h2 FvM hb' hi'⟩; subst hu1)
              | (obtain ⟨u1, hu1, hI1⟩ : ∃ u, u = vM ∧ InPlay w u K Q T now _ n c0 g m c' wb := ⟨vM, rfl, hI.both ((h1.ext ((Ext.refl _).drew)).keep f2 (by omega)) h2 FvM hb' hi'⟩; subst hu1)
              | (obtain ⟨u1, hu1, hI1⟩ : ∃ u, u = vG ∧ InPlay w u K Q T now _ n c0 g m c' wb := ⟨vG, rfl, hI.both h1 (h2.keep f1 (by omega)) FvG hb' hi'⟩; subst hu1)
              | (obtain ⟨u1, hu1, hI1⟩ : ∃ u, u = vG ∧ InPlay w u K Q T now _ n c0 g m c' wb := ⟨vG, rfl, hI.both h1 ((h2.ext ((Ext.refl _).drew)).keep f1 (by omega)) FvG hb' hi'⟩; subst hu1)
            clear h1 h2 f1 f2 FvG FvM BX BG RB hI b0 b1 b2 b3 b4 i0 i1 hcx hlx
            cases tb
            · skip
              obtain ⟨u3, hu3⟩ : ∃ u, u = u1 := ⟨_, rfl⟩
              subst hu3
              have hI3 := hI1
              simp only [Bool.false_eq_true, if_false] at m2
              have BX := Lib.hid (fun w' (hx' : Ext u3 w') => (⟨(hI3.rv.ext hx').cells.2.2.2.2.1, (hI3.rv.ext hx').cells.2.2.2.2.2.1, (hI3.rv.ext hx').cells.2.2.2.2.2.2.1, (hI3.blk.ext hx').five.1, (hI3.blk.ext hx').five.2.1, (hI3.blk.ext hx').five.2.2.1, hx'⟩ : w'.cell? ⟨m, 4, none⟩ = some (.int .i64 c'.b) ∧ w'.cell? ⟨m, 5, none⟩ = some (.int .i64 c'.d) ∧ w'.cell? ⟨m, 6, none⟩ = some (.bool c'.on) ∧ w'.cell? ⟨w.heap.size, 0, none⟩ = some (.int .i64 K) ∧ w'.cell? ⟨w.heap.size, 1, none⟩ = some (.int .i64 Q) ∧ w'.cell? ⟨w.heap.size, 2, none⟩ = some (.int .i64 T) ∧ Ext u3 w'))
              obtain ⟨i0, i1, i2, i3, i4, i5, i6⟩ := BX.out u3 (Ext.refl _)
              obtain ⟨rd3, hrd3⟩ : ∃ rd3, (wb && decide (0 < c'.b)) = rd3 := ⟨_, rfl⟩
              have RS := Lib.hid (fun w' (h : Sv w' g ⟨K, Q, T, now⟩ c' wb) => ready_any w' h)
              have RR := Lib.hid (fun w' (h : Rv w' m ⟨K, Q, T, now⟩ c' wb) => rready_any w' h)
              rw [hrd3] at RS RR
              have GB := Lib.hid (fun w' (h : Sv w' g ⟨K, Q, T, now⟩ c' wb) => getter_budget w' h)
              have GD := Lib.hid (fun w' (h : Sv w' g ⟨K, Q, T, now⟩ c' wb) => getter_deadline w' h)
              have GO := Lib.hid (fun w' (h : Sv w' g ⟨K, Q, T, now⟩ c' wb) => getter_on w' h)
              have GK := Lib.hid (fun w' (h : Sv w' g ⟨K, Q, T, now⟩ c' wb) => getter_kind w' h)
              unfold srv at GK
              clear hrd3
              go_wp2_with fail
              go_region_held3 (fun w' => w'.cell? ⟨m, 4, none⟩ = some (.int .i64 c'.b) ∧ w'.cell? ⟨m, 5, none⟩ = some (.int .i64 c'.d) ∧ w'.cell? ⟨m, 6, none⟩ = some (.bool c'.on) ∧ w'.cell? ⟨w.heap.size, 0, none⟩ = some (.int .i64 K) ∧ w'.cell? ⟨w.heap.size, 1, none⟩ = some (.int .i64 Q) ∧ w'.cell? ⟨w.heap.size, 2, none⟩ = some (.int .i64 T) ∧ Ext u3 w')
                (first | (refine BX.out _ ?_; first | with_reducible assumption | with_reducible exact Ext.refl _ | with_reducible exact (Ext.refl _).drew | with_reducible exact Ext.drew (by with_reducible assumption)))
                (first
                  | (go_at_call 19; (with_reducible refine (RS.out _ (by first | exact hI3.sv | exact hI3.sv.ext ((Ext.refl _).drew))).mono ?_); rintro en vE ⟨rfl, rfl⟩)
                  | (go_at_call 24; (with_reducible refine (RR.out _ (by first | exact hI3.rv | exact hI3.rv.ext ((Ext.refl _).drew))).mono ?_); rintro en vE ⟨rfl, rfl⟩)
                  | (go_at_call 17; (with_reducible refine (GB.out _ (by first | exact hI3.sv | exact hI3.sv.ext ((Ext.refl _).drew))).mono ?_); rintro en vE ⟨rfl, rfl⟩)
                  | (go_at_call 15; (with_reducible refine (GD.out _ (by first | exact hI3.sv | exact hI3.sv.ext ((Ext.refl _).drew))).mono ?_); rintro en vE ⟨rfl, rfl⟩)
                  | (go_at_call 20; (with_reducible refine (GO.out _ (by first | exact hI3.sv | exact hI3.sv.ext ((Ext.refl _).drew))).mono ?_); rintro en vE ⟨rfl, rfl⟩)
                  | (go_at_call 25; (with_reducible refine (GK.out _ (by first | exact hI3.sv | exact hI3.sv.ext ((Ext.refl _).drew))).mono ?_); rintro en vK ⟨rfl, hyK⟩; have FvK : Ext u3 vK := (by first | exact hyK | exact ((Ext.refl _).drew).trans hyK)))
              all_goals
                go_wp2_with fail
                go_roundw
                case rel => first | exact ⟨k + 1, c', _, by go_num, by omega, by omega, hI3.ext FvK⟩ | exact ⟨k + 1, c', _, by go_num, by omega, by omega, hI3.ext FvK.drew⟩
                case measure => simp [intOf]; omega
            · skip
              simp only [if_true] at m2
              have CN := Lib.hid (fun w' (hx' : Ext u1 w') => charge_no w' (SE.out w' (hI1.hx.trans hx')) (hI1.sv.ext hx') hrd)
              have RR := Lib.hid (fun w' (h : Rv w' m ⟨K, Q, T, now⟩ c' wb) => rready_any w' h)
              rw [hrd] at RR
              have j0 : Fr u1 u1 (· = g) := Fr.refl _ _
              go_wp2_with fail
              go_region_held3 (fun w' => Fr u1 w' (· = g))
                (first | with_reducible assumption | with_reducible exact Fr.refl _ _ | with_reducible exact (Fr.refl _ _).drew | with_reducible exact Fr.drew (by with_reducible assumption))
                (first
                  | (go_at_call 16; (with_reducible refine (CN.out _ (by first | exact Ext.refl _ | exact (Ext.refl _).drew)).mono ?_); rintro en vE ⟨rfl, rfl⟩)
                  | (go_at_call 24; (with_reducible refine (RR.out _ (by first | exact hI1.rv | exact hI1.rv.ext ((Ext.refl _).drew))).mono ?_); rintro en vE ⟨rfl, rfl⟩))
              all_goals
                go_wp2_with fail
                refine (RR.out _ (hI1.rv.ext (by first | exact Ext.refl _ | exact (Ext.refl _).drew))).mono ?_
                rintro en vF ⟨rfl, rfl⟩
                have hI3 := hI1.ext ((Ext.refl u1).drew)
                generalize u1.drew = u3 at *
                clear hI1 CN RR j0
                have BX := Lib.hid (fun w' (hx' : Ext u3 w') => (⟨(hI3.rv.ext hx').cells.2.2.2.2.1, (hI3.rv.ext hx').cells.2.2.2.2.2.1, (hI3.rv.ext hx').cells.2.2.2.2.2.2.1, (hI3.blk.ext hx').five.1, (hI3.blk.ext hx').five.2.1, (hI3.blk.ext hx').five.2.2.1, hx'⟩ : w'.cell? ⟨m, 4, none⟩ = some (.int .i64 c'.b) ∧ w'.cell? ⟨m, 5, none⟩ = some (.int .i64 c'.d) ∧ w'.cell? ⟨m, 6, none⟩ = some (.bool c'.on) ∧ w'.cell? ⟨w.heap.size, 0, none⟩ = some (.int .i64 K) ∧ w'.cell? ⟨w.heap.size, 1, none⟩ = some (.int .i64 Q) ∧ w'.cell? ⟨w.heap.size, 2, none⟩ = some (.int .i64 T) ∧ Ext u3 w'))
                obtain ⟨i0, i1, i2, i3, i4, i5, i6⟩ := BX.out u3 (Ext.refl _)
                obtain ⟨rd3, hrd3⟩ : ∃ rd3, (wb && decide (0 < c'.b)) = rd3 := ⟨_, rfl⟩
                have RS := Lib.hid (fun w' (h : Sv w' g ⟨K, Q, T, now⟩ c' wb) => ready_any w' h)
                have RR := Lib.hid (fun w' (h : Rv w' m ⟨K, Q, T, now⟩ c' wb) => rready_any w' h)
                rw [hrd3] at RS RR
                have GB := Lib.hid (fun w' (h : Sv w' g ⟨K, Q, T, now⟩ c' wb) => getter_budget w' h)
                have GD := Lib.hid (fun w' (h : Sv w' g ⟨K, Q, T, now⟩ c' wb) => getter_deadline w' h)
                have GO := Lib.hid (fun w' (h : Sv w' g ⟨K, Q, T, now⟩ c' wb) => getter_on w' h)
                have GK := Lib.hid (fun w' (h : Sv w' g ⟨K, Q, T, now⟩ c' wb) => getter_kind w' h)
                unfold srv at GK
                clear hrd3
                go_wp2_with fail
                go_region_held3 (fun w' => w'.cell? ⟨m, 4, none⟩ = some (.int .i64 c'.b) ∧ w'.cell? ⟨m, 5, none⟩ = some (.int .i64 c'.d) ∧ w'.cell? ⟨m, 6, none⟩ = some (.bool c'.on) ∧ w'.cell? ⟨w.heap.size, 0, none⟩ = some (.int .i64 K) ∧ w'.cell? ⟨w.heap.size, 1, none⟩ = some (.int .i64 Q) ∧ w'.cell? ⟨w.heap.size, 2, none⟩ = some (.int .i64 T) ∧ Ext u3 w')
                  (first | (refine BX.out _ ?_; first | with_reducible assumption | with_reducible exact Ext.refl _ | with_reducible exact (Ext.refl _).drew | with_reducible exact Ext.drew (by with_reducible assumption)))
                  (first
                    | (go_at_call 19; (with_reducible refine (RS.out _ (by first | exact hI3.sv | exact hI3.sv.ext ((Ext.refl _).drew))).mono ?_); rintro en vE ⟨rfl, rfl⟩)
                    | (go_at_call 24; (with_reducible refine (RR.out _ (by first | exact hI3.rv | exact hI3.rv.ext ((Ext.refl _).drew))).mono ?_); rintro en vE ⟨rfl, rfl⟩)
                    | (go_at_call 17; (with_reducible refine (GB.out _ (by first | exact hI3.sv | exact hI3.sv.ext ((Ext.refl _).drew))).mono ?_); rintro en vE ⟨rfl, rfl⟩)
                    | (go_at_call 15; (with_reducible refine (GD.out _ (by first | exact hI3.sv | exact hI3.sv.ext ((Ext.refl _).drew))).mono ?_); rintro en vE ⟨rfl, rfl⟩)
                    | (go_at_call 20; (with_reducible refine (GO.out _ (by first | exact hI3.sv | exact hI3.sv.ext ((Ext.refl _).drew))).mono ?_); rintro en vE ⟨rfl, rfl⟩)
                    | (go_at_call 25; (with_reducible refine (GK.out _ (by first | exact hI3.sv | exact hI3.sv.ext ((Ext.refl _).drew))).mono ?_); rintro en vK ⟨rfl, hyK⟩; have FvK : Ext u3 vK := (by first | exact hyK | exact ((Ext.refl _).drew).trans hyK)))
                all_goals
                  go_wp2_with fail
                  go_roundw
                  case rel => first | exact ⟨k + 1, c', _, by go_num, by omega, by omega, hI3.ext FvK⟩ | exact ⟨k + 1, c', _, by go_num, by omega, by omega, hI3.ext FvK.drew⟩
                  case measure => simp [intOf]; omega
        · skip
          have BX := Lib.hid (fun w' (hf : Fr wr w' (fun b => b = g ∨ b = m)) => (⟨(hI.blk.keep hf (by omega)).five.2.2.2.1, hf⟩ : w'.cell? ⟨w.heap.size, 3, none⟩ = some (.int .i64 now) ∧ Fr wr w' (fun b => b = g ∨ b = m)))
          obtain ⟨i0, i1⟩ := BX.out wr (Fr.refl _ _)
          go_wp2_with fail
          go_region_held3 (fun w' => w'.cell? ⟨w.heap.size, 3, none⟩ = some (.int .i64 now) ∧ Fr wr w' (fun b => b = g ∨ b = m))
            (first | (refine BX.out _ ?_; first | with_reducible assumption | with_reducible exact Fr.refl _ _ | with_reducible exact (Fr.refl _ _).drew | with_reducible exact Fr.drew (by with_reducible assumption)))
            (first
              | (go_at_call 14; (with_reducible refine (BG.out _ (by first | exact hI.sv | exact hI.sv.ext ((Ext.refl _).drew) | exact (hI.sv.keep f2 (by omega)) | exact ((hI.sv.ext ((Ext.refl _).drew)).keep f2 (by omega)) | exact (hI.sv.keep f2 (by omega)).ext ((Ext.refl _).drew) | exact ((hI.sv.ext ((Ext.refl _).drew)).keep f2 (by omega)).ext ((Ext.refl _).drew))).mono ?_); rintro en vG ⟨rfl, h1, f1⟩; have FvG : Fr wr vG (fun b => b = g ∨ b = m) := (by first | exact Fr.left f1 | exact Fr.and ((Fr.refl _ _).drew) (Fr.left f1) | exact Fr.and (by assumption) (Fr.left f1) | exact Fr.and (Fr.drew (by assumption)) (Fr.left f1)))
              | (go_at_call 23; (with_reducible refine (RB.out _ (by first | exact hI.rv | exact hI.rv.ext ((Ext.refl _).drew) | exact (hI.rv.keep f1 (by omega)) | exact ((hI.rv.ext ((Ext.refl _).drew)).keep f1 (by omega)) | exact (hI.rv.keep f1 (by omega)).ext ((Ext.refl _).drew) | exact ((hI.rv.ext ((Ext.refl _).drew)).keep f1 (by omega)).ext ((Ext.refl _).drew))).mono ?_); rintro en vM ⟨rfl, h2, f2⟩; have FvM : Fr wr vM (fun b => b = g ∨ b = m) := (by first | exact Fr.right f2 | exact Fr.and ((Fr.refl _ _).drew) (Fr.right f2) | exact Fr.and (by assumption) (Fr.right f2) | exact Fr.and (Fr.drew (by assumption)) (Fr.right f2))))
          all_goals
            first
              | (obtain ⟨u1, hu1, hI1⟩ : ∃ u, u = vM ∧ InPlay w u K Q T now _ n c0 g m c' wb := ⟨vM, rfl, hI.both (h1.keep f2 (by omega)) h2 FvM hb' hi'⟩; subst hu1)
              | (obtain ⟨u1, hu1, hI1⟩ : ∃ u, u = vM ∧ InPlay w u K Q T now _ n c0 g m c' wb := ⟨vM, rfl, hI.both ((h1.ext ((Ext.refl _).drew)).keep f2 (by omega)) h2 FvM hb' hi'⟩; subst hu1)
              | (obtain ⟨u1, hu1, hI1⟩ : ∃ u, u = vG ∧ InPlay w u K Q T now _ n c0 g m c' wb := ⟨vG, rfl, hI.both h1 (h2.keep f1 (by omega)) FvG hb' hi'⟩; subst hu1)
              | (obtain ⟨u1, hu1, hI1⟩ : ∃ u, u = vG ∧ InPlay w u K Q T now _ n c0 g m c' wb := ⟨vG, rfl, hI.both h1 ((h2.ext ((Ext.refl _).drew)).keep f1 (by omega)) FvG hb' hi'⟩; subst hu1)
            clear h1 h2 f1 f2 FvG FvM BX BG RB hI b0 b1 b2 b3 b4 i0 i1 hcx hlx
            cases tb
            · skip
              obtain ⟨u3, hu3⟩ : ∃ u, u = u1 := ⟨_, rfl⟩
              subst hu3
              have hI3 := hI1
              simp only [Bool.false_eq_true, if_false] at m2
              have BX := Lib.hid (fun w' (hx' : Ext u3 w') => (⟨(hI3.rv.ext hx').cells.2.2.2.2.1, (hI3.rv.ext hx').cells.2.2.2.2.2.1, (hI3.rv.ext hx').cells.2.2.2.2.2.2.1, (hI3.blk.ext hx').five.1, (hI3.blk.ext hx').five.2.1, (hI3.blk.ext hx').five.2.2.1, hx'⟩ : w'.cell? ⟨m, 4, none⟩ = some (.int .i64 c'.b) ∧ w'.cell? ⟨m, 5, none⟩ = some (.int .i64 c'.d) ∧ w'.cell? ⟨m, 6, none⟩ = some (.bool c'.on) ∧ w'.cell? ⟨w.heap.size, 0, none⟩ = some (.int .i64 K) ∧ w'.cell? ⟨w.heap.size, 1, none⟩ = some (.int .i64 Q) ∧ w'.cell? ⟨w.heap.size, 2, none⟩ = some (.int .i64 T) ∧ Ext u3 w'))
              obtain ⟨i0, i1, i2, i3, i4, i5, i6⟩ := BX.out u3 (Ext.refl _)
              obtain ⟨rd3, hrd3⟩ : ∃ rd3, (wb && decide (0 < c'.b)) = rd3 := ⟨_, rfl⟩
              have RS := Lib.hid (fun w' (h : Sv w' g ⟨K, Q, T, now⟩ c' wb) => ready_any w' h)
              have RR := Lib.hid (fun w' (h : Rv w' m ⟨K, Q, T, now⟩ c' wb) => rready_any w' h)
              rw [hrd3] at RS RR
              have GB := Lib.hid (fun w' (h : Sv w' g ⟨K, Q, T, now⟩ c' wb) => getter_budget w' h)
              have GD := Lib.hid (fun w' (h : Sv w' g ⟨K, Q, T, now⟩ c' wb) => getter_deadline w' h)
              have GO := Lib.hid (fun w' (h : Sv w' g ⟨K, Q, T, now⟩ c' wb) => getter_on w' h)
              have GK := Lib.hid (fun w' (h : Sv w' g ⟨K, Q, T, now⟩ c' wb) => getter_kind w' h)
              unfold srv at GK
              clear hrd3
              go_wp2_with fail
              go_region_held3 (fun w' => w'.cell? ⟨m, 4, none⟩ = some (.int .i64 c'.b) ∧ w'.cell? ⟨m, 5, none⟩ = some (.int .i64 c'.d) ∧ w'.cell? ⟨m, 6, none⟩ = some (.bool c'.on) ∧ w'.cell? ⟨w.heap.size, 0, none⟩ = some (.int .i64 K) ∧ w'.cell? ⟨w.heap.size, 1, none⟩ = some (.int .i64 Q) ∧ w'.cell? ⟨w.heap.size, 2, none⟩ = some (.int .i64 T) ∧ Ext u3 w')
                (first | (refine BX.out _ ?_; first | with_reducible assumption | with_reducible exact Ext.refl _ | with_reducible exact (Ext.refl _).drew | with_reducible exact Ext.drew (by with_reducible assumption)))
                (first
                  | (go_at_call 19; (with_reducible refine (RS.out _ (by first | exact hI3.sv | exact hI3.sv.ext ((Ext.refl _).drew))).mono ?_); rintro en vE ⟨rfl, rfl⟩)
                  | (go_at_call 24; (with_reducible refine (RR.out _ (by first | exact hI3.rv | exact hI3.rv.ext ((Ext.refl _).drew))).mono ?_); rintro en vE ⟨rfl, rfl⟩)
                  | (go_at_call 17; (with_reducible refine (GB.out _ (by first | exact hI3.sv | exact hI3.sv.ext ((Ext.refl _).drew))).mono ?_); rintro en vE ⟨rfl, rfl⟩)
                  | (go_at_call 15; (with_reducible refine (GD.out _ (by first | exact hI3.sv | exact hI3.sv.ext ((Ext.refl _).drew))).mono ?_); rintro en vE ⟨rfl, rfl⟩)
                  | (go_at_call 20; (with_reducible refine (GO.out _ (by first | exact hI3.sv | exact hI3.sv.ext ((Ext.refl _).drew))).mono ?_); rintro en vE ⟨rfl, rfl⟩)
                  | (go_at_call 25; (with_reducible refine (GK.out _ (by first | exact hI3.sv | exact hI3.sv.ext ((Ext.refl _).drew))).mono ?_); rintro en vK ⟨rfl, hyK⟩; have FvK : Ext u3 vK := (by first | exact hyK | exact ((Ext.refl _).drew).trans hyK)))
              all_goals
                go_wp2_with fail
                go_roundw
                case rel => first | exact ⟨k + 1, c', _, by go_num, by omega, by omega, hI3.ext FvK⟩ | exact ⟨k + 1, c', _, by go_num, by omega, by omega, hI3.ext FvK.drew⟩
                case measure => simp [intOf]; omega
            · skip
              simp only [if_true] at m2
              have CY := Lib.hid (fun w' (hs' : Sv w' g ⟨K, Q, T, now⟩ c' wb) => charge_yes w' hs' hrd (by omega))
              have RR := Lib.hid (fun w' (h : Rv w' m ⟨K, Q, T, now⟩ c' wb) => rready_any w' h)
              rw [hrd] at RR
              have j0 : Fr u1 u1 (· = g) := Fr.refl _ _
              go_wp2_with fail
              go_region_held3 (fun w' => Fr u1 w' (· = g))
                (first | with_reducible assumption | with_reducible exact Fr.refl _ _ | with_reducible exact (Fr.refl _ _).drew | with_reducible exact Fr.drew (by with_reducible assumption))
                (first
                  | (go_at_call 16; (with_reducible refine (CY.out _ (by first | exact hI1.sv | exact hI1.sv.ext ((Ext.refl _).drew))).mono ?_); rintro en vS ⟨rfl, h3, f3⟩; have FvS : Fr u1 vS (· = g) := (by first | exact f3 | exact ((Fr.refl _ _).drew).trans f3 (fun _ _ h => h)))
                  | (go_at_call 24; (with_reducible refine (RR.out _ (by first | exact hI1.rv | exact hI1.rv.ext ((Ext.refl _).drew) | exact (hI1.rv.keep f3 (by omega)) | exact ((hI1.rv.ext ((Ext.refl _).drew)).keep f3 (by omega)) | exact (hI1.rv.keep f3 (by omega)).ext ((Ext.refl _).drew) | exact ((hI1.rv.ext ((Ext.refl _).drew)).keep f3 (by omega)).ext ((Ext.refl _).drew))).mono ?_); rintro en vE ⟨rfl, rfl⟩))
              all_goals
                have hr3 := hI1.rv.keep FvS (by omega)
                go_wp2_with fail
                refine (RR.out vS hr3).mono ?_
                rintro en vF ⟨rfl, rfl⟩
                obtain ⟨d0, d1, d2, d3, d4, d5, d6, d7⟩ := hr3.cells
                have e4 := hr3.free 4
                have w7 : IntKind.i64.wrap (c'.b - 1) = c'.b - 1 := by rw [IntKind.wrap_i64]; omega
                have hp : 0 < c'.b := by simp at hrd; exact hrd.2
                have hI3 : InPlay w (vS.setCell ⟨m, 4, none⟩ (.int .i64 (c'.b - 1))) K Q T now _ n c0 g m ⟨c'.b - 1, c'.d, c'.on⟩ wb :=
                  hI1.both (h3.keep (Fr.store vS ⟨m, 4, none⟩ (.int .i64 (c'.b - 1))) (by show g ≠ m; omega)) (Rv.put4 (b := c'.b) (d := c'.d) (on := c'.on) hr3) (Fr.and (Fr.left FvS) (Fr.right (Fr.store vS ⟨m, 4, none⟩ _))) (by simp only; omega) (fun h => by have := hi' h; omega)
                go_upto_region 23 with (fail)
                generalize vS.setCell ⟨m, 4, none⟩ (.int .i64 (c'.b - 1)) = u3 at *
                generalize (⟨c'.b - 1, c'.d, c'.on⟩ : Ck) = c3 at *
                clear hI1 CY RR j0 hr3 h3 f3 FvS d0 d1 d2 d3 d4 d5 d6 d7 e4
                have BX := Lib.hid (fun w' (hx' : Ext u3 w') => (⟨(hI3.rv.ext hx').cells.2.2.2.2.1, (hI3.rv.ext hx').cells.2.2.2.2.2.1, (hI3.rv.ext hx').cells.2.2.2.2.2.2.1, (hI3.blk.ext hx').five.1, (hI3.blk.ext hx').five.2.1, (hI3.blk.ext hx').five.2.2.1, hx'⟩ : w'.cell? ⟨m, 4, none⟩ = some (.int .i64 c3.b) ∧ w'.cell? ⟨m, 5, none⟩ = some (.int .i64 c3.d) ∧ w'.cell? ⟨m, 6, none⟩ = some (.bool c3.on) ∧ w'.cell? ⟨w.heap.size, 0, none⟩ = some (.int .i64 K) ∧ w'.cell? ⟨w.heap.size, 1, none⟩ = some (.int .i64 Q) ∧ w'.cell? ⟨w.heap.size, 2, none⟩ = some (.int .i64 T) ∧ Ext u3 w'))
                obtain ⟨i0, i1, i2, i3, i4, i5, i6⟩ := BX.out u3 (Ext.refl _)
                obtain ⟨rd3, hrd3⟩ : ∃ rd3, (wb && decide (0 < c3.b)) = rd3 := ⟨_, rfl⟩
                have RS := Lib.hid (fun w' (h : Sv w' g ⟨K, Q, T, now⟩ c3 wb) => ready_any w' h)
                have RR := Lib.hid (fun w' (h : Rv w' m ⟨K, Q, T, now⟩ c3 wb) => rready_any w' h)
                rw [hrd3] at RS RR
                have GB := Lib.hid (fun w' (h : Sv w' g ⟨K, Q, T, now⟩ c3 wb) => getter_budget w' h)
                have GD := Lib.hid (fun w' (h : Sv w' g ⟨K, Q, T, now⟩ c3 wb) => getter_deadline w' h)
                have GO := Lib.hid (fun w' (h : Sv w' g ⟨K, Q, T, now⟩ c3 wb) => getter_on w' h)
                have GK := Lib.hid (fun w' (h : Sv w' g ⟨K, Q, T, now⟩ c3 wb) => getter_kind w' h)
                unfold srv at GK
                clear hrd3
                go_wp2_with fail
                go_region_held3 (fun w' => w'.cell? ⟨m, 4, none⟩ = some (.int .i64 c3.b) ∧ w'.cell? ⟨m, 5, none⟩ = some (.int .i64 c3.d) ∧ w'.cell? ⟨m, 6, none⟩ = some (.bool c3.on) ∧ w'.cell? ⟨w.heap.size, 0, none⟩ = some (.int .i64 K) ∧ w'.cell? ⟨w.heap.size, 1, none⟩ = some (.int .i64 Q) ∧ w'.cell? ⟨w.heap.size, 2, none⟩ = some (.int .i64 T) ∧ Ext u3 w')
                  (first | (refine BX.out _ ?_; first | with_reducible assumption | with_reducible exact Ext.refl _ | with_reducible exact (Ext.refl _).drew | with_reducible exact Ext.drew (by with_reducible assumption)))
                  (first
                    | (go_at_call 19; (with_reducible refine (RS.out _ (by first | exact hI3.sv | exact hI3.sv.ext ((Ext.refl _).drew))).mono ?_); rintro en vE ⟨rfl, rfl⟩)
                    | (go_at_call 24; (with_reducible refine (RR.out _ (by first | exact hI3.rv | exact hI3.rv.ext ((Ext.refl _).drew))).mono ?_); rintro en vE ⟨rfl, rfl⟩)
                    | (go_at_call 17; (with_reducible refine (GB.out _ (by first | exact hI3.sv | exact hI3.sv.ext ((Ext.refl _).drew))).mono ?_); rintro en vE ⟨rfl, rfl⟩)
                    | (go_at_call 15; (with_reducible refine (GD.out _ (by first | exact hI3.sv | exact hI3.sv.ext ((Ext.refl _).drew))).mono ?_); rintro en vE ⟨rfl, rfl⟩)
                    | (go_at_call 20; (with_reducible refine (GO.out _ (by first | exact hI3.sv | exact hI3.sv.ext ((Ext.refl _).drew))).mono ?_); rintro en vE ⟨rfl, rfl⟩)
                    | (go_at_call 25; (with_reducible refine (GK.out _ (by first | exact hI3.sv | exact hI3.sv.ext ((Ext.refl _).drew))).mono ?_); rintro en vK ⟨rfl, hyK⟩; have FvK : Ext u3 vK := (by first | exact hyK | exact ((Ext.refl _).drew).trans hyK)))
                all_goals
                  go_wp2_with fail
                  go_roundw
                  case rel => first | exact ⟨k + 1, c3, _, by go_num, by omega, by omega, hI3.ext FvK⟩ | exact ⟨k + 1, c3, _, by go_num, by omega, by omega, hI3.ext FvK.drew⟩
                  case measure => simp [intOf]; omega
    · obtain ⟨b0, b1, b2, b3, b4⟩ := hI.blk.five
      go_wp2_with fail
      go_ret
      exact ⟨rfl, hI.hx⟩
theorem plays_any (K Q T now : Int) (A : Option Addr) (n c0 : Nat) (l : List Int) (E : Nat → Addr) (w : World) (hE : Errs w E) (hK : I64 K) (hQ : I64 Q) (hT : I64 T) (hr : Rd w 1 A n (ints l)) :
    Calls Tryd.prog 8 #[srow K Q T now A n c0] w fun e w' => e = .returned (.bool true) ∧ Ext w w' := by
  by_cases h : Legal K Q T
  · by_cases h1 : 1099511627776 < now
    · exact plays_late K Q T now A n c0 E w hE hK hQ hT h h1
    · by_cases h2 : now < 0
      · exact plays_early K Q T now A n c0 E w hE hK hQ hT h h2
      · exact plays_yes K Q T now A n c0 l w (hE.sen 0 (by decide)) h (by omega) hr
  · exact plays_kind K Q T now A n c0 E w hE hK hQ hT h
end Go.Proofs.YtakilnelbmbjdaaDoor
