/-
  The statement ServerFull, walked.
-/
import Derived.Test.YtakilnelbmbjdaaDoorSrv4
import Derived.Test.YtakilnelbmbjdaaDoorMask
namespace Go.Proofs.YtakilnelbmbjdaaDoor
open Go.RowKit
set_option linter.unusedVariables false
theorem Fr.cell {w w' : World} {P : Nat → Prop} (h : Fr w w' P) {p : Addr} (hp : p.block < w.heap.size) (hn : ¬ P p.block) : w'.cell? p = w.cell? p := by
  simp only [World.cell?, h.block p.block hp hn]
theorem Fr.drew {w w' : World} {P : Nat → Prop} (h : Fr w w' P) : Fr w w'.drew P := h.trans (Fr.of_ext ((Ext.refl _).drew) P) (fun _ _ h => h)
theorem mod_next {k T : Int} (hT : 0 < T) (h : k % T + 1 < T) (h0 : 0 ≤ k) : (k + 1) % T = k % T + 1 := by
  have e := Int.mul_ediv_add_emod k T
  have h1 := Int.emod_nonneg k (by omega : T ≠ 0)
  rw [show k + 1 = (k % T + 1) + T * (k / T) by omega, Int.add_mul_emod_self_left, Int.emod_eq_of_lt (by omega) h]
theorem mod_wrap {k T : Int} (hT : 0 < T) (h : k % T + 1 = T) : (k + 1) % T = 0 := by
  have e := Int.mul_ediv_add_emod k T
  rw [show k + 1 = T + T * (k / T) by omega, Int.add_mul_emod_self_left, Int.emod_self]
/-- What holds behind k full ticks. -/
def FullAt (Q T now k : Int) (c : Ck) : Prop :=
  (k % T = 0 ∧ c.d = now + k) ∨ (0 < k % T ∧ c.d = now + (k - k % T) + T ∧ c.b = if k % T ≤ Q then Q - k % T else 0)
theorem full_beg {K Q T now k : Int} {c : Ck} (h : Legal K Q T) (hk : 0 ≤ k) (hf : FullAt Q T now k c) :
    (begC ⟨K, Q, T, now⟩ c (now + k) true).d = now + (k - k % T) + T ∧ (begC ⟨K, Q, T, now⟩ c (now + k) true).b = if k % T ≤ Q then Q - k % T else 0 := by
  obtain ⟨h1, h2, h3, h4, h5⟩ := h
  have hr := Int.emod_nonneg k (by omega : T ≠ 0)
  have hr2 := Int.emod_lt_of_pos k (show 0 < T by omega)
  have e : now + k - now = k := by omega
  have hK : K = 1 ∨ K = 2 ∨ K = 3 := by omega
  rcases hf with ⟨f1, f2⟩ | ⟨f1, f2, f3⟩
  · rcases hK with rfl | rfl | rfl
    · simp [begC, polC, Ck.full, e, f1]; omega
    · simp [begC, spoC, Ck.full, f2, f1]; omega
    · simp [begC, defC, Ck.full, e, f1]; omega
  · have f0 : k % T ≠ 0 := by omega
    rcases hK with rfl | rfl | rfl
    · simp [begC, polC, e, f0]
      exact ⟨f2, f3⟩
    · have g : ¬ c.d ≤ now + k := by omega
      simp [begC, spoC, g]
      exact ⟨f2, f3⟩
    · simp [begC, defC, e, f0]
      exact ⟨f2, f3⟩
theorem full_next {Q T now k b d : Int} {on : Bool} (hQ : 1 ≤ Q ∧ Q ≤ T) (hk : 0 ≤ k) (hd : d = now + (k - k % T) + T) (hb : b = if k % T + 1 ≤ Q then Q - (k % T + 1) else 0) : FullAt Q T now (k + 1) ⟨b, d, on⟩ := by
  have hr := Int.emod_nonneg k (by omega : T ≠ 0)
  have hr2 := Int.emod_lt_of_pos k (show 0 < T by omega)
  by_cases h : k % T + 1 = T
  · exact .inl ⟨mod_wrap (by omega) h, by simp only; omega⟩
  · have e := mod_next (by omega) (show k % T + 1 < T by omega) hk
    refine .inr ⟨by omega, by simp only [e]; omega, by simp only [e]; exact hb⟩
/-- A block of cells, none of them frozen. -/
def Blk (w : World) (p : Nat) (cs : Array Value) : Prop := ∃ t, w.heap[p]? = some (.cells cs t (0, 0))
theorem Blk.new (w : World) (cs : Array Value) (t : TypeId) : Blk (w.alloc (.cells cs t)) w.heap.size cs := ⟨t, heap_alloc_new w _⟩
theorem Blk.lt {w : World} {p : Nat} {cs : Array Value} (h : Blk w p cs) : p < w.heap.size := by
  obtain ⟨t, h⟩ := h
  exact (Array.getElem?_eq_some_iff.1 h).1
theorem Blk.ext {w w' : World} {p : Nat} {cs : Array Value} (h : Blk w p cs) (hx : Ext w w') : Blk w' p cs := by
  have hl := h.lt
  obtain ⟨t, h⟩ := h
  exact ⟨t, (hx.block p hl).trans h⟩
theorem Blk.keep {w w' : World} {p : Nat} {cs : Array Value} {P : Nat → Prop} (h : Blk w p cs) (hf : Fr w w' P) (hp : ¬ P p) : Blk w' p cs := by
  have hl := h.lt
  obtain ⟨t, h⟩ := h
  exact ⟨t, (hf.block p hl hp).trans h⟩
theorem Blk.at_ {w : World} {p : Nat} {cs : Array Value} (h : Blk w p cs) (k : Nat) {v : Value} (hv : cs[k]? = some v) : w.cell? ⟨p, k, none⟩ = some v := by
  obtain ⟨t, h⟩ := h
  rw [cell_of_row w p k _ _ _ h]
  exact hv
theorem Blk.three {w : World} {p : Nat} {a b c : Value} (h : Blk w p #[a, b, c]) : w.cell? ⟨p, 0, none⟩ = some a ∧ w.cell? ⟨p, 1, none⟩ = some b ∧ w.cell? ⟨p, 2, none⟩ = some c :=
  ⟨h.at_ 0 rfl, h.at_ 1 rfl, h.at_ 2 rfl⟩
set_option maxHeartbeats 3200000 in
theorem full_no (K Q T x : Int) (w : World) (h : ¬ Legal K Q T) (hK : I64 K) (hQ : I64 Q) (hT : I64 T) {p q : Addr} (hS : Sen w 0 p) (hV : Sen w 10 q) :
    Calls Tryd.prog 4 #[srv K Q T, .int .i64 x] w fun e w' => e = .returned (.bool true) ∧ Ext w w' := by
  have AL := Lib.hid (fun w' (hx : Ext w w') => alive_any w' (hS.ext hx))
  have NW := Lib.hid (fun now w' (hx : Ext w w') => new_kind K Q T now w' h hK hQ hT (hV.ext hx))
  have RL := Lib.hid (fun w => rlegal8_no K Q T w h)
  have m1 : Go.bits .and .i64 x 274877906943 = x % 274877906944 := mask38 x
  clear h hK hQ hT hS hV
  unfold srv at *
  go_enter Tryd.func4, Tryd.ntmps4
  go_wp2_with fail
  have hx : Ext w (w.alloc (.cells #[.int .i64 K, .int .i64 Q, .int .i64 T] 23)) := (Ext.refl w).alloc _
  have bA := Blk.new w #[.int .i64 K, .int .i64 Q, .int .i64 T] 23
  refine (AL.out _ hx).mono ?_
  rintro e u0 ⟨rfl, hy⟩
  have hx0 := hx.trans hy
  have bA0 := bA.ext hy
  obtain ⟨b0, b1, b2⟩ := bA0.three
  clear hx hy bA
  go_wp2_with fail
  refine (NW.out _ _ hx0).mono ?_
  rintro e u1 ⟨rfl, hy⟩
  have hx1 := hx0.trans hy
  have bA1 := bA0.ext hy
  clear b0 b1 b2
  obtain ⟨b0, b1, b2⟩ := bA1.three
  clear hx0 hy bA0
  go_wp2_with fail
  refine (RL.out _).mono ?_
  rintro e u2 ⟨rfl, hy⟩
  go_wp2_with fail
  go_ret
  exact ⟨rfl, hx1.trans hy⟩
set_option maxHeartbeats 6400000 in
theorem full_yes (K Q T x : Int) (w : World) (h : Legal K Q T) {p : Addr} (hS : Sen w 0 p) :
    Calls Tryd.prog 4 #[srv K Q T, .int .i64 x] w fun e w' => e = .returned (.bool true) ∧ Ext w w' := by
  have AL := Lib.hid (fun w' (hx : Ext w w') => alive_any w' (hS.ext hx))
  have SE := Lib.hid (fun w' (hx : Ext w w') => hS.ext hx)
  obtain ⟨now, hnow⟩ : ∃ now, x % 274877906944 = now := ⟨_, rfl⟩
  have n0 : 0 ≤ now := by omega
  have n1 : now < 274877906944 := by omega
  have m1 : Go.bits .and .i64 x 274877906943 = now := by rw [mask38, hnow]
  have NW := Lib.hid (fun w => new_ok K Q T now w h (by omega))
  have FB := Lib.hid (fun (k : Int) (c : Ck) (hk : 0 ≤ k) hf => full_beg (now := now) (k := k) (c := c) h hk hf)
  have H := Lib.hid h
  obtain ⟨l1, l2, l3, l4, l5⟩ := h
  have w4 : IntKind.i64.wrap (4 * T) = 4 * T := by rw [IntKind.wrap_i64]; omega
  clear hS hnow
  unfold srv at *
  go_enter Tryd.func4, Tryd.ntmps4
  go_wp2_with fail
  have hx : Ext w (w.alloc (.cells #[.int .i64 K, .int .i64 Q, .int .i64 T] 23)) := (Ext.refl w).alloc _
  have bA := Blk.new w #[.int .i64 K, .int .i64 Q, .int .i64 T] 23
  refine (AL.out _ hx).mono ?_
  rintro e u0 ⟨rfl, hy⟩
  have hx0 := hx.trans hy
  have bA0 := bA.ext hy
  obtain ⟨b0, b1, b2⟩ := bA0.three
  clear hx hy bA
  go_wp2_with fail
  refine (NW.out _).mono ?_
  rintro e u1 ⟨g, rfl, hs, hy, hg⟩
  have hx1 := hx0.trans hy
  have bA1 := bA0.ext hy
  have hgA : w.heap.size < g := Nat.lt_of_lt_of_le bA0.lt hg
  clear b0 b1 b2 hx0 hy bA0 hg
  obtain ⟨b0, b1, b2⟩ := bA1.three
  go_wp2_with fail
  clear b0 b1 b2
  go_loopw [7] (fun vi wr => ∃ (k : Nat) (c : Ck) (wk : Bool), vi = .int .i64 (k : Int) ∧ (k : Int) ≤ 4 * T ∧ Sv wr g ⟨K, Q, T, now⟩ c wk ∧ FullAt Q T now k c ∧ Ext w wr ∧ Blk wr w.heap.size #[.int .i64 K, .int .i64 Q, .int .i64 T]) (fun vi _ => (4 * T - intOf vi).toNat)
  case atStart => exact ⟨0, _, _, rfl, by simp only [Int.natCast_zero]; omega, hs, .inl ⟨by simp, by simp⟩, hx1, bA1⟩
  case round =>
    clear hs hx1 bA1
    obtain ⟨k, c, wk, rfl, hk, hs, hf, hx, bA⟩ := hrel
    obtain ⟨b0, b1, b2⟩ := bA.three
    by_cases h4 : (k : Int) < 4 * T
    · obtain ⟨hd, hb⟩ := FB.out k c (by omega) hf
      have BG := Lib.hid (begin_any wr (now + (k : Int)) true hs (by simp only; omega) (by simp only; omega) (by simp only; omega))
      obtain ⟨c', hc'⟩ : ∃ c', begC ⟨K, Q, T, now⟩ c (now + (k : Int)) true = c' := ⟨_, rfl⟩
      rw [hc'] at hd hb BG
      clear hc' hf
      have r0 := Int.emod_nonneg (k : Int) (show T ≠ 0 by omega)
      have r1 := Int.emod_lt_of_pos (k : Int) (show 0 < T by omega)
      have FN := Lib.hid (fun b d on hd hb => full_next (Q := Q) (T := T) (now := now) (k := (k : Int)) (b := b) (d := d) (on := on) ⟨l3, l4⟩ (by omega) hd hb)
      have hdm := Int.mul_ediv_add_emod (k : Int) T
      obtain ⟨r, hr⟩ : ∃ r, (k : Int) % T = r := ⟨_, rfl⟩
      obtain ⟨a, ha⟩ : ∃ a, (k : Int) / T = a := ⟨_, rfl⟩
      have hm : (a + 1) * T = (k : Int) - r + T := by
        rw [hr, ha] at hdm
        rw [Int.add_mul, Int.one_mul, Int.mul_comm]
        omega
      have ha0 : 0 ≤ a := by rw [← ha]; exact Int.ediv_nonneg (by omega) (by omega)
      have ha1 : a ≤ (k : Int) := by rw [← ha]; exact Int.ediv_le_self _ (by omega)
      rw [hr] at hd hb FN r0 r1
      clear hdm
      have w5 : IntKind.i64.wrap (now + (k : Int)) = now + (k : Int) := by rw [IntKind.wrap_i64]; omega
      have w9 : IntKind.i64.wrap a = a := by rw [IntKind.wrap_i64]; omega
      have w6 : IntKind.i64.wrap (a + 1) = a + 1 := by rw [IntKind.wrap_i64]; omega
      obtain ⟨mm, hmm⟩ : ∃ mm, (k : Int) - r + T = mm := ⟨_, rfl⟩
      obtain ⟨D, hD⟩ : ∃ D, now + ((k : Int) - r) + T = D := ⟨_, rfl⟩
      rw [hmm] at hm
      have w7 : IntKind.i64.wrap ((a + 1) * T) = mm := by rw [hm, IntKind.wrap_i64]; omega
      have w8 : IntKind.i64.wrap (now + mm) = D := by rw [IntKind.wrap_i64]; omega
      have FN' := Lib.hid (fun b d on (hd' : d = D) hb => FN.out b d on (by omega) hb)
      rw [hD] at hd
      clear hm hmm hD FN
      have t1 : (k : Int).tmod T = r := by rw [Int.tmod_eq_emod_of_nonneg (by omega), hr]
      have t2 : (k : Int).tdiv T = a := by rw [Int.tdiv_eq_ediv_of_nonneg (by omega), ha]
      have tn : T ≠ 0 := by omega
      by_cases hq : r < Q
      · skip
        have hrd : (true && decide (0 < c'.b)) = true := by rw [hb, if_pos (by omega)]; simp; omega
        have hbb : c'.b = Q - r := by rw [hb, if_pos (by omega)]
        have hnx : c'.b - 1 = if r + 1 ≤ Q then Q - (r + 1) else 0 := by rw [if_pos (by omega)]; omega
        have CY := Lib.hid (fun w' (hs' : Sv w' g ⟨K, Q, T, now⟩ c' true) => charge_yes w' hs' hrd (by omega))
        have GD := Lib.hid (fun w' (hs' : Sv w' g ⟨K, Q, T, now⟩ c' true) => getter_deadline w' hs')
        rw [hrd] at BG
        clear hb
        go_wp2_with fail
        refine BG.out.mono ?_
        rintro e w1 ⟨rfl, h1, f1⟩
        have hx1 := Fr.ext hx f1 (fun i hi => by omega)
        have bA1 := bA.keep f1 (by omega)
        clear hx bA f1 hs b0 b1 b2 BG
        obtain ⟨b0, b1, b2⟩ := bA1.three
        go_wp2_with fail
        have BX := Lib.hid (fun w' (hf : Fr w1 w' (· = g)) => (⟨(bA1.keep hf (by omega)).three.2.1, (bA1.keep hf (by omega)).three.2.2, hf⟩ : w'.cell? ⟨w.heap.size, 1, none⟩ = some (.int .i64 Q) ∧ w'.cell? ⟨w.heap.size, 2, none⟩ = some (.int .i64 T) ∧ Fr w1 w' (· = g)))
        obtain ⟨i0, i1, i2⟩ := BX.out w1 (Fr.refl _ _)
        go_region_held3 (fun w' => w'.cell? ⟨w.heap.size, 1, none⟩ = some (.int .i64 Q) ∧ w'.cell? ⟨w.heap.size, 2, none⟩ = some (.int .i64 T) ∧ Fr w1 w' (· = g))
          (first | (refine BX.out _ ?_; first | with_reducible assumption | with_reducible exact Fr.refl _ _ | with_reducible exact (Fr.refl _ _).drew | with_reducible exact fZ.drew))
          (first
            | (go_at_call 15; (with_reducible refine (GD.out _ (by first | exact h1 | exact h1.ext ((Ext.refl _).drew))).mono ?_); rintro en vD ⟨rfl, rfl⟩)
            | (go_at_call 16; (with_reducible refine (CY.out _ (by first | exact h1 | exact h1.ext ((Ext.refl _).drew))).mono ?_); rintro en vS ⟨rfl, h2, f2⟩; have fZ : Fr w1 vS (· = g) := (by first | exact f2 | exact ((Fr.refl _ _).drew).trans f2 (fun _ _ h => h))))
        all_goals
          go_wp2_with fail
          go_roundw
          case rel =>
            have hx2 := Fr.ext hx1 fZ (fun i hi => by omega)
            have bA2 := bA1.keep fZ (by omega)
            first
              | exact ⟨k + 1, _, _, by go_num, by omega, h2, FN'.out _ _ _ hd hnx, hx2, bA2⟩
              | exact ⟨k + 1, _, _, by go_num, by omega, h2.ext ((Ext.refl _).drew), FN'.out _ _ _ hd hnx, hx2.drew, bA2.ext ((Ext.refl _).drew)⟩
          case measure => simp [intOf]; omega
      · skip
        have hbb : c'.b = 0 := by rw [hb]; split <;> omega
        have hq4 : decide (r < Q) = false := by simp; omega
        have hq3 : (r < Q) = False := by simp; omega
        have hrd : (true && decide (0 < c'.b)) = false := by rw [hbb]; simp
        have hnx : c'.b = if r + 1 ≤ Q then Q - (r + 1) else 0 := by rw [if_neg (by omega), hbb]
        have CY := Lib.hid (fun w' (hx' : Ext w w') (hs' : Sv w' g ⟨K, Q, T, now⟩ c' true) => charge_no w' (SE.out w' hx') hs' hrd)
        have GD := Lib.hid (fun w' (hs' : Sv w' g ⟨K, Q, T, now⟩ c' true) => getter_deadline w' hs')
        rw [hrd] at BG
        clear hb
        go_wp2_with fail
        refine BG.out.mono ?_
        rintro e w1 ⟨rfl, h1, f1⟩
        have hx1 := Fr.ext hx f1 (fun i hi => by omega)
        have bA1 := bA.keep f1 (by omega)
        clear hx bA f1 hs b0 b1 b2 BG
        obtain ⟨b0, b1, b2⟩ := bA1.three
        go_wp2_with fail
        have BX := Lib.hid (fun w' (hf : Fr w1 w' (· = g)) => (⟨(bA1.keep hf (by omega)).three.2.1, (bA1.keep hf (by omega)).three.2.2, hf⟩ : w'.cell? ⟨w.heap.size, 1, none⟩ = some (.int .i64 Q) ∧ w'.cell? ⟨w.heap.size, 2, none⟩ = some (.int .i64 T) ∧ Fr w1 w' (· = g)))
        obtain ⟨i0, i1, i2⟩ := BX.out w1 (Fr.refl _ _)
        go_region_held3 (fun w' => w'.cell? ⟨w.heap.size, 1, none⟩ = some (.int .i64 Q) ∧ w'.cell? ⟨w.heap.size, 2, none⟩ = some (.int .i64 T) ∧ Fr w1 w' (· = g))
          (first | (refine BX.out _ ?_; first | with_reducible assumption | with_reducible exact Fr.refl _ _ | with_reducible exact (Fr.refl _ _).drew | with_reducible exact fZ.drew))
          (first
            | (go_at_call 15; (with_reducible refine (GD.out _ (by first | exact h1 | exact h1.ext ((Ext.refl _).drew))).mono ?_); rintro en vD ⟨rfl, rfl⟩)
            | (go_at_call 16; (with_reducible refine (CY.out _ (by first | exact hx1 | exact hx1.drew) (by first | exact h1 | exact h1.ext ((Ext.refl _).drew))).mono ?_); rintro en vD ⟨rfl, rfl⟩))
        all_goals
          go_wp2_with fail
          go_roundw
          case rel =>
            first
              | exact ⟨k + 1, _, _, by go_num, by omega, h1, FN'.out _ _ c'.on hd hnx, hx1, bA1⟩
              | exact ⟨k + 1, _, _, by go_num, by omega, h1.ext ((Ext.refl _).drew), FN'.out _ _ c'.on hd hnx, hx1.drew, bA1.ext ((Ext.refl _).drew)⟩
          case measure => simp [intOf]; omega
    · go_wp2_with fail
      go_ret
      exact ⟨rfl, hx⟩
theorem full_any (K Q T x : Int) (w : World) (hK : I64 K) (hQ : I64 Q) (hT : I64 T) {p q : Addr} (hS : Sen w 0 p) (hV : Sen w 10 q) :
    Calls Tryd.prog 4 #[srv K Q T, .int .i64 x] w fun e w' => e = .returned (.bool true) ∧ Ext w w' := by
  by_cases h : Legal K Q T
  · exact full_yes K Q T x w h hS
  · exact full_no K Q T x w h hK hQ hT hS hV
end Go.Proofs.YtakilnelbmbjdaaDoor
