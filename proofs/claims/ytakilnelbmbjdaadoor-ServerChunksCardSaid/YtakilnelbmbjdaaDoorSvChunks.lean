/-
  The statement ServerChunks, walked.
-/
import Derived.Test.YtakilnelbmbjdaaDoorSvIdle
import Derived.Deep.Cut
namespace Go.Proofs.YtakilnelbmbjdaaDoor
open Go.RowKit
set_option linter.unusedVariables false
/-- What holds of the chunks ahead of tick k. -/
def ChAt (K Q T now k : Int) (c : Ck) (first : Bool) (last m : Int) : Prop :=
  0 ≤ c.b ∧ 0 ≤ m ∧ ((first = true ∧ c.d = now ∧ c.b = 0 ∧ m = 0 ∧ last = now) ∨ (first = false ∧ c.d = last + T ∧ now ≤ last ∧ last < now + k ∧ c.b + m ≤ Q ∧ (K = 1 → (last - now) % T = 0) ∧ (0 < c.b → now + k ≤ last + T)))
/-- And within tick k. -/
def ChIn (K Q T now k : Int) (c : Ck) (first : Bool) (last m : Int) : Prop :=
  0 ≤ c.b ∧ 0 ≤ m ∧ ((first = true ∧ c.d = now ∧ c.b = 0 ∧ m = 0 ∧ last = now) ∨ (first = false ∧ c.d = last + T ∧ now ≤ last ∧ last ≤ now + k ∧ c.b + m ≤ Q ∧ (K = 1 → (last - now) % T = 0) ∧ (0 < c.b → now + k < last + T)))
theorem Fr.drewN {w w' : World} {P : Nat → Prop} (h : Fr w w' P) (n : Nat) : Fr w (w'.drewN n) P := h.trans (Fr.of_ext ((Ext.refl _).drewN n) P) (fun _ _ h => h)
theorem mod_far {j k T : Int} (hT : 0 < T) (hj : j % T = 0) (hk : k % T = 0) (h : j < k) : j + T ≤ k := by
  have h1 : T ∣ k - j := Int.dvd_sub (Int.dvd_of_emod_eq_zero hk) (Int.dvd_of_emod_eq_zero hj)
  have h2 := Int.le_of_dvd (by omega) h1
  omega
theorem mod_not {j k T : Int} (hj : j % T = 0) (hk : k % T ≠ 0) : k ≠ j + T := by
  rintro rfl
  apply hk
  have := Int.add_mul_emod_self_left j T 1
  rw [Int.mul_one] at this
  rw [this, hj]
theorem ch_beg {K Q T now k : Int} {c : Ck} {first wk : Bool} {last m : Int} (h : Legal K Q T) (hK : K = 1 ∨ K = 2) (hk : 0 ≤ k) (hc : ChAt K Q T now k c first last m) :
    ((begC ⟨K, Q, T, now⟩ c (now + k) wk).d = c.d ∧ ChIn K Q T now k (begC ⟨K, Q, T, now⟩ c (now + k) wk) first last m) ∨
    ((begC ⟨K, Q, T, now⟩ c (now + k) wk).d ≠ c.d ∧ (begC ⟨K, Q, T, now⟩ c (now + k) wk).d = now + k + T ∧ (first = true ∨ last + T ≤ now + k) ∧ ChIn K Q T now k (begC ⟨K, Q, T, now⟩ c (now + k) wk) false (now + k) 0) := by
  obtain ⟨h1, h2, h3, h4, h5⟩ := h
  obtain ⟨b, d, on⟩ := c
  obtain ⟨a1, a2, a3⟩ := hc
  simp only at a1 a3
  have e : now + k - now = k := by omega
  cases wk
  · left
    rw [beg_idle hK]
    refine ⟨rfl, by simp only; omega, a2, ?_⟩
    rcases a3 with ⟨f1, f2, f3, f4, f5⟩ | ⟨f1, f2, f3, f4, f5, f6, f7⟩
    · exact .inl ⟨f1, f2, rfl, f4, f5⟩
    · exact .inr ⟨f1, f2, f3, by omega, by simp only; omega, f6, by simp only; omega⟩
  · rcases hK with rfl | rfl
    · by_cases hb : k % T = 0
      · right
        have ee : begC ⟨1, Q, T, now⟩ ⟨b, d, on⟩ (now + k) true = ⟨Q, now + k + T, true⟩ := by simp [begC, polC, Ck.full, e, hb]
        rw [ee]
        refine ⟨?_, rfl, ?_, by simp only; omega, by omega, .inr ⟨rfl, rfl, by omega, by omega, by simp only; omega, fun _ => by rw [e]; exact hb, fun _ => by omega⟩⟩
        · rcases a3 with ⟨f1, f2, f3, f4, f5⟩ | ⟨f1, f2, f3, f4, f5, f6, f7⟩ <;> (simp only; omega)
        · rcases a3 with ⟨f1, f2, f3, f4, f5⟩ | ⟨f1, f2, f3, f4, f5, f6, f7⟩
          · exact .inl f1
          · right
            have := mod_far (by omega) (f6 rfl) hb (by omega)
            omega
      · left
        have ee : begC ⟨1, Q, T, now⟩ ⟨b, d, on⟩ (now + k) true = ⟨b, d, on⟩ := by simp [begC, polC, e, hb]
        rw [ee]
        refine ⟨rfl, a1, a2, ?_⟩
        rcases a3 with ⟨f1, f2, f3, f4, f5⟩ | ⟨f1, f2, f3, f4, f5, f6, f7⟩
        · exact .inl ⟨f1, f2, f3, f4, f5⟩
        · refine .inr ⟨f1, f2, f3, by omega, f5, f6, fun hp => ?_⟩
          have := f7 hp
          have := mod_not (f6 rfl) hb
          omega
    · by_cases hb : d ≤ now + k
      · right
        have ee : begC ⟨2, Q, T, now⟩ ⟨b, d, on⟩ (now + k) true = ⟨Q, now + k + T, true⟩ := by simp [begC, spoC, Ck.full, hb]
        rw [ee]
        refine ⟨?_, rfl, ?_, by simp only; omega, by omega, .inr ⟨rfl, rfl, by omega, by omega, by simp only; omega, fun h => by omega, fun _ => by omega⟩⟩
        · rcases a3 with ⟨f1, f2, f3, f4, f5⟩ | ⟨f1, f2, f3, f4, f5, f6, f7⟩ <;> (simp only; omega)
        · rcases a3 with ⟨f1, f2, f3, f4, f5⟩ | ⟨f1, f2, f3, f4, f5, f6, f7⟩
          · exact .inl f1
          · right; omega
      · left
        have ee : begC ⟨2, Q, T, now⟩ ⟨b, d, on⟩ (now + k) true = ⟨b, d, on⟩ := by simp [begC, spoC, hb]
        rw [ee]
        refine ⟨rfl, a1, a2, ?_⟩
        rcases a3 with ⟨f1, f2, f3, f4, f5⟩ | ⟨f1, f2, f3, f4, f5, f6, f7⟩
        · omega
        · exact .inr ⟨f1, f2, f3, by omega, f5, f6, fun _ => by omega⟩
theorem ch_next {K Q T now k : Int} {c : Ck} {first : Bool} {last m : Int} (h : ChIn K Q T now k c first last m) : ChAt K Q T now (k + 1) c first last m := by
  obtain ⟨a1, a2, a3⟩ := h
  refine ⟨a1, a2, ?_⟩
  rcases a3 with ⟨f1, f2, f3, f4, f5⟩ | ⟨f1, f2, f3, f4, f5, f6, f7⟩
  · exact .inl ⟨f1, f2, f3, f4, f5⟩
  · exact .inr ⟨f1, f2, f3, by omega, f5, f6, fun hp => by have := f7 hp; omega⟩
theorem ch_take {K Q T now k b d : Int} {on first : Bool} {last m : Int} (h : ChIn K Q T now k ⟨b, d, on⟩ first last m) (hp : 0 < b) : now + k < d ∧ ChIn K Q T now k ⟨b - 1, d, on⟩ first last (m + 1) := by
  obtain ⟨a1, a2, a3⟩ := h
  simp only at a1 a3
  rcases a3 with ⟨f1, f2, f3, f4, f5⟩ | ⟨f1, f2, f3, f4, f5, f6, f7⟩
  · omega
  · have := f7 hp
    exact ⟨by omega, by simp only; omega, by omega, .inr ⟨f1, f2, f3, f4, by simp only; omega, f6, fun _ => by omega⟩⟩
theorem ch_most {K Q T now k : Int} {c : Ck} {first : Bool} {last m : Int} (hQ : 1 ≤ Q) (h : ChIn K Q T now k c first last m) : m ≤ Q ∧ c.b ≤ Q ∧ 0 ≤ c.b ∧ 0 ≤ m := by
  obtain ⟨a1, a2, a3⟩ := h
  rcases a3 with ⟨f1, f2, f3, f4, f5⟩ | ⟨f1, f2, f3, f4, f5, f6, f7⟩ <;> omega
theorem ch_last {K Q T now k : Int} {c : Ck} {first : Bool} {last m : Int} (hk : 0 ≤ k) (h : ChAt K Q T now k c first last m) : now ≤ last ∧ last ≤ now + k := by
  obtain ⟨a1, a2, a3⟩ := h
  rcases a3 with ⟨f1, f2, f3, f4, f5⟩ | ⟨f1, f2, f3, f4, f5, f6, f7⟩ <;> omega
set_option maxHeartbeats 3200000 in
theorem chunks_no (K Q T now : Int) (A : Option Addr) (n c0 : Nat) (b : Bool) (hb : b = false ∨ (b = true ∧ K = 3)) (w : World) {p : Addr} (hS : Sen w 0 p) (LG : Hid (∀ w, Calls Tryd.prog 10 #[srv K Q T, .int .i64 now] w fun e w' => e = .returned (.bool b) ∧ Ext w w')) :
    Calls Tryd.prog 5 #[srow K Q T now A n c0] w fun e w' => e = .returned (.bool true) ∧ Ext w w' := by
  have AL := Lib.hid (fun w' (hx : Ext w w') => alive_any w' (hS.ext hx))
  clear hS
  unfold srow
  unfold srv at *
  have hb' : b = false ∨ (b = true ∧ (K == 3) = true) := hb.imp id (fun h => ⟨h.1, by simp [h.2]⟩)
  clear hb
  rcases hb' with rfl | ⟨rfl, hK3⟩
  all_goals
    go_enter Tryd.func5, Tryd.ntmps5
    go_wp2_with fail
    have hx : Ext w (w.alloc (.cells #[.int .i64 K, .int .i64 Q, .int .i64 T, .int .i64 now, .slice A n c0] 26)) := (Ext.refl w).alloc _
    have bA := Blk.new w #[.int .i64 K, .int .i64 Q, .int .i64 T, .int .i64 now, .slice A n c0] 26
    refine (AL.out _ hx).mono ?_
    rintro e u0 ⟨rfl, hy⟩
    have hx0 := hx.trans hy
    have bA0 := bA.ext hy
    obtain ⟨b0, b1, b2, b3, b4⟩ := bA0.five
    clear hx hy bA
    go_wp2_with fail
    refine (LG.out _).mono ?_
    rintro e u1 ⟨rfl, hy⟩
    have hx1 := hx0.trans hy
    have bA1 := bA0.ext hy
    clear b0 b1 b2 b3 b4
    obtain ⟨b0, b1, b2, b3, b4⟩ := bA1.five
    clear hx0 hy bA0
    go_wp2_with fail
    go_ret
    exact ⟨rfl, hx1⟩
set_option maxRecDepth 100000 in
set_option maxHeartbeats 25600000 in
theorem chunks_yes (K Q T now : Int) (A : Option Addr) (n c0 : Nat) (l : List Int) (w : World) {p : Addr} (hS : Sen w 0 p) (h : Legal K Q T) (hK : K = 1 ∨ K = 2) (hn : 0 ≤ now ∧ now ≤ 1099511627776) (hr : Rd w 1 A n (ints l)) :
    Calls Tryd.prog 5 #[srow K Q T now A n c0] w fun e w' => e = .returned (.bool true) ∧ Ext w w' := by
  have AL := Lib.hid (fun w' (hx : Ext w w') => alive_any w' (hS.ext hx))
  have LG := Lib.hid (fun w => legal_yes K Q T now w h hn)
  have NW := Lib.hid (fun w => new_ok K Q T now w h hn)
  have CB := Lib.hid (fun (k : Int) (c : Ck) first wk last m hk hc => ch_beg (now := now) (k := k) (c := c) (first := first) (wk := wk) (last := last) (m := m) h hK hk hc)
  have HR := Lib.hid hr
  have k3 : (K == 3) = false := by rcases hK with rfl | rfl <;> rfl
  obtain ⟨l1, l2, l3, l4, l5⟩ := h
  clear hS hr hK
  unfold srow
  unfold srv at *
  go_enter Tryd.func5, Tryd.ntmps5
  go_wp2_with fail
  have hx : Ext w (w.alloc (.cells #[.int .i64 K, .int .i64 Q, .int .i64 T, .int .i64 now, .slice A n c0] 26)) := (Ext.refl w).alloc _
  have bA := Blk.new w #[.int .i64 K, .int .i64 Q, .int .i64 T, .int .i64 now, .slice A n c0] 26
  refine (AL.out _ hx).mono ?_
  rintro e u0 ⟨rfl, hy⟩
  have hx0 := hx.trans hy
  have bA0 := bA.ext hy
  obtain ⟨b0, b1, b2, b3, b4⟩ := bA0.five
  clear hx hy bA
  go_wp2_with fail
  refine (LG.out _).mono ?_
  rintro e u1 ⟨rfl, hy⟩
  have hx1 := hx0.trans hy
  have bA1 := bA0.ext hy
  clear b0 b1 b2 b3 b4
  obtain ⟨b0, b1, b2, b3, b4⟩ := bA1.five
  clear hx0 hy bA0
  go_wp2_with fail
  refine (NW.out _).mono ?_
  rintro e u2 ⟨g, rfl, hs, hy, hg⟩
  have hx2 := hx1.trans hy
  have bA2 := bA1.ext hy
  have hgA : w.heap.size < g := Nat.lt_of_lt_of_le bA1.lt hg
  clear b0 b1 b2 b3 b4 hx1 hy bA1 hg
  have hI0 : InRow w u2 K Q T now A n c0 g l ⟨0, now, false⟩ false := ⟨hs, by simp only; omega, hx2, bA2, hgA⟩
  obtain ⟨b0, b1, b2, b3, b4⟩ := bA2.five
  go_wp2_with fail
  clear b0 b1 b2 b3 b4 hs hx2 bA2
  go_loopw [5, 6, 7, 45] (fun vl vm vf vi wr => ∃ (k : Nat) (c : Ck) (wk first : Bool) (last m : Int), vl = .int .i64 last ∧ vm = .int .i64 m ∧ vf = .bool first ∧ vi = .int .i64 (k : Int) ∧ k ≤ n ∧ k ≤ 3000 ∧ ChAt K Q T now k c first last m ∧ InRow w wr K Q T now A n c0 g l c wk) (fun _ _ _ vi _ => (3002 - intOf vi).toNat)
  case atStart => exact ⟨0, _, _, true, now, 0, rfl, rfl, rfl, rfl, by omega, by omega, ⟨by simp only; omega, by omega, .inl ⟨rfl, rfl, rfl, rfl, rfl⟩⟩, hI0⟩
  case round =>
    clear hI0
    obtain ⟨k, c, wk, first, last, m, rfl, rfl, rfl, rfl, hk, hk1, hC, hI⟩ := hrel
    by_cases hkn : k < n
    · obtain ⟨ad, x, rfl, hlx, hcx⟩ := (HR.out.ext hI.hx).int hkn
      obtain ⟨b0, b1, b2, b3, b4⟩ := hI.blk.five
      by_cases h3000 : (3000 : Int) ≤ (k : Int)
      · go_wp2_with fail
        go_ret
        exact ⟨rfl, hI.hx⟩
      · obtain ⟨wb, m1⟩ := bit0 x
        obtain ⟨tb, m2⟩ := bit1 x
        have BG := Lib.hid (begin_any wr (now + (k : Int)) wb hI.sv (by simp only; omega) (by simp only; omega) (by simp only; omega))
        have hb' := beg_bound (K := K) (T := T) (s := now) (now := now + (k : Int)) (wk := wb) (show 1 ≤ Q ∧ Q ≤ 256 by omega) hI.bd
        have hcs := CB.out (k : Int) c first wb last m (by omega) hC
        have hla := ch_last (by omega) hC
        have w5 : IntKind.i64.wrap (now + (k : Int)) = now + (k : Int) := by rw [IntKind.wrap_i64]; omega
        obtain ⟨c', hc'⟩ : ∃ c', begC ⟨K, Q, T, now⟩ c (now + (k : Int)) wb = c' := ⟨_, rfl⟩
        rw [hc'] at hb' hcs BG
        clear hc' hC
        have m3 : ((if wb = true then 1 else 0 : Int) == 1) = wb := by cases wb <;> rfl
        rw [← m1] at m3
        clear m1
        obtain ⟨rd, hrd⟩ : ∃ rd, (wb && decide (0 < c'.b)) = rd := ⟨_, rfl⟩
        rw [hrd] at BG
        rcases hcs with hA | hB
        · obtain ⟨hdd0, hCI⟩ := hA
          obtain ⟨D, hD⟩ : ∃ D, c'.d = D := ⟨_, rfl⟩
          have hdd : c'.d = D := hD
          have hdc : c.d = D := by rw [← hdd0, hD]
          clear hdd0 hD
          cases rd
          · skip
            have MT := ch_most l3 hCI
            have w9 : m ≤ Q := MT.1
            have NX := Lib.hid (ch_next hCI)
            go_wp2_with fail
            refine (getter_deadline wr hI.sv).mono ?_
            rintro en v0 ⟨rfl, rfl⟩
            go_wp2_with fail
            refine BG.out.mono ?_
            rintro en u1 ⟨rfl, h1, f1⟩
            have hI1 := hI.step h1 f1 hb'
            clear hI BG f1 b0 b1 b2 b3 b4 h1
            obtain ⟨b0, b1, b2, b3, b4⟩ := hI1.blk.five
            go_wp2_with fail
            refine (getter_deadline u1 hI1.sv).mono ?_
            rintro en v0 ⟨rfl, rfl⟩
            have hI2 := hI1
            go_upto_region 24 with (fail)
            have g1 : (Q < m) = False := by simp; omega
            have g2 : (Q < c'.b) = False := by simp; omega
            have g3 : (c'.b < 0) = False := by simp; omega
            have BZ := Lib.hid (fun w' (hx' : Ext u1 w') => (⟨(hI1.blk.ext hx').five.2.1, hx'⟩ : w'.cell? ⟨w.heap.size, 1, none⟩ = some (.int .i64 Q) ∧ Ext u1 w'))
            obtain ⟨k0, k1⟩ := BZ.out u1 (Ext.refl _)
            have GB := Lib.hid (fun w' (h : Sv w' g ⟨K, Q, T, now⟩ c' wb) => getter_budget w' h)
            go_region_held3 (fun w' => w'.cell? ⟨w.heap.size, 1, none⟩ = some (.int .i64 Q) ∧ Ext u1 w')
              (first | (refine BZ.out _ ?_; first | with_reducible assumption | with_reducible exact Ext.refl _ | with_reducible exact (Ext.refl _).drew | with_reducible exact (Ext.refl _).drewN _ | with_reducible exact ((Ext.refl _).drewN _).drew))
              (first
                | (go_at_call 17; (with_reducible refine (GB.out _ (by first | exact hI1.sv | exact hI1.sv.ext ((Ext.refl _).drew) | exact hI1.sv.ext ((Ext.refl _).drewN _) | exact hI1.sv.ext (((Ext.refl _).drewN _).drew))).mono ?_); rintro en vE ⟨rfl, rfl⟩))
            all_goals
              go_wp2_with fail
              go_roundw
              case rel => first | exact ⟨k + 1, c', wb, first, last, m, rfl, rfl, rfl, by go_num, by omega, by omega, NX.out, hI1⟩ | exact ⟨k + 1, c', wb, first, last, m, rfl, rfl, rfl, by go_num, by omega, by omega, NX.out, hI1.ext ((Ext.refl _).drew)⟩ | exact ⟨k + 1, c', wb, first, last, m, rfl, rfl, rfl, by go_num, by omega, by omega, NX.out, hI1.ext ((Ext.refl _).drewN _)⟩ | exact ⟨k + 1, c', wb, first, last, m, rfl, rfl, rfl, by go_num, by omega, by omega, NX.out, hI1.ext (((Ext.refl _).drewN _).drew)⟩
              case measure => simp [intOf]; omega
          · have hp : 0 < c'.b := by cases wb <;> simp at hrd; exact hrd
            have hTK := ch_take (b := c'.b) (d := c'.d) (on := c'.on) hCI hp
            obtain ⟨hlt0, hT2⟩ := hTK
            have hlt : now + (k : Int) < D := by rw [← hdd]; exact hlt0
            clear hlt0
            cases tb
            · simp only [Bool.false_eq_true, if_false] at m2
              have MT := ch_most l3 hCI
              have w9 : m ≤ Q := MT.1
              have NX := Lib.hid (ch_next hCI)
              go_wp2_with fail
              refine (getter_deadline wr hI.sv).mono ?_
              rintro en v0 ⟨rfl, rfl⟩
              go_wp2_with fail
              refine BG.out.mono ?_
              rintro en u1 ⟨rfl, h1, f1⟩
              have hI1 := hI.step h1 f1 hb'
              clear hI BG f1 b0 b1 b2 b3 b4 h1
              obtain ⟨b0, b1, b2, b3, b4⟩ := hI1.blk.five
              go_wp2_with fail
              refine (getter_deadline u1 hI1.sv).mono ?_
              rintro en v0 ⟨rfl, rfl⟩
              have hI2 := hI1
              go_upto_region 24 with (fail)
              have g1 : (Q < m) = False := by simp; omega
              have g2 : (Q < c'.b) = False := by simp; omega
              have g3 : (c'.b < 0) = False := by simp; omega
              have BZ := Lib.hid (fun w' (hx' : Ext u1 w') => (⟨(hI1.blk.ext hx').five.2.1, hx'⟩ : w'.cell? ⟨w.heap.size, 1, none⟩ = some (.int .i64 Q) ∧ Ext u1 w'))
              obtain ⟨k0, k1⟩ := BZ.out u1 (Ext.refl _)
              have GB := Lib.hid (fun w' (h : Sv w' g ⟨K, Q, T, now⟩ c' wb) => getter_budget w' h)
              go_region_held3 (fun w' => w'.cell? ⟨w.heap.size, 1, none⟩ = some (.int .i64 Q) ∧ Ext u1 w')
                (first | (refine BZ.out _ ?_; first | with_reducible assumption | with_reducible exact Ext.refl _ | with_reducible exact (Ext.refl _).drew | with_reducible exact (Ext.refl _).drewN _ | with_reducible exact ((Ext.refl _).drewN _).drew))
                (first
                  | (go_at_call 17; (with_reducible refine (GB.out _ (by first | exact hI1.sv | exact hI1.sv.ext ((Ext.refl _).drew) | exact hI1.sv.ext ((Ext.refl _).drewN _) | exact hI1.sv.ext (((Ext.refl _).drewN _).drew))).mono ?_); rintro en vE ⟨rfl, rfl⟩))
              all_goals
                go_wp2_with fail
                go_roundw
                case rel => first | exact ⟨k + 1, c', wb, first, last, m, rfl, rfl, rfl, by go_num, by omega, by omega, NX.out, hI1⟩ | exact ⟨k + 1, c', wb, first, last, m, rfl, rfl, rfl, by go_num, by omega, by omega, NX.out, hI1.ext ((Ext.refl _).drew)⟩ | exact ⟨k + 1, c', wb, first, last, m, rfl, rfl, rfl, by go_num, by omega, by omega, NX.out, hI1.ext ((Ext.refl _).drewN _)⟩ | exact ⟨k + 1, c', wb, first, last, m, rfl, rfl, rfl, by go_num, by omega, by omega, NX.out, hI1.ext (((Ext.refl _).drewN _).drew)⟩
                case measure => simp [intOf]; omega
            · simp only [if_true] at m2
              have MT := ch_most l3 hT2
              have MM := ch_most l3 hCI
              have hmm : 0 ≤ m ∧ m ≤ 256 := by omega
              have w8 : IntKind.i64.wrap (m + 1) = m + 1 := by rw [IntKind.wrap_i64]; omega
              have w9 : m + 1 ≤ Q := MT.1
              have NX := Lib.hid (ch_next hT2)
              go_wp2_with fail
              refine (getter_deadline wr hI.sv).mono ?_
              rintro en v0 ⟨rfl, rfl⟩
              go_wp2_with fail
              refine BG.out.mono ?_
              rintro en u1 ⟨rfl, h1, f1⟩
              have hI1 := hI.step h1 f1 hb'
              clear hI BG f1 b0 b1 b2 b3 b4 h1
              obtain ⟨b0, b1, b2, b3, b4⟩ := hI1.blk.five
              go_wp2_with fail
              refine (getter_deadline u1 hI1.sv).mono ?_
              rintro en v0 ⟨rfl, rfl⟩
              have hI2 := hI1
              have BY := Lib.hid (fun w' (hf : Fr u1 w' (· = g)) => (⟨(hI1.blk.keep hf (by omega)).five.2.2.2.1, hf⟩ : w'.cell? ⟨w.heap.size, 3, none⟩ = some (.int .i64 now) ∧ Fr u1 w' (· = g)))
              obtain ⟨j0, j1⟩ := BY.out u1 (Fr.refl _ _)
              have CY := Lib.hid (fun w' (hs' : Sv w' g ⟨K, Q, T, now⟩ c' wb) => charge_yes w' hs' hrd (by omega))
              have GD : Hid (∀ w', Sv w' g ⟨K, Q, T, now⟩ ⟨c'.b - 1, c'.d, c'.on⟩ wb → Calls Tryd.prog 15 #[.pointer (some ⟨g, 0, none⟩)] w' fun e w'' => e = .returned (.int .i64 D) ∧ w' = w'') := Lib.hid (fun w' h => by have t := getter_deadline w' h; simp only [hdd] at t; exact t)
              go_wp2_with fail
              go_region_held3 (fun w' => w'.cell? ⟨w.heap.size, 3, none⟩ = some (.int .i64 now) ∧ Fr u1 w' (· = g))
                (first | (refine BY.out _ ?_; first | with_reducible assumption | with_reducible exact Fr.refl _ _ | with_reducible exact (Fr.refl _ _).drew | with_reducible exact Fr.drew (by with_reducible assumption) | with_reducible exact (Fr.refl _ _).drewN _ | with_reducible exact ((Fr.refl _ _).drewN _).drew))
                (first
                  | (go_at_call 16; (with_reducible refine (CY.out _ (by first | exact hI1.sv | exact hI1.sv.ext ((Ext.refl _).drew) | exact hI1.sv.ext ((Ext.refl _).drewN _) | exact hI1.sv.ext (((Ext.refl _).drewN _).drew))).mono ?_); rintro en vS ⟨rfl, h3, f3⟩; have FvS : Fr u1 vS (· = g) := (by first | exact f3 | exact ((Fr.refl _ _).drew).trans f3 (fun _ _ h => h) | exact ((Fr.refl _ _).drewN _).trans f3 (fun _ _ h => h) | exact (((Fr.refl _ _).drewN _).drew).trans f3 (fun _ _ h => h)))
                  | (go_at_call 15; (with_reducible refine (GD.out _ (by first | exact h3 | exact h3.ext ((Ext.refl _).drew))).mono ?_); rintro en vE ⟨rfl, rfl⟩))
              have hI3 := hI1.step h3 FvS (by simp only; omega)
              clear h3 f3 FvS CY GD BY j0 j1 b0 b1 b2 b3 b4
              generalize hc3 : (⟨c'.b - 1, c'.d, c'.on⟩ : Ck) = c3 at *
              have hc3b : c3.b ≤ Q ∧ 0 ≤ c3.b := by rw [← hc3]; exact ⟨MT.2.1, MT.2.2.1⟩
              have NX3 : Hid (ChAt K Q T now ((k : Int) + 1) c3 first last (m + 1)) := NX
              clear hc3
              obtain ⟨b0, b1, b2, b3, b4⟩ := hI3.blk.five
              go_upto_region 24 with (fail)
              have g1 : (Q < (m + 1)) = False := by simp; omega
              have g2 : (Q < c3.b) = False := by simp; omega
              have g3 : (c3.b < 0) = False := by simp; omega
              have BZ := Lib.hid (fun w' (hx' : Ext vS w') => (⟨(hI3.blk.ext hx').five.2.1, hx'⟩ : w'.cell? ⟨w.heap.size, 1, none⟩ = some (.int .i64 Q) ∧ Ext vS w'))
              obtain ⟨k0, k1⟩ := BZ.out vS (Ext.refl _)
              have GB := Lib.hid (fun w' (h : Sv w' g ⟨K, Q, T, now⟩ c3 wb) => getter_budget w' h)
              go_region_held3 (fun w' => w'.cell? ⟨w.heap.size, 1, none⟩ = some (.int .i64 Q) ∧ Ext vS w')
                (first | (refine BZ.out _ ?_; first | with_reducible assumption | with_reducible exact Ext.refl _ | with_reducible exact (Ext.refl _).drew | with_reducible exact (Ext.refl _).drewN _ | with_reducible exact ((Ext.refl _).drewN _).drew))
                (first
                  | (go_at_call 17; (with_reducible refine (GB.out _ (by first | exact hI3.sv | exact hI3.sv.ext ((Ext.refl _).drew) | exact hI3.sv.ext ((Ext.refl _).drewN _) | exact hI3.sv.ext (((Ext.refl _).drewN _).drew))).mono ?_); rintro en vE ⟨rfl, rfl⟩))
              all_goals
                go_wp2_with fail
                go_roundw
                case rel => first | exact ⟨k + 1, c3, wb, first, last, (m + 1), rfl, rfl, rfl, by go_num, by omega, by omega, NX3.out, hI3⟩ | exact ⟨k + 1, c3, wb, first, last, (m + 1), rfl, rfl, rfl, by go_num, by omega, by omega, NX3.out, hI3.ext ((Ext.refl _).drew)⟩ | exact ⟨k + 1, c3, wb, first, last, (m + 1), rfl, rfl, rfl, by go_num, by omega, by omega, NX3.out, hI3.ext ((Ext.refl _).drewN _)⟩ | exact ⟨k + 1, c3, wb, first, last, (m + 1), rfl, rfl, rfl, by go_num, by omega, by omega, NX3.out, hI3.ext (((Ext.refl _).drewN _).drew)⟩
                case measure => simp [intOf]; omega
        · obtain ⟨hne0, hdd0, hfl, hCI⟩ := hB
          obtain ⟨D, hD⟩ : ∃ D, now + (k : Int) + T = D := ⟨_, rfl⟩
          have hdd : c'.d = D := by rw [hdd0, hD]
          have w6 : IntKind.i64.wrap (now + (k : Int) + T) = D := by rw [hD, IntKind.wrap_i64]; omega
          have hne : D ≠ c.d := by rw [← hdd]; exact hne0
          have hne1 : (D == c.d) = false := beq_false_of_ne hne
          clear hne0 hdd0 hD
          cases first
          · skip
            have hle : last + T ≤ now + (k : Int) := hfl.resolve_left (by simp)
            have w7 : IntKind.i64.wrap (last + T) = last + T := by rw [IntKind.wrap_i64]; omega
            have hnl : (now + (k : Int) < last + T) = False := by simp; omega
            clear hfl
            cases rd
            · skip
              have MT := ch_most l3 hCI
              have w9 : 0 ≤ Q := MT.1
              have NX := Lib.hid (ch_next hCI)
              go_wp2_with fail
              refine (getter_deadline wr hI.sv).mono ?_
              rintro en v0 ⟨rfl, rfl⟩
              go_wp2_with fail
              refine BG.out.mono ?_
              rintro en u1 ⟨rfl, h1, f1⟩
              have hI1 := hI.step h1 f1 hb'
              clear hI BG f1 b0 b1 b2 b3 b4 h1
              obtain ⟨b0, b1, b2, b3, b4⟩ := hI1.blk.five
              go_wp2_with fail
              refine (getter_deadline u1 hI1.sv).mono ?_
              rintro en v0 ⟨rfl, rfl⟩
              go_wp2_with fail
              go_quiet ((go_at_call 15; exact Calls.quiet_of_same ((getter_deadline _ (hI1.sv.ext ((Ext.refl _).drewN _))).mono fun e w' h => ⟨h.1, h.2.symm⟩)))
              go_wp2_with fail
              go_quiet (fail)
              go_upto_region 24 with (fail)
              have g1 : (Q < 0) = False := by simp; omega
              have g2 : (Q < c'.b) = False := by simp; omega
              have g3 : (c'.b < 0) = False := by simp; omega
              have BZ := Lib.hid (fun w' (hx' : Ext u1 w') => (⟨(hI1.blk.ext hx').five.2.1, hx'⟩ : w'.cell? ⟨w.heap.size, 1, none⟩ = some (.int .i64 Q) ∧ Ext u1 w'))
              obtain ⟨k0, k1⟩ := BZ.out u1 (Ext.refl _)
              have GB := Lib.hid (fun w' (h : Sv w' g ⟨K, Q, T, now⟩ c' wb) => getter_budget w' h)
              go_region_held3 (fun w' => w'.cell? ⟨w.heap.size, 1, none⟩ = some (.int .i64 Q) ∧ Ext u1 w')
                (first | (refine BZ.out _ ?_; first | with_reducible assumption | with_reducible exact Ext.refl _ | with_reducible exact (Ext.refl _).drew | with_reducible exact (Ext.refl _).drewN _ | with_reducible exact ((Ext.refl _).drewN _).drew))
                (first
                  | (go_at_call 17; (with_reducible refine (GB.out _ (by first | exact hI1.sv | exact hI1.sv.ext ((Ext.refl _).drew) | exact hI1.sv.ext ((Ext.refl _).drewN _) | exact hI1.sv.ext (((Ext.refl _).drewN _).drew))).mono ?_); rintro en vE ⟨rfl, rfl⟩))
              all_goals
                go_wp2_with fail
                go_roundw
                case rel => first | exact ⟨k + 1, c', wb, false, (now + (k : Int)), 0, rfl, rfl, rfl, by go_num, by omega, by omega, NX.out, hI1⟩ | exact ⟨k + 1, c', wb, false, (now + (k : Int)), 0, rfl, rfl, rfl, by go_num, by omega, by omega, NX.out, hI1.ext ((Ext.refl _).drew)⟩ | exact ⟨k + 1, c', wb, false, (now + (k : Int)), 0, rfl, rfl, rfl, by go_num, by omega, by omega, NX.out, hI1.ext ((Ext.refl _).drewN _)⟩ | exact ⟨k + 1, c', wb, false, (now + (k : Int)), 0, rfl, rfl, rfl, by go_num, by omega, by omega, NX.out, hI1.ext (((Ext.refl _).drewN _).drew)⟩
                case measure => simp [intOf]; omega
            · have hp : 0 < c'.b := by cases wb <;> simp at hrd; exact hrd
              have hTK := ch_take (b := c'.b) (d := c'.d) (on := c'.on) hCI hp
              obtain ⟨hlt0, hT2⟩ := hTK
              have hlt : now + (k : Int) < D := by rw [← hdd]; exact hlt0
              clear hlt0
              cases tb
              · simp only [Bool.false_eq_true, if_false] at m2
                have MT := ch_most l3 hCI
                have w9 : 0 ≤ Q := MT.1
                have NX := Lib.hid (ch_next hCI)
                go_wp2_with fail
                refine (getter_deadline wr hI.sv).mono ?_
                rintro en v0 ⟨rfl, rfl⟩
                go_wp2_with fail
                refine BG.out.mono ?_
                rintro en u1 ⟨rfl, h1, f1⟩
                have hI1 := hI.step h1 f1 hb'
                clear hI BG f1 b0 b1 b2 b3 b4 h1
                obtain ⟨b0, b1, b2, b3, b4⟩ := hI1.blk.five
                go_wp2_with fail
                refine (getter_deadline u1 hI1.sv).mono ?_
                rintro en v0 ⟨rfl, rfl⟩
                go_wp2_with fail
                go_quiet ((go_at_call 15; exact Calls.quiet_of_same ((getter_deadline _ (hI1.sv.ext ((Ext.refl _).drewN _))).mono fun e w' h => ⟨h.1, h.2.symm⟩)))
                go_wp2_with fail
                go_quiet (fail)
                go_upto_region 24 with (fail)
                have g1 : (Q < 0) = False := by simp; omega
                have g2 : (Q < c'.b) = False := by simp; omega
                have g3 : (c'.b < 0) = False := by simp; omega
                have BZ := Lib.hid (fun w' (hx' : Ext u1 w') => (⟨(hI1.blk.ext hx').five.2.1, hx'⟩ : w'.cell? ⟨w.heap.size, 1, none⟩ = some (.int .i64 Q) ∧ Ext u1 w'))
                obtain ⟨k0, k1⟩ := BZ.out u1 (Ext.refl _)
                have GB := Lib.hid (fun w' (h : Sv w' g ⟨K, Q, T, now⟩ c' wb) => getter_budget w' h)
                go_region_held3 (fun w' => w'.cell? ⟨w.heap.size, 1, none⟩ = some (.int .i64 Q) ∧ Ext u1 w')
                  (first | (refine BZ.out _ ?_; first | with_reducible assumption | with_reducible exact Ext.refl _ | with_reducible exact (Ext.refl _).drew | with_reducible exact (Ext.refl _).drewN _ | with_reducible exact ((Ext.refl _).drewN _).drew))
                  (first
                    | (go_at_call 17; (with_reducible refine (GB.out _ (by first | exact hI1.sv | exact hI1.sv.ext ((Ext.refl _).drew) | exact hI1.sv.ext ((Ext.refl _).drewN _) | exact hI1.sv.ext (((Ext.refl _).drewN _).drew))).mono ?_); rintro en vE ⟨rfl, rfl⟩))
                all_goals
                  go_wp2_with fail
                  go_roundw
                  case rel => first | exact ⟨k + 1, c', wb, false, (now + (k : Int)), 0, rfl, rfl, rfl, by go_num, by omega, by omega, NX.out, hI1⟩ | exact ⟨k + 1, c', wb, false, (now + (k : Int)), 0, rfl, rfl, rfl, by go_num, by omega, by omega, NX.out, hI1.ext ((Ext.refl _).drew)⟩ | exact ⟨k + 1, c', wb, false, (now + (k : Int)), 0, rfl, rfl, rfl, by go_num, by omega, by omega, NX.out, hI1.ext ((Ext.refl _).drewN _)⟩ | exact ⟨k + 1, c', wb, false, (now + (k : Int)), 0, rfl, rfl, rfl, by go_num, by omega, by omega, NX.out, hI1.ext (((Ext.refl _).drewN _).drew)⟩
                  case measure => simp [intOf]; omega
              · simp only [if_true] at m2
                have MT := ch_most l3 hT2
                have MM := ch_most l3 hCI
                have hmm : 0 ≤ 0 ∧ 0 ≤ 256 := by omega
                have w8 : IntKind.i64.wrap (0 + 1) = 0 + 1 := by rw [IntKind.wrap_i64]; omega
                have w9 : 0 + 1 ≤ Q := MT.1
                have NX := Lib.hid (ch_next hT2)
                go_wp2_with fail
                refine (getter_deadline wr hI.sv).mono ?_
                rintro en v0 ⟨rfl, rfl⟩
                go_wp2_with fail
                refine BG.out.mono ?_
                rintro en u1 ⟨rfl, h1, f1⟩
                have hI1 := hI.step h1 f1 hb'
                clear hI BG f1 b0 b1 b2 b3 b4 h1
                obtain ⟨b0, b1, b2, b3, b4⟩ := hI1.blk.five
                go_wp2_with fail
                refine (getter_deadline u1 hI1.sv).mono ?_
                rintro en v0 ⟨rfl, rfl⟩
                go_wp2_with fail
                go_quiet ((go_at_call 15; exact Calls.quiet_of_same ((getter_deadline _ (hI1.sv.ext ((Ext.refl _).drewN _))).mono fun e w' h => ⟨h.1, h.2.symm⟩)))
                go_wp2_with fail
                go_quiet (fail)
                have BY := Lib.hid (fun w' (hf : Fr u1 w' (· = g)) => (⟨(hI1.blk.keep hf (by omega)).five.2.2.2.1, hf⟩ : w'.cell? ⟨w.heap.size, 3, none⟩ = some (.int .i64 now) ∧ Fr u1 w' (· = g)))
                obtain ⟨j0, j1⟩ := BY.out u1 (Fr.refl _ _)
                have CY := Lib.hid (fun w' (hs' : Sv w' g ⟨K, Q, T, now⟩ c' wb) => charge_yes w' hs' hrd (by omega))
                have GD : Hid (∀ w', Sv w' g ⟨K, Q, T, now⟩ ⟨c'.b - 1, c'.d, c'.on⟩ wb → Calls Tryd.prog 15 #[.pointer (some ⟨g, 0, none⟩)] w' fun e w'' => e = .returned (.int .i64 D) ∧ w' = w'') := Lib.hid (fun w' h => by have t := getter_deadline w' h; simp only [hdd] at t; exact t)
                go_wp2_with fail
                go_region_held3 (fun w' => w'.cell? ⟨w.heap.size, 3, none⟩ = some (.int .i64 now) ∧ Fr u1 w' (· = g))
                  (first | (refine BY.out _ ?_; first | with_reducible assumption | with_reducible exact Fr.refl _ _ | with_reducible exact (Fr.refl _ _).drew | with_reducible exact Fr.drew (by with_reducible assumption) | with_reducible exact (Fr.refl _ _).drewN _ | with_reducible exact ((Fr.refl _ _).drewN _).drew))
                  (first
                    | (go_at_call 16; (with_reducible refine (CY.out _ (by first | exact hI1.sv | exact hI1.sv.ext ((Ext.refl _).drew) | exact hI1.sv.ext ((Ext.refl _).drewN _) | exact hI1.sv.ext (((Ext.refl _).drewN _).drew))).mono ?_); rintro en vS ⟨rfl, h3, f3⟩; have FvS : Fr u1 vS (· = g) := (by first | exact f3 | exact ((Fr.refl _ _).drew).trans f3 (fun _ _ h => h) | exact ((Fr.refl _ _).drewN _).trans f3 (fun _ _ h => h) | exact (((Fr.refl _ _).drewN _).drew).trans f3 (fun _ _ h => h)))
                    | (go_at_call 15; (with_reducible refine (GD.out _ (by first | exact h3 | exact h3.ext ((Ext.refl _).drew))).mono ?_); rintro en vE ⟨rfl, rfl⟩))
                have hI3 := hI1.step h3 FvS (by simp only; omega)
                clear h3 f3 FvS CY GD BY j0 j1 b0 b1 b2 b3 b4
                generalize hc3 : (⟨c'.b - 1, c'.d, c'.on⟩ : Ck) = c3 at *
                have hc3b : c3.b ≤ Q ∧ 0 ≤ c3.b := by rw [← hc3]; exact ⟨MT.2.1, MT.2.2.1⟩
                have NX3 : Hid (ChAt K Q T now ((k : Int) + 1) c3 false (now + (k : Int)) (0 + 1)) := NX
                clear hc3
                obtain ⟨b0, b1, b2, b3, b4⟩ := hI3.blk.five
                go_upto_region 24 with (fail)
                have g1 : (Q < 1) = False := by simp; omega
                have g2 : (Q < c3.b) = False := by simp; omega
                have g3 : (c3.b < 0) = False := by simp; omega
                have BZ := Lib.hid (fun w' (hx' : Ext vS w') => (⟨(hI3.blk.ext hx').five.2.1, hx'⟩ : w'.cell? ⟨w.heap.size, 1, none⟩ = some (.int .i64 Q) ∧ Ext vS w'))
                obtain ⟨k0, k1⟩ := BZ.out vS (Ext.refl _)
                have GB := Lib.hid (fun w' (h : Sv w' g ⟨K, Q, T, now⟩ c3 wb) => getter_budget w' h)
                go_region_held3 (fun w' => w'.cell? ⟨w.heap.size, 1, none⟩ = some (.int .i64 Q) ∧ Ext vS w')
                  (first | (refine BZ.out _ ?_; first | with_reducible assumption | with_reducible exact Ext.refl _ | with_reducible exact (Ext.refl _).drew | with_reducible exact (Ext.refl _).drewN _ | with_reducible exact ((Ext.refl _).drewN _).drew))
                  (first
                    | (go_at_call 17; (with_reducible refine (GB.out _ (by first | exact hI3.sv | exact hI3.sv.ext ((Ext.refl _).drew) | exact hI3.sv.ext ((Ext.refl _).drewN _) | exact hI3.sv.ext (((Ext.refl _).drewN _).drew))).mono ?_); rintro en vE ⟨rfl, rfl⟩))
                all_goals
                  go_wp2_with fail
                  go_roundw
                  case rel => first | exact ⟨k + 1, c3, wb, false, (now + (k : Int)), 1, rfl, rfl, rfl, by go_num, by omega, by omega, NX3.out, hI3⟩ | exact ⟨k + 1, c3, wb, false, (now + (k : Int)), 1, rfl, rfl, rfl, by go_num, by omega, by omega, NX3.out, hI3.ext ((Ext.refl _).drew)⟩ | exact ⟨k + 1, c3, wb, false, (now + (k : Int)), 1, rfl, rfl, rfl, by go_num, by omega, by omega, NX3.out, hI3.ext ((Ext.refl _).drewN _)⟩ | exact ⟨k + 1, c3, wb, false, (now + (k : Int)), 1, rfl, rfl, rfl, by go_num, by omega, by omega, NX3.out, hI3.ext (((Ext.refl _).drewN _).drew)⟩
                  case measure => simp [intOf]; omega
          · clear hfl
            cases rd
            · skip
              have MT := ch_most l3 hCI
              have w9 : 0 ≤ Q := MT.1
              have NX := Lib.hid (ch_next hCI)
              go_wp2_with fail
              refine (getter_deadline wr hI.sv).mono ?_
              rintro en v0 ⟨rfl, rfl⟩
              go_wp2_with fail
              refine BG.out.mono ?_
              rintro en u1 ⟨rfl, h1, f1⟩
              have hI1 := hI.step h1 f1 hb'
              clear hI BG f1 b0 b1 b2 b3 b4 h1
              obtain ⟨b0, b1, b2, b3, b4⟩ := hI1.blk.five
              go_wp2_with fail
              refine (getter_deadline u1 hI1.sv).mono ?_
              rintro en v0 ⟨rfl, rfl⟩
              go_wp2_with fail
              go_quiet ((go_at_call 15; exact Calls.quiet_of_same ((getter_deadline _ (hI1.sv.ext ((Ext.refl _).drewN _))).mono fun e w' h => ⟨h.1, h.2.symm⟩)))
              go_wp2_with fail
              go_quiet (fail)
              go_upto_region 24 with (fail)
              have g1 : (Q < 0) = False := by simp; omega
              have g2 : (Q < c'.b) = False := by simp; omega
              have g3 : (c'.b < 0) = False := by simp; omega
              have BZ := Lib.hid (fun w' (hx' : Ext u1 w') => (⟨(hI1.blk.ext hx').five.2.1, hx'⟩ : w'.cell? ⟨w.heap.size, 1, none⟩ = some (.int .i64 Q) ∧ Ext u1 w'))
              obtain ⟨k0, k1⟩ := BZ.out u1 (Ext.refl _)
              have GB := Lib.hid (fun w' (h : Sv w' g ⟨K, Q, T, now⟩ c' wb) => getter_budget w' h)
              go_region_held3 (fun w' => w'.cell? ⟨w.heap.size, 1, none⟩ = some (.int .i64 Q) ∧ Ext u1 w')
                (first | (refine BZ.out _ ?_; first | with_reducible assumption | with_reducible exact Ext.refl _ | with_reducible exact (Ext.refl _).drew | with_reducible exact (Ext.refl _).drewN _ | with_reducible exact ((Ext.refl _).drewN _).drew))
                (first
                  | (go_at_call 17; (with_reducible refine (GB.out _ (by first | exact hI1.sv | exact hI1.sv.ext ((Ext.refl _).drew) | exact hI1.sv.ext ((Ext.refl _).drewN _) | exact hI1.sv.ext (((Ext.refl _).drewN _).drew))).mono ?_); rintro en vE ⟨rfl, rfl⟩))
              all_goals
                go_wp2_with fail
                go_roundw
                case rel => first | exact ⟨k + 1, c', wb, false, (now + (k : Int)), 0, rfl, rfl, rfl, by go_num, by omega, by omega, NX.out, hI1⟩ | exact ⟨k + 1, c', wb, false, (now + (k : Int)), 0, rfl, rfl, rfl, by go_num, by omega, by omega, NX.out, hI1.ext ((Ext.refl _).drew)⟩ | exact ⟨k + 1, c', wb, false, (now + (k : Int)), 0, rfl, rfl, rfl, by go_num, by omega, by omega, NX.out, hI1.ext ((Ext.refl _).drewN _)⟩ | exact ⟨k + 1, c', wb, false, (now + (k : Int)), 0, rfl, rfl, rfl, by go_num, by omega, by omega, NX.out, hI1.ext (((Ext.refl _).drewN _).drew)⟩
                case measure => simp [intOf]; omega
            · have hp : 0 < c'.b := by cases wb <;> simp at hrd; exact hrd
              have hTK := ch_take (b := c'.b) (d := c'.d) (on := c'.on) hCI hp
              obtain ⟨hlt0, hT2⟩ := hTK
              have hlt : now + (k : Int) < D := by rw [← hdd]; exact hlt0
              clear hlt0
              cases tb
              · simp only [Bool.false_eq_true, if_false] at m2
                have MT := ch_most l3 hCI
                have w9 : 0 ≤ Q := MT.1
                have NX := Lib.hid (ch_next hCI)
                go_wp2_with fail
                refine (getter_deadline wr hI.sv).mono ?_
                rintro en v0 ⟨rfl, rfl⟩
                go_wp2_with fail
                refine BG.out.mono ?_
                rintro en u1 ⟨rfl, h1, f1⟩
                have hI1 := hI.step h1 f1 hb'
                clear hI BG f1 b0 b1 b2 b3 b4 h1
                obtain ⟨b0, b1, b2, b3, b4⟩ := hI1.blk.five
                go_wp2_with fail
                refine (getter_deadline u1 hI1.sv).mono ?_
                rintro en v0 ⟨rfl, rfl⟩
                go_wp2_with fail
                go_quiet ((go_at_call 15; exact Calls.quiet_of_same ((getter_deadline _ (hI1.sv.ext ((Ext.refl _).drewN _))).mono fun e w' h => ⟨h.1, h.2.symm⟩)))
                go_wp2_with fail
                go_quiet (fail)
                go_upto_region 24 with (fail)
                have g1 : (Q < 0) = False := by simp; omega
                have g2 : (Q < c'.b) = False := by simp; omega
                have g3 : (c'.b < 0) = False := by simp; omega
                have BZ := Lib.hid (fun w' (hx' : Ext u1 w') => (⟨(hI1.blk.ext hx').five.2.1, hx'⟩ : w'.cell? ⟨w.heap.size, 1, none⟩ = some (.int .i64 Q) ∧ Ext u1 w'))
                obtain ⟨k0, k1⟩ := BZ.out u1 (Ext.refl _)
                have GB := Lib.hid (fun w' (h : Sv w' g ⟨K, Q, T, now⟩ c' wb) => getter_budget w' h)
                go_region_held3 (fun w' => w'.cell? ⟨w.heap.size, 1, none⟩ = some (.int .i64 Q) ∧ Ext u1 w')
                  (first | (refine BZ.out _ ?_; first | with_reducible assumption | with_reducible exact Ext.refl _ | with_reducible exact (Ext.refl _).drew | with_reducible exact (Ext.refl _).drewN _ | with_reducible exact ((Ext.refl _).drewN _).drew))
                  (first
                    | (go_at_call 17; (with_reducible refine (GB.out _ (by first | exact hI1.sv | exact hI1.sv.ext ((Ext.refl _).drew) | exact hI1.sv.ext ((Ext.refl _).drewN _) | exact hI1.sv.ext (((Ext.refl _).drewN _).drew))).mono ?_); rintro en vE ⟨rfl, rfl⟩))
                all_goals
                  go_wp2_with fail
                  go_roundw
                  case rel => first | exact ⟨k + 1, c', wb, false, (now + (k : Int)), 0, rfl, rfl, rfl, by go_num, by omega, by omega, NX.out, hI1⟩ | exact ⟨k + 1, c', wb, false, (now + (k : Int)), 0, rfl, rfl, rfl, by go_num, by omega, by omega, NX.out, hI1.ext ((Ext.refl _).drew)⟩ | exact ⟨k + 1, c', wb, false, (now + (k : Int)), 0, rfl, rfl, rfl, by go_num, by omega, by omega, NX.out, hI1.ext ((Ext.refl _).drewN _)⟩ | exact ⟨k + 1, c', wb, false, (now + (k : Int)), 0, rfl, rfl, rfl, by go_num, by omega, by omega, NX.out, hI1.ext (((Ext.refl _).drewN _).drew)⟩
                  case measure => simp [intOf]; omega
              · simp only [if_true] at m2
                have MT := ch_most l3 hT2
                have MM := ch_most l3 hCI
                have hmm : 0 ≤ 0 ∧ 0 ≤ 256 := by omega
                have w8 : IntKind.i64.wrap (0 + 1) = 0 + 1 := by rw [IntKind.wrap_i64]; omega
                have w9 : 0 + 1 ≤ Q := MT.1
                have NX := Lib.hid (ch_next hT2)
                go_wp2_with fail
                refine (getter_deadline wr hI.sv).mono ?_
                rintro en v0 ⟨rfl, rfl⟩
                go_wp2_with fail
                refine BG.out.mono ?_
                rintro en u1 ⟨rfl, h1, f1⟩
                have hI1 := hI.step h1 f1 hb'
                clear hI BG f1 b0 b1 b2 b3 b4 h1
                obtain ⟨b0, b1, b2, b3, b4⟩ := hI1.blk.five
                go_wp2_with fail
                refine (getter_deadline u1 hI1.sv).mono ?_
                rintro en v0 ⟨rfl, rfl⟩
                go_wp2_with fail
                go_quiet ((go_at_call 15; exact Calls.quiet_of_same ((getter_deadline _ (hI1.sv.ext ((Ext.refl _).drewN _))).mono fun e w' h => ⟨h.1, h.2.symm⟩)))
                go_wp2_with fail
                go_quiet (fail)
                have BY := Lib.hid (fun w' (hf : Fr u1 w' (· = g)) => (⟨(hI1.blk.keep hf (by omega)).five.2.2.2.1, hf⟩ : w'.cell? ⟨w.heap.size, 3, none⟩ = some (.int .i64 now) ∧ Fr u1 w' (· = g)))
                obtain ⟨j0, j1⟩ := BY.out u1 (Fr.refl _ _)
                have CY := Lib.hid (fun w' (hs' : Sv w' g ⟨K, Q, T, now⟩ c' wb) => charge_yes w' hs' hrd (by omega))
                have GD : Hid (∀ w', Sv w' g ⟨K, Q, T, now⟩ ⟨c'.b - 1, c'.d, c'.on⟩ wb → Calls Tryd.prog 15 #[.pointer (some ⟨g, 0, none⟩)] w' fun e w'' => e = .returned (.int .i64 D) ∧ w' = w'') := Lib.hid (fun w' h => by have t := getter_deadline w' h; simp only [hdd] at t; exact t)
                go_wp2_with fail
                go_region_held3 (fun w' => w'.cell? ⟨w.heap.size, 3, none⟩ = some (.int .i64 now) ∧ Fr u1 w' (· = g))
                  (first | (refine BY.out _ ?_; first | with_reducible assumption | with_reducible exact Fr.refl _ _ | with_reducible exact (Fr.refl _ _).drew | with_reducible exact Fr.drew (by with_reducible assumption) | with_reducible exact (Fr.refl _ _).drewN _ | with_reducible exact ((Fr.refl _ _).drewN _).drew))
                  (first
                    | (go_at_call 16; (with_reducible refine (CY.out _ (by first | exact hI1.sv | exact hI1.sv.ext ((Ext.refl _).drew) | exact hI1.sv.ext ((Ext.refl _).drewN _) | exact hI1.sv.ext (((Ext.refl _).drewN _).drew))).mono ?_); rintro en vS ⟨rfl, h3, f3⟩; have FvS : Fr u1 vS (· = g) := (by first | exact f3 | exact ((Fr.refl _ _).drew).trans f3 (fun _ _ h => h) | exact ((Fr.refl _ _).drewN _).trans f3 (fun _ _ h => h) | exact (((Fr.refl _ _).drewN _).drew).trans f3 (fun _ _ h => h)))
                    | (go_at_call 15; (with_reducible refine (GD.out _ (by first | exact h3 | exact h3.ext ((Ext.refl _).drew))).mono ?_); rintro en vE ⟨rfl, rfl⟩))
                have hI3 := hI1.step h3 FvS (by simp only; omega)
                clear h3 f3 FvS CY GD BY j0 j1 b0 b1 b2 b3 b4
                generalize hc3 : (⟨c'.b - 1, c'.d, c'.on⟩ : Ck) = c3 at *
                have hc3b : c3.b ≤ Q ∧ 0 ≤ c3.b := by rw [← hc3]; exact ⟨MT.2.1, MT.2.2.1⟩
                have NX3 : Hid (ChAt K Q T now ((k : Int) + 1) c3 false (now + (k : Int)) (0 + 1)) := NX
                clear hc3
                obtain ⟨b0, b1, b2, b3, b4⟩ := hI3.blk.five
                go_upto_region 24 with (fail)
                have g1 : (Q < 1) = False := by simp; omega
                have g2 : (Q < c3.b) = False := by simp; omega
                have g3 : (c3.b < 0) = False := by simp; omega
                have BZ := Lib.hid (fun w' (hx' : Ext vS w') => (⟨(hI3.blk.ext hx').five.2.1, hx'⟩ : w'.cell? ⟨w.heap.size, 1, none⟩ = some (.int .i64 Q) ∧ Ext vS w'))
                obtain ⟨k0, k1⟩ := BZ.out vS (Ext.refl _)
                have GB := Lib.hid (fun w' (h : Sv w' g ⟨K, Q, T, now⟩ c3 wb) => getter_budget w' h)
                go_region_held3 (fun w' => w'.cell? ⟨w.heap.size, 1, none⟩ = some (.int .i64 Q) ∧ Ext vS w')
                  (first | (refine BZ.out _ ?_; first | with_reducible assumption | with_reducible exact Ext.refl _ | with_reducible exact (Ext.refl _).drew | with_reducible exact (Ext.refl _).drewN _ | with_reducible exact ((Ext.refl _).drewN _).drew))
                  (first
                    | (go_at_call 17; (with_reducible refine (GB.out _ (by first | exact hI3.sv | exact hI3.sv.ext ((Ext.refl _).drew) | exact hI3.sv.ext ((Ext.refl _).drewN _) | exact hI3.sv.ext (((Ext.refl _).drewN _).drew))).mono ?_); rintro en vE ⟨rfl, rfl⟩))
                all_goals
                  go_wp2_with fail
                  go_roundw
                  case rel => first | exact ⟨k + 1, c3, wb, false, (now + (k : Int)), 1, rfl, rfl, rfl, by go_num, by omega, by omega, NX3.out, hI3⟩ | exact ⟨k + 1, c3, wb, false, (now + (k : Int)), 1, rfl, rfl, rfl, by go_num, by omega, by omega, NX3.out, hI3.ext ((Ext.refl _).drew)⟩ | exact ⟨k + 1, c3, wb, false, (now + (k : Int)), 1, rfl, rfl, rfl, by go_num, by omega, by omega, NX3.out, hI3.ext ((Ext.refl _).drewN _)⟩ | exact ⟨k + 1, c3, wb, false, (now + (k : Int)), 1, rfl, rfl, rfl, by go_num, by omega, by omega, NX3.out, hI3.ext (((Ext.refl _).drewN _).drew)⟩
                  case measure => simp [intOf]; omega
    · obtain ⟨b0, b1, b2, b3, b4⟩ := hI.blk.five
      go_wp2_with fail
      go_ret
      exact ⟨rfl, hI.hx⟩
theorem chunks_any (K Q T now : Int) (A : Option Addr) (n c0 : Nat) (l : List Int) (w : World) {p : Addr} (hS : Sen w 0 p) (hr : Rd w 1 A n (ints l)) :
    Calls Tryd.prog 5 #[srow K Q T now A n c0] w fun e w' => e = .returned (.bool true) ∧ Ext w w' := by
  by_cases h : Legal K Q T
  · by_cases hn : 0 ≤ now ∧ now ≤ 1099511627776
    · by_cases h3 : K = 3
      · exact chunks_no K Q T now A n c0 true (.inr ⟨rfl, h3⟩) w hS (Lib.hid (fun w => legal_yes K Q T now w h hn))
      · exact chunks_yes K Q T now A n c0 l w hS h (by have := h.1; have := h.2.1; omega) hn hr
    · exact chunks_no K Q T now A n c0 false (.inl rfl) w hS (Lib.hid (fun w => legal_late K Q T now w h hn))
  · exact chunks_no K Q T now A n c0 false (.inl rfl) w hS (Lib.hid (fun w => legal_no K Q T now w h))
end Go.Proofs.YtakilnelbmbjdaaDoor
