/-
  The statements of layer 14: ran, walked.
-/
import Derived.Test.YtakilnelbmbjdaaDoorSvDemP
import Derived.Test.YtakilnelbmbjdaaDoorSvIdle
import Derived.Deep.Slices
namespace Go.Proofs.YtakilnelbmbjdaaDoor
open Go.RowKit
set_option linter.unusedVariables false
theorem eltB : Elt Tryd.prog 34 4 1 1 (.bool false) := ⟨Tryd.underlying34, by kernel_rfl, rfl, by omega⟩
/-- A list of bools as cells. -/
def bls (l : List Bool) : List Value := l.map Value.bool
theorem bls_one (l : List Bool) : ∀ u ∈ bls l, u.oneCell' = true := by
  intro u hu
  obtain ⟨b, _, rfl⟩ := List.mem_map.1 hu
  rfl
theorem bls_app (l : List Bool) (m : List Bool) : bls l ++ bls m = bls (l ++ m) := by simp [bls]
theorem Fr.grows {w w' : World} {A : Option Addr} (h : Grows w w' A) : Fr w w' (fun b => A.map (·.block) = some b) := ⟨h.os, h.tape, h.output, h.size, fun k hk hp => h.block k hk (fun e => hp e.symm)⟩
/-- What holds in ran's loop. -/
structure Ran (w wr : World) (K Q T now : Int) (A : Option Addr) (n c0 g k : Nat) (A1 : Option Addr) (c1 : Nat) (A2 : Option Addr) (c2 : Nat) (c : Ck) (wk : Bool) (ws hs : List Bool) : Prop where
  sv : Sv wr g ⟨K, Q, T, now⟩ c wk
  fr : Fr w wr (· = g)
  blk : Blk wr w.heap.size #[.int .i64 K, .int .i64 Q, .int .i64 T, .int .i64 now, .slice A n c0]
  o1 : Own wr (w.heap.size + 1) 4 1 A1 k c1 (bls ws)
  o2 : Own wr (w.heap.size + 1) 4 1 A2 k c2 (bls hs)
  ne : ∀ a b, A1 = some a → A2 = some b → a.block ≠ b.block
  dm : ∃ s, DemAt K Q T now ((k : Int) - 1) s c hs
  lh : hs.length = k
  lw : ws.length = k
  hg : g < w.heap.size
theorem Own.lt_of {w : World} {base n c : Nat} {e : TypeId} {size : Nat} {A : Option Addr} {xs : List Value} (h : Own w base e size A n c xs) {a : Addr} (ha : A = some a) : a.block < w.heap.size := by
  rcases h.2 with ⟨hn, _⟩ | ⟨g, cap, cur, h1, hb, hgg, rest⟩
  · injection hn with hn
    rw [ha] at hn
    cases hn
  · injection h1 with h1
    rw [ha] at h1
    injection h1 with h1
    subst h1
    exact (Array.getElem?_eq_some_iff.1 hgg).1
theorem Rd.fr {w w' : World} {A : Option Addr} {n : Nat} {xs : List Value} {P : Nat → Prop} (h : Rd w 1 A n xs) (hf : Fr w w' P) (hP : ∀ a, A = some a → ¬ P a.block) : Rd w' 1 A n xs := by
  refine ⟨h.1, fun hn => ?_⟩
  obtain ⟨ad, e, hl, hc⟩ := h.2 hn
  refine ⟨ad, e, Nat.lt_of_lt_of_le hl hf.size, fun j u hu => ?_⟩
  have hb : (ad.add j).block = ad.block := by unfold Addr.add; split <;> rfl
  exact (hf.cell (p := ad.add j) (by rw [hb]; exact hl) (by rw [hb]; exact hP ad e)).trans (hc j u hu)
theorem Own.away {w w' : World} {base n c : Nat} {e : TypeId} {size : Nat} {A : Option Addr} {xs : List Value} {P : Nat → Prop} (h : Own w base e size A n c xs) (hf : Fr w w' P) (hP : ∀ a, A = some a → ¬ P a.block) : Own w' base e size A n c xs := by
  refine ⟨h.1, ?_⟩
  rcases h.2 with hn | ⟨g, cap, cur, h1, hb, hgg, rest⟩
  · exact .inl hn
  · exact .inr ⟨g, cap, cur, h1, hb, (hf.block g (Array.getElem?_eq_some_iff.1 hgg).1 (hP _ (by injection h1))).trans hgg, rest⟩
set_option maxHeartbeats 6400000 in
theorem ran_any (K Q T now : Int) (A : Option Addr) (n c0 : Nat) (l : List Int) (w : World) {g : Nat} (hs : Sv w g ⟨K, Q, T, now⟩ ⟨0, now, false⟩ false) (hr : Rd w 1 A n (ints l)) (hrg : 0 < n → ∀ a, A = some a → a.block ≠ g) (h : Legal K Q T) (hn : 0 ≤ now ∧ now ≤ 1099511627776) :
    Calls Tryd.prog 12 #[.pointer (some ⟨g, 0, none⟩), srow K Q T now A n c0] w fun e w' => ∃ A1 c1 A2 c2 m hs, e = .returned (.tuple #[.slice A1 m c1, .slice A2 m c2]) ∧ Rd w' 1 A2 m (bls hs) ∧ Dem Q T hs ∧ hs.length = m ∧ m ≤ 400 ∧ Fr w w' (· = g) := by
  have HR := Lib.hid hr
  have hgl := hs.lt
  have HS := Lib.hid hs
  have D0 := Lib.hid (dem_new (K := K) (Q := Q) (T := T) (now := now) (by obtain ⟨_, _, _, _, _⟩ := h; omega) h.2.2.1)
  have H := Lib.hid h
  obtain ⟨l1, l2, l3, l4, l5⟩ := h
  clear hr hs
  unfold srow
  go_enter Tryd.func12, Tryd.ntmps12
  go_wp2_with fail
  have hx0 : Ext w (((w.alloc (.cells #[.int .i64 K, .int .i64 Q, .int .i64 T, .int .i64 now, .slice A n c0] 26)).alloc (.cells #[] 4)).alloc (.cells #[] 4)) := (((Ext.refl w).alloc _).alloc _).alloc _
  have hI0 : Ran w (((w.alloc (.cells #[.int .i64 K, .int .i64 Q, .int .i64 T, .int .i64 now, .slice A n c0] 26)).alloc (.cells #[] 4)).alloc (.cells #[] 4)) K Q T now A n c0 g 0 (some ⟨w.heap.size + 1, 0, none⟩) 0 (some ⟨w.heap.size + 1 + 1, 0, none⟩) 0 ⟨0, now, false⟩ false [] [] := by
    refine ⟨HS.out.ext hx0, Fr.of_ext hx0 _, ((Blk.new w #[.int .i64 K, .int .i64 Q, .int .i64 T, .int .i64 now, .slice A n c0] 26).ext ((Ext.refl _).alloc _)).ext ((Ext.refl _).alloc _), ?_, ?_, ?_, ⟨-T, D0.out⟩, rfl, rfl, hgl⟩
    · have hb := heap_alloc_new (w.alloc (.cells #[.int .i64 K, .int .i64 Q, .int .i64 T, .int .i64 now, .slice A n c0] 26)) (.cells #[] 4)
      rw [show (w.alloc (.cells #[.int .i64 K, .int .i64 Q, .int .i64 T, .int .i64 now, .slice A n c0] 26)).heap.size = w.heap.size + 1 by simp] at hb
      have hb2 := (((Ext.refl ((w.alloc (.cells #[.int .i64 K, .int .i64 Q, .int .i64 T, .int .i64 now, .slice A n c0] 26)).alloc (.cells #[] 4))).alloc (.cells #[] 4)).block (w.heap.size + 1) (by simp)).trans hb
      refine ⟨rfl, .inr ⟨w.heap.size + 1, 0, #[], rfl, by omega, hb2, Nat.le_refl _, by simp [maxLen], rfl, rfl⟩⟩
    · have hb := heap_alloc_new ((w.alloc (.cells #[.int .i64 K, .int .i64 Q, .int .i64 T, .int .i64 now, .slice A n c0] 26)).alloc (.cells #[] 4)) (.cells #[] 4)
      rw [show ((w.alloc (.cells #[.int .i64 K, .int .i64 Q, .int .i64 T, .int .i64 now, .slice A n c0] 26)).alloc (.cells #[] 4)).heap.size = w.heap.size + 1 + 1 by simp] at hb
      refine ⟨rfl, .inr ⟨w.heap.size + 1 + 1, 0, #[], rfl, by omega, hb, Nat.le_refl _, by simp [maxLen], rfl, rfl⟩⟩
    · intro a b ha hb
      injection ha with ha
      injection hb with hb
      subst ha hb
      simp
  generalize ((w.alloc (.cells #[.int .i64 K, .int .i64 Q, .int .i64 T, .int .i64 now, .slice A n c0] 26)).alloc (.cells #[] 4)).alloc (.cells #[] 4) = u0 at *
  obtain ⟨b0, b1, b2, b3, b4⟩ := hI0.blk.five
  go_loopw [6, 7, 16] (fun v6 v7 vi wr => ∃ (k : Nat) (c : Ck) (wk : Bool) (ws hs : List Bool) (A1 : Option Addr) (c1 : Nat) (A2 : Option Addr) (c2 : Nat), v6 = .slice A1 k c1 ∧ v7 = .slice A2 k c2 ∧ vi = .int .i64 (k : Int) ∧ k ≤ n ∧ k ≤ 400 ∧ Ran w wr K Q T now A n c0 g k A1 c1 A2 c2 c wk ws hs) (fun _ _ vi _ => (402 - intOf vi).toNat)
  case atStart => exact ⟨0, _, _, [], [], _, _, _, _, rfl, rfl, rfl, by omega, by omega, hI0⟩
  case round =>
    clear hI0 b0 b1 b2 b3 b4 hx0
    obtain ⟨k, c, wk, ws, hs, A1, c1, A2, c2, rfl, rfl, rfl, hk, hk1, hI⟩ := hrel
    obtain ⟨b0, b1, b2, b3, b4⟩ := hI.blk.five
    by_cases hkn : k < n
    · obtain ⟨ad, x, rfl, hlx, hcx⟩ := (HR.out.fr hI.fr (fun a ha => hrg (by omega) a ha)).int hkn
      by_cases h400 : (400 : Int) ≤ (k : Int)
      · go_wp2_with fail
        go_returns
        exact ⟨A1, c1, A2, c2, k, hs, rfl, hI.o2.rd, hI.dm.choose_spec.ok, hI.lh, by omega, hI.fr⟩
      · obtain ⟨wb, m1⟩ := bit0 x
        obtain ⟨tb, m2⟩ := bit1 x
        have hlen : (hs.length : Int) = (k : Int) := by rw [hI.lh]
        obtain ⟨s, hD⟩ := hI.dm
        have hbd := hD.b0
        have BG := Lib.hid (begin_any wr (now + (k : Int)) wb hI.sv (by simp only; omega) (by simp only; omega) (by simp only; omega))
        obtain ⟨s', hD'⟩ := dem_beg (wk := wb) H.out hlen hD
        have w5 : IntKind.i64.wrap (now + (k : Int)) = now + (k : Int) := by rw [IntKind.wrap_i64]; omega
        obtain ⟨c', hc'⟩ : ∃ c', begC ⟨K, Q, T, now⟩ c (now + (k : Int)) wb = c' := ⟨_, rfl⟩
        rw [hc'] at hD' BG
        have hb' := hD'.b0
        clear hc' hD hbd
        have m3 : ((if wb = true then 1 else 0 : Int) == 1) = wb := by cases wb <;> rfl
        rw [← m1] at m3
        clear m1
        obtain ⟨rd, hrd⟩ : ∃ rd, (wb && decide (0 < c'.b)) = rd := ⟨_, rfl⟩
        rw [hrd] at BG
        have hgl := hI.hg
        go_wp2_with fail
        refine BG.out.mono ?_
        rintro en u1 ⟨rfl, h1, f1⟩
        have F1 := hI.fr.trans f1 (fun _ _ e => e)
        have blk1 := hI.blk.keep f1 (by omega)
        have o11 := hI.o1.away f1 (fun a ha => by have := hI.o1.base_le a.block (by rw [ha]; rfl); omega)
        have o21 := hI.o2.away f1 (fun a ha => by have := hI.o2.base_le a.block (by rw [ha]; rfl); omega)
        clear b0 b1 b2 b3 b4 f1 BG hcx hlx
        obtain ⟨b0, b1, b2, b3, b4⟩ := blk1.five
        go_wp2_with (at_builtin; refine held ?_)
        refine Held.go (wp_app (m := 1) (news := bls [wb]) eltB (o11.alloc _) (Rd.new _ _ _ _) (bls_one _) (by omega) (.inr ⟨by omega, by omega⟩) (by have := F1.size; simp; omega) _ _ rfl rfl rfl rfl ?_)
        intro A3 c3 w2 own3 g3 hA3 _
        have G3 : Fr u1 w2 (fun b => A1.map (·.block) = some b) := (Fr.of_ext ((Ext.refl u1).alloc _) _).trans (Fr.grows g3) (fun _ _ e => e)
        have hb1 : ∀ b, A1.map (·.block) = some b → w.heap.size + 1 ≤ b := fun b hb => o11.base_le b hb
        have F2 := F1.trans G3 (fun i hi hm => by have := hb1 i hm; omega)
        have sv2 := h1.keep G3 (fun hm => by have := hb1 g hm; omega)
        have blk2 := blk1.keep G3 (fun hm => by have := hb1 _ hm; omega)
        have o22 := o21.away G3 (fun a ha hm => by
          obtain ⟨b, hb, hbb⟩ := Option.map_eq_some_iff.1 hm
          exact hI.ne b a hb ha hbb)
        have ne3 : ∀ a b, A3 = some a → A2 = some b → a.block ≠ b.block := fun a b ha hb => by
          rcases hA3 with e | e
          · exact hI.ne a b (e.symm.trans ha) hb
          · rw [e] at ha
            injection ha with ha
            subst ha
            have h1 := o21.lt_of hb
            simp
            omega
        clear G3 g3 hA3 b0 b1 b2 b3 b4
        obtain ⟨b0, b1, b2, b3, b4⟩ := blk2.five
        cases rd
        · skip
          have D3 := dem_put (c' := c') false l3 (by omega) hlen hD' rfl (by simp) (by omega)
          go_wp2_with (at_builtin; refine held ?_)
          refine Held.go (wp_app (m := 1) (news := bls [false]) eltB (o22.alloc _) (Rd.new _ _ _ _) (bls_one _) (by omega) (.inr ⟨by omega, by omega⟩) (by have := F2.size; simp; omega) _ _ rfl rfl rfl rfl ?_)
          intro A4 c4 w4 own4 g4 hA4 _
          have G4 : Fr w2 w4 (fun b => A2.map (·.block) = some b) := (Fr.of_ext ((Ext.refl w2).alloc _) _).trans (Fr.grows g4) (fun _ _ e => e)
          have hb2 : ∀ b, A2.map (·.block) = some b → w.heap.size + 1 ≤ b := fun b hb => o22.base_le b hb
          have F4 := F2.trans G4 (fun i hi hm => by have := hb2 i hm; omega)
          have sv4 := sv2.keep G4 (fun hm => by have := hb2 g hm; omega)
          have blk4 := blk2.keep G4 (fun hm => by have := hb2 _ hm; omega)
          have o14 := own3.away G4 (fun a ha hm => by
            obtain ⟨b, hb, hbb⟩ := Option.map_eq_some_iff.1 hm
            exact ne3 a b ha hb hbb.symm)
          have ne4 : ∀ a b, A3 = some a → A4 = some b → a.block ≠ b.block := fun a b ha hb => by
            rcases hA4 with e | e
            · exact ne3 a b ha (e.symm.trans hb)
            · rw [e] at hb
              injection hb with hb
              subst hb
              have h1 := own3.lt_of ha
              simp
              omega
          rw [bls_app] at o14 own4
          clear G4 g4 hA4
          go_wp2_with fail
          go_roundw
          case rel => exact ⟨k + 1, _, wb, ws ++ [wb], hs ++ [false], A3, c3, A4, c4, rfl, rfl, by go_num, by omega, by omega, ⟨sv4, F4, blk4, o14, own4, ne4, ⟨s', by rw [show ((k + 1 : Nat) : Int) - 1 = (k : Int) by omega]; exact D3⟩, by simp [hI.lh], by simp [hI.lw], hI.hg⟩⟩
          case measure => simp [intOf]; omega
        · have hp : 0 < c'.b := by cases wb <;> simp at hrd; exact hrd
          cases tb
          · simp only [Bool.false_eq_true, if_false] at m2
            have D3 := dem_put (c' := c') false l3 (by omega) hlen hD' rfl (by simp) (by omega)
            go_wp2_with (at_builtin; refine held ?_)
            refine Held.go (wp_app (m := 1) (news := bls [false]) eltB (o22.alloc _) (Rd.new _ _ _ _) (bls_one _) (by omega) (.inr ⟨by omega, by omega⟩) (by have := F2.size; simp; omega) _ _ rfl rfl rfl rfl ?_)
            intro A4 c4 w4 own4 g4 hA4 _
            have G4 : Fr w2 w4 (fun b => A2.map (·.block) = some b) := (Fr.of_ext ((Ext.refl w2).alloc _) _).trans (Fr.grows g4) (fun _ _ e => e)
            have hb2 : ∀ b, A2.map (·.block) = some b → w.heap.size + 1 ≤ b := fun b hb => o22.base_le b hb
            have F4 := F2.trans G4 (fun i hi hm => by have := hb2 i hm; omega)
            have sv4 := sv2.keep G4 (fun hm => by have := hb2 g hm; omega)
            have blk4 := blk2.keep G4 (fun hm => by have := hb2 _ hm; omega)
            have o14 := own3.away G4 (fun a ha hm => by
              obtain ⟨b, hb, hbb⟩ := Option.map_eq_some_iff.1 hm
              exact ne3 a b ha hb hbb.symm)
            have ne4 : ∀ a b, A3 = some a → A4 = some b → a.block ≠ b.block := fun a b ha hb => by
              rcases hA4 with e | e
              · exact ne3 a b ha (e.symm.trans hb)
              · rw [e] at hb
                injection hb with hb
                subst hb
                have h1 := own3.lt_of ha
                simp
                omega
            rw [bls_app] at o14 own4
            clear G4 g4 hA4
            go_wp2_with fail
            go_roundw
            case rel => exact ⟨k + 1, _, wb, ws ++ [wb], hs ++ [false], A3, c3, A4, c4, rfl, rfl, by go_num, by omega, by omega, ⟨sv4, F4, blk4, o14, own4, ne4, ⟨s', by rw [show ((k + 1 : Nat) : Int) - 1 = (k : Int) by omega]; exact D3⟩, by simp [hI.lh], by simp [hI.lw], hI.hg⟩⟩
            case measure => simp [intOf]; omega
          · simp only [if_true] at m2
            go_wp2_with fail
            refine (charge_yes w2 sv2 hrd (by omega)).mono ?_
            rintro en w3 ⟨rfl, sv3, f3⟩
            have F3 := F2.trans f3 (fun _ _ e => e)
            have o13 := own3.away f3 (fun a ha => by have := own3.base_le a.block (by rw [ha]; rfl); omega)
            have o23 := o22.away f3 (fun a ha => by have := o22.base_le a.block (by rw [ha]; rfl); omega)
            have k3 := blk2.keep f3 (by omega)
            have D3 := dem_put (c' := ⟨c'.b - 1, c'.d, c'.on⟩) true l3 (by omega) hlen hD' rfl (by simp) (by simp only; omega)
            go_wp2_with (at_builtin; refine held ?_)
            refine Held.go (wp_app (m := 1) (news := bls [true]) eltB (o23.alloc _) (Rd.new _ _ _ _) (bls_one _) (by omega) (.inr ⟨by omega, by omega⟩) (by have := F3.size; simp; omega) _ _ rfl rfl rfl rfl ?_)
            intro A4 c4 w4 own4 g4 hA4 _
            have G4 : Fr w3 w4 (fun b => A2.map (·.block) = some b) := (Fr.of_ext ((Ext.refl w3).alloc _) _).trans (Fr.grows g4) (fun _ _ e => e)
            have hb2 : ∀ b, A2.map (·.block) = some b → w.heap.size + 1 ≤ b := fun b hb => o23.base_le b hb
            have F4 := F3.trans G4 (fun i hi hm => by have := hb2 i hm; omega)
            have sv4 := sv3.keep G4 (fun hm => by have := hb2 g hm; omega)
            have blk4 := k3.keep G4 (fun hm => by have := hb2 _ hm; omega)
            have o14 := o13.away G4 (fun a ha hm => by
              obtain ⟨b, hb, hbb⟩ := Option.map_eq_some_iff.1 hm
              exact ne3 a b ha hb hbb.symm)
            have ne4 : ∀ a b, A3 = some a → A4 = some b → a.block ≠ b.block := fun a b ha hb => by
              rcases hA4 with e | e
              · exact ne3 a b ha (e.symm.trans hb)
              · rw [e] at hb
                injection hb with hb
                subst hb
                have h1 := o13.lt_of ha
                simp
                omega
            rw [bls_app] at o14 own4
            clear G4 g4 hA4
            go_wp2_with fail
            go_roundw
            case rel => exact ⟨k + 1, _, wb, ws ++ [wb], hs ++ [true], A3, c3, A4, c4, rfl, rfl, by go_num, by omega, by omega, ⟨sv4, F4, blk4, o14, own4, ne4, ⟨s', by rw [show ((k + 1 : Nat) : Int) - 1 = (k : Int) by omega]; exact D3⟩, by simp [hI.lh], by simp [hI.lw], hI.hg⟩⟩
            case measure => simp [intOf]; omega
    · go_wp2_with fail
      go_returns
      exact ⟨A1, c1, A2, c2, k, hs, rfl, hI.o2.rd, hI.dm.choose_spec.ok, hI.lh, by omega, hI.fr⟩
end Go.Proofs.YtakilnelbmbjdaaDoor
