/-
  container/heap: down over things, walked.
-/
import Derived.Test.YtocjbllkgbjihaaDoorQuUp
namespace Go.Proofs.YtocjbllkgbjihaaDoor
set_option maxRecDepth 100000
open Go.RowKit Go.Maps
set_option linter.unusedVariables false
theorem down_fuel {N : Nat} : ∀ (f1 f2 : Nat) (L : List Th) (i : Nat), N ≤ f1 + i → N ≤ f2 + i → downF f1 L i N = downF f2 L i N
  | 0, f2, L, i, h1, _ => by rw [downF_stop f2 L i N (by omega)]; rfl
  | f1 + 1, 0, L, i, _, h2 => by rw [downF_stop (f1 + 1) L i N (by omega)]; rfl
  | f1 + 1, f2 + 1, L, i, h1, h2 => by
    rw [downF_succ, downF_succ]
    split
    · rfl
    · rename_i h
      have hk := (kid_is (L := L) h).2.2.2.1
      split
      · exact down_fuel f1 f2 _ _ (by omega) (by omega)
      · rfl
theorem down_end {L : List Th} {i N : Nat} (h : N ≤ 2 * i + 1) : downF (N + 1) L i N = (L, i) := downF_stop _ _ _ _ h
theorem down_stay {L : List Th} {i N j : Nat} (h : ¬ N ≤ 2 * i + 1) (hj : kid L i N = j) (ha : ah (at_ L j) (at_ L i) = false) : downF (N + 1) L i N = (L, i) := by
  rw [downF_succ, if_neg h, hj, if_neg (by rw [ha]; decide)]
theorem down_go {L : List Th} {i N j : Nat} (h : ¬ N ≤ 2 * i + 1) (hj : kid L i N = j) (ha : ah (at_ L j) (at_ L i) = true) : downF (N + 1) L i N = downF (N + 1) (swapL L i j) j N := by
  have hk := (kid_is (L := L) h).2.2.2.1
  rw [downF_succ, if_neg h, hj, if_pos ha]
  exact down_fuel _ _ _ _ (by omega) (by omega)
theorem kid_two {L : List Th} {i N : Nat} (h1 : 2 * i + 2 < N) (h2 : ah (at_ L (2 * i + 2)) (at_ L (2 * i + 1)) = true) : kid L i N = 2 * i + 2 := by rw [kid, if_pos ⟨h1, h2⟩]
theorem kid_one {L : List Th} {i N : Nat} (h : ¬ 2 * i + 2 < N ∨ ah (at_ L (2 * i + 2)) (at_ L (2 * i + 1)) = false) : kid L i N = 2 * i + 1 := by
  rw [kid, if_neg (fun e => by
    rcases h with h | h
    · exact h e.1
    · rw [h] at e; cases e.2)]
section
variable {w w' : World} {g b n c Z : Nat} {A : Option Addr} {L : List Th} {ty : TypeId}
set_option maxHeartbeats 6400000 in
theorem down_any (h : TS w g b A n c L Z ty) {i0 N : Nat} (hi : i0 ≤ n) (hN : N ≤ n) (hn : n ≤ 1000000000000) (hZ : Z + 2 * n < 4611686018427387903) {d : Bool} (hd : Hid (d = decide (i0 < (downF (N + 1) L i0 N).2))) :
    Calls Tryd.prog 47 #[.iface 68 (.pointer (some ⟨g, 0, none⟩)), .int .i64 (i0 : Int), .int .i64 (N : Int)] w fun e w' => e = .returned (.bool d) ∧ TK w w' g b A n c (downF (N + 1) L i0 N).1 (Z + 2 * n) ty := by
  have HD := Lib.hid (And.intro h (And.intro hi (And.intro hN (And.intro hn hZ))))
  clear h hZ hi hN hn
  go_enter Tryd.func47, Tryd.ntmps47
  go_wp2_with fail
  go_loopw [7] (fun v7 wr => ∃ (i : Nat) (L' : List Th), v7 = .int .i64 (i : Int) ∧ Hid (i0 ≤ i ∧ i ≤ n ∧ TK w wr g b A n c L' (Z + 2 * (i - i0)) ty ∧ downF (N + 1) L' i N = downF (N + 1) L i0 N)) (fun v7 _ => n - (intOf v7).toNat)
  case atStart => exact ⟨i0, L, rfl, Nat.le_refl _, HD.out.2.1, ⟨HD.out.1.mono (by omega), Fr.refl w _⟩, rfl⟩
  case round =>
    obtain ⟨i, L', rfl, HI⟩ := hrel
    obtain ⟨j1, hj1⟩ : ∃ j1, 2 * i + 1 = j1 := ⟨_, rfl⟩
    obtain ⟨j2, hj2⟩ : ∃ j2, j1 + 1 = j2 := ⟨_, rfl⟩
    have b1 : i ≤ 1000000000000 := by have h1 := HD.out; have h2 := HI.out.2.1; omega
    have HJ := Lib.hid (And.intro hj1 hj2)
    clear hj1 hj2
    by_cases hs : N ≤ j1
    · have k1 : (N : Int) ≤ 2 * (i : Int) + 1 := by have := HJ.out; omega
      have h2 := HI.out
      rw [down_end (by have := HJ.out; omega)] at h2
      obtain ⟨h3, h4, h5, h6⟩ := h2
      have e2 : (downF (N + 1) L i0 N).2 = i := by rw [← h6]
      have e1 : (downF (N + 1) L i0 N).1 = L' := by rw [← h6]
      have hdd := hd.out
      rw [e2] at hdd
      have HE := Lib.hid (show TK w wr g b A n c (downF (N + 1) L i0 N).1 (Z + 2 * n) ty from by rw [e1]; exact ⟨h5.ts.mono (by omega), h5.fr⟩)
      have e3 : decide (i0 < i) = d := hdd.symm
      clear h3 h4 h5 h6 e2 e1 hdd
      go_wp2_with fail
      go_returns
      exact ⟨rfl, HE.out⟩
    · have k1 : 2 * (i : Int) + 1 < (N : Int) := by have := HJ.out; omega
      have e1 : ((j1 : Nat) : Int) = 2 * (i : Int) + 1 := by have := HJ.out; omega
      have e2 : ((j2 : Nat) : Int) = 2 * (i : Int) + 1 + 1 := by have := HJ.out; omega
      have HE1 := Lib.hid e1
      have HE2 := Lib.hid e2
      clear e1 e2
      have hs' : ¬ N ≤ 2 * i + 1 := by have := HJ.out; omega
      have HS := Lib.hid hs'
      clear hs hs'
      by_cases h2 : j2 < N
      · have k3 : 2 * (i : Int) + 1 + 1 < (N : Int) := by have := HJ.out; omega
        have C1 := Lib.hid (tless_any HI.out.2.2.1.ts (i := j2) (j := j1) (by have := HD.out; omega) (by have := HD.out; have := HJ.out; omega))
        have HJ2 := Lib.hid h2
        clear h2
        rw [HE1.out, HE2.out] at C1
        cases hb : ah (at_ L' j2) (at_ L' j1) with
        | true =>
          rw [hb] at C1
          have HB := Lib.hid hb
          have h2 := HJ2.out
          clear hb
          have hk : kid L' i N = j2 := by rw [kid_two (by have := HJ.out; omega) (by have := HJ.out; rw [show 2 * i + 2 = j2 by omega, show 2 * i + 1 = j1 by omega]; exact HB.out)]; have := HJ.out; omega
          have HK := Lib.hid hk
          clear hk
          have hin : i < n := by have := HJ.out; have := HD.out; omega
          have hjn : j2 < n := by have := HJ.out; have := HD.out; omega
          have C2 := Lib.hid (fun (W : World) (hx : Ext wr W) => tless_any (HI.out.2.2.1.ts.ex hx) hjn hin)
          have C3 := Lib.hid (fun (W : World) (hx : Ext wr W) => tswap_any (HI.out.2.2.1.ts.ex hx) hin hjn (by have := HD.out; have := HI.out.2.1; omega))
          rw [HE2.out] at C2 C3
          have HN := Lib.hid (And.intro hin hjn)
          clear hin hjn
          cases ha : ah (at_ L' j2) (at_ L' i) with
          | false =>
            rw [ha] at C2
            have h2 := HI.out
            rw [down_stay HS.out HK.out ha] at h2
            obtain ⟨h3, h4, h5, h6⟩ := h2
            have e2 : (downF (N + 1) L i0 N).2 = i := by rw [← h6]
            have e1 : (downF (N + 1) L i0 N).1 = L' := by rw [← h6]
            have hdd := hd.out
            rw [e2] at hdd
            have HE := Lib.hid (fun (W : World) (hx : Ext wr W) => show TK w W g b A n c (downF (N + 1) L i0 N).1 (Z + 2 * n) ty from by rw [e1]; exact ⟨(h5.ts.mono (by omega)).ex hx, (h5.grow hx).fr⟩)
            have e3 : decide (i0 < i) = d := hdd.symm
            clear h3 h4 h5 h6 e2 e1 hdd ha
            go_wp2_with (go_at_call 84; first | (with_reducible refine C1.out.mono ?_; rintro e w2 ⟨rfl, x2⟩) | (with_reducible refine (C2.out _ x2).mono ?_; rintro e w3 ⟨rfl, x3⟩))
            go_returns
            exact ⟨rfl, HE.out _ (x2.trans x3)⟩
          | true =>
            rw [ha] at C2
            have HA := Lib.hid ha
            clear ha
            go_wp2_with (first | (go_at_call 84; first | (with_reducible refine C1.out.mono ?_; rintro e w2 ⟨rfl, x2⟩) | (with_reducible refine (C2.out _ x2).mono ?_; rintro e w3 ⟨rfl, x3⟩)) | (go_at_call 86; refine (C3.out _ (x2.trans x3)).mono ?_; rintro e w4 ⟨rfl, k4⟩))
            go_roundw
            case rel =>
              have h2 := HI.out
              rw [down_go HS.out HK.out HA.out] at h2
              exact ⟨j2, _, by rw [HE2.out], by have := HJ.out; omega, by have := HN.out; omega, ⟨k4.ts.mono (by have := HJ.out; omega), ((h2.2.2.1.grow (x2.trans x3)).trans k4).fr⟩, h2.2.2.2⟩
            case measure => have := HN.out; have := HJ.out; simp [intOf]; omega
        | false =>
          rw [hb] at C1
          have HB := Lib.hid hb
          clear hb
          have h2 := HJ2.out
          have hk : kid L' i N = j1 := by rw [kid_one (.inr (by have := HJ.out; rw [show 2 * i + 2 = j2 by omega, show 2 * i + 1 = j1 by omega]; exact HB.out))]; have := HJ.out; omega
          have HK := Lib.hid hk
          clear hk
          have hin : i < n := by have := HJ.out; have := HD.out; omega
          have hjn : j1 < n := by have := HJ.out; have := HD.out; omega
          have C2 := Lib.hid (fun (W : World) (hx : Ext wr W) => tless_any (HI.out.2.2.1.ts.ex hx) hjn hin)
          have C3 := Lib.hid (fun (W : World) (hx : Ext wr W) => tswap_any (HI.out.2.2.1.ts.ex hx) hin hjn (by have := HD.out; have := HI.out.2.1; omega))
          rw [HE1.out] at C2 C3
          have HN := Lib.hid (And.intro hin hjn)
          clear hin hjn
          cases ha : ah (at_ L' j1) (at_ L' i) with
          | false =>
            rw [ha] at C2
            have h2 := HI.out
            rw [down_stay HS.out HK.out ha] at h2
            obtain ⟨h3, h4, h5, h6⟩ := h2
            have e2 : (downF (N + 1) L i0 N).2 = i := by rw [← h6]
            have e1 : (downF (N + 1) L i0 N).1 = L' := by rw [← h6]
            have hdd := hd.out
            rw [e2] at hdd
            have HE := Lib.hid (fun (W : World) (hx : Ext wr W) => show TK w W g b A n c (downF (N + 1) L i0 N).1 (Z + 2 * n) ty from by rw [e1]; exact ⟨(h5.ts.mono (by omega)).ex hx, (h5.grow hx).fr⟩)
            have e3 : decide (i0 < i) = d := hdd.symm
            clear h3 h4 h5 h6 e2 e1 hdd ha
            go_wp2_with (go_at_call 84; first | (with_reducible refine C1.out.mono ?_; rintro e w2 ⟨rfl, x2⟩) | (with_reducible refine (C2.out _ x2).mono ?_; rintro e w3 ⟨rfl, x3⟩))
            go_returns
            exact ⟨rfl, HE.out _ (x2.trans x3)⟩
          | true =>
            rw [ha] at C2
            have HA := Lib.hid ha
            clear ha
            go_wp2_with (first | (go_at_call 84; first | (with_reducible refine C1.out.mono ?_; rintro e w2 ⟨rfl, x2⟩) | (with_reducible refine (C2.out _ x2).mono ?_; rintro e w3 ⟨rfl, x3⟩)) | (go_at_call 86; refine (C3.out _ (x2.trans x3)).mono ?_; rintro e w4 ⟨rfl, k4⟩))
            go_roundw
            case rel =>
              have h2 := HI.out
              rw [down_go HS.out HK.out HA.out] at h2
              exact ⟨j1, _, by rw [HE1.out], by have := HJ.out; omega, by have := HN.out; omega, ⟨k4.ts.mono (by have := HJ.out; omega), ((h2.2.2.1.grow (x2.trans x3)).trans k4).fr⟩, h2.2.2.2⟩
            case measure => have := HN.out; have := HJ.out; simp [intOf]; omega
      · have k3 : ¬ 2 * (i : Int) + 1 + 1 < (N : Int) := by have := HJ.out; omega
        have hk : kid L' i N = j1 := by rw [kid_one (.inl (by have := HJ.out; omega))]; have := HJ.out; omega
        have HK := Lib.hid hk
        clear hk
        have hin : i < n := by have := HJ.out; have := HD.out; omega
        have hjn : j1 < n := by have := HJ.out; have := HD.out; omega
        have C2 := Lib.hid (fun (W : World) (hx : Ext wr W) => tless_any (HI.out.2.2.1.ts.ex hx) hjn hin)
        have C3 := Lib.hid (fun (W : World) (hx : Ext wr W) => tswap_any (HI.out.2.2.1.ts.ex hx) hin hjn (by have := HD.out; have := HI.out.2.1; omega))
        rw [HE1.out] at C2 C3
        have HN := Lib.hid (And.intro hin hjn)
        clear hin hjn
        cases ha : ah (at_ L' j1) (at_ L' i) with
        | false =>
          rw [ha] at C2
          have h2 := HI.out
          rw [down_stay HS.out HK.out ha] at h2
          obtain ⟨h3, h4, h5, h6⟩ := h2
          have e2 : (downF (N + 1) L i0 N).2 = i := by rw [← h6]
          have e1 : (downF (N + 1) L i0 N).1 = L' := by rw [← h6]
          have hdd := hd.out
          rw [e2] at hdd
          have HE := Lib.hid (fun (W : World) (hx : Ext wr W) => show TK w W g b A n c (downF (N + 1) L i0 N).1 (Z + 2 * n) ty from by rw [e1]; exact ⟨(h5.ts.mono (by omega)).ex hx, (h5.grow hx).fr⟩)
          have e3 : decide (i0 < i) = d := hdd.symm
          clear h3 h4 h5 h6 e2 e1 hdd ha
          go_wp2_with (go_at_call 84; refine (C2.out _ (Ext.refl wr)).mono ?_; rintro e w3 ⟨rfl, x3⟩)
          go_returns
          exact ⟨rfl, HE.out _ x3⟩
        | true =>
          rw [ha] at C2
          have HA := Lib.hid ha
          clear ha
          go_wp2_with (first | (go_at_call 84; refine (C2.out _ (Ext.refl wr)).mono ?_; rintro e w3 ⟨rfl, x3⟩) | (go_at_call 86; refine (C3.out _ x3).mono ?_; rintro e w4 ⟨rfl, k4⟩))
          go_roundw
          case rel =>
            have h2 := HI.out
            rw [down_go HS.out HK.out HA.out] at h2
            exact ⟨j1, _, by rw [HE1.out], by have := HJ.out; omega, by have := HN.out; omega, ⟨k4.ts.mono (by have := HJ.out; omega), ((h2.2.2.1.grow x3).trans k4).fr⟩, h2.2.2.2⟩
          case measure => have := HN.out; have := HJ.out; simp [intOf]; omega
end
end Go.Proofs.YtocjbllkgbjihaaDoor
