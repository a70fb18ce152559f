/-
  almonernum.Ints: a copy with four marked places behind it; almonernum.KeptInts: they stand as they stood.
-/
import Derived.Test.YtocjbllkgbjihaaDoorQuMerges
namespace Go.Proofs.YtocjbllkgbjihaaDoor
set_option maxRecDepth 100000
open Go.RowKit
theorem ints_app (l m : List Int) : ints (l ++ m) = ints l ++ ints m := by simp [ints]
theorem ints_oneL (l : List Int) : ∀ u ∈ ints l, u.oneCell' = true := by
  intro u hu; simp [ints] at hu; obtain ⟨n, _, rfl⟩ := hu; rfl
def marks4 : List Int := [-91, -92, -93, -94]

set_option maxHeartbeats 800000 in
theorem ints_any (A : Option Addr) (n c : Nat) (l : List Int) (w : World) (hn : n ≤ 1000000000000) (hr : Rd w 1 A n (ints l)) :
    Calls Tryd.prog 16 #[.slice A n c] w fun e w' => e = .returned (.slice (some ⟨w.heap.size, 0, none⟩) n (n + 4)) ∧ Rd w' 1 (some ⟨w.heap.size, 0, none⟩) (n + 4) (ints (l ++ marks4)) ∧ Ext w w' := by
  go_enter Tryd.func16, Tryd.ntmps16
  go_wp2_with fail
  obtain ⟨w1, hrun, hown, hx, hsz⟩ := run_mk (w := w) eltI w.heap.size .i64 .i64 ((n : Int) + 4) (by omega) (by omega) (by omega) (Nat.le_refl _)
  refine upon_ok hrun ?_
  clear hrun
  rw [show ((n : Int) + 4).toNat = n + 4 by omega] at hown ⊢
  go_wp2_with (at_builtin; refine held ?_)
  refine Held.go (wp_app eltI hown (hr.ext hx) (ints_oneL l) (by omega) (.inl (by omega)) (by omega) _ _ rfl rfl rfl rfl ?_)
  intro A2 c2 w2 hown2 hg2 _ hfit
  simp only [Nat.zero_add, List.nil_append] at hown2 hfit
  obtain ⟨rfl, rfl⟩ := hfit (by omega)
  clear hfit
  go_wp2_with (at_builtin; refine held ?_)
  have hs2 : w.heap.size + 1 ≤ w2.heap.size := by have := hg2.size; omega
  refine Held.go (wp_app (m := 4) (news := ints marks4) eltI (hown2.alloc _) (Rd.new _ _ _ _) (ints_oneL marks4) (by omega) (.inl (by omega)) (by simp; omega) _ _ rfl rfl rfl rfl ?_)
  intro A3 c3 w3 hown3 hg3 _ hfit
  obtain ⟨rfl, rfl⟩ := hfit (by omega)
  clear hfit
  have hx2 : Ext w w2 := hg2.ext hx (by simp)
  have hx3 : Ext w w3 := hg3.ext (hx2.alloc _) (by simp)
  clear hown2 hg2 hown hg3
  go_wp2_with fail
  go_ret
  refine ⟨by simp, ?_, hx3⟩
  have h := hown3.rd
  rw [ints_app]
  exact h
theorem Rd.unmark4 {w : World} {A : Option Addr} {n : Nat} {l : List Int} (h : Rd w 1 A (n + 4) (ints (l ++ marks4))) : Rd w 1 A n (ints l) := by
  have hl := h.len
  rw [ints_app, List.length_append, ints_len, ints_len] at hl
  have h1 := h.take_ (k := n) (by omega)
  rw [ints_app, Nat.mul_one, List.take_left' (by rw [ints_len]; simp [marks4] at hl; omega)] at h1
  exact h1

set_option maxHeartbeats 800000 in
theorem keptInts_any (g n c : Nat) (A : Option Addr) (l : List Int) (w : World) (hn : n ≤ 1000000000000) (hg : Rd w 1 (some ⟨g, 0, none⟩) (n + 4) (ints (l ++ marks4))) (hr : Rd w 1 A n (ints l)) :
    Calls Tryd.prog 20 #[.slice (some ⟨g, 0, none⟩) n (n + 4), .slice A n c] w fun e w' => e = .returned (.bool true) ∧ Ext w w' := by
  have hg' : Rd w 1 (some ⟨g, 0, none⟩) n (ints l) := hg.unmark4
  have HG := Lib.hid (And.intro hg hr)
  have CS := Lib.hid (fun (W : World) (hx : Ext w W) => same_ints (some ⟨g, 0, none⟩) A n (n + 4) c l W (hg'.ext hx) (hr.ext hx) (by omega))
  have rs0 := fun W => run_slice_hi (P := Tryd.prog) (w := W) eltI (some ⟨g, 0, none⟩) n (n + 4) .i64 (n + 4) (by omega)
  have rs := fun W => run_slice_hi (P := Tryd.prog) (w := W) eltI (some ⟨g, 0, none⟩) (n + 4) (n + 4) .i64 n (by omega)
  have hl := hr.len
  rw [ints_len] at hl
  clear hg hg' hr
  go_enter Tryd.func20, Tryd.ntmps20
  go_wp2_with (refine (CS.out _ (by first | exact Ext.refl _ | exact (Ext.refl _).drewN _ | exact (Ext.refl _).drew)).mono ?_; rintro e w1 ⟨rfl, x1⟩)
  have H1 := Lib.hid x1
  clear CS rs0 rs x1
  go_loop [6] (fun i => ∃ k : Nat, k ≤ 4 ∧ i = .int .i64 k) (fun i => 4 - (intOf i).toNat)
  case atStart => exact ⟨0, by omega, rfl⟩
  case round =>
    obtain ⟨k, hk, rfl⟩ := hrel
    by_cases hlt : k < 4
    · have hc : w1.cell? ⟨g, n + k, none⟩ = some (.int .i64 (-91 - (k : Int))) := by
        have h1 : (ints (l ++ marks4))[n + k]? = some (.int .i64 (-91 - (k : Int))) := by
          rw [ints_app, List.getElem?_append_right (by rw [ints_len]; omega), ints_len, hl, Nat.add_sub_cancel_left]
          have : k = 0 ∨ k = 1 ∨ k = 2 ∨ k = 3 := by omega
          rcases this with rfl | rfl | rfl | rfl <;> rfl
        obtain ⟨ad, e, _, h⟩ := (HG.out.1.ext H1.out).at_ (k := n + k) (by omega)
        injection e with e
        subst e
        have := h _ _ h1
        rw [← this]
        unfold Addr.add; split <;> simp_all
      go_wp2
      go_round
      case rel => exact ⟨k + 1, by omega, by go_num⟩
      case measure => simp [intOf]; omega
    · obtain rfl : k = 4 := by omega
      go_wp2
      go_ret
      exact ⟨rfl, H1.out⟩
end Go.Proofs.YtocjbllkgbjihaaDoor
