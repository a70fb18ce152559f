/-
  container/heap: Push, Pop, Remove, Fix over things, walked.
-/
import Derived.Test.YtocjbllkgbjihaaDoorQuDown
namespace Go.Proofs.YtocjbllkgbjihaaDoor
set_option maxRecDepth 100000
open Go.RowKit Go.Maps
set_option linter.unusedVariables false
/-- What Pop leaves, and its fuel. -/
def popL (L : List Th) (n : Nat) : List Th := (downF (n + 1) (swapL L 0 n) 0 n).1.take n
theorem popL_spec {L : List Th} {n : Nat} (hn : L.length = n + 1) (h : HeapN L L.length) :
    at_ (downF (n + 1) (swapL L 0 n) 0 n).1 n = at_ L 0 ∧ (downF (n + 1) (swapL L 0 n) 0 n).1.length = n + 1 ∧ (at_ L 0 :: popL L n).Perm L ∧ HeapN (popL L n) n ∧ (popL L n).length = n := by
  have e := down_fuel (N := n) (n + 1) (L.length + 1) (swapL L 0 n) 0 (by omega) (by omega)
  have h1 := pop_spec hn h
  rw [← e] at h1
  exact ⟨h1.1, h1.2.1, h1.2.2.1, h1.2.2.2, by unfold popL; rw [List.length_take, h1.2.1]; omega⟩
/-- What Remove leaves ahead of its Pop. -/
def remL (L : List Th) (n i : Nat) : List Th :=
  if n = i then L else if i < (downF (n + 1) (swapL L i n) i n).2 then (downF (n + 1) (swapL L i n) i n).1 else upF (i + 1) (downF (n + 1) (swapL L i n) i n).1 i
theorem remL_eq {L : List Th} {n i : Nat} (hn : L.length = n + 1) (hi : i ≤ n) : remL L n i = remF L i := by
  unfold remL remF
  rw [show L.length - 1 = n by omega]
  split
  · rfl
  · rename_i hne
    rw [down_fuel (N := n) (n + 1) (L.length + 1) (swapL L i n) i (by omega) (by omega)]
    have hg := downF_ge (n := n) (L.length + 1) (swapL L i n) i
    split
    · rename_i h1; rw [if_neg (by omega)]
    · rename_i h1; rw [if_pos (by omega)]; exact up_fuel _ _ _ _ (by omega) (by omega)
def fixL (L : List Th) (n i : Nat) : List Th := if i < (downF (n + 1) L i n).2 then (downF (n + 1) L i n).1 else upF (i + 1) (downF (n + 1) L i n).1 i
theorem fixL_eq {L : List Th} {n i : Nat} (hn : L.length = n) (hi : i < n) : fixL L n i = fixF L i := by
  unfold fixL fixF
  rw [hn]
  have hg := downF_ge (n := n) (n + 1) L i
  split
  · rename_i h1; rw [if_neg (by omega)]
  · rename_i h1; rw [if_pos (by omega)]; exact up_fuel _ _ _ _ (by omega) (by omega)
theorem pushL_eq {L : List Th} {n : Nat} (hn : L.length = n) (x : Th) : upF (n + 1) (L ++ [x]) n = upF (L.length + 1) (L ++ [x]) L.length := by rw [hn]
section
variable {w w' : World} {g b n c Z : Nat} {A : Option Addr} {L : List Th} {ty : TypeId}
abbrev things (g : Nat) : Value := .iface 68 (.pointer (some ⟨g, 0, none⟩))
abbrev thI (x : Th) : Value := .iface 34 (.agg #[.int .i64 x.id, .int .i64 x.rank])
theorem TN.mono (h : TN w w' g b A L Z ty) {Z' : Nat} (hz : Z ≤ Z') : TN w w' g b A L Z' ty := by
  obtain ⟨⟨A', n', c', h1, h2⟩, hf⟩ := h
  exact ⟨⟨A', n', c', h1.mono hz, h2⟩, hf⟩
set_option maxHeartbeats 1600000 in
theorem hpush_any (h : TS w g b A n c L Z ty) (x : Th) (hx : i64 x.id) (hnew : ∀ y ∈ L, y.id ≠ x.id) (hn : n ≤ 100000000000) (hZ : Z + 2 * n < 4611686018427387900) :
    Calls Tryd.prog 26 #[.iface 68 (.pointer (some ⟨g, 0, none⟩)), .iface 34 (.agg #[.int .i64 x.id, .int .i64 x.rank])] w fun e w' => e = .returned (.tuple #[]) ∧ TN w w' g b A (upF (n + 1) (L ++ [x]) n) (Z + 1 + 2 * n) ty := by
  have hl := h.len
  have C1 := Lib.hid (tpush_any h x hx hnew (by omega) (by omega))
  clear h hx hnew
  go_enter Tryd.func26, Tryd.ntmps26
  go_wp2_with (go_at_call 31; refine C1.out.mono ?_; rintro e w1 ⟨rfl, ⟨A', n', c', h1, hA'⟩, f1⟩)
  obtain rfl : n' = n + 1 := by have := h1.len; rw [List.length_append, hl] at this; exact this.symm
  have C2 := Lib.hid (tlen_any h1)
  have C3 := Lib.hid (up_any h1 (j := n) (by omega) (by omega))
  have H1 := Lib.hid (And.intro h1 (And.intro hA' f1))
  clear C1 h1 hA' f1
  go_wp2_with (first | (go_at_call 30; refine C2.out.mono ?_; rintro e w2 ⟨rfl, rfl⟩) | (go_at_call 46; refine C3.out.mono ?_; rintro e w3 ⟨rfl, k3⟩))
  go_returns
  refine ⟨rfl, ⟨A', n + 1, c', k3.ts, H1.out.2.1⟩, H1.out.2.2.trans k3.fr (fun q hq e => ?_)⟩
  rcases e with e | e
  · exact .inr (.inl e)
  · obtain ⟨a, ha, hab⟩ := Option.map_eq_some_iff.1 e
    rcases H1.out.2.1 a ha with e2 | e2
    · exact .inr (.inr (by rw [e2, hab]))
    · omega
set_option maxHeartbeats 1600000 in
theorem hpop_any (h : TS w g b A (n + 1) c L Z ty) (hH : HeapN L L.length) (hn : n ≤ 100000000000) (hZ : Z + 2 * n < 4611686018427387890) :
    Calls Tryd.prog 29 #[.iface 68 (.pointer (some ⟨g, 0, none⟩))] w fun e w' => e = .returned (.iface 34 (.agg #[.int .i64 (at_ L 0).id, .int .i64 (at_ L 0).rank])) ∧ TS w' g b A n c (popL L n) (Z + 4 + 2 * n) ty ∧ Fr w w' (fun k => k = g ∨ k = b ∨ A.map (·.block) = some k) := by
  have hl := h.len
  have hsp := Lib.hid (popL_spec hl hH)
  have C1 := Lib.hid (tlen_any h)
  have C2 := Lib.hid (tswap_any h (i := 0) (j := n) (by omega) (by omega) (by omega))
  clear h hH
  go_enter Tryd.func29, Tryd.ntmps29
  go_wp2_with (first | (go_at_call 30; refine C1.out.mono ?_; rintro e w0 ⟨rfl, rfl⟩) | (go_at_call 86; refine C2.out.mono ?_; rintro e w1 ⟨rfl, k1⟩))
  obtain ⟨d, hd⟩ : ∃ d, d = decide (0 < (downF (n + 1) (swapL L 0 n) 0 n).2) := ⟨_, rfl⟩
  have C3 := Lib.hid (down_any k1.ts (i0 := 0) (N := n) (by omega) (by omega) (by omega) (by omega) (Lib.hid hd))
  have K1 := Lib.hid k1
  clear C1 C2 k1 hd
  go_wp2_with (go_at_call 47; refine C3.out.mono ?_; rintro e w2 ⟨rfl, k2⟩)
  have C4 := Lib.hid (tpop_any k2.ts (x := at_ L 0) (by rw [← hsp.out.1]; exact at_some (by rw [hsp.out.2.1]; omega)))
  have K2 := Lib.hid k2
  clear C3 k2
  go_wp2_with (go_at_call 85; refine C4.out.mono ?_; rintro e w3 ⟨rfl, t3, f3⟩)
  go_returns
  refine ⟨rfl, t3.mono (by omega), (((K1.out.trans K2.out).fr.mono (Q := fun k => k = g ∨ k = b ∨ A.map (·.block) = some k) (fun q _ e => .inr e)).trans f3 (fun q _ e => ?_))⟩
  rcases e with e | e
  · exact .inl e
  · exact .inr (.inl e)
set_option maxHeartbeats 1600000 in
theorem hrem_any (h : TS w g b A (n + 1) c L Z ty) (hH : HeapN L L.length) {i : Nat} (hi : i ≤ n) (hn : n ≤ 100000000000) (hZ : Z + 4 * n < 4611686018427387880) :
    Calls Tryd.prog 27 #[.iface 68 (.pointer (some ⟨g, 0, none⟩)), .int .i64 (i : Int)] w fun e w' => (∃ v, e = .returned v) ∧ TS w' g b A n c ((remL L n i).take n) (Z + 8 + 4 * n) ty ∧ Fr w w' (fun k => k = g ∨ k = b ∨ A.map (·.block) = some k) := by
  have hl := h.len
  have hsp := Lib.hid (rem_spec hl (show i < L.length by omega) hH)
  rw [← remL_eq hl hi] at hsp
  have C1 := Lib.hid (tlen_any h)
  have fin : ∀ (w1 : World) (k1 : TK w w1 g b A (n + 1) c (remL L n i) (Z + 8 + 4 * n) ty) (w3 : World), TS w3 g b A n c ((remL L n i).take n) (Z + 8 + 4 * n) ty → Fr w1 w3 (fun k => k = g ∨ k = b) → TS w3 g b A n c ((remL L n i).take n) (Z + 8 + 4 * n) ty ∧ Fr w w3 (fun k => k = g ∨ k = b ∨ A.map (·.block) = some k) := fun w1 k1 w3 t3 f3 => ⟨t3, (k1.fr.mono (Q := fun k => k = g ∨ k = b ∨ A.map (·.block) = some k) (fun q _ e => .inr e)).trans f3 (fun q _ e => by
      rcases e with e | e
      · exact .inl e
      · exact .inr (.inl e))⟩
  have FIN := Lib.hid fin
  clear fin
  by_cases hin : n = i
  · subst hin
    have e1 : remL L n n = L := by rw [remL, if_pos rfl]
    have k0 : TK w w g b A (n + 1) c (remL L n n) (Z + 8 + 4 * n) ty := by rw [e1]; exact TK.refl (h.mono (by omega))
    have C4 := Lib.hid (tpop_any k0.ts (x := at_ L n) (by rw [e1]; exact at_some (by omega)))
    have K0 := Lib.hid k0
    clear h k0 e1
    go_enter Tryd.func27, Tryd.ntmps27
    go_wp2_with (first | (go_at_call 30; refine C1.out.mono ?_; rintro e w0 ⟨rfl, rfl⟩) | (go_at_call 85; refine C4.out.mono ?_; rintro e w3 ⟨rfl, t3, f3⟩))
    go_returns
    exact ⟨⟨_, rfl⟩, FIN.out _ K0.out _ t3 f3⟩
  · have hne : ((n : Int) == (i : Int)) = false := by simp; omega
    have C2 := Lib.hid (tswap_any h (i := i) (j := n) (by omega) (by omega) (by omega))
    have hne2 : ¬ (n : Int) = (i : Int) := by omega
    clear h
    have HI := Lib.hid hin
    go_enter Tryd.func27, Tryd.ntmps27
    go_wp2_with (first | (go_at_call 30; refine C1.out.mono ?_; rintro e w0 ⟨rfl, rfl⟩) | (go_at_call 86; refine C2.out.mono ?_; rintro e w1 ⟨rfl, k1⟩))
    obtain ⟨d, hd⟩ : ∃ d, d = decide (i < (downF (n + 1) (swapL L i n) i n).2) := ⟨_, rfl⟩
    have C3 := Lib.hid (down_any k1.ts (i0 := i) (N := n) (by omega) (by omega) (by omega) (by omega) (Lib.hid hd))
    have K1 := Lib.hid k1
    have HD := Lib.hid hd
    clear C1 C2 k1 hd hin hne hne2
    cases d with
    | true =>
      have e1 : remL L n i = (downF (n + 1) (swapL L i n) i n).1 := by rw [remL, if_neg HI.out, if_pos (by simpa using HD.out.symm)]
      have E1 := Lib.hid e1
      clear e1
      go_wp2_with (go_at_call 47; refine C3.out.mono ?_; rintro e w2 ⟨rfl, k2⟩)
      rw [← E1.out] at k2
      have k3 := K1.out.trans k2
      have k4 : TK w w2 g b A (n + 1) c (remL L n i) (Z + 8 + 4 * n) ty := ⟨k3.ts.mono (by omega), k3.fr⟩
      have C4 := Lib.hid (tpop_any k4.ts (x := at_ L i) (by rw [← hsp.out.2.1]; exact at_some (by rw [hsp.out.1]; omega)))
      have K4 := Lib.hid k4
      clear C3 k2 k3 k4
      go_wp2_with (go_at_call 85; refine C4.out.mono ?_; rintro e w3 ⟨rfl, t3, f3⟩)
      go_returns
      exact ⟨⟨_, rfl⟩, FIN.out _ K4.out _ t3 f3⟩
    | false =>
      have e1 : remL L n i = upF (i + 1) (downF (n + 1) (swapL L i n) i n).1 i := by rw [remL, if_neg HI.out, if_neg (by simpa using HD.out.symm)]
      have E1 := Lib.hid e1
      clear e1
      go_wp2_with (go_at_call 47; refine C3.out.mono ?_; rintro e w2 ⟨rfl, k2⟩)
      have C5 := Lib.hid (up_any k2.ts (j := i) (by omega) (by omega))
      rw [← E1.out] at C5
      have K2 := Lib.hid k2
      clear C3 k2
      go_wp2_with (go_at_call 46; refine C5.out.mono ?_; rintro e w3 ⟨rfl, k5⟩)
      have k3 := (K1.out.trans K2.out).trans k5
      have k4 : TK w w3 g b A (n + 1) c (remL L n i) (Z + 8 + 4 * n) ty := ⟨k3.ts.mono (by omega), k3.fr⟩
      have C4 := Lib.hid (tpop_any k4.ts (x := at_ L i) (by rw [← hsp.out.2.1]; exact at_some (by rw [hsp.out.1]; omega)))
      have K4 := Lib.hid k4
      clear C5 k5 k3 k4 K2
      go_wp2_with (go_at_call 85; refine C4.out.mono ?_; rintro e w4 ⟨rfl, t3, f3⟩)
      go_returns
      exact ⟨⟨_, rfl⟩, FIN.out _ K4.out _ t3 f3⟩
set_option maxHeartbeats 1600000 in
theorem hfix_any (h : TS w g b A n c L Z ty) {i : Nat} (hi : i < n) (hn : n ≤ 100000000000) (hZ : Z + 4 * n < 4611686018427387880) :
    Calls Tryd.prog 28 #[.iface 68 (.pointer (some ⟨g, 0, none⟩)), .int .i64 (i : Int)] w fun e w' => e = .returned (.tuple #[]) ∧ TK w w' g b A n c (fixL L n i) (Z + 4 * n) ty := by
  have C1 := Lib.hid (tlen_any h)
  obtain ⟨d, hd⟩ : ∃ d, d = decide (i < (downF (n + 1) L i n).2) := ⟨_, rfl⟩
  have C3 := Lib.hid (down_any h (i0 := i) (N := n) (by omega) (by omega) (by omega) (by omega) (Lib.hid hd))
  have HD := Lib.hid hd
  clear h hd
  cases d with
  | true =>
    have e1 : fixL L n i = (downF (n + 1) L i n).1 := by rw [fixL, if_pos (by simpa using HD.out.symm)]
    have E1 := Lib.hid e1
    clear e1
    go_enter Tryd.func28, Tryd.ntmps28
    go_wp2_with (first | (go_at_call 30; refine C1.out.mono ?_; rintro e w0 ⟨rfl, rfl⟩) | (go_at_call 47; refine C3.out.mono ?_; rintro e w2 ⟨rfl, k2⟩))
    go_returns
    rw [← E1.out] at k2
    exact ⟨rfl, k2.ts.mono (by omega), k2.fr⟩
  | false =>
    have e1 : fixL L n i = upF (i + 1) (downF (n + 1) L i n).1 i := by rw [fixL, if_neg (by simpa using HD.out.symm)]
    have E1 := Lib.hid e1
    clear e1
    go_enter Tryd.func28, Tryd.ntmps28
    go_wp2_with (first | (go_at_call 30; refine C1.out.mono ?_; rintro e w0 ⟨rfl, rfl⟩) | (go_at_call 47; refine C3.out.mono ?_; rintro e w2 ⟨rfl, k2⟩))
    have C5 := Lib.hid (up_any k2.ts (j := i) (by omega) (by omega))
    rw [← E1.out] at C5
    have K2 := Lib.hid k2
    clear C3 k2
    go_wp2_with (go_at_call 46; refine C5.out.mono ?_; rintro e w3 ⟨rfl, k5⟩)
    go_returns
    have k3 := K2.out.trans k5
    exact ⟨rfl, k3.ts.mono (by omega), k3.fr⟩
end
end Go.Proofs.YtocjbllkgbjihaaDoor
