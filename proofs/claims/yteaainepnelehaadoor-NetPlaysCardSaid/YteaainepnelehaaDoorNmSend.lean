/-
  The document's net: Send, Copy, walked.
-/
import Derived.Test.YteaainepnelehaaDoorNmPut
namespace Go.Proofs.YteaainepnelehaaDoor
set_option maxRecDepth 100000
open Go.RowKit
set_option linter.unusedVariables false
section
variable {w w' : World} {B g m c last : Nat} {A : Option Addr} {ls : List LetV}
set_option maxHeartbeats 1600000 in
theorem msend_num (h : NMS w B g A m c ls last) (F T : Int) (hFT : ¬ ((0 ≤ F ∧ F ≤ 6) ∧ 0 ≤ T ∧ T ≤ 6)) (D : Option Addr) (n d : Nat) :
    Calls Tryd.prog 12 #[.pointer (some ⟨g, 0, none⟩), .int .i64 F, .int .i64 T, .slice D n d] w fun e w' => e = .returned (.tuple #[.int .i64 0, .int .i64 1]) ∧ Ext w w' := by
  clear h
  by_cases h1 : F < 0
  · clear hFT
    go_enter Tryd.func12, Tryd.ntmps12
    go_wp2_with fail
    go_returns
    exact ⟨rfl, Ext.refl w⟩
  by_cases h2 : 6 < F
  · clear hFT
    go_enter Tryd.func12, Tryd.ntmps12
    go_wp2_with fail
    go_returns
    exact ⟨rfl, Ext.refl w⟩
  by_cases h3 : T < 0
  · clear hFT
    go_enter Tryd.func12, Tryd.ntmps12
    go_wp2_with fail
    go_returns
    exact ⟨rfl, Ext.refl w⟩
  have h4 : 6 < T := by omega
  clear hFT
  go_enter Tryd.func12, Tryd.ntmps12
  go_wp2_with fail
  go_returns
  exact ⟨rfl, Ext.refl w⟩
set_option maxHeartbeats 1600000 in
theorem msend_full (h : NMS w B g A m c ls last) (hm : m = 4096) (F T : Int) (hF : 0 ≤ F ∧ F ≤ 6) (hT : 0 ≤ T ∧ T ≤ 6) (D : Option Addr) (n d : Nat) (l : List Nat) (hr : Rd w 1 D n (u8s l)) :
    Calls Tryd.prog 12 #[.pointer (some ⟨g, 0, none⟩), .int .i64 F, .int .i64 T, .slice D n d] w fun e w' => e = .returned (.tuple #[.int .i64 0, .int .i64 7]) ∧ Ext w w' := by
  have PF := Lib.hid (mput_full h hm 0 F T (str l))
  have hst := run_str (P := Tryd.prog) (w := w) Tryd.underlying32 Tryd.underlying5 Tryd.underlying9 d hr
  obtain ⟨s, hs⟩ : ∃ s, str l = s := ⟨_, rfl⟩
  rw [hs] at PF hst
  obtain ⟨f0, f1⟩ := hF
  obtain ⟨t0, t1⟩ := hT
  clear h hr hs hm
  go_enter Tryd.func12, Tryd.ntmps12
  go_wp2_with fail
  refine PF.out.mono ?_
  rintro e w1 ⟨rfl, x1⟩
  have X1 := Lib.hid x1
  clear x1 PF hst
  go_wp2_with fail
  go_returns
  exact ⟨rfl, X1.out⟩
set_option maxHeartbeats 1600000 in
theorem msend_ok (h : NMS w B g A m c ls last) (hm : m < 4096) (hlast : last < 4611686018427387904) (F T : Int) (hF : 0 ≤ F ∧ F ≤ 6) (hT : 0 ≤ T ∧ T ≤ 6) (D : Option Addr) (n d : Nat) (l : List Nat) (hr : Rd w 1 D n (u8s l)) {x : LetV} (hN : x.N = last + 1) (hxF : x.F = F) (hxT : x.T = T) (hl : x.l = l) :
    Calls Tryd.prog 12 #[.pointer (some ⟨g, 0, none⟩), .int .i64 F, .int .i64 T, .slice D n d] w fun e w' => e = .returned (.tuple #[.int .i64 ((last : Int) + 1), .int .i64 0]) ∧ MPut w w' B g A m (ls ++ [x]) (last + 1) := by
  have PF := Lib.hid (mput_ok h hm hlast 0 F T (str l) hN hxF hxT (by rw [hl]) (Post := fun e w' => e = .returned (.tuple #[.int .i64 ((last : Int) + 1), .int .i64 0]) ∧ MPut w w' B g A m (ls ++ [x]) (last + 1)) (Lib.hid fun w' hp => ⟨rfl, hp⟩))
  have hst := run_str (P := Tryd.prog) (w := w) Tryd.underlying32 Tryd.underlying5 Tryd.underlying9 d hr
  obtain ⟨s, hs⟩ : ∃ s, str l = s := ⟨_, rfl⟩
  rw [hs] at PF hst
  obtain ⟨f0, f1⟩ := hF
  obtain ⟨t0, t1⟩ := hT
  clear h hr hs hN hxF hxT hl
  go_enter Tryd.func12, Tryd.ntmps12
  go_wp2_with fail
  refine PF.out.mono ?_
  rintro e w1 ⟨rfl, hp⟩
  have HP := Lib.hid hp
  clear hp PF hst
  go_wp2_with fail
  go_returns
  exact ⟨rfl, HP.out⟩
set_option maxHeartbeats 1600000 in
theorem mcopy_gone (h : NMS w B g A m c ls last) {y : Int} (hy : ∀ x ∈ ls, (x.N : Int) ≠ y) :
    Calls Tryd.prog 17 #[.pointer (some ⟨g, 0, none⟩), .int .i64 y] w fun e w' => e = .returned (.tuple #[.int .i64 0, .int .i64 5]) ∧ Ext w w' := by
  have FD := mfind_any h y
  rw [findV_miss hy] at FD
  have FD := Lib.hid FD
  clear h hy
  go_enter Tryd.func17, Tryd.ntmps17
  go_wp2_with fail
  refine FD.out.mono ?_
  rintro e w1 ⟨rfl, x1⟩
  have X1 := Lib.hid x1
  clear x1 FD
  go_wp2_with fail
  go_returns
  exact ⟨rfl, X1.out⟩
set_option maxHeartbeats 1600000 in
theorem mcopy_full (h : NMS w B g A m c ls last) (hr : Rising ls) (hm : m = 4096) {k : Nat} {y : Int} {z : LetV} (hk : ls[k]? = some z) (hy : (z.N : Int) = y) :
    Calls Tryd.prog 17 #[.pointer (some ⟨g, 0, none⟩), .int .i64 y] w fun e w' => e = .returned (.tuple #[.int .i64 0, .int .i64 7]) ∧ Ext w w' := by
  have FD := mfind_any h y
  rw [findV_hit hk hy hr] at FD
  have FD := Lib.hid FD
  obtain ⟨k4, hk4⟩ : ∃ k4, k * 4 = k4 := ⟨_, rfl⟩
  have HG := Lib.hid (And.intro h hk)
  have hkm : k < m := by have := h.len; have := (List.getElem?_eq_some_iff.1 hk).1; omega
  have z0 : (0 : Int) ≤ k := by omega
  have z1 : (k : Int) < m := by omega
  have HM := Lib.hid hm
  clear h hk hm hr hy
  go_enter Tryd.func17, Tryd.ntmps17
  go_wp2_with fail
  refine FD.out.mono ?_
  rintro e w1 ⟨rfl, x1⟩
  have h1 := HG.out.1.ex x1
  obtain ⟨S, eS, _, _, e0, e1, e2, e3⟩ := h1.lcell HG.out.2 hk4
  have c0 := h1.c0
  rw [eS] at c0
  have PF := Lib.hid (mput_full h1 HM.out (z.N : Int) z.F z.T (str z.l))
  have X1 := Lib.hid x1
  clear x1 FD h1 eS
  go_wp2_with fail
  refine PF.out.mono ?_
  rintro e w2 ⟨rfl, x2⟩
  have X2 := Lib.hid (X1.out.trans x2)
  clear x2 PF c0 e0 e1 e2 e3
  go_wp2_with fail
  go_returns
  exact ⟨rfl, X2.out⟩
theorem MPut.pre {w1 : World} {ls' : List LetV} {last' : Nat} (hx : Ext w w1) (h : MPut w1 w' B g A m ls' last') : MPut w w' B g A m ls' last' :=
  ⟨by
    obtain ⟨A', c', h1, h2⟩ := h.ex
    exact ⟨A', c', h1, fun a ha => (h2 a ha).imp id (fun e => Nat.le_trans hx.size e)⟩, (Fr.of_ext hx _).trans h.fr (fun _ _ e => e)⟩
set_option maxHeartbeats 1600000 in
theorem mcopy_ok (h : NMS w B g A m c ls last) (hr : Rising ls) (hm : m < 4096) (hlast : last < 4611686018427387904) {k : Nat} {y : Int} {z : LetV} (hk : ls[k]? = some z) (hy : (z.N : Int) = y) {x : LetV} (hN : x.N = last + 1) (hxF : x.F = z.F) (hxT : x.T = z.T) (hl : x.l = z.l) :
    Calls Tryd.prog 17 #[.pointer (some ⟨g, 0, none⟩), .int .i64 y] w fun e w' => e = .returned (.tuple #[.int .i64 ((last : Int) + 1), .int .i64 0]) ∧ MPut w w' B g A m (ls ++ [x]) (last + 1) := by
  have FD := mfind_any h y
  rw [findV_hit hk hy hr] at FD
  have FD := Lib.hid FD
  obtain ⟨k4, hk4⟩ : ∃ k4, k * 4 = k4 := ⟨_, rfl⟩
  have HG := Lib.hid (And.intro h hk)
  have hkm : k < m := by have := h.len; have := (List.getElem?_eq_some_iff.1 hk).1; omega
  have z0 : (0 : Int) ≤ k := by omega
  have z1 : (k : Int) < m := by omega
  have HM := Lib.hid (And.intro hN (And.intro hxF (And.intro hxT hl)))
  clear h hk hr hy hN hxF hxT hl
  go_enter Tryd.func17, Tryd.ntmps17
  go_wp2_with fail
  refine FD.out.mono ?_
  rintro e w1 ⟨rfl, x1⟩
  have h1 := HG.out.1.ex x1
  obtain ⟨S, eS, _, _, e0, e1, e2, e3⟩ := h1.lcell HG.out.2 hk4
  have c0 := h1.c0
  rw [eS] at c0
  have PF := Lib.hid (mput_ok h1 hm hlast (z.N : Int) z.F z.T (str z.l) HM.out.1 HM.out.2.1 HM.out.2.2.1 (by rw [HM.out.2.2.2]) (Post := fun e w' => e = .returned (.tuple #[.int .i64 ((last : Int) + 1), .int .i64 0]) ∧ MPut w1 w' B g A m (ls ++ [x]) (last + 1)) (Lib.hid fun w' hp => ⟨rfl, hp⟩))
  have X1 := Lib.hid x1
  clear x1 FD h1 eS
  go_wp2_with fail
  refine PF.out.mono ?_
  rintro e w2 ⟨rfl, hp⟩
  have HP := Lib.hid (hp.pre X1.out)
  clear hp PF c0 e0 e1 e2 e3
  go_wp2_with fail
  go_returns
  exact ⟨rfl, HP.out⟩
end
end Go.Proofs.YteaainepnelehaaDoor
