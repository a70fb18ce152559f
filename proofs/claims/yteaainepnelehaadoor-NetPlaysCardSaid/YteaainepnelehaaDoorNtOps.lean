/-
  Package net: New, Send, Copy, Deliver, Drop, walked.
-/
import Derived.Test.YteaainepnelehaaDoorNtDel
namespace Go.Proofs.YteaainepnelehaaDoor
set_option maxRecDepth 100000
open Go.RowKit
set_option linter.unusedVariables false
theorem nnew_any (w : World) : Calls Tryd.prog 5 #[] w fun e w' => e = .returned (.pointer (some ⟨w.heap.size, 0, none⟩)) ∧ NetS w' w.heap.size none 0 0 [] 0 ∧ Ext w w' := by
  go_enter Tryd.func5, Tryd.ntmps5
  go_wp2
  go_returns
  exact ⟨rfl, ⟨heap_alloc_new w _, Own.nil_, fun i j x y _ hx => by simp at hx, fun x hx => by simp at hx, fun x hx => by simp at hx, by omega, by omega⟩, (Ext.refl w).alloc _⟩
theorem node_yes (n : Int) (w : World) (h0 : 0 ≤ n) (h1 : n ≤ 6) : Calls Tryd.prog 23 #[.int .i64 n] w fun e w' => e = .returned (.bool true) ∧ w = w' := by
  have h2 : n < 7 := by omega
  go_enter Tryd.func23, Tryd.ntmps23
  go_wp2
  go_returns
  exact ⟨rfl, rfl⟩
theorem node_no (n : Int) (w : World) (h : n < 0 ∨ 6 < n) : Calls Tryd.prog 23 #[.int .i64 n] w fun e w' => e = .returned (.bool false) ∧ w = w' := by
  rcases h with h | h
  · have h1 : ¬ 0 ≤ n := by omega
    go_enter Tryd.func23, Tryd.ntmps23
    go_wp2
    go_returns
    exact ⟨rfl, rfl⟩
  · have h1 : 0 ≤ n := by omega
    have h2 : ¬ n < 7 := by omega
    go_enter Tryd.func23, Tryd.ntmps23
    go_wp2
    go_returns
    exact ⟨rfl, rfl⟩
section
variable {w : World} {g m c last : Nat} {A : Option Addr} {ls : List LetV}
set_option maxHeartbeats 1600000 in
theorem send_num (h : NetS w g A m c ls last) (F T : Int) (hFT : ¬ ((0 ≤ F ∧ F ≤ 6) ∧ 0 ≤ T ∧ T ≤ 6)) (B : Option Addr) (n d : Nat) {p : Addr} (hS : Sen w 1 p) :
    Calls Tryd.prog 8 #[.pointer (some ⟨g, 0, none⟩), .int .i64 F, .int .i64 T, .slice B n d] w fun e w' => e = .returned (.tuple #[.int .i64 0, errE p]) ∧ Ext w w' := by
  have c3 := hS.2.1
  by_cases hF : 0 ≤ F ∧ F ≤ 6
  · have N1 := Lib.hid (node_yes F w hF.1 hF.2)
    have N2 := Lib.hid (node_no T w (by omega))
    clear h hS hFT hF
    go_enter Tryd.func8, Tryd.ntmps8
    go_wp2_with fail
    refine N1.out.mono ?_
    rintro e w1 ⟨rfl, rfl⟩
    go_wp2_with fail
    refine N2.out.mono ?_
    rintro e w1 ⟨rfl, rfl⟩
    go_wp2_with fail
    go_quiet (fail)
    go_wp2_with fail
    go_returns
    exact ⟨rfl, (Ext.refl w).drewN _⟩
  · have N1 := Lib.hid (node_no F w (by omega))
    clear h hS hFT hF
    go_enter Tryd.func8, Tryd.ntmps8
    go_wp2_with fail
    refine N1.out.mono ?_
    rintro e w1 ⟨rfl, rfl⟩
    go_wp2_with fail
    go_quiet (fail)
    go_wp2_with fail
    go_returns
    exact ⟨rfl, (Ext.refl w).drewN _⟩
set_option maxHeartbeats 1600000 in
theorem send_full (h : NetS w g A m c ls last) (hm : m = 4096) (F T : Int) (hF : 0 ≤ F ∧ F ≤ 6) (hT : 0 ≤ T ∧ T ≤ 6) (B : Option Addr) (n d : Nat) {p : Addr} (hS : Sen w 6 p) :
    Calls Tryd.prog 8 #[.pointer (some ⟨g, 0, none⟩), .int .i64 F, .int .i64 T, .slice B n d] w fun e w' => e = .returned (.tuple #[.int .i64 0, errE p]) ∧ Ext w w' := by
  have N1 := Lib.hid (node_yes F w hF.1 hF.2)
  have N2 := Lib.hid (node_yes T w hT.1 hT.2)
  have PT := Lib.hid (put_full h hm 0 F T B n d hS)
  clear h hS hF hT hm
  go_enter Tryd.func8, Tryd.ntmps8
  go_wp2_with fail
  refine N1.out.mono ?_
  rintro e w1 ⟨rfl, rfl⟩
  clear N1
  go_wp2_with fail
  refine N2.out.mono ?_
  rintro e w1 ⟨rfl, rfl⟩
  clear N2
  go_wp2_with fail
  refine PT.out.mono ?_
  rintro e w1 ⟨rfl, x1⟩
  have X1 := Lib.hid x1
  clear x1 PT
  go_wp2_with fail
  go_returns
  exact ⟨rfl, X1.out⟩
set_option maxHeartbeats 1600000 in
theorem send_ok (h : NetS w g A m c ls last) (hm : m < 4096) (hlast : last < 4611686018427387904) (F T : Int) (hF : 0 ≤ F ∧ F ≤ 6) (hT : 0 ≤ T ∧ T ≤ 6) (B : Option Addr) (n d : Nat) (l : List Nat) (hr : Rd w 1 B n (u8s l)) (hl : ∀ y ∈ l, y < 256) (hn : n ≤ 140737488351232)
    (hB : 0 < n → ∀ b, B = some b → b.block ≠ g) :
    Calls Tryd.prog 8 #[.pointer (some ⟨g, 0, none⟩), .int .i64 F, .int .i64 T, .slice B n d] w fun e w' => e = .returned (.tuple #[.int .i64 ((last : Int) + 1), .nilIface]) ∧ PutS w w' g A m last ls F T n l := by
  have N1 := Lib.hid (node_yes F w hF.1 hF.2)
  have N2 := Lib.hid (node_yes T w hT.1 hT.2)
  have PT := Lib.hid (put_ok h hm hlast 0 F T B n d l hr hl hn hB)
  clear h hF hT hm hlast hr hl hB
  go_enter Tryd.func8, Tryd.ntmps8
  go_wp2_with fail
  refine N1.out.mono ?_
  rintro e w1 ⟨rfl, rfl⟩
  clear N1
  go_wp2_with fail
  refine N2.out.mono ?_
  rintro e w1 ⟨rfl, rfl⟩
  clear N2
  go_wp2_with fail
  refine PT.out.mono ?_
  rintro e w1 ⟨rfl, x1⟩
  have X1 := Lib.hid x1
  clear x1 PT
  go_wp2_with fail
  go_returns
  exact ⟨rfl, X1.out⟩
theorem PutS.pre {w1 w' : World} {F T : Int} {n : Nat} {l : List Nat} (hx : Ext w w1) (h : PutS w1 w' g A m last ls F T n l) : PutS w w' g A m last ls F T n l := by
  obtain ⟨⟨A', c', x, h1, h2, h3, h4, h5, h6, h7, h8, h9⟩, hf⟩ := h
  have := hx.size
  exact ⟨⟨A', c', x, h1, h2, h3, h4, h5, h6, fun a ha => (h7 a ha).imp id (fun h => by omega), fun a ha => by have := h8 a ha; omega, h9⟩, (Fr.of_ext hx _).trans hf (fun _ _ h => h)⟩
set_option maxHeartbeats 1600000 in
theorem copy_gone (h : NetS w g A m c ls last) {y : Int} (hy : ∀ x ∈ ls, (x.N : Int) ≠ y) {p : Addr} (hS : Sen w 0 p) :
    Calls Tryd.prog 9 #[.pointer (some ⟨g, 0, none⟩), .int .i64 y] w fun e w' => e = .returned (.tuple #[.int .i64 0, errE p]) ∧ Ext w w' := by
  have FD := Lib.hid (find_miss h hy hS)
  clear h hy hS
  go_enter Tryd.func9, Tryd.ntmps9
  go_wp2_with fail
  refine FD.out.mono ?_
  rintro e w1 ⟨rfl, x1⟩
  have X1 := Lib.hid x1
  clear x1 FD
  go_wp2_with fail
  go_returns
  exact ⟨rfl, X1.out⟩
theorem netcells (h : NetS w g A m c ls last) {k : Nat} {x : LetV} (hk : ls[k]? = some x) {k4 : Nat} (h4 : k * 4 = k4) : ∃ S, A = some ⟨S, 0, none⟩ ∧ S < w.heap.size ∧ S ≠ g ∧ w.cell? ⟨S, k4, none⟩ = some (.int .i64 (x.N : Int)) ∧ w.cell? ⟨S, k4 + 1, none⟩ = some (.int .i64 x.F) ∧ w.cell? ⟨S, k4 + 2, none⟩ = some (.int .i64 x.T) ∧ w.cell? ⟨S, k4 + 3, none⟩ = some (.slice x.A x.n x.c) := by
  have hkl : k < m := by have := h.len; have := (List.getElem?_eq_some_iff.1 hk).1; omega
  obtain ⟨S, hS⟩ := h.own.head (by omega)
  have ho := h.own
  rw [hS] at ho
  exact ⟨S, hS, ho.lt, h.ag _ hS, ho.rowAt (lrows_even ls) (lrows_at hk) h4 (i := 0) rfl, ho.rowAt (lrows_even ls) (lrows_at hk) h4 (i := 1) rfl, ho.rowAt (lrows_even ls) (lrows_at hk) h4 (i := 2) rfl, ho.rowAt (lrows_even ls) (lrows_at hk) h4 (i := 3) rfl⟩
set_option maxHeartbeats 1600000 in
theorem copy_full (h : NetS w g A m c ls last) (hm : m = 4096) {k : Nat} {y : Int} {x : LetV} (hk : ls[k]? = some x) (hy : (x.N : Int) = y) {p : Addr} (hS : Sen w 6 p) :
    Calls Tryd.prog 9 #[.pointer (some ⟨g, 0, none⟩), .int .i64 y] w fun e w' => e = .returned (.tuple #[.int .i64 0, errE p]) ∧ Ext w w' := by
  have FD := Lib.hid (find_hit h hk hy)
  have hkl : k < m := by have := h.len; have := (List.getElem?_eq_some_iff.1 hk).1; omega
  obtain ⟨k4, h4⟩ : ∃ k4, k * 4 = k4 := ⟨_, rfl⟩
  have CE := Lib.hid (fun w' (hx : Ext w w') => netcells (h.ex hx) hk h4)
  have C0 := Lib.hid (fun w' (hx : Ext w w') => (h.ex hx).c0)
  have PT := Lib.hid (fun w' (hx : Ext w w') => put_full (h.ex hx) hm x.N x.F x.T x.A x.n x.c (hS.ext hx))
  have k0 : (0 : Int) ≤ k := by omega
  have k1 : (k : Int) < m := by omega
  clear h hS hm hk hy
  go_enter Tryd.func9, Tryd.ntmps9
  go_wp2_with fail
  refine FD.out.mono ?_
  rintro e w1 ⟨rfl, x1⟩
  obtain ⟨S, rfl, _, _, e0, e1, e2, e3⟩ := CE.out w1 x1
  have c0 := C0.out w1 x1
  have X1 := Lib.hid x1
  clear x1 FD CE C0
  go_wp2_with fail
  refine (PT.out w1 X1.out).mono ?_
  rintro e w2 ⟨rfl, x2⟩
  have X2 := Lib.hid x2
  clear x2 PT c0 e0 e1 e2 e3
  go_wp2_with fail
  go_returns
  exact ⟨rfl, X1.out.trans X2.out⟩
set_option maxHeartbeats 1600000 in
theorem copy_ok (h : NetS w g A m c ls last) (hm : m < 4096) (hlast : last < 4611686018427387904) {k : Nat} {y : Int} {x : LetV} (hk : ls[k]? = some x) (hy : (x.N : Int) = y) :
    Calls Tryd.prog 9 #[.pointer (some ⟨g, 0, none⟩), .int .i64 y] w fun e w' => e = .returned (.tuple #[.int .i64 ((last : Int) + 1), .nilIface]) ∧ PutS w w' g A m last ls x.F x.T x.n x.l := by
  have FD := Lib.hid (find_hit h hk hy)
  have hkl : k < m := by have := h.len; have := (List.getElem?_eq_some_iff.1 hk).1; omega
  obtain ⟨k4, h4⟩ : ∃ k4, k * 4 = k4 := ⟨_, rfl⟩
  have CE := Lib.hid (fun w' (hx : Ext w w') => netcells (h.ex hx) hk h4)
  have C0 := Lib.hid (fun w' (hx : Ext w w') => (h.ex hx).c0)
  have hbx := h.byt x (List.mem_of_getElem? hk)
  have PT := Lib.hid (fun w' (hx : Ext w w') => put_ok (h.ex hx) hm hlast x.N x.F x.T x.A x.n x.c x.l (hbx.1.ext hx) hbx.2.1 hbx.2.2.1 (fun h0 b hb => (hbx.2.2.2 h0 b hb).1))
  have k0 : (0 : Int) ≤ k := by omega
  have k1 : (k : Int) < m := by omega
  clear h hm hk hy hlast hbx
  go_enter Tryd.func9, Tryd.ntmps9
  go_wp2_with fail
  refine FD.out.mono ?_
  rintro e w1 ⟨rfl, x1⟩
  obtain ⟨S, rfl, _, _, e0, e1, e2, e3⟩ := CE.out w1 x1
  have c0 := C0.out w1 x1
  have X1 := Lib.hid x1
  clear x1 FD CE C0
  go_wp2_with fail
  refine (PT.out w1 X1.out).mono ?_
  rintro e w2 ⟨rfl, x2⟩
  have X2 := Lib.hid (x2.pre X1.out)
  clear x2 PT c0 e0 e1 e2 e3
  go_wp2_with fail
  go_returns
  exact ⟨rfl, X2.out⟩
end
end Go.Proofs.YteaainepnelehaaDoor
