/-
  Place, the document's and the program's, walked.
-/
import Derived.Test.YteflnnlihblpgaaDoorMgOrderAddsProof13
namespace Go.Proofs.YteflnnlihblpgaaDoor
set_option maxRecDepth 100000
open Go.RowKit
set_option linter.unusedVariables false
theorem ents_take (ss : List EnS) (k : Nat) : ents (ss.take k) = (ents ss).take k := by simp [ents, List.map_take]
/-- The first list is the beginning of the other one. -/
def begB (l m : List En) : Bool := decide (l.length ≤ m.length ∧ l = m.take l.length)
set_option maxHeartbeats 1600000 in
theorem rbegins_any (A : Option Addr) (n c : Nat) (ss : List EnS) (B : Option Addr) (m d : Nat) (tt : List EnS) (w : World) (hs : Led w A n ss) (ht : Led w B m tt) (hd : m ≤ d) (hn : n ≤ 2000000000000 ∧ m ≤ 2000000000000) (b : Bool) (hb : Hid (begB (ents ss) (ents tt) = b)) : Calls Tryd.prog 21 #[.slice A n c, .slice B m d] w fun x w' => x = .returned (.bool b) ∧ Ext w w' := by
  have hsl := hs.len
  have htl := ht.len
  by_cases hnm : n ≤ m
  · have nn : decide ((n : Int) ≤ (m : Int)) = true := decide_eq_true (by omega)
    have rs := fun W => run_slice_hi (P := Tryd.prog) (w := W) eltEn B m d .i64 n (by omega)
    have CL := Lib.hid (rsameledger_any A n c ss B n d (tt.take n) w hs (ht.take_ hnm) (by omega) b (Lib.hid (by
      rw [← hb.out]
      unfold begB
      rw [ents_len, ents_len, hsl, htl, ents_take]
      exact decide_eq_decide.2 ⟨fun h => ⟨hnm, h⟩, fun h => h.2⟩)))
    clear hs ht hsl htl
    go_enter Tryd.func21, Tryd.ntmps21
    go_wp2_with (go_at_call 16; refine CL.out.mono ?_; rintro x w1 ⟨rfl, x1⟩)
    go_returns
    exact ⟨rfl, x1⟩
  · have nn : decide ((n : Int) ≤ (m : Int)) = false := decide_eq_false (by omega)
    obtain rfl : b = false := by
      rw [← hb.out]
      exact decide_eq_false (fun h => hnm (by have := h.1; rw [ents_len, ents_len] at this; omega))
    clear hs ht hsl htl
    go_enter Tryd.func21, Tryd.ntmps21
    go_wp2_with fail
    go_returns
    exact ⟨rfl, Ext.refl w⟩
def sameF : Value := .func (.func 23) #[] #[]
set_option maxHeartbeats 1600000 in
theorem equalfunc_any (A : Option Addr) (n c : Nat) (ss : List EnS) (B : Option Addr) (m d : Nat) (tt : List EnS) (w : World) (hs : Led w A n ss) (ht : Led w B m tt) (hn : n ≤ 2000000000000 ∧ m ≤ 2000000000000) (b : Bool) (hb : Hid (decide (ents ss = ents tt) = b)) : Calls Tryd.prog 49 #[.slice A n c, .slice B m d, sameF] w fun x w' => x = .returned (.bool b) ∧ Ext w w' := by
  unfold sameF
  have hsl := hs.len
  have htl := ht.len
  have HR := Lib.hid (And.intro hs ht)
  clear hs ht
  by_cases hnm : n = m
  rotate_left 1
  · have nn : ((n : Int) != (m : Int)) = true := by simp; omega
    obtain rfl : b = false := by rw [← hb.out]; exact decide_eq_false (fun h => hnm (by have := congrArg List.length h; rw [ents_len, ents_len] at this; omega))
    clear hnm
    go_enter Tryd.func49, Tryd.ntmps49
    go_wp2_with fail
    go_returns
    exact ⟨rfl, Ext.refl w⟩
  have nn : ((n : Int) != (m : Int)) = false := by simp; omega
  have hst : n ≤ m ∧ m ≤ n := by omega
  clear hnm
  go_enter Tryd.func49, Tryd.ntmps49
  go_upto_region 4 with (fail)
  clear nn
  go_loopw [7, 17] (fun _ v13 wr => ∃ k : Nat, v13 = .int .i64 (k : Int) ∧ k ≤ n ∧ Hid (Ext w wr ∧ ∀ j, j < k → (ents ss)[j]? = (ents tt)[j]?)) (fun _ v13 _ => n - (intOf v13).toNat)
  case atStart => exact ⟨0, rfl, by omega, Ext.refl w, fun j hj => by omega⟩
  case round =>
    obtain ⟨k, rfl, hk, HI⟩ := hrel
    by_cases hlt : k < n
    · obtain ⟨x, hx⟩ : ∃ x, ss[k]? = some x := ⟨ss[k]'(by omega), List.getElem?_eq_getElem _⟩
      obtain ⟨y, hy⟩ : ∃ y, tt[k]? = some y := ⟨tt[k]'(by omega), List.getElem?_eq_getElem _⟩
      obtain ⟨k10, hk10⟩ : ∃ k10, k * 10 = k10 := ⟨_, rfl⟩
      obtain ⟨ad, rfl, y0, y1, y2, y3, y4, y5, y6, y7, y8, y9⟩ := (HR.out.1.ext HI.out.1).entry hx hk10
      have k0 : (0 : Int) ≤ k := by omega
      have k1 : (k : Int) < n := by omega
      have k2 : (k : Int) < m := by omega
      have HX := Lib.hid (And.intro hx hy)
      obtain ⟨bb, hbb⟩ : ∃ bb, decide (x.e = y.e) = bb := ⟨_, rfl⟩
      have HBB := Lib.hid hbb
      have HL := Lib.hid (And.intro (HR.out.1.all x (List.mem_of_getElem? hx)) (HR.out.2.all y (List.mem_of_getElem? hy)))
      have X5 := (Ext.refl wr).alloc (.cells #[.int .i64 x.e.cl, .int .i64 x.e.nu, .int .i64 x.e.kd, .int .i64 x.e.id, .int .i64 x.e.sk, .int .i64 x.e.sq, .int .i64 x.e.st, .int .i64 x.e.pol, .slice x.A x.n x.c, .int .i64 x.e.at_] 29)
      have H5 := Lib.hid (And.intro (heap_alloc_new wr (.cells #[.int .i64 x.e.cl, .int .i64 x.e.nu, .int .i64 x.e.kd, .int .i64 x.e.id, .int .i64 x.e.sk, .int .i64 x.e.sq, .int .i64 x.e.st, .int .i64 x.e.pol, .slice x.A x.n x.c, .int .i64 x.e.at_] 29)) X5)
      obtain ⟨ae, rfl, z0, z1, z2, z3, z4, z5, z6, z7, z8, z9⟩ := (HR.out.2.ext (HI.out.1.trans X5)).entry hy hk10
      clear hx hy hbb X5
      go_upto_region 6 with (fail)
      generalize wr.alloc (.cells #[.int .i64 x.e.cl, .int .i64 x.e.nu, .int .i64 x.e.kd, .int .i64 x.e.id, .int .i64 x.e.sk, .int .i64 x.e.sq, .int .i64 x.e.st, .int .i64 x.e.pol, .slice x.A x.n x.c, .int .i64 x.e.at_] 29) = V5 at *
      generalize wr.heap.size = tb at *
      have X6 := (Ext.refl V5).alloc (.cells #[.int .i64 y.e.cl, .int .i64 y.e.nu, .int .i64 y.e.kd, .int .i64 y.e.id, .int .i64 y.e.sk, .int .i64 y.e.sq, .int .i64 y.e.st, .int .i64 y.e.pol, .slice y.A y.n y.c, .int .i64 y.e.at_] 29)
      have H6 := Lib.hid (And.intro ((X6.block _ (block_lt H5.out.1)).trans H5.out.1) (And.intro (heap_alloc_new V5 (.cells #[.int .i64 y.e.cl, .int .i64 y.e.nu, .int .i64 y.e.kd, .int .i64 y.e.id, .int .i64 y.e.sk, .int .i64 y.e.sq, .int .i64 y.e.st, .int .i64 y.e.pol, .slice y.A y.n y.c, .int .i64 y.e.at_] 29)) (H5.out.2.trans X6)))
      clear X6 y0 y1 y2 y3 y4 y5 y6 y7 y8 y9
      go_upto_region 7 with (fail)
      generalize V5.alloc (.cells #[.int .i64 y.e.cl, .int .i64 y.e.nu, .int .i64 y.e.kd, .int .i64 y.e.id, .int .i64 y.e.sk, .int .i64 y.e.sq, .int .i64 y.e.st, .int .i64 y.e.pol, .slice y.A y.n y.c, .int .i64 y.e.at_] 29) = V6 at *
      generalize V5.heap.size = tc at *
      clear z0 z1 z2 z3 z4 z5 z6 z7 z8 z9
      have y0 : V6.cell? ⟨tb, 0, none⟩ = some (.int .i64 x.e.cl) := block_cell (H6.out.1) 0
      have y1 : V6.cell? ⟨tb, 1, none⟩ = some (.int .i64 x.e.nu) := block_cell (H6.out.1) 1
      have y2 : V6.cell? ⟨tb, 2, none⟩ = some (.int .i64 x.e.kd) := block_cell (H6.out.1) 2
      have y3 : V6.cell? ⟨tb, 3, none⟩ = some (.int .i64 x.e.id) := block_cell (H6.out.1) 3
      have y4 : V6.cell? ⟨tb, 4, none⟩ = some (.int .i64 x.e.sk) := block_cell (H6.out.1) 4
      have y5 : V6.cell? ⟨tb, 5, none⟩ = some (.int .i64 x.e.sq) := block_cell (H6.out.1) 5
      have y6 : V6.cell? ⟨tb, 6, none⟩ = some (.int .i64 x.e.st) := block_cell (H6.out.1) 6
      have y7 : V6.cell? ⟨tb, 7, none⟩ = some (.int .i64 x.e.pol) := block_cell (H6.out.1) 7
      have y8 : V6.cell? ⟨tb, 8, none⟩ = some (.slice x.A x.n x.c) := block_cell (H6.out.1) 8
      have y9 : V6.cell? ⟨tb, 9, none⟩ = some (.int .i64 x.e.at_) := block_cell (H6.out.1) 9
      have z0 : V6.cell? ⟨tc, 0, none⟩ = some (.int .i64 y.e.cl) := block_cell (H6.out.2.1) 0
      have z1 : V6.cell? ⟨tc, 1, none⟩ = some (.int .i64 y.e.nu) := block_cell (H6.out.2.1) 1
      have z2 : V6.cell? ⟨tc, 2, none⟩ = some (.int .i64 y.e.kd) := block_cell (H6.out.2.1) 2
      have z3 : V6.cell? ⟨tc, 3, none⟩ = some (.int .i64 y.e.id) := block_cell (H6.out.2.1) 3
      have z4 : V6.cell? ⟨tc, 4, none⟩ = some (.int .i64 y.e.sk) := block_cell (H6.out.2.1) 4
      have z5 : V6.cell? ⟨tc, 5, none⟩ = some (.int .i64 y.e.sq) := block_cell (H6.out.2.1) 5
      have z6 : V6.cell? ⟨tc, 6, none⟩ = some (.int .i64 y.e.st) := block_cell (H6.out.2.1) 6
      have z7 : V6.cell? ⟨tc, 7, none⟩ = some (.int .i64 y.e.pol) := block_cell (H6.out.2.1) 7
      have z8 : V6.cell? ⟨tc, 8, none⟩ = some (.slice y.A y.n y.c) := block_cell (H6.out.2.1) 8
      have z9 : V6.cell? ⟨tc, 9, none⟩ = some (.int .i64 y.e.at_) := block_cell (H6.out.2.1) 9
      have CS := Lib.hid (same_any x y V6 (HL.out.1.ext (HI.out.1.trans H6.out.2.2)) (HL.out.2.ext (HI.out.1.trans H6.out.2.2)) bb HBB)
      cases bb with
      | true =>
        go_wp2_with (refine CS.out.mono ?_; rintro e w1 ⟨rfl, x1⟩)
        have H1 := Lib.hid (HI.out.1.trans (H6.out.2.2.trans x1))
        clear CS x1 y0 y1 y2 y3 y4 y5 y6 y7 y8 y9 z0 z1 z2 z3 z4 z5 z6 z7 z8 z9
        go_roundw
        case rel => exact ⟨k + 1, by go_num, by omega, H1.out, fun j hj => by
          by_cases e : j = k
          · rw [e, ents_at HX.out.1, ents_at HX.out.2, of_decide_eq_true HBB.out]
          · exact HI.out.2 j (by omega)⟩
        case measure => simp [intOf]; omega
      | false =>
        obtain rfl : b = false := by
          rw [← hb.out]
          exact decide_eq_false (fun h => of_decide_eq_false HBB.out (by have := ents_at HX.out.1; rw [h, ents_at HX.out.2] at this; injection this with this; exact this.symm))
        go_wp2_with (refine CS.out.mono ?_; rintro e w1 ⟨rfl, x1⟩)
        go_returns
        exact ⟨rfl, HI.out.1.trans (H6.out.2.2.trans x1)⟩
    · have e : b = true := by
        rw [← hb.out]
        exact decide_eq_true (List.ext_getElem? fun j => by
          rcases Nat.lt_or_ge j k with h | h
          · exact HI.out.2 j h
          · rw [List.getElem?_eq_none (by rw [ents_len]; omega), List.getElem?_eq_none (by rw [ents_len]; omega)])
      subst e
      go_wp2_with fail
      go_returns
      exact ⟨rfl, HI.out.1⟩

set_option maxHeartbeats 1600000 in
theorem begins_any (A : Option Addr) (n c : Nat) (ss : List EnS) (B : Option Addr) (m d : Nat) (tt : List EnS) (w : World) (hs : Led w A n ss) (ht : Led w B m tt) (hd : m ≤ d) (hn : n ≤ 2000000000000 ∧ m ≤ 2000000000000) (b : Bool) (hb : Hid (begB (ents ss) (ents tt) = b)) : Calls Tryd.prog 20 #[.slice A n c, .slice B m d] w fun x w' => x = .returned (.bool b) ∧ Ext w w' := by
  have hsl := hs.len
  have htl := ht.len
  by_cases hnm : n ≤ m
  · have nn : decide ((n : Int) ≤ (m : Int)) = true := decide_eq_true (by omega)
    have rs := fun W => run_slice_hi (P := Tryd.prog) (w := W) eltEn B m d .i64 n (by omega)
    have CL := Lib.hid (equalfunc_any A n c ss B n d (tt.take n) w hs (ht.take_ hnm) (by omega) b (Lib.hid (by
      rw [← hb.out]
      unfold begB
      rw [ents_len, ents_len, hsl, htl, ents_take]
      exact decide_eq_decide.2 ⟨fun h => ⟨hnm, h⟩, fun h => h.2⟩)))
    clear hs ht hsl htl
    unfold sameF at CL
    go_enter Tryd.func20, Tryd.ntmps20
    go_wp2_with (go_at_call 49; refine CL.out.mono ?_; rintro x w1 ⟨rfl, x1⟩)
    go_returns
    exact ⟨rfl, x1⟩
  · have nn : decide ((n : Int) ≤ (m : Int)) = false := decide_eq_false (by omega)
    obtain rfl : b = false := by
      rw [← hb.out]
      exact decide_eq_false (fun h => hnm (by have := h.1; rw [ents_len, ents_len] at this; omega))
    clear hs ht hsl htl
    go_enter Tryd.func20, Tryd.ntmps20
    go_wp2_with fail
    go_returns
    exact ⟨rfl, Ext.refl w⟩
end Go.Proofs.YteflnnlihblpgaaDoor
namespace Go.Proofs.YteflnnlihblpgaaDoor
set_option maxRecDepth 100000
open Go.RowKit
set_option linter.unusedVariables false
def Names (e : En) (c n : Int) : Prop := e.cl = c ∧ e.nu = n
instance (e : En) (c n : Int) : Decidable (Names e c n) := inferInstanceAs (Decidable (_ ∧ _))
/-- The place of an entry in a ledger; 0: there is none. -/
def placeL : List En → Int → Int → Nat
  | [], _, _ => 0
  | e :: l, c, n => if Names e c n then 1 else if placeL l c n = 0 then 0 else placeL l c n + 1
theorem placeL_none {c n : Int} : ∀ {l : List En}, (∀ e ∈ l, ¬ Names e c n) → placeL l c n = 0
  | [], _ => rfl
  | e :: l, h => by rw [placeL, if_neg (h e (by simp)), if_pos (placeL_none fun e he => h e (by simp [he]))]
theorem placeL_at {c n : Int} : ∀ {l : List En} {i : Nat} {e : En}, l[i]? = some e → Names e c n → (∀ j d, j < i → l[j]? = some d → ¬ Names d c n) → placeL l c n = i + 1
  | [], i, e, h, _, _ => by simp at h
  | x :: l, 0, e, h, hm, _ => by
    simp at h
    subst h
    rw [placeL, if_pos hm]
  | x :: l, i + 1, e, h, hm, hn => by
    have h1 := placeL_at (l := l) (i := i) (by simpa using h) hm (fun j d hj hd => hn (j + 1) d (by omega) (by simpa using hd))
    rw [placeL, if_neg (hn 0 x (by omega) rfl), if_neg (by omega), h1]
theorem placeL_pos {c n : Int} : ∀ {l : List En}, 0 < placeL l c n → ∃ e, l[placeL l c n - 1]? = some e ∧ Names e c n ∧ ∀ j d, j < placeL l c n - 1 → l[j]? = some d → ¬ Names d c n
  | [], h => by simp [placeL] at h
  | x :: l, h => by
    rw [placeL] at h ⊢
    split at h
    · rename_i hm
      rw [if_pos hm]
      exact ⟨x, rfl, hm, fun j d hj => by omega⟩
    · rename_i hm
      rw [if_neg hm]
      split at h
      · omega
      · rename_i h0
        rw [if_neg h0]
        obtain ⟨e, h1, h2, h3⟩ := placeL_pos (c := c) (n := n) (l := l) (by omega)
        refine ⟨e, ?_, h2, fun j d hj hd => ?_⟩
        · rw [← h1, show placeL l c n + 1 - 1 = (placeL l c n - 1) + 1 by omega, List.getElem?_cons_succ]
        · cases j with
          | zero => simp at hd; subst hd; exact hm
          | succ j => exact h3 j d (by omega) (by simpa using hd)
theorem placeL_le {c n : Int} (l : List En) : placeL l c n ≤ l.length := by
  rcases Nat.eq_zero_or_pos (placeL l c n) with h | h
  · omega
  · obtain ⟨e, h1, _⟩ := placeL_pos h
    have := (List.getElem?_eq_some_iff.1 h1).1
    omega
theorem placeL_zero {c n : Int} {l : List En} (h : placeL l c n = 0) : ∀ e ∈ l, ¬ Names e c n := fun e he hm => by
  induction l with
  | nil => cases he
  | cons x l ih =>
    rw [placeL] at h
    split at h
    · omega
    · rename_i hx
      split at h
      · rename_i h0
        rcases List.mem_cons.1 he with rfl | he
        · exact hx hm
        · exact ih h0 he
      · omega
set_option maxHeartbeats 1600000 in
theorem rplace_any (A : Option Addr) (n c : Nat) (ss : List EnS) (w : World) (cl nu : Int) (hs : Led w A n ss) (hn : n ≤ 2000000000000) : Calls Tryd.prog 19 #[.slice A n c, .int .i64 cl, .int .i64 nu] w fun x w' => x = .returned (.int .i64 (placeL (ents ss) cl nu : Int)) ∧ Ext w w' := by
  have hsl := hs.len
  have HR := Lib.hid hs
  clear hs
  go_enter Tryd.func19, Tryd.ntmps19
  go_upto_region 2 with (fail)
  go_loopw [7, 11] (fun _ v11 wr => ∃ k : Nat, v11 = .int .i64 (k : Int) ∧ k ≤ n ∧ Hid (Ext w wr ∧ ∀ j d, j < k → (ents ss)[j]? = some d → ¬ Names d cl nu)) (fun _ v11 _ => n - (intOf v11).toNat)
  case atStart => exact ⟨0, rfl, by omega, Ext.refl w, fun j d hj => by omega⟩
  case round =>
    obtain ⟨k, rfl, hk, HI⟩ := hrel
    by_cases hlt : k < n
    · obtain ⟨x, hx⟩ : ∃ x, ss[k]? = some x := ⟨ss[k]'(by omega), List.getElem?_eq_getElem _⟩
      obtain ⟨k10, hk10⟩ : ∃ k10, k * 10 = k10 := ⟨_, rfl⟩
      obtain ⟨ad, rfl, y0, y1, y2, y3, y4, y5, y6, y7, y8, y9⟩ := (HR.out.ext HI.out.1).entry hx hk10
      have k0 : (0 : Int) ≤ k := by omega
      have k1 : (k : Int) < n := by omega
      have HX := Lib.hid hx
      have X5 := (Ext.refl wr).alloc (.cells #[.int .i64 x.e.cl, .int .i64 x.e.nu, .int .i64 x.e.kd, .int .i64 x.e.id, .int .i64 x.e.sk, .int .i64 x.e.sq, .int .i64 x.e.st, .int .i64 x.e.pol, .slice x.A x.n x.c, .int .i64 x.e.at_] 29)
      have H5 := Lib.hid (And.intro (heap_alloc_new wr (.cells #[.int .i64 x.e.cl, .int .i64 x.e.nu, .int .i64 x.e.kd, .int .i64 x.e.id, .int .i64 x.e.sk, .int .i64 x.e.sq, .int .i64 x.e.st, .int .i64 x.e.pol, .slice x.A x.n x.c, .int .i64 x.e.at_] 29)) (HI.out.1.trans X5))
      clear hx X5
      go_upto_region 4 with (fail)
      generalize wr.alloc (.cells #[.int .i64 x.e.cl, .int .i64 x.e.nu, .int .i64 x.e.kd, .int .i64 x.e.id, .int .i64 x.e.sk, .int .i64 x.e.sq, .int .i64 x.e.st, .int .i64 x.e.pol, .slice x.A x.n x.c, .int .i64 x.e.at_] 29) = V5 at *
      generalize wr.heap.size = tb at *
      clear y0 y1 y2 y3 y4 y5 y6 y7 y8 y9
      have c0 : V5.cell? ⟨tb, 0, none⟩ = some (.int .i64 x.e.cl) := block_cell H5.out.1 0
      have c1 : V5.cell? ⟨tb, 1, none⟩ = some (.int .i64 x.e.nu) := block_cell H5.out.1 1
      by_cases h1 : x.e.cl = cl
      · have n1 : (x.e.cl == cl) = true := by simpa using h1
        have H1 := Lib.hid h1
        clear h1
        by_cases h2 : x.e.nu = nu
        · have n2 : (x.e.nu == nu) = true := by simpa using h2
          have HP := Lib.hid (placeL_at (ents_at HX.out) ⟨H1.out, h2⟩ HI.out.2)
          clear h2
          go_wp2_with fail
          go_returns
          rw [HP.out]
          exact ⟨rfl, H5.out.2⟩
        · have n2 : (x.e.nu == nu) = false := by simpa using h2
          have H2 := Lib.hid h2
          clear h2
          go_wp2_with fail
          go_roundw
          case rel => exact ⟨k + 1, by go_num, by omega, H5.out.2, fun j d hj hd hm => by
            by_cases e : j = k
            · rw [e, ents_at HX.out] at hd
              injection hd with hd
              rw [← hd] at hm
              exact H2.out hm.2
            · exact HI.out.2 j d (by omega) hd hm⟩
          case measure => simp [intOf]; omega
      · have n1 : (x.e.cl == cl) = false := by simpa using h1
        have H1 := Lib.hid h1
        clear h1
        go_wp2_with fail
        go_roundw
        case rel => exact ⟨k + 1, by go_num, by omega, H5.out.2, fun j d hj hd hm => by
          by_cases e : j = k
          · rw [e, ents_at HX.out] at hd
            injection hd with hd
            rw [← hd] at hm
            exact H1.out hm.1
          · exact HI.out.2 j d (by omega) hd hm⟩
        case measure => simp [intOf]; omega
    · have HP := Lib.hid (placeL_none (c := cl) (n := nu) (l := ents ss) fun e he hm => by
        obtain ⟨j, hj⟩ := List.getElem?_of_mem he
        have := (List.getElem?_eq_some_iff.1 hj).1
        rw [ents_len] at this
        exact HI.out.2 j e (by omega) hj hm)
      go_wp2_with fail
      go_returns
      rw [HP.out]
      exact ⟨rfl, HI.out.1⟩
def placeF (tb : Nat) : Value := .func (.func 47) #[] #[.pointer (some ⟨tb, 0, none⟩)]
set_option maxHeartbeats 1600000 in
theorem place1_any (s : EnS) (w : World) (tb : Nat) (cl nu : Int) (hb : w.heap[tb]? = some (.cells #[.int .i64 cl, .int .i64 nu] 91)) (b : Bool) (hbb : Hid (decide (Names s.e cl nu) = b)) : Calls Tryd.prog 47 #[.agg #[.int .i64 s.e.cl, .int .i64 s.e.nu, .int .i64 s.e.kd, .int .i64 s.e.id, .int .i64 s.e.sk, .int .i64 s.e.sq, .int .i64 s.e.st, .int .i64 s.e.pol, .slice s.A s.n s.c, .int .i64 s.e.at_], .pointer (some ⟨tb, 0, none⟩)] w fun x w' => x = .returned (.bool b) ∧ Ext w w' := by
  have X1 := (Ext.refl w).alloc (.cells #[.int .i64 s.e.cl, .int .i64 s.e.nu, .int .i64 s.e.kd, .int .i64 s.e.id, .int .i64 s.e.sk, .int .i64 s.e.sq, .int .i64 s.e.st, .int .i64 s.e.pol, .slice s.A s.n s.c, .int .i64 s.e.at_] 29)
  have b1 := heap_alloc_new w (.cells #[.int .i64 s.e.cl, .int .i64 s.e.nu, .int .i64 s.e.kd, .int .i64 s.e.id, .int .i64 s.e.sk, .int .i64 s.e.sq, .int .i64 s.e.st, .int .i64 s.e.pol, .slice s.A s.n s.c, .int .i64 s.e.at_] 29)
  have HV := Lib.hid (And.intro b1 X1)
  clear X1 b1
  have HB := Lib.hid ((HV.out.2.block _ (block_lt hb)).trans hb)
  have rk := fun W => eql_key s.e.cl s.e.nu cl nu W
  have hb2 : decide (s.e.cl = cl ∧ s.e.nu = nu) = b := hbb.out
  rw [hb2] at rk
  clear hb2 hb
  go_enter Tryd.func47, Tryd.ntmps47
  go_upto_region 1 with (fail)
  generalize w.alloc (.cells #[.int .i64 s.e.cl, .int .i64 s.e.nu, .int .i64 s.e.kd, .int .i64 s.e.id, .int .i64 s.e.sk, .int .i64 s.e.sq, .int .i64 s.e.st, .int .i64 s.e.pol, .slice s.A s.n s.c, .int .i64 s.e.at_] 29) = V at *
  generalize w.heap.size = ob at *
  have c0 : ∀ W, Ext V W → W.cell? ⟨ob, 0, none⟩ = some (.int .i64 s.e.cl) := fun W hx => block_cell ((hx.block _ (block_lt (HV.out.1))).trans (HV.out.1)) 0
  have c1 : ∀ W, Ext V W → W.cell? ⟨ob, 1, none⟩ = some (.int .i64 s.e.nu) := fun W hx => block_cell ((hx.block _ (block_lt (HV.out.1))).trans (HV.out.1)) 1
  have c2 : ∀ W, Ext V W → W.cell? ⟨ob, 2, none⟩ = some (.int .i64 s.e.kd) := fun W hx => block_cell ((hx.block _ (block_lt (HV.out.1))).trans (HV.out.1)) 2
  have c3 : ∀ W, Ext V W → W.cell? ⟨ob, 3, none⟩ = some (.int .i64 s.e.id) := fun W hx => block_cell ((hx.block _ (block_lt (HV.out.1))).trans (HV.out.1)) 3
  have c4 : ∀ W, Ext V W → W.cell? ⟨ob, 4, none⟩ = some (.int .i64 s.e.sk) := fun W hx => block_cell ((hx.block _ (block_lt (HV.out.1))).trans (HV.out.1)) 4
  have c5 : ∀ W, Ext V W → W.cell? ⟨ob, 5, none⟩ = some (.int .i64 s.e.sq) := fun W hx => block_cell ((hx.block _ (block_lt (HV.out.1))).trans (HV.out.1)) 5
  have c6 : ∀ W, Ext V W → W.cell? ⟨ob, 6, none⟩ = some (.int .i64 s.e.st) := fun W hx => block_cell ((hx.block _ (block_lt (HV.out.1))).trans (HV.out.1)) 6
  have c7 : ∀ W, Ext V W → W.cell? ⟨ob, 7, none⟩ = some (.int .i64 s.e.pol) := fun W hx => block_cell ((hx.block _ (block_lt (HV.out.1))).trans (HV.out.1)) 7
  have c8 : ∀ W, Ext V W → W.cell? ⟨ob, 8, none⟩ = some (.slice s.A s.n s.c) := fun W hx => block_cell ((hx.block _ (block_lt (HV.out.1))).trans (HV.out.1)) 8
  have c9 : ∀ W, Ext V W → W.cell? ⟨ob, 9, none⟩ = some (.int .i64 s.e.at_) := fun W hx => block_cell ((hx.block _ (block_lt (HV.out.1))).trans (HV.out.1)) 9
  have d0 : ∀ W, Ext V W → W.cell? ⟨tb, 0, none⟩ = some (.int .i64 cl) := fun W hx => block_cell ((hx.block _ (block_lt (HB.out))).trans (HB.out)) 0
  have d1 : ∀ W, Ext V W → W.cell? ⟨tb, 1, none⟩ = some (.int .i64 nu) := fun W hx => block_cell ((hx.block _ (block_lt (HB.out))).trans (HB.out)) 1
  refine w_region (fun w1 => Ext V w1) [] (by kernel_rfl) ((Ext.refl V).drew) ?_
  refine w_take (i := 0) (v := ?_) [] (some 4) rfl (by rfl) (by kernel_rfl) (by kernel_rfl) (by kernel_rfl) (by kernel_rfl) (by kernel_rfl) (by kernel_rfl) (fun _ _ _ h => h) (YieldsIf.yieldsW (.inl ⟨by rfl, ?_⟩)) ?_
  rotate_left 1
  · (intro W hW; (try dsimp only at hW); go_simp; try with_reducible rfl)
  try simp only [Act.put, List.setIfInBounds_toArray, List.set_cons_zero, List.set_cons_succ]
  refine w_take (i := 1) (v := (.agg #[.int .i64 s.e.cl, .int .i64 s.e.nu])) [] (some 5) rfl (by rfl) (by kernel_rfl) (by kernel_rfl) (by kernel_rfl) (by kernel_rfl) (by kernel_rfl) (by kernel_rfl) (fun _ _ _ h => h) (.inl ⟨by rfl, ?_⟩) ?_
  · (intro W hW; refine .inr ⟨_, _, _, ?_, ((keyof_any s W).mono fun _ _ ⟨h1, h2⟩ => ⟨h1, hW.trans h2⟩)⟩; go_simp; try with_reducible rfl)
  try simp only [Act.put, List.setIfInBounds_toArray, List.set_cons_zero, List.set_cons_succ]
  refine w_take (i := 2) (v := ?_) [] (some 6) rfl (by rfl) (by kernel_rfl) (by kernel_rfl) (by kernel_rfl) (by kernel_rfl) (by kernel_rfl) (by kernel_rfl) (fun _ _ _ h => h) (YieldsIf.yieldsW (.inl ⟨by rfl, ?_⟩)) ?_
  rotate_left 1
  · (intro W hW; (try dsimp only at hW); go_simp; try with_reducible rfl)
  try simp only [Act.put, List.setIfInBounds_toArray, List.set_cons_zero, List.set_cons_succ]
  refine w_take (i := 3) (v := ?_) [] (some 7) rfl (by rfl) (by kernel_rfl) (by kernel_rfl) (by kernel_rfl) (by kernel_rfl) (by kernel_rfl) (by kernel_rfl) (fun _ _ _ h => h) (YieldsIf.yieldsW (.inl ⟨by rfl, ?_⟩)) ?_
  rotate_left 1
  · (intro W hW; (try dsimp only at hW); go_simp; try with_reducible rfl)
  try simp only [Act.put, List.setIfInBounds_toArray, List.set_cons_zero, List.set_cons_succ]
  refine w_take (i := 4) (v := ?_) [] (some 3) rfl (by rfl) (by kernel_rfl) (by kernel_rfl) (by kernel_rfl) (by kernel_rfl) (by kernel_rfl) (by kernel_rfl) (fun _ _ _ h => h) (YieldsIf.yieldsW (.inl ⟨by rfl, ?_⟩)) ?_
  rotate_left 1
  · (intro W hW; (try dsimp only at hW); go_simp; try with_reducible rfl)
  try simp only [Act.put, List.setIfInBounds_toArray, List.set_cons_zero, List.set_cons_succ]
  refine w_done (by kernel_rfl) (by rfl) (fun V2 hV2 => ?_) _
  go_wp2_with fail
  go_returns
  exact ⟨rfl, HV.out.2.trans hV2⟩
set_option maxHeartbeats 1600000 in
theorem idxfunc_any (A : Option Addr) (n c : Nat) (ss : List EnS) (w : World) (tb : Nat) (cl nu : Int) (hb : w.heap[tb]? = some (.cells #[.int .i64 cl, .int .i64 nu] 91)) (hs : Led w A n ss) (hn : n ≤ 2000000000000) : Calls Tryd.prog 46 #[.slice A n c, placeF tb] w fun x w' => x = .returned (.int .i64 ((placeL (ents ss) cl nu : Int) - 1)) ∧ Ext w w' := by
  unfold placeF
  have hsl := hs.len
  have HR := Lib.hid (And.intro hs hb)
  clear hs hb
  go_enter Tryd.func46, Tryd.ntmps46
  go_upto_region 2 with (fail)
  go_loopw [5, 8] (fun _ v11 wr => ∃ k : Nat, v11 = .int .i64 (k : Int) ∧ k ≤ n ∧ Hid (Ext w wr ∧ ∀ j d, j < k → (ents ss)[j]? = some d → ¬ Names d cl nu)) (fun _ v11 _ => n - (intOf v11).toNat)
  case atStart => exact ⟨0, rfl, by omega, Ext.refl w, fun j d hj => by omega⟩
  case round =>
    obtain ⟨k, rfl, hk, HI⟩ := hrel
    by_cases hlt : k < n
    · obtain ⟨x, hx⟩ : ∃ x, ss[k]? = some x := ⟨ss[k]'(by omega), List.getElem?_eq_getElem _⟩
      obtain ⟨k10, hk10⟩ : ∃ k10, k * 10 = k10 := ⟨_, rfl⟩
      obtain ⟨ad, rfl, y0, y1, y2, y3, y4, y5, y6, y7, y8, y9⟩ := (HR.out.1.ext HI.out.1).entry hx hk10
      have k0 : (0 : Int) ≤ k := by omega
      have k1 : (k : Int) < n := by omega
      have HX := Lib.hid hx
      obtain ⟨bb, hbb⟩ : ∃ bb, decide (Names x.e cl nu) = bb := ⟨_, rfl⟩
      have HBB := Lib.hid hbb
      have CP := Lib.hid (place1_any x wr tb cl nu ((HI.out.1.block _ (block_lt HR.out.2)).trans HR.out.2) bb HBB)
      clear hx hbb
      cases bb with
      | true =>
        have HP := Lib.hid (placeL_at (ents_at HX.out) (of_decide_eq_true HBB.out) HI.out.2)
        go_wp2_with (refine CP.out.mono ?_; rintro e w1 ⟨rfl, x1⟩)
        go_returns
        rw [HP.out]
        exact ⟨congrArg (fun z => Ending.returned (.int .i64 z)) (by omega), HI.out.1.trans x1⟩
      | false =>
        go_wp2_with (refine CP.out.mono ?_; rintro e w1 ⟨rfl, x1⟩)
        have H1 := Lib.hid (HI.out.1.trans x1)
        clear CP x1 y0 y1 y2 y3 y4 y5 y6 y7 y8 y9
        go_roundw
        case rel => exact ⟨k + 1, by go_num, by omega, H1.out, fun j d hj hd hm => by
          by_cases e : j = k
          · rw [e, ents_at HX.out] at hd
            injection hd with hd
            rw [← hd] at hm
            exact of_decide_eq_false HBB.out hm
          · exact HI.out.2 j d (by omega) hd hm⟩
        case measure => simp [intOf]; omega
    · have HP := Lib.hid (placeL_none (c := cl) (n := nu) (l := ents ss) fun e he hm => by
        obtain ⟨j, hj⟩ := List.getElem?_of_mem he
        have := (List.getElem?_eq_some_iff.1 hj).1
        rw [ents_len] at this
        exact HI.out.2 j e (by omega) hj hm)
      go_wp2_with fail
      go_returns
      rw [HP.out]
      exact ⟨rfl, HI.out.1⟩
set_option maxHeartbeats 1600000 in
theorem place_ok (A : Option Addr) (n c : Nat) (ss : List EnS) (w : World) (cl nu : Int) (hs : Led w A n ss) (hn : n ≤ 2000000000000) (p : Nat) (hp : placeL (ents ss) cl nu = p + 1) : Calls Tryd.prog 18 #[.slice A n c, .int .i64 cl, .int .i64 nu] w fun x w' => x = .returned (.tuple #[.int .i64 ((p + 1 : Nat) : Int), .nilIface]) ∧ Ext w w' := by
  have X0 := (Ext.refl w).alloc (.cells #[.int .i64 cl, .int .i64 nu] 91)
  have CI := Lib.hid (idxfunc_any A n c ss _ w.heap.size cl nu (heap_alloc_new w (.cells #[.int .i64 cl, .int .i64 nu] 91)) (hs.ext X0) hn)
  have hpl : (p : Int) ≤ 2000000000000 := by
    have h1 := placeL_le (c := cl) (n := nu) (ents ss)
    rw [ents_len, hs.len] at h1
    omega
  rw [hp, show ((p + 1 : Nat) : Int) - 1 = (p : Int) by omega] at CI
  unfold placeF at CI
  have HX := Lib.hid X0
  have hp0 : (0 : Int) ≤ p := by omega
  clear X0 hs hp
  go_enter Tryd.func18, Tryd.ntmps18
  go_wp2_with (go_at_call 46; refine CI.out.mono ?_; rintro e w1 ⟨rfl, x1⟩)
  go_returns
  exact ⟨rfl, HX.out.trans x1⟩
set_option maxHeartbeats 1600000 in
theorem place_no (A : Option Addr) (n c : Nat) (ss : List EnS) (w : World) (cl nu : Int) (hs : Led w A n ss) (hn : n ≤ 2000000000000) (hp : placeL (ents ss) cl nu = 0) {ps : Addr} (hS : Sen w 0 ps) : Calls Tryd.prog 18 #[.slice A n c, .int .i64 cl, .int .i64 nu] w fun x w' => x = .returned (.tuple #[.int .i64 0, .iface 149 (.pointer (some ps))]) ∧ Ext w w' := by
  have X0 := (Ext.refl w).alloc (.cells #[.int .i64 cl, .int .i64 nu] 91)
  have CI := Lib.hid (idxfunc_any A n c ss _ w.heap.size cl nu (heap_alloc_new w (.cells #[.int .i64 cl, .int .i64 nu] 91)) (hs.ext X0) hn)
  rw [hp, show ((0 : Nat) : Int) - 1 = -1 by omega] at CI
  unfold placeF at CI
  have HX := Lib.hid X0
  have HS := Lib.hid hS
  clear X0 hs hp hS
  go_enter Tryd.func18, Tryd.ntmps18
  go_upto_region 4 with (go_at_call 46; refine CI.out.mono ?_; rintro e w1 ⟨rfl, x1⟩)
  have s1 := (HS.out.ext (HX.out.trans x1)).2.1
  go_quiet (fail)
  go_wp2_with fail
  go_returns
  exact ⟨rfl, (HX.out.trans x1).drewN _⟩
end Go.Proofs.YteflnnlihblpgaaDoor
