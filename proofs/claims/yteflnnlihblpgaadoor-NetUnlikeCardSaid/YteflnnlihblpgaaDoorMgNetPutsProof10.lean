/-
  Package almonerref03: a Reader's Num and Bytes, walked.
-/
import Derived.Test.YteflnnlihblpgaaDoorMgNetPutsProof9
namespace Go.Proofs.YteflnnlihblpgaaDoor
open Go.RowKit
set_option linter.unusedVariables false
/-- The document's reader at block g: its bytes, its place. -/
structure RmS (w : World) (g : Nat) (A : Option Addr) (n c at_ : Nat) (l : List Nat) : Prop where
  blk : w.heap[g]? = some (.cells #[.slice A n c, .int .i64 (at_ : Int)] 115 (0, 0))
  rd : Rd w 1 A n (u8s l)
  cap : n ≤ c
  ne : 0 < n → ∀ a, A = some a → a.block ≠ g
  le : at_ ≤ n
  byte : ∀ x ∈ l, x < 256
  small : n ≤ 140737488351232
section
variable {w w' : World} {g n c at_ : Nat} {A : Option Addr} {l : List Nat}
theorem RmS.len (h : RmS w g A n c at_ l) : l.length = n := by have := h.rd.len; rwa [u8s_len] at this
theorem RmS.lt (h : RmS w g A n c at_ l) : g < w.heap.size := (Array.getElem?_eq_some_iff.1 h.blk).1
theorem RmS.c0 (h : RmS w g A n c at_ l) : w.cell? ⟨g, 0, none⟩ = some (.slice A n c) := by rw [cell_of_row w g 0 _ _ _ h.blk]; rfl
theorem RmS.c1 (h : RmS w g A n c at_ l) : w.cell? ⟨g, 1, none⟩ = some (.int .i64 (at_ : Int)) := by rw [cell_of_row w g 1 _ _ _ h.blk]; rfl
theorem RmS.fr (h : RmS w g A n c at_ l) (k : Nat) : w.frozen? ⟨g, k, none⟩ = false := by
  have := h.blk
  simp only [World.frozen?, this]
  simp
theorem RmS.ext (h : RmS w g A n c at_ l) (hx : Ext w w') : RmS w' g A n c at_ l :=
  ⟨(hx.block g h.lt).trans h.blk, h.rd.ext hx, h.cap, h.ne, h.le, h.byte, h.small⟩
theorem Rd.fr0 {P : Nat → Prop} (hf : Fr w w' P) (h : Rd w 1 A n (u8s l)) (hne : 0 < n → ∀ a, A = some a → ¬ P a.block) : Rd w' 1 A n (u8s l) := by
  rcases Nat.eq_zero_or_pos n with h0 | h0
  · subst h0
    have := h.len
    exact ⟨by rw [this], fun h => absurd h (by omega)⟩
  · exact hf.rd h (hne h0)
theorem RmS.frm (h : RmS w g A n c at_ l) {P : Nat → Prop} (hf : Fr w w' P) (hg : ¬ P g) (hA : 0 < n → ∀ a, A = some a → ¬ P a.block) : RmS w' g A n c at_ l :=
  ⟨(hf.block g h.lt hg).trans h.blk, Rd.fr0 hf h.rd hA, h.cap, h.ne, h.le, h.byte, h.small⟩
theorem RdS.frm (h : RdS w g A n c at_ l) {P : Nat → Prop} (hf : Fr w w' P) (hg : ¬ P g) (hA : 0 < n → ∀ a, A = some a → ¬ P a.block) : RdS w' g A n c at_ l :=
  ⟨(hf.block g h.lt hg).trans h.blk, Rd.fr0 hf h.rd hA, h.cap, h.ne, h.le, h.byte, h.small⟩
theorem RmS.put (h : RmS w g A n c at_ l) (k : Nat) (hk : k ≤ n) : RmS (w.setCell ⟨g, 1, none⟩ (.int .i64 (k : Int))) g A n c k l := by
  refine ⟨heap_setCell_same w g 1 _ _ _ h.blk, ?_, h.cap, h.ne, hk, h.byte, h.small⟩
  exact Rd.fr0 (Fr.store w ⟨g, 1, none⟩ (.int .i64 (k : Int))) h.rd (fun h0 a ha => h.ne h0 a ha)
end
section
variable {w : World} {g n c at_ : Nat} {A : Option Addr} {l : List Nat}
set_option maxHeartbeats 800000 in
theorem mnum_ok (h : RmS w g A n c at_ l) {x k : Nat} (hr : Wr.rd (l.drop at_) = some (x, k)) (most : Int) (hm : (x : Int) ≤ most) :
    Calls Tryd.prog 61 #[.pointer (some ⟨g, 0, none⟩), .int .i64 most] w fun e w' => e = .returned (.tuple #[.int .i64 (x : Int), .int .i64 0]) ∧ RmS w' g A n c (at_ + k) l ∧ Fr w w' (· = g) := by
  have N := Lib.hid (fun w' (hx : Ext w w') => read_any A n c at_ l w' (h.rd.ext hx) h.byte h.small h.cap h.le)
  rw [readR_some hr] at N
  have hkb := Wr.rd_count hr
  rw [List.length_drop, h.len] at hkb
  have HH := Lib.hid h
  have c0 := h.c0
  have c1 := h.c1
  have hg := h.lt
  obtain ⟨p, hp⟩ : ∃ p, at_ + k = p := ⟨_, rfl⟩
  rw [hp] at N ⊢
  have hpn : p ≤ n := by have := h.le; omega
  have hm' : ¬ most < (x : Int) := by omega
  clear h hr hp hm hkb
  go_enter Tryd.func61, Tryd.ntmps61
  go_wp2_with fail
  have WX : Ext w w.drew := (Ext.refl w).drew
  go_region_held3 (fun w' => w'.cell? ⟨g, 0, none⟩ = some (.slice A n c) ∧ w'.cell? ⟨g, 1, none⟩ = some (.int .i64 (at_ : Int))) (go_keep) (first
    | (go_at_call 83; (with_reducible refine (N.out _ (by with_reducible assumption)).mono ?_); rintro en1 vA ⟨rfl, xA⟩; have k0 := (WX.trans xA).cell (p := ⟨g, 0, none⟩) hg; have k1 := (WX.trans xA).cell (p := ⟨g, 1, none⟩) hg; rw [c0] at k0; rw [c1] at k1))
  all_goals
    have f1 := (HH.out.ext (WX.trans xA)).fr 1
    have HX := Lib.hid (WX.trans xA)
    clear xA WX N
    go_wp2_with fail
    go_returns
    exact ⟨rfl, (HH.out.ext HX.out).put p hpn, (Fr.of_ext HX.out (· = g)).trans (Fr.store _ ⟨g, 1, none⟩ _) (fun _ _ h => h)⟩
set_option maxHeartbeats 800000 in
theorem mnum_no (h : RmS w g A n c at_ l) (most : Int) (hr : ∀ x k, Wr.rd (l.drop at_) = some (x, k) → most < (x : Int)) :
    Calls Tryd.prog 61 #[.pointer (some ⟨g, 0, none⟩), .int .i64 most] w fun e w' => e = .returned (.tuple #[.int .i64 0, .int .i64 3]) ∧ Ext w w' := by
  have N := Lib.hid (fun w' (hx : Ext w w') => read_any A n c at_ l w' (h.rd.ext hx) h.byte h.small h.cap h.le)
  have c0 := h.c0
  have c1 := h.c1
  have hg := h.lt
  cases hrd : Wr.rd (l.drop at_) with
  | none =>
    rw [readR_none hrd] at N
    clear h hr hrd
    go_enter Tryd.func61, Tryd.ntmps61
    go_wp2_with fail
    have WX : Ext w w.drew := (Ext.refl w).drew
    go_region_held3 (fun w' => w'.cell? ⟨g, 0, none⟩ = some (.slice A n c) ∧ w'.cell? ⟨g, 1, none⟩ = some (.int .i64 (at_ : Int))) (go_keep) (first
      | (go_at_call 83; (with_reducible refine (N.out _ (by with_reducible assumption)).mono ?_); rintro en1 vA ⟨rfl, xA⟩; have k0 := (WX.trans xA).cell (p := ⟨g, 0, none⟩) hg; have k1 := (WX.trans xA).cell (p := ⟨g, 1, none⟩) hg; rw [c0] at k0; rw [c1] at k1))
    all_goals
      have HX := Lib.hid (WX.trans xA)
      clear xA WX N
      go_wp2_with fail
      go_returns
      exact ⟨rfl, HX.out⟩
  | some y =>
    obtain ⟨x, k⟩ := y
    have hm := hr x k hrd
    rw [readR_some hrd] at N
    obtain ⟨p, hp⟩ : ∃ p, at_ + k = p := ⟨_, rfl⟩
    rw [hp] at N
    clear h hr hrd hp
    go_enter Tryd.func61, Tryd.ntmps61
    go_wp2_with fail
    have WX : Ext w w.drew := (Ext.refl w).drew
    go_region_held3 (fun w' => w'.cell? ⟨g, 0, none⟩ = some (.slice A n c) ∧ w'.cell? ⟨g, 1, none⟩ = some (.int .i64 (at_ : Int))) (go_keep) (first
      | (go_at_call 83; (with_reducible refine (N.out _ (by with_reducible assumption)).mono ?_); rintro en1 vA ⟨rfl, xA⟩; have k0 := (WX.trans xA).cell (p := ⟨g, 0, none⟩) hg; have k1 := (WX.trans xA).cell (p := ⟨g, 1, none⟩) hg; rw [c0] at k0; rw [c1] at k1))
    all_goals
      have HX := Lib.hid (WX.trans xA)
      clear xA WX N
      go_wp2_with fail
      go_returns
      exact ⟨rfl, HX.out⟩
set_option maxHeartbeats 1600000 in
theorem mbytes_no (h : RmS w g A n c at_ l) (most : Int) (hr : ∀ x k, Wr.rd (l.drop at_) = some (x, k) → most < (x : Int) ∨ n < at_ + k + x) :
    Calls Tryd.prog 63 #[.pointer (some ⟨g, 0, none⟩), .int .i64 most] w fun e w' => e = .returned (.tuple #[.slice none 0 0, .int .i64 3]) ∧ Ext w w' := by
  have N := Lib.hid (fun w' (hx : Ext w w') => read_any A n c at_ l w' (h.rd.ext hx) h.byte h.small h.cap h.le)
  have c0 := h.c0
  have c1 := h.c1
  have hg := h.lt
  cases hrd : Wr.rd (l.drop at_) with
  | none =>
    rw [readR_none hrd] at N
    clear h hr hrd
    go_enter Tryd.func63, Tryd.ntmps63
    go_wp2_with fail
    have WX : Ext w w.drew := (Ext.refl w).drew
    go_region_held3 (fun w' => w'.cell? ⟨g, 0, none⟩ = some (.slice A n c) ∧ w'.cell? ⟨g, 1, none⟩ = some (.int .i64 (at_ : Int))) (go_keep) (first
      | (go_at_call 83; (with_reducible refine (N.out _ (by with_reducible assumption)).mono ?_); rintro en1 vA ⟨rfl, xA⟩; have k0 := (WX.trans xA).cell (p := ⟨g, 0, none⟩) hg; have k1 := (WX.trans xA).cell (p := ⟨g, 1, none⟩) hg; rw [c0] at k0; rw [c1] at k1))
    all_goals
      have HX := Lib.hid (WX.trans xA)
      clear xA WX N
      go_wp2_with fail
      go_returns
      exact ⟨rfl, HX.out⟩
  | some y =>
    obtain ⟨x, k⟩ := y
    have hm := hr x k hrd
    rw [readR_some hrd] at N
    have hsm := h.small
    have hkb := Wr.rd_count hrd
    rw [List.length_drop, h.len] at hkb
    have hle := h.le
    obtain ⟨p, hp⟩ : ∃ p, at_ + k = p := ⟨_, rfl⟩
    rw [hp] at N hm
    have hpn : p ≤ n := by omega
    have hp0 : (0 : Int) ≤ p := by omega
    clear h hr hrd hp hkb
    by_cases h1 : most < (x : Int)
    · clear hm
      go_enter Tryd.func63, Tryd.ntmps63
      go_wp2_with fail
      have WX : Ext w w.drew := (Ext.refl w).drew
      go_region_held3 (fun w' => w'.cell? ⟨g, 0, none⟩ = some (.slice A n c) ∧ w'.cell? ⟨g, 1, none⟩ = some (.int .i64 (at_ : Int))) (go_keep) (first
        | (go_at_call 83; (with_reducible refine (N.out _ (by with_reducible assumption)).mono ?_); rintro en1 vA ⟨rfl, xA⟩; have k0 := (WX.trans xA).cell (p := ⟨g, 0, none⟩) hg; have k1 := (WX.trans xA).cell (p := ⟨g, 1, none⟩) hg; rw [c0] at k0; rw [c1] at k1))
      all_goals
        have HX := Lib.hid (WX.trans xA)
        clear xA WX N
        go_wp2_with fail
        go_returns
        exact ⟨rfl, HX.out⟩
    · have h2 : (n : Int) - (p : Int) < (x : Int) := by omega
      clear hm
      go_enter Tryd.func63, Tryd.ntmps63
      go_wp2_with fail
      have WX : Ext w w.drew := (Ext.refl w).drew
      go_region_held3 (fun w' => w'.cell? ⟨g, 0, none⟩ = some (.slice A n c) ∧ w'.cell? ⟨g, 1, none⟩ = some (.int .i64 (at_ : Int))) (go_keep) (first
        | (go_at_call 83; (with_reducible refine (N.out _ (by with_reducible assumption)).mono ?_); rintro en1 vA ⟨rfl, xA⟩; have k0 := (WX.trans xA).cell (p := ⟨g, 0, none⟩) hg; have k1 := (WX.trans xA).cell (p := ⟨g, 1, none⟩) hg; rw [c0] at k0; rw [c1] at k1))
      all_goals
        have HX := Lib.hid (WX.trans xA)
        clear xA WX N
        go_wp2_with fail
        go_returns
        exact ⟨rfl, HX.out⟩
set_option maxHeartbeats 1600000 in
theorem mbytes_ok (h : RmS w g A n c at_ l) {x k : Nat} (hr : Wr.rd (l.drop at_) = some (x, k)) (most : Int) (hm : (x : Int) ≤ most) (hfit : at_ + k + x ≤ n) :
    Calls Tryd.prog 63 #[.pointer (some ⟨g, 0, none⟩), .int .i64 most] w fun e w' => ∃ A' c', e = .returned (.tuple #[.slice A' x c', .int .i64 0]) ∧ Own w' w.heap.size 5 1 A' x c' (u8s ((l.drop (at_ + k)).take x)) ∧ RmS w' g A n c (at_ + k + x) l ∧ Fr w w' (· = g) := by
  have N := Lib.hid (fun w' (hx : Ext w w') => read_any A n c at_ l w' (h.rd.ext hx) h.byte h.small h.cap h.le)
  rw [readR_some hr] at N
  have HH := Lib.hid h
  have c0 := h.c0
  have c1 := h.c1
  have hg := h.lt
  have hcap := h.cap
  have hsm := h.small
  obtain ⟨p, hp⟩ : ∃ p, at_ + k = p := ⟨_, rfl⟩
  rw [hp] at N hfit ⊢
  obtain ⟨q, hq⟩ : ∃ q, p + x = q := ⟨_, rfl⟩
  rw [hq] at hfit ⊢
  have r1 : (p : Int) + (x : Int) = (q : Int) := by omega
  have r2 : q - p = x := by omega
  have m1 : ¬ most < (x : Int) := by omega
  have m2 : ¬ (n : Int) - (p : Int) < (x : Int) := by omega
  have p0 : (0 : Int) ≤ p := by omega
  have p1 : (p : Int) ≤ q := by omega
  have p2 : (q : Int) ≤ c := by omega
  have p3 : p ≤ q := by omega
  have p4 : q ≤ c := by omega
  have hxb : x ≤ 140737488351232 := by omega
  have RT : Rd w 1 (if c = p then A else A.map (·.add p)) x (u8s ((l.drop p).take x)) := (h.rd.u8cut (k := p) (cap := c) (by omega) hcap).u8take (k := x) (by omega)
  have HRT := Lib.hid RT
  clear h hr hp hq hm RT
  go_enter Tryd.func63, Tryd.ntmps63
  go_wp2_with fail
  have WX : Ext w w.drew := (Ext.refl w).drew
  go_region_held3 (fun w' => w'.cell? ⟨g, 0, none⟩ = some (.slice A n c) ∧ w'.cell? ⟨g, 1, none⟩ = some (.int .i64 (at_ : Int))) (go_keep) (first
    | (go_at_call 83; (with_reducible refine (N.out _ (by with_reducible assumption)).mono ?_); rintro en1 vA ⟨rfl, xA⟩; have k0 := (WX.trans xA).cell (p := ⟨g, 0, none⟩) hg; have k1 := (WX.trans xA).cell (p := ⟨g, 1, none⟩) hg; rw [c0] at k0; rw [c1] at k1))
  all_goals
    have f1 := (HH.out.ext (WX.trans xA)).fr 1
    have k0 := (WX.trans xA).cell (p := ⟨g, 0, none⟩) hg
    have k1 := (WX.trans xA).cell (p := ⟨g, 1, none⟩) hg
    rw [c0] at k0
    rw [c1] at k1
    have HX := Lib.hid (WX.trans xA)
    have HP := Lib.hid ((HH.out.ext (WX.trans xA)).put q hfit)
    clear xA WX N c0 c1
    go_wp2_with fail
    have HF := Lib.hid ((Fr.of_ext HX.out (· = g)).trans (Fr.store vA ⟨g, 1, none⟩ (.int .i64 (q : Int))) (fun _ _ h => h))
    have hz : w.heap.size ≤ (vA.setCell ⟨g, 1, none⟩ (.int .i64 (q : Int))).heap.size := by rw [World.size_setCell]; exact HX.out.size
    have hc0 := HP.out.c0
    have hc1 := HP.out.c1
    have RX := Lib.hid (fun w' (hx : Ext (vA.setCell ⟨g, 1, none⟩ (.int .i64 (q : Int))) w') => (((Rd.fr0 HF.out (l := l) HH.out.rd HH.out.ne).ext hx).u8cut (k := p) (cap := c) (by omega) hcap).u8take (k := x) (by omega))
    generalize vA.setCell ⟨g, 1, none⟩ (.int .i64 (q : Int)) = V at *
    clear k0 k1 f1
    have hgV := HP.out.lt
    have xV := (Ext.refl V).alloc (.cells #[] 5)
    have d0 := (xV.cell (p := ⟨g, 0, none⟩) hgV).trans hc0
    have d1 := (xV.cell (p := ⟨g, 1, none⟩) hgV).trans hc1
    have hown0 : Own (V.alloc (.cells #[] 5)).drew V.heap.size 5 1 (some ⟨V.heap.size, 0, none⟩) 0 0 [] := World.ownsRow_lit (size := 1) V #[] 0 (Nat.le_refl _) (by simp [maxLen]) rfl
    have hz0 : V.heap.size ≤ (V.alloc (.cells #[] 5)).drew.heap.size := by simp
    by_cases hc : c = p
    · subst hc
      have r5 : c - c = 0 := Nat.sub_self c
      have RT := RX.out _ xV.drew
      rw [if_pos rfl] at RT
      go_region_law (first
        | (refine step_app (m := x) (news := u8s ((l.drop c).take x)) eltU8 hown0 RT (u8s_one _) (by omega) (.inr ⟨by omega, by omega⟩) hz0 _ _ rfl rfl rfl rfl ?_
           intro A' c' w3 o3 g3 hA3 _
           rw [List.nil_append, Nat.zero_add] at o3
           rw [Nat.zero_add]
           have x3 : Ext V w3 := Grows.ext g3 xV.drew (fun g hg => by injection hg with hg; rw [← hg]; exact Nat.le_refl _)
           clear g3 hA3))
      all_goals
        have HO := Lib.hid (And.intro o3 x3)
        clear o3 x3
        go_wp2_with fail
        go_returns
        exact ⟨A', c', rfl, HO.out.1.base_mono hz, HP.out.ext HO.out.2, HF.out.trans (Fr.of_ext HO.out.2 (· = g)) (fun _ _ h => h)⟩
    · have RT := RX.out _ xV.drew
      rw [if_neg hc] at RT
      go_region_law (first
        | (refine step_app (m := x) (news := u8s ((l.drop p).take x)) eltU8 hown0 RT (u8s_one _) (by omega) (.inr ⟨by omega, by omega⟩) hz0 _ _ rfl rfl rfl rfl ?_
           intro A' c' w3 o3 g3 hA3 _
           rw [List.nil_append, Nat.zero_add] at o3
           rw [Nat.zero_add]
           have x3 : Ext V w3 := Grows.ext g3 xV.drew (fun g hg => by injection hg with hg; rw [← hg]; exact Nat.le_refl _)
           clear g3 hA3))
      all_goals
        have HO := Lib.hid (And.intro o3 x3)
        clear o3 x3
        go_wp2_with fail
        go_returns
        exact ⟨A', c', rfl, HO.out.1.base_mono hz, HP.out.ext HO.out.2, HF.out.trans (Fr.of_ext HO.out.2 (· = g)) (fun _ _ h => h)⟩
end
end Go.Proofs.YteflnnlihblpgaaDoor
