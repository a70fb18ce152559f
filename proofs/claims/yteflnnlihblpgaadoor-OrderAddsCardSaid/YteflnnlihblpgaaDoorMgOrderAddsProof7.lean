/-
  Numbers read back from bytes, in plain words; calls on a writer and on a reader.
-/
import Derived.Test.YteflnnlihblpgaaDoorMgOrderAddsProof6
namespace Go.Proofs.YteflnnlihblpgaaDoor
set_option maxRecDepth 100000
open Go.RowKit
set_option linter.unusedVariables false
set_option maxHeartbeats 1600000 in
theorem rsame_any (s t : EnS) (w : World) (hs : s.Lies w) (ht : t.Lies w) (b : Bool) (hb : Hid (decide (s.e = t.e) = b)) : Calls Tryd.prog 24 #[.agg #[.int .i64 s.e.cl, .int .i64 s.e.nu, .int .i64 s.e.kd, .int .i64 s.e.id, .int .i64 s.e.sk, .int .i64 s.e.sq, .int .i64 s.e.st, .int .i64 s.e.pol, .slice s.A s.n s.c, .int .i64 s.e.at_], .agg #[.int .i64 t.e.cl, .int .i64 t.e.nu, .int .i64 t.e.kd, .int .i64 t.e.id, .int .i64 t.e.sk, .int .i64 t.e.sq, .int .i64 t.e.st, .int .i64 t.e.pol, .slice t.A t.n t.c, .int .i64 t.e.at_]] w fun x w' => x = .returned (.bool b) ∧ Ext w w' := by
  have HS := Lib.hid (And.intro hs ht)
  have X1 := (Ext.refl w).alloc (.cells #[.int .i64 s.e.cl, .int .i64 s.e.nu, .int .i64 s.e.kd, .int .i64 s.e.id, .int .i64 s.e.sk, .int .i64 s.e.sq, .int .i64 s.e.st, .int .i64 s.e.pol, .slice s.A s.n s.c, .int .i64 s.e.at_] 29)
  have X2 := X1.alloc (.cells #[.int .i64 t.e.cl, .int .i64 t.e.nu, .int .i64 t.e.kd, .int .i64 t.e.id, .int .i64 t.e.sk, .int .i64 t.e.sq, .int .i64 t.e.st, .int .i64 t.e.pol, .slice t.A t.n t.c, .int .i64 t.e.at_] 29)
  have b1 := heap_alloc_new w (.cells #[.int .i64 s.e.cl, .int .i64 s.e.nu, .int .i64 s.e.kd, .int .i64 s.e.id, .int .i64 s.e.sk, .int .i64 s.e.sq, .int .i64 s.e.st, .int .i64 s.e.pol, .slice s.A s.n s.c, .int .i64 s.e.at_] 29)
  have b2 := heap_alloc_new (w.alloc (.cells #[.int .i64 s.e.cl, .int .i64 s.e.nu, .int .i64 s.e.kd, .int .i64 s.e.id, .int .i64 s.e.sk, .int .i64 s.e.sq, .int .i64 s.e.st, .int .i64 s.e.pol, .slice s.A s.n s.c, .int .i64 s.e.at_] 29)) (.cells #[.int .i64 t.e.cl, .int .i64 t.e.nu, .int .i64 t.e.kd, .int .i64 t.e.id, .int .i64 t.e.sk, .int .i64 t.e.sq, .int .i64 t.e.st, .int .i64 t.e.pol, .slice t.A t.n t.c, .int .i64 t.e.at_] 29)
  rw [World.size_alloc] at b2
  have b3 := (((Ext.refl (w.alloc (.cells #[.int .i64 s.e.cl, .int .i64 s.e.nu, .int .i64 s.e.kd, .int .i64 s.e.id, .int .i64 s.e.sk, .int .i64 s.e.sq, .int .i64 s.e.st, .int .i64 s.e.pol, .slice s.A s.n s.c, .int .i64 s.e.at_] 29))).alloc (.cells #[.int .i64 t.e.cl, .int .i64 t.e.nu, .int .i64 t.e.kd, .int .i64 t.e.id, .int .i64 t.e.sk, .int .i64 t.e.sq, .int .i64 t.e.st, .int .i64 t.e.pol, .slice t.A t.n t.c, .int .i64 t.e.at_] 29)).block _ (block_lt b1)).trans b1
  have HV := Lib.hid (And.intro b3 (And.intro b2 X2))
  clear X1 X2 b1 b2 b3
  clear hs ht
  go_enter Tryd.func24, Tryd.ntmps24
  go_upto_region 1 with (fail)
  generalize (w.alloc (.cells #[.int .i64 s.e.cl, .int .i64 s.e.nu, .int .i64 s.e.kd, .int .i64 s.e.id, .int .i64 s.e.sk, .int .i64 s.e.sq, .int .i64 s.e.st, .int .i64 s.e.pol, .slice s.A s.n s.c, .int .i64 s.e.at_] 29)).alloc (.cells #[.int .i64 t.e.cl, .int .i64 t.e.nu, .int .i64 t.e.kd, .int .i64 t.e.id, .int .i64 t.e.sk, .int .i64 t.e.sq, .int .i64 t.e.st, .int .i64 t.e.pol, .slice t.A t.n t.c, .int .i64 t.e.at_] 29) = V at *
  generalize w.heap.size = ob at *
  have c0 : V.cell? ⟨ob, 0, none⟩ = some (.int .i64 s.e.cl) := block_cell (HV.out.1) 0
  have c1 : V.cell? ⟨ob, 1, none⟩ = some (.int .i64 s.e.nu) := block_cell (HV.out.1) 1
  have c2 : V.cell? ⟨ob, 2, none⟩ = some (.int .i64 s.e.kd) := block_cell (HV.out.1) 2
  have c3 : V.cell? ⟨ob, 3, none⟩ = some (.int .i64 s.e.id) := block_cell (HV.out.1) 3
  have c4 : V.cell? ⟨ob, 4, none⟩ = some (.int .i64 s.e.sk) := block_cell (HV.out.1) 4
  have c5 : V.cell? ⟨ob, 5, none⟩ = some (.int .i64 s.e.sq) := block_cell (HV.out.1) 5
  have c6 : V.cell? ⟨ob, 6, none⟩ = some (.int .i64 s.e.st) := block_cell (HV.out.1) 6
  have c7 : V.cell? ⟨ob, 7, none⟩ = some (.int .i64 s.e.pol) := block_cell (HV.out.1) 7
  have c8 : V.cell? ⟨ob, 8, none⟩ = some (.slice s.A s.n s.c) := block_cell (HV.out.1) 8
  have c9 : V.cell? ⟨ob, 9, none⟩ = some (.int .i64 s.e.at_) := block_cell (HV.out.1) 9
  have d0 : V.cell? ⟨ob + 1, 0, none⟩ = some (.int .i64 t.e.cl) := block_cell (HV.out.2.1) 0
  have d1 : V.cell? ⟨ob + 1, 1, none⟩ = some (.int .i64 t.e.nu) := block_cell (HV.out.2.1) 1
  have d2 : V.cell? ⟨ob + 1, 2, none⟩ = some (.int .i64 t.e.kd) := block_cell (HV.out.2.1) 2
  have d3 : V.cell? ⟨ob + 1, 3, none⟩ = some (.int .i64 t.e.id) := block_cell (HV.out.2.1) 3
  have d4 : V.cell? ⟨ob + 1, 4, none⟩ = some (.int .i64 t.e.sk) := block_cell (HV.out.2.1) 4
  have d5 : V.cell? ⟨ob + 1, 5, none⟩ = some (.int .i64 t.e.sq) := block_cell (HV.out.2.1) 5
  have d6 : V.cell? ⟨ob + 1, 6, none⟩ = some (.int .i64 t.e.st) := block_cell (HV.out.2.1) 6
  have d7 : V.cell? ⟨ob + 1, 7, none⟩ = some (.int .i64 t.e.pol) := block_cell (HV.out.2.1) 7
  have d8 : V.cell? ⟨ob + 1, 8, none⟩ = some (.slice t.A t.n t.c) := block_cell (HV.out.2.1) 8
  have d9 : V.cell? ⟨ob + 1, 9, none⟩ = some (.int .i64 t.e.at_) := block_cell (HV.out.2.1) 9
  by_cases hcl : s.e.cl = t.e.cl
  rotate_left 1
  · have ncl : (s.e.cl == t.e.cl) = false := by simpa using hcl
    obtain rfl : b = false := by rw [← hb.out]; exact decide_eq_false (fun h => hcl ((en_eq _ _).1 h).1)
    clear hcl
    go_wp2_with fail
    go_returns
    exact ⟨rfl, HV.out.2.2⟩
  have ncl : (s.e.cl == t.e.cl) = true := by simpa using hcl
  have Hcl := Lib.hid hcl
  clear hcl
  by_cases hnu : s.e.nu = t.e.nu
  rotate_left 1
  · have nnu : (s.e.nu == t.e.nu) = false := by simpa using hnu
    obtain rfl : b = false := by rw [← hb.out]; exact decide_eq_false (fun h => hnu ((en_eq _ _).1 h).2.1)
    clear hnu
    go_wp2_with fail
    go_returns
    exact ⟨rfl, HV.out.2.2⟩
  have nnu : (s.e.nu == t.e.nu) = true := by simpa using hnu
  have Hnu := Lib.hid hnu
  clear hnu
  have CO := Lib.hid (sameorder_any s t V (HS.out.1.ext HV.out.2.2) (HS.out.2.ext HV.out.2.2) b (Lib.hid (by
    rw [← hb.out]
    exact decide_eq_decide.2 ⟨fun h => (en_eq _ _).2 ⟨Hcl.out, Hnu.out, h⟩, fun h => ((en_eq _ _).1 h).2.2⟩)))
  go_wp2_with (go_at_call 51; refine CO.out.mono ?_; rintro x w1 ⟨rfl, x1⟩)
  go_returns
  exact ⟨rfl, HV.out.2.2.trans x1⟩
set_option maxHeartbeats 1600000 in
theorem rsameledger_any (A : Option Addr) (n c : Nat) (ss : List EnS) (B : Option Addr) (m d : Nat) (tt : List EnS) (w : World) (hs : Led w A n ss) (ht : Led w B m tt) (hn : n ≤ 2000000000000 ∧ m ≤ 2000000000000) (b : Bool) (hb : Hid (decide (ents ss = ents tt) = b)) : Calls Tryd.prog 16 #[.slice A n c, .slice B m d] w fun x w' => x = .returned (.bool b) ∧ Ext w w' := by
  have hsl := hs.len
  have htl := ht.len
  have HR := Lib.hid (And.intro hs ht)
  clear hs ht
  by_cases hnm : n = m
  rotate_left 1
  · have nn : ((n : Int) != (m : Int)) = true := by simp; omega
    obtain rfl : b = false := by rw [← hb.out]; exact decide_eq_false (fun h => hnm (by have := congrArg List.length h; rw [ents_len, ents_len] at this; omega))
    clear hnm
    go_enter Tryd.func16, Tryd.ntmps16
    go_wp2_with fail
    go_returns
    exact ⟨rfl, Ext.refl w⟩
  have nn : ((n : Int) != (m : Int)) = false := by simp; omega
  have hst : n ≤ m ∧ m ≤ n := by omega
  clear hnm
  go_enter Tryd.func16, Tryd.ntmps16
  go_upto_region 4 with (fail)
  clear nn
  go_loopw [5, 13] (fun _ v13 wr => ∃ k : Nat, v13 = .int .i64 (k : Int) ∧ k ≤ n ∧ Hid (Ext w wr ∧ ∀ j, j < k → (ents ss)[j]? = (ents tt)[j]?)) (fun _ v13 _ => n - (intOf v13).toNat)
  case atStart => exact ⟨0, rfl, by omega, Ext.refl w, fun j hj => by omega⟩
  case round =>
    obtain ⟨k, rfl, hk, HI⟩ := hrel
    by_cases hlt : k < n
    · obtain ⟨x, hx⟩ : ∃ x, ss[k]? = some x := ⟨ss[k]'(by omega), List.getElem?_eq_getElem _⟩
      obtain ⟨y, hy⟩ : ∃ y, tt[k]? = some y := ⟨tt[k]'(by omega), List.getElem?_eq_getElem _⟩
      obtain ⟨k10, hk10⟩ : ∃ k10, k * 10 = k10 := ⟨_, rfl⟩
      obtain ⟨ad, rfl, y0, y1, y2, y3, y4, y5, y6, y7, y8, y9⟩ := (HR.out.1.ext HI.out.1).entry hx hk10
      obtain ⟨ae, rfl, z0, z1, z2, z3, z4, z5, z6, z7, z8, z9⟩ := (HR.out.2.ext HI.out.1).entry hy hk10
      have k0 : (0 : Int) ≤ k := by omega
      have k1 : (k : Int) < n := by omega
      have k2 : (k : Int) < m := by omega
      have HX := Lib.hid (And.intro hx hy)
      obtain ⟨bb, hbb⟩ : ∃ bb, decide (x.e = y.e) = bb := ⟨_, rfl⟩
      have HBB := Lib.hid hbb
      have CS := Lib.hid (rsame_any x y wr.drew ((HR.out.1.all x (List.mem_of_getElem? hx)).ext HI.out.1.drew) ((HR.out.2.all y (List.mem_of_getElem? hy)).ext HI.out.1.drew) bb HBB)
      clear hx hy hbb
      go_upto_region 6 with (fail)
      go_still_tail 8, (by kernel_rfl)
      change wpList _ _ _ _ _ wr.drew
      have HI2 := Lib.hid HI.out.1.drew
      generalize wr.drew = wd at *
      clear y0 y1 y2 y3 y4 y5 y6 y7 y8 y9 z0 z1 z2 z3 z4 z5 z6 z7 z8 z9
      cases bb with
      | true =>
        go_wp2_with (go_at_call 24; refine CS.out.mono ?_; rintro e w1 ⟨rfl, x1⟩)
        have H1 := Lib.hid (HI2.out.trans x1)
        clear CS x1
        go_roundw
        case rel => exact ⟨k + 1, by go_num, by omega, H1.out, fun j hj => by
          by_cases e : j = k
          · rw [e, ents_at HX.out.1, ents_at HX.out.2, of_decide_eq_true HBB.out]
          · exact HI.out.2 j (by omega)⟩
        case measure => simp [intOf]; omega
      | false =>
        obtain rfl : b = false := by
          rw [← hb.out]
          exact decide_eq_false (fun h => of_decide_eq_false HBB.out (by have := ents_at HX.out.1; rw [h, ents_at HX.out.2] at this; injection this with this; exact this.symm))
        go_wp2_with (go_at_call 24; refine CS.out.mono ?_; rintro e w1 ⟨rfl, x1⟩)
        go_returns
        exact ⟨rfl, HI2.out.trans x1⟩
    · have e : b = true := by
        rw [← hb.out]
        exact decide_eq_true (List.ext_getElem? fun j => by
          rcases Nat.lt_or_ge j k with h | h
          · exact HI.out.2 j h
          · rw [List.getElem?_eq_none (by rw [ents_len]; omega), List.getElem?_eq_none (by rw [ents_len]; omega)])
      subst e
      go_wp2_with fail
      go_returns
      exact ⟨rfl, HI.out.1⟩
end Go.Proofs.YteflnnlihblpgaaDoor
namespace Go.Proofs.YteflnnlihblpgaaDoor.Wr
/-- One step after the other: what is left of the nine, the bytes, the number so far, how many bytes it has. -/
def rdF : Nat → List Nat → Nat → Nat → Option (Nat × Nat)
  | 0, _, _, _ => none
  | _ + 1, [], _, _ => none
  | f + 1, c :: l, n, i => if c < 128 then (if c ≠ 0 ∨ i = 0 then some (n + c * 128 ^ i, i + 1) else none) else rdF f l (n + (c - 128) * 128 ^ i) (i + 1)
/-- The number that bytes begin with, and how many bytes it has. -/
def rd (l : List Nat) : Option (Nat × Nat) := rdF 9 l 0 0
theorem rdF_num : ∀ (y f n i : Nat) (r : List Nat), 0 < f → y < 128 ^ f → (y ≠ 0 ∨ i = 0) → rdF f (num y ++ r) n i = some (n + y * 128 ^ i, i + (num y).length) := by
  intro y
  induction y using Nat.strongRecOn with
  | _ y ih =>
    intro f n i r hf hy h0
    obtain ⟨f, rfl⟩ : ∃ g, f = g + 1 := ⟨f - 1, by omega⟩
    by_cases h : y < 128
    · rw [num_small h, List.singleton_append, rdF, if_pos h, if_pos h0]
      rfl
    · rw [num_big h, List.cons_append, rdF, if_neg (by omega)]
      have hy2 : y / 128 < 128 ^ f := by rw [Nat.pow_succ] at hy; omega
      have hf2 : 0 < f := by
        rcases Nat.eq_zero_or_pos f with h1 | h1
        · subst h1; simp at hy2; omega
        · exact h1
      rw [ih (y / 128) (by omega) f _ _ r hf2 hy2 (by omega), List.length_cons]
      have e1 : y % 128 + 128 - 128 = y % 128 := by omega
      have e2 : y = 128 * (y / 128) + y % 128 := by omega
      rw [e1]
      clear ih hy hf h0 h hy2 hf2
      obtain ⟨a, ha⟩ : ∃ a, y / 128 = a := ⟨_, rfl⟩
      obtain ⟨b, hb⟩ : ∃ b, y % 128 = b := ⟨_, rfl⟩
      rw [ha, hb] at e2 ⊢
      have e4 : n + b * 128 ^ i + a * 128 ^ (i + 1) = n + y * 128 ^ i := by
        rw [Nat.pow_succ, e2]
        generalize 128 ^ i = P
        have e3 : a * (P * 128) = 128 * (a * P) := by rw [← Nat.mul_assoc, Nat.mul_comm]
        rw [e3, Nat.add_mul, Nat.mul_assoc]
        generalize a * P = u
        generalize b * P = v
        omega
      rw [e4, Nat.add_assoc i 1, Nat.add_comm 1]
theorem rdF_part : ∀ (y f n i : Nat) (p q : List Nat), p ++ q = num y → q ≠ [] → rdF f p n i = none := by
  intro y
  induction y using Nat.strongRecOn with
  | _ y ih =>
    intro f n i p q h hq
    cases f with
    | zero => rw [rdF]
    | succ f =>
      cases p with
      | nil => rw [rdF]
      | cons c p =>
        by_cases h1 : y < 128
        · rw [num_small h1] at h
          simp at h
          exact absurd h.2.2 hq
        · rw [num_big h1] at h
          simp only [List.cons_append, List.cons.injEq] at h
          obtain ⟨rfl, h⟩ := h
          rw [rdF, if_neg (by omega)]
          exact ih (y / 128) (by omega) f _ _ p q h hq
theorem rd_num (y : Nat) (r : List Nat) (hy : y ≤ 9223372036854775807) : rd (num y ++ r) = some (y, (num y).length) := by
  unfold rd
  rw [rdF_num y 9 0 0 r (by omega) (by rw [show (128 : Nat) ^ 9 = 9223372036854775808 by decide]; omega) (.inr rfl)]
  simp
theorem rd_part {y : Nat} {p q : List Nat} (h : p ++ q = num y) (hq : q ≠ []) : rd p = none := rdF_part y 9 0 0 p q h hq
theorem rdF_count : ∀ (f : Nat) (l : List Nat) (n i x k : Nat), rdF f l n i = some (x, k) → i < k ∧ k ≤ i + l.length := by
  intro f
  induction f with
  | zero => intro l n i x k h; rw [rdF] at h; cases h
  | succ f ih =>
    intro l n i x k h
    cases l with
    | nil => rw [rdF] at h; cases h
    | cons c l =>
      rw [rdF] at h
      split at h
      · split at h
        · simp only [Option.some.injEq, Prod.mk.injEq] at h
          simp only [List.length_cons]
          omega
        · cases h
      · have := ih l _ _ x k h
        simp only [List.length_cons]
        omega
theorem rd_count {l : List Nat} {x k : Nat} (h : rd l = some (x, k)) : 0 < k ∧ k ≤ l.length := by
  have := rdF_count 9 l 0 0 x k h
  omega
theorem rdF_lt : ∀ (f : Nat) (l : List Nat) (n i x k : Nat), (∀ c ∈ l, c < 256) → n < 128 ^ i → rdF f l n i = some (x, k) → x < 128 ^ (i + f) := by
  intro f
  induction f with
  | zero => intro l n i x k _ _ h; rw [rdF] at h; cases h
  | succ f ih =>
    intro l n i x k hl hn h
    cases l with
    | nil => rw [rdF] at h; cases h
    | cons c l =>
      have hc := hl c (by simp)
      rw [rdF] at h
      split at h
      · split at h
        · simp only [Option.some.injEq, Prod.mk.injEq] at h
          obtain ⟨rfl, rfl⟩ := h
          have h1 : c * 128 ^ i ≤ 127 * 128 ^ i := Nat.mul_le_mul_right _ (by omega)
          have h2 : 128 ^ (i + 1) ≤ 128 ^ (i + (f + 1)) := Nat.pow_le_pow_right (by decide) (by omega)
          rw [Nat.pow_succ] at h2
          omega
        · cases h
      · have h1 : (c - 128) * 128 ^ i ≤ 127 * 128 ^ i := Nat.mul_le_mul_right _ (by omega)
        have := ih l _ (i + 1) x k (fun y hy => hl y (by simp [hy])) (by rw [Nat.pow_succ]; omega) h
        rwa [show i + (f + 1) = i + 1 + f by omega]
theorem rd_lt {l : List Nat} {x k : Nat} (hl : ∀ c ∈ l, c < 256) (h : rd l = some (x, k)) : x ≤ 9223372036854775807 := by
  have := rdF_lt 9 l 0 0 x k hl (by simp) h
  rw [show (128 : Nat) ^ (0 + 9) = 9223372036854775808 by decide] at this
  omega
/-- A call: a number, a list of bytes, nothing. -/
inductive Opd where
  | num (x : Nat)
  | bytes (l : List Nat)
  | nop
def Opd.enc : Opd → List Nat
  | .num x => Wr.num x
  | .bytes l => Wr.num l.length ++ l
  | .nop => []
def encAll : List Opd → List Nat
  | [] => []
  | o :: os => o.enc ++ encAll os
theorem encAll_snoc (os : List Opd) (o : Opd) : encAll (os ++ [o]) = encAll os ++ o.enc := by
  induction os with
  | nil => simp [encAll]
  | cons x os ih => simp only [List.cons_append, encAll, ih, List.append_assoc]
/-- One call read back: what is left, if it comes. -/
def read1 : Opd → List Nat → Option (List Nat)
  | .num x, l => match rd l with
    | some (y, k) => if y = x then some (l.drop k) else none
    | none => none
  | .bytes b, l => match rd l with
    | some (y, k) => if y ≤ b.length ∧ y ≤ (l.drop k).length ∧ (l.drop k).take y = b then some ((l.drop k).drop y) else none
    | none => none
  | .nop, l => some l
def readAll : List Opd → List Nat → Option (List Nat)
  | [], l => some l
  | o :: os, l => match read1 o l with
    | some l' => readAll os l'
    | none => none
def Opd.ok : Opd → Prop
  | .num x => x ≤ 9223372036854775807
  | .bytes l => l.length ≤ 9223372036854775807
  | .nop => True
theorem read1_enc (o : Opd) (r : List Nat) (ho : o.ok) : read1 o (o.enc ++ r) = some r := by
  cases o with
  | num x =>
    show (match rd (Wr.num x ++ r) with | some (y, k) => if y = x then some ((Wr.num x ++ r).drop k) else none | none => none) = some r
    rw [rd_num x r ho]
    simp
  | bytes l =>
    show (match rd (Wr.num l.length ++ l ++ r) with | some (y, k) => if y ≤ l.length ∧ y ≤ ((Wr.num l.length ++ l ++ r).drop k).length ∧ ((Wr.num l.length ++ l ++ r).drop k).take y = l then some (((Wr.num l.length ++ l ++ r).drop k).drop y) else none | none => none) = some r
    rw [List.append_assoc, rd_num l.length (l ++ r) ho]
    simp
  | nop => rfl
theorem readAll_enc : ∀ (os : List Opd) (r : List Nat), (∀ o ∈ os, o.ok) → readAll os (encAll os ++ r) = some r := by
  intro os
  induction os with
  | nil => intro r _; rfl
  | cons o os ih =>
    intro r ho
    rw [encAll, List.append_assoc, readAll, read1_enc o _ (ho o (by simp))]
    exact ih r fun x hx => ho x (by simp [hx])
theorem read1_part (o : Opd) (p q : List Nat) (ho : o.ok) (h : p ++ q = o.enc) (hq : q ≠ []) : read1 o p = none := by
  cases o with
  | num x =>
    show (match rd p with | some (y, k) => if y = x then some (p.drop k) else none | none => none) = none
    rw [rd_part h hq]
  | bytes l =>
    show (match rd p with | some (y, k) => if y ≤ l.length ∧ y ≤ (p.drop k).length ∧ (p.drop k).take y = l then some ((p.drop k).drop y) else none | none => none) = none
    have h : p ++ q = Wr.num l.length ++ l := h
    by_cases hp : p.length < (Wr.num l.length).length
    · have e1 : p ++ q.take ((Wr.num l.length).length - p.length) = Wr.num l.length := by
        have h1 := congrArg (List.take (Wr.num l.length).length) h
        rw [List.take_left' rfl, List.take_append, List.take_of_length_le (by omega)] at h1
        exact h1
      have hlq : p.length + q.length = (Wr.num l.length).length + l.length := by have := congrArg List.length h; simpa using this
      rw [rd_part e1 (by
        intro h0
        have h1 := congrArg List.length h0
        rw [List.length_take, List.length_nil] at h1
        have : q ≠ [] := hq
        have h2 : q.length ≠ 0 := fun h => this (List.eq_nil_of_length_eq_zero h)
        omega)]
    · obtain ⟨p', rfl⟩ : ∃ p', p = Wr.num l.length ++ p' := by
        refine ⟨p.drop (Wr.num l.length).length, ?_⟩
        have h1 := congrArg (List.take (Wr.num l.length).length) h
        rw [List.take_append_of_le_length (by omega), List.take_left' rfl] at h1
        conv => lhs; rw [← List.take_append_drop (Wr.num l.length).length p]
        rw [h1]
      rw [List.append_assoc, List.append_cancel_left_eq] at h
      rw [rd_num l.length p' ho]
      simp only [List.drop_left']
      rw [if_neg]
      intro h1
      have h2 := congrArg List.length h
      simp only [List.length_append] at h2
      have h3 : q.length ≠ 0 := fun h => hq (List.eq_nil_of_length_eq_zero h)
      omega
  | nop =>
    have h : p ++ q = [] := h
    simp at h
    exact absurd h.2 hq
theorem readAll_part : ∀ (os : List Opd) (p q : List Nat), (∀ o ∈ os, o.ok) → p ++ q = encAll os → q ≠ [] → readAll os p = none := by
  intro os
  induction os with
  | nil =>
    intro p q _ h hq
    simp only [encAll, List.append_eq_nil_iff] at h
    exact absurd h.2 hq
  | cons o os ih =>
    intro p q ho h hq
    rw [encAll] at h
    by_cases hp : p.length < o.enc.length
    · have e1 : p ++ q.take (o.enc.length - p.length) = o.enc := by
        have h1 := congrArg (List.take o.enc.length) h
        rw [List.take_left' rfl, List.take_append, List.take_of_length_le (by omega)] at h1
        exact h1
      rw [readAll, read1_part o p _ (ho o (by simp)) e1 (by
        intro h0
        have h1 := congrArg List.length h0
        rw [List.length_take, List.length_nil] at h1
        have h2 : q.length ≠ 0 := fun h => hq (List.eq_nil_of_length_eq_zero h)
        omega)]
    · obtain ⟨p', rfl⟩ : ∃ p', p = o.enc ++ p' := by
        refine ⟨p.drop o.enc.length, ?_⟩
        have h1 := congrArg (List.take o.enc.length) h
        rw [List.take_append_of_le_length (by omega), List.take_left' rfl] at h1
        conv => lhs; rw [← List.take_append_drop o.enc.length p]
        rw [h1]
      rw [List.append_assoc, List.append_cancel_left_eq] at h
      rw [readAll, read1_enc o p' (ho o (by simp))]
      exact ih p' q (fun x hx => ho x (by simp [hx])) h hq
end Go.Proofs.YteflnnlihblpgaaDoor.Wr
