/-
  The document's disk in memory; check, Read, Lose, New, walked.
-/
import Derived.Test.YtchkeclhnbekkaaDoorDkRefP
import Derived.Test.YtchkeclhnbekkaaDoorDkNew
import Derived.Test.YtchkeclhnbekkaaDoorOpen
import Derived.BigRegion
namespace Go.Proofs.YtchkeclhnbekkaaDoor
set_option maxRecDepth 100000
open Go.RowKit Go.Maps
set_option linter.unusedVariables false
theorem eltB : Elt Tryd.prog 22 32 1 24 (.slice none 0 0) := ⟨Tryd.underlying22, by kernel_rfl, rfl, by omega⟩
def dvals (lb : List (Nat × Nat)) : List Value := lb.map fun p => .slice (some ⟨p.1, 0, none⟩) 64 p.2
theorem dvals_at {lb : List (Nat × Nat)} {k : Nat} {p : Nat × Nat} (h : lb[k]? = some p) : (dvals lb)[k]? = some (.slice (some ⟨p.1, 0, none⟩) 64 p.2) := by simp [dvals, h]
/-- The document's disk at block q. -/
structure RDm (w : World) (q sb nb : Nat) (AA : Option Addr) (ac : Nat) (DA : Option Addr) (dc S : Nat) (SF NW : Int → List Nat) (l : List WrV) (lb : List (Nat × Nat)) (wr : Int) (gone : Bool) : Prop where
  blk : w.heap[q]? = some (.cells #[.slice (some ⟨sb, 0, none⟩) (64 * S) (64 * S), .slice (some ⟨nb, 0, none⟩) (64 * S) (64 * S), .slice AA l.length ac, .slice DA l.length dc, .int .i64 wr, .bool gone] 53 (0, 0))
  sf : Own w 0 5 1 (some ⟨sb, 0, none⟩) (64 * S) (64 * S) (u8s (fl SF S))
  nw : Own w 0 5 1 (some ⟨nb, 0, none⟩) (64 * S) (64 * S) (u8s (fl NW S))
  at_ : Own w 0 3 1 AA l.length ac (ints (l.map (·.i)))
  da : Own w 0 32 1 DA l.length dc (dvals lb)
  el : ∀ (k : Nat) (x : WrV), l[k]? = some x → ∃ p : Nat × Nat, lb[k]? = some p ∧ Rd w 1 (some ⟨p.1, 0, none⟩) 64 (u8s x.s)
  ss : (∀ y, IsSec (SF y)) ∧ (∀ y, IsSec (NW y)) ∧ (∀ x ∈ l, IsSec x.s) ∧ ∀ x ∈ l, 0 ≤ x.i ∧ x.i < (S : Int)
  sr : 1 ≤ S ∧ S ≤ 1024
  d3 : sb ≠ nb ∧ sb ≠ q ∧ nb ≠ q
  dA : ∀ a, AA = some a → a.block ≠ q ∧ a.block ≠ sb ∧ a.block ≠ nb
  dD : ∀ a, DA = some a → a.block ≠ q ∧ a.block ≠ sb ∧ a.block ≠ nb ∧ ∀ a', AA = some a' → a'.block ≠ a.block
  dE : ∀ p ∈ lb, p.1 ≠ q ∧ p.1 ≠ sb ∧ p.1 ≠ nb ∧ (∀ a, AA = some a → a.block ≠ p.1) ∧ (∀ a, DA = some a → a.block ≠ p.1) ∧ 64 ≤ p.2
section
variable {w w' : World} {q sb nb ac dc S : Nat} {AA DA : Option Addr} {SF NW : Int → List Nat} {l : List WrV} {lb : List (Nat × Nat)} {wr : Int} {gone : Bool}
theorem RDm.fr (h : RDm w q sb nb AA ac DA dc S SF NW l lb wr gone) {P : Nat → Prop} (hf : Fr w w' P) (hq : ¬ P q) (hs : ¬ P sb) (hn : ¬ P nb) (hA : ∀ a, AA = some a → ¬ P a.block) (hD : ∀ a, DA = some a → ¬ P a.block) (hE : ∀ p ∈ lb, ¬ P p.1) : RDm w' q sb nb AA ac DA dc S SF NW l lb wr gone :=
  ⟨(hf.block q (block_lt h.blk) hq).trans h.blk, hf.own h.sf (fun a ha => by injection ha with ha; subst ha; exact hs), hf.own h.nw (fun a ha => by injection ha with ha; subst ha; exact hn), hf.own h.at_ hA, hf.own h.da hD, fun k x hx => by
    obtain ⟨p, hp, hr⟩ := h.el k x hx
    exact ⟨p, hp, hf.rd hr (fun a ha => by injection ha with ha; subst ha; exact hE p (List.mem_of_getElem? hp))⟩, h.ss, h.sr, h.d3, h.dA, h.dD, h.dE⟩
theorem RDm.ex (h : RDm w q sb nb AA ac DA dc S SF NW l lb wr gone) (hx : Ext w w') : RDm w' q sb nb AA ac DA dc S SF NW l lb wr gone := h.fr (Fr.of_ext hx (fun _ => False)) (fun h => h) (fun h => h) (fun h => h) (fun _ _ h => h) (fun _ _ h => h) (fun _ _ h => h)
theorem RDm.cells (h : RDm w q sb nb AA ac DA dc S SF NW l lb wr gone) : w.cell? ⟨q, 0, none⟩ = some (.slice (some ⟨sb, 0, none⟩) (64 * S) (64 * S)) ∧ w.cell? ⟨q, 1, none⟩ = some (.slice (some ⟨nb, 0, none⟩) (64 * S) (64 * S)) ∧ w.cell? ⟨q, 2, none⟩ = some (.slice AA l.length ac) ∧ w.cell? ⟨q, 3, none⟩ = some (.slice DA l.length dc) ∧ w.cell? ⟨q, 4, none⟩ = some (.int .i64 wr) ∧ w.cell? ⟨q, 5, none⟩ = some (.bool gone) :=
  ⟨block_cell h.blk 0, block_cell h.blk 1, block_cell h.blk 2, block_cell h.blk 3, block_cell h.blk 4, block_cell h.blk 5⟩
/-- What check answers. -/
def chkN (S : Nat) (i : Int) (gone : Bool) : Int := if gone = true then 9 else if i < 0 ∨ (S : Int) ≤ i then 1 else 0
set_option maxHeartbeats 1600000 in
theorem rcheck_any (h : RDm w q sb nb AA ac DA dc S SF NW l lb wr gone) (i : Int) :
    Calls Tryd.prog 30 #[.pointer (some ⟨q, 0, none⟩), .int .i64 i] w fun e w' => e = .returned (.int .i64 (chkN S i gone)) ∧ Ext w w' := by
  obtain ⟨c0, c1, c2, c3, c4, c5⟩ := h.cells
  have hdiv : Int.tdiv ((64 * S : Nat) : Int) 64 = (S : Int) := by
    rw [Int.tdiv_eq_ediv_of_nonneg (by omega)]
    omega
  have hsr := h.sr
  clear h
  cases gone with
  | true =>
    go_enter Tryd.func30, Tryd.ntmps30
    go_wp2_with fail
    go_returns
    exact ⟨rfl, Ext.refl w⟩
  | false =>
    obtain ⟨n64, hn64⟩ : ∃ n64, 64 * S = n64 := ⟨_, rfl⟩
    rw [hn64] at c0 hdiv
    have hnb : n64 ≤ 65536 := by omega
    clear hn64
    by_cases h1 : i < 0
    · have e : chkN S i false = 1 := by simp [chkN, h1]
      rw [e]
      clear e
      go_enter Tryd.func30, Tryd.ntmps30
      go_wp2_with fail
      go_returns
      exact ⟨rfl, Ext.refl w⟩
    · by_cases h2 : (S : Int) ≤ i
      · have e : chkN S i false = 1 := by simp [chkN, h2]
        rw [e]
        clear e
        go_enter Tryd.func30, Tryd.ntmps30
        go_wp2_with fail
        go_returns
        exact ⟨rfl, Ext.refl w⟩
      · have e : chkN S i false = 0 := by simp [chkN, h1, h2]
        rw [e]
        clear e
        go_enter Tryd.func30, Tryd.ntmps30
        go_wp2_with fail
        go_returns
        exact ⟨rfl, Ext.refl w⟩
set_option maxHeartbeats 1600000 in
theorem rread_err (h : RDm w q sb nb AA ac DA dc S SF NW l lb wr gone) (i : Int) (hi : gone = true ∨ i < 0 ∨ (S : Int) ≤ i) :
    Calls Tryd.prog 25 #[.pointer (some ⟨q, 0, none⟩), .int .i64 i] w fun e w' => e = .returned (.tuple #[.slice none 0 0, .int .i64 (chkN S i gone)]) ∧ Ext w w' := by
  have C := Lib.hid (rcheck_any h i)
  obtain ⟨k, hk, hk0⟩ : ∃ k, chkN S i gone = k ∧ (k == 0) = false := by
    unfold chkN
    by_cases e : gone = true
    · rw [if_pos e]; exact ⟨9, rfl, rfl⟩
    · rw [if_neg e, if_pos (by rcases hi with h | h; exact absurd h e; exact h)]; exact ⟨1, rfl, rfl⟩
  rw [hk] at C ⊢
  clear h hk hi
  go_enter Tryd.func25, Tryd.ntmps25
  go_wp2_with fail
  refine C.out.mono ?_
  rintro e w1 ⟨rfl, x1⟩
  have X1 := Lib.hid x1
  clear C x1
  go_wp2_with fail
  go_returns
  exact ⟨rfl, X1.out⟩
set_option maxHeartbeats 1600000 in
theorem rread_ok (h : RDm w q sb nb AA ac DA dc S SF NW l lb wr false) {i : Nat} (hi : i < S) :
    Calls Tryd.prog 25 #[.pointer (some ⟨q, 0, none⟩), .int .i64 (i : Int)] w fun e w' => ∃ rb c, e = .returned (.tuple #[.slice (some ⟨rb, 0, none⟩) 64 c, .int .i64 0]) ∧ Own w' w.heap.size 5 1 (some ⟨rb, 0, none⟩) 64 c (u8s (NW (i : Int))) ∧ Ext w w' := by
  have C := Lib.hid (rcheck_any h (i : Int))
  rw [show chkN S (i : Int) false = 0 by simp [chkN]; omega] at C
  have HD := Lib.hid h
  have hsr := h.sr
  obtain ⟨o, ho⟩ : ∃ o, 64 * i = o := ⟨_, rfl⟩
  have hoI : (64 : Int) * (i : Int) = (o : Int) := by omega
  have hoS : o + 64 ≤ 64 * S := by omega
  obtain ⟨n64, hn64⟩ : ∃ n64, 64 * S = n64 := ⟨_, rfl⟩
  have HN := Lib.hid hn64
  have HO := Lib.hid (And.intro ho hi)
  rw [hn64] at hoS
  have hnb : n64 ≤ 65536 := by omega
  clear h hn64 ho hi
  go_enter Tryd.func25, Tryd.ntmps25
  go_wp2_with fail
  refine C.out.mono ?_
  rintro e w1 ⟨rfl, x1⟩
  obtain ⟨c0, c1, c2, c3, c4, c5⟩ := (HD.out.ex x1).cells
  rw [HN.out] at c1
  have X1 := Lib.hid x1
  clear C x1 c0 c2 c3 c4 c5
  have cA := ((Ext.refl w1).alloc (.cells #[] 5)).cell (p := ⟨q, 1, none⟩) (block_lt (HD.out.ex X1.out).blk)
  rw [c1] at cA
  have XA := Lib.hid ((Ext.refl w1).alloc (.cells #[] 5))
  have z1 : ¬ ((o : Int) + 64 < (o : Int)) := by omega
  have h64 : o + 64 - o = 64 := by omega
  have RC : Rd (w1.alloc (.cells #[] 5)) 1 (some ⟨nb, o, none⟩) 64 (u8s (NW (i : Int))) := by
    have h1 := (((HD.out.ex (X1.out.trans XA.out)).nw.rd.u8off (k := o) (by rw [HN.out]; omega)).u8take (k := 64) (by rw [HN.out]; omega))
    rw [← HO.out.1, fl_chunk HD.out.ss.2.1 HO.out.2, Nat.zero_add] at h1
    rw [← HO.out.1]
    exact h1
  have HS := Lib.hid X1.out.size
  go_upto_region 4 with (fail)
  go_wp2_with (at_builtin; refine held ?_)
  rw [h64]
  refine Held.go (wp_app (m := 64) (news := u8s (NW (i : Int))) eltU8 (base := w.heap.size) (n := 0) (c := 0) (xs := []) (World.ownsRow_lit (size := 1) w1 #[] 0 HS.out (by simp [maxLen]) rfl) RC (u8s_one _) (by omega) (.inr ⟨by omega, by omega⟩) (by have := HS.out; simp; omega) _ _ rfl rfl rfl rfl ?_)
  intro A5 c5 w5 o5 g5 hA5 _
  rw [List.nil_append, Nat.zero_add] at o5
  rw [Nat.zero_add]
  have x5 : Ext w1 w5 := g5.ext XA.out (fun g hg => by injection hg with hg; rw [← hg]; exact Nat.le_refl _)
  obtain ⟨rb, rfl⟩ := o5.head (by omega)
  have H5 := Lib.hid (And.intro o5 (X1.out.trans x5))
  clear o5 g5 hA5 x5 RC cA c1
  go_wp2_with fail
  go_returns
  exact ⟨rb, c5, rfl, H5.out⟩
end
end Go.Proofs.YtchkeclhnbekkaaDoor
