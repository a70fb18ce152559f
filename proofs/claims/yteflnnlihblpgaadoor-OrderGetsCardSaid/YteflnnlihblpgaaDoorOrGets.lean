/-
  Package almonerlaw09: OrderGets, walked.
-/
import Derived.Test.YteflnnlihblpgaaDoorOrForms
import Derived.Test.YteflnnlihblpgaaDoorOrReadL
import Derived.Test.YteflnnlihblpgaaDoorOrRRead
import Derived.Test.YteflnnlihblpgaaDoorOrWrite
import Derived.Test.YteflnnlihblpgaaDoorBytes
namespace Go.Proofs.YteflnnlihblpgaaDoor
set_option maxRecDepth 100000
open Go.RowKit
set_option linter.unusedVariables false
/-- The texts of a slice of bytes, in every world behind. -/
theorem strs {w : World} {A : Option Addr} {n : Nat} {l : List Nat} (d : Nat) (h : Rd w 1 A n (u8s l)) (W : World) (hx : Ext w W) : (convert 54 9 (.slice A n d)).run Tryd.prog W = .ok (.string (str l)) W :=
  run_str Tryd.underlying54 Tryd.underlying5 Tryd.underlying9 d (h.ext hx)
/-- The entry of nothing. -/
def nulE : En := { cl := 0, nu := 0, kd := 0, id := 0, sk := 0, sq := 0, st := 0, pol := 0, ts := [], at_ := 0 }
/-- What a Get answers: the entry and its second value. -/
def Got (l : List Nat) (f : Bool) (s : EnS) : Prop := (f = true ∧ s.e.form = true ∧ l = s.e.put) ∨ (f = false ∧ (∀ e : En, e.form = true → l ≠ e.put) ∧ s.e = nulE)
theorem got_of {l : List Nat} {base : Nat} {bad good : Value} {x : Ending} {w' : World} (h : GetOut l base bad good x w') : ∃ (s : EnS) (f : Bool) (v : Value), x = .returned (.tuple #[.agg #[.int .i64 s.e.cl, .int .i64 s.e.nu, .int .i64 s.e.kd, .int .i64 s.e.id, .int .i64 s.e.sk, .int .i64 s.e.sq, .int .i64 s.e.st, .int .i64 s.e.pol, .slice s.A s.n s.c, .int .i64 s.e.at_], v]) ∧ s.Lies w' ∧ Got l f s ∧ Hid (v = bif f then good else bad) := by
  rcases h with ⟨s, h1, h2, h3, h4, _⟩ | ⟨h1, h2⟩
  · exact ⟨s, true, good, h3, h4, .inl ⟨rfl, h1, h2⟩, Lib.hid rfl⟩
  · exact ⟨⟨nulE, none, 0, 0⟩, false, bad, h2, ⟨Rd.nil_, by show 0 ≤ _; omega, Nat.le_refl _⟩, .inr ⟨rfl, h1, rfl⟩, Lib.hid rfl⟩
theorem Got.same {l : List Nat} {f g : Bool} {s t : EnS} (h : Got l f s) (k : Got l g t) : f = g ∧ s.e = t.e := by
  rcases h with ⟨rfl, h1, h2⟩ | ⟨rfl, h1, h2⟩ <;> rcases k with ⟨rfl, k1, k2⟩ | ⟨rfl, k1, k2⟩
  · exact ⟨rfl, put_inj h1 k1 (h2.symm.trans k2)⟩
  · exact absurd h2 (k1 _ h1)
  · exact absurd k2 (h1 _ k1)
  · exact ⟨rfl, h2.trans k2.symm⟩
/-- What a Read answers: the ledger and its second value. -/
def GotL (l : List Nat) (f : Bool) (ss : List EnS) : Prop := (f = true ∧ GoodL (ents ss) ∧ l = putL (ents ss)) ∨ (f = false ∧ (∀ fs, GoodL fs → l ≠ putL fs) ∧ ss = [])
theorem gotL_of {l : List Nat} {base : Nat} {bad good : Value} {x : Ending} {w' : World} (h : ReadOut l base bad good x w') : ∃ (ss : List EnS) (B : Option Addr) (n d : Nat) (f : Bool) (v : Value), x = .returned (.tuple #[.slice B n d, v]) ∧ Led w' B n ss ∧ n ≤ 64 ∧ GotL l f ss ∧ Hid (v = bif f then good else bad) := by
  rcases h with ⟨ss, B, n, d, h1, h2, h3, h4, h5⟩ | ⟨h1, h2⟩
  · exact ⟨ss, B, n, d, true, good, h4, h5.led, by have := h2.1; rw [ents_len, h1] at this; exact this, .inl ⟨rfl, h2, h3⟩, Lib.hid rfl⟩
  · exact ⟨[], none, 0, 0, false, bad, h2, OLed.nil_.led (base := 0), by omega, .inr ⟨rfl, h1, rfl⟩, Lib.hid rfl⟩
theorem GotL.same {l : List Nat} {f g : Bool} {s t : List EnS} (h : GotL l f s) (k : GotL l g t) : f = g ∧ ents s = ents t := by
  rcases h with ⟨rfl, h1, h2⟩ | ⟨rfl, h1, h2⟩ <;> rcases k with ⟨rfl, k1, k2⟩ | ⟨rfl, k1, k2⟩
  · exact ⟨rfl, putL_inj h1 k1 (h2.symm.trans k2)⟩
  · exact absurd h2 (k1 _ h1)
  · exact absurd k2 (h1 _ k1)
  · exact ⟨rfl, by rw [h2, k2]⟩
/-- What a Put answers to what was got. -/
theorem put_got {w : World} {l : List Nat} {s : EnS} (hs : s.Lies w) (h : Got l true s) : Calls Tryd.prog 26 #[.agg #[.int .i64 s.e.cl, .int .i64 s.e.nu, .int .i64 s.e.kd, .int .i64 s.e.id, .int .i64 s.e.sk, .int .i64 s.e.sq, .int .i64 s.e.st, .int .i64 s.e.pol, .slice s.A s.n s.c, .int .i64 s.e.at_]] w fun x w' => ∃ B m d, x = .returned (.tuple #[.slice B m d, .nilIface]) ∧ Own w' w.heap.size 5 1 B m d (u8s l) ∧ Ext w w' := by
  rcases h with ⟨_, h1, h2⟩ | ⟨h1, _⟩
  · rw [h2]
    exact put_ok hs.rd h1
  · cases h1
theorem write_got {w : World} {l : List Nat} {ss : List EnS} {B : Option Addr} {n d : Nat} (hs : Led w B n ss) (hn : n ≤ 64) (h : GotL l true ss) : Calls Tryd.prog 35 #[.slice B n d] w fun x w' => ∃ B m d, x = .returned (.tuple #[.slice B m d, .nilIface]) ∧ Own w' w.heap.size 5 1 B m d (u8s l) ∧ Ext w w' := by
  rcases h with ⟨_, h1, h2⟩ | ⟨h1, _⟩
  · rw [h2]
    exact write_ok B n d ss w hs hn h1.2
  · cases h1
set_option maxHeartbeats 6400000 in
theorem gets_any (A : Option Addr) (n c : Nat) (l : List Nat) (w : World) (hr : Rd w 1 A n (u8s l)) (hl : ∀ x ∈ l, x < 256) (hn : n ≤ 140737488351232) (hnc : n ≤ c) {pb ps : Addr} (hB : Sen w 2 pb) (hS : Sen w 1 ps) : Calls Tryd.prog 6 #[.slice A n c] w fun x w' => x = .returned (.bool true) ∧ Ext w w' := by
  have HS := Lib.hid (fun W (hx : Ext w W) => And.intro (hr.ext hx) (And.intro (hB.ext hx) (hS.ext hx)))
  have HLB := Lib.hid hl
  have CA := Lib.hid (alive_any w)
  clear hB hS hr hl
  go_enter Tryd.func6, Tryd.ntmps6
  go_upto_region 3 with (go_at_call 12; refine CA.out.mono ?_; rintro x w1 ⟨rfl, x1⟩)
  have CB := Lib.hid (bytes_any A n c l w1 hn (HS.out w1 x1).1)
  go_upto_region 4 with (go_at_call 30; refine CB.out.mono ?_; rintro x w2 ⟨rfl, r2, x2⟩)
  have X2 := x1.trans x2
  have HR2 := Lib.hid r2
  have HX2 := Lib.hid X2
  have CG := Lib.hid (get_any (some ⟨w1.heap.size, 0, none⟩) n (n + 6) l w2 r2.unmark HLB.out hn (HS.out w2 X2).2.1 (HS.out w2 X2).2.2)
  clear r2 x1 x2 X2 CA CB
  generalize w1.heap.size = ib at *
  go_upto_region 5 with (go_at_call 28; refine CG.out.mono ?_; rintro x w3 ⟨hq3, x3⟩; obtain ⟨s, f, v, rfl, hs3, hg3, hv⟩ := got_of hq3; clear hq3)
  have HG := Lib.hid (And.intro hg3 hv.out)
  have B3 := heap_alloc_new w3 (.cells #[.int .i64 s.e.cl, .int .i64 s.e.nu, .int .i64 s.e.kd, .int .i64 s.e.id, .int .i64 s.e.sk, .int .i64 s.e.sq, .int .i64 s.e.st, .int .i64 s.e.pol, .slice s.A s.n s.c, .int .i64 s.e.at_] 29)
  have X3 := (Ext.refl w3).alloc (.cells #[.int .i64 s.e.cl, .int .i64 s.e.nu, .int .i64 s.e.kd, .int .i64 s.e.id, .int .i64 s.e.sk, .int .i64 s.e.sq, .int .i64 s.e.st, .int .i64 s.e.pol, .slice s.A s.n s.c, .int .i64 s.e.at_] 29)
  have H3 := Lib.hid (And.intro B3 (And.intro (hs3.ext X3) (x3.trans X3)))
  clear hs3 hg3 hv x3 B3 X3 CG
  generalize w3.alloc (.cells #[.int .i64 s.e.cl, .int .i64 s.e.nu, .int .i64 s.e.kd, .int .i64 s.e.id, .int .i64 s.e.sk, .int .i64 s.e.sq, .int .i64 s.e.st, .int .i64 s.e.pol, .slice s.A s.n s.c, .int .i64 s.e.at_] 29) = V3 at *
  generalize w3.heap.size = sb at *
  have CR := Lib.hid (rget_any A n c l V3 (HS.out V3 (HX2.out.trans H3.out.2.2)).1 HLB.out hn hnc)
  go_upto_region 6 with (go_at_call 31; refine CR.out.mono ?_; rintro x w4 ⟨hq4, x4⟩; obtain ⟨t, f', v', rfl, ht4, hg4, hv4⟩ := got_of hq4; clear hq4)
  obtain ⟨hff, hse⟩ := HG.out.1.same hg4
  have HT := Lib.hid (And.intro hse (hv4.out.trans (by rw [← hff])))
  have B4 := heap_alloc_new w4 (.cells #[.int .i64 t.e.cl, .int .i64 t.e.nu, .int .i64 t.e.kd, .int .i64 t.e.id, .int .i64 t.e.sk, .int .i64 t.e.sq, .int .i64 t.e.st, .int .i64 t.e.pol, .slice t.A t.n t.c, .int .i64 t.e.at_] 29)
  have X4 := (Ext.refl w4).alloc (.cells #[.int .i64 t.e.cl, .int .i64 t.e.nu, .int .i64 t.e.kd, .int .i64 t.e.id, .int .i64 t.e.sk, .int .i64 t.e.sq, .int .i64 t.e.st, .int .i64 t.e.pol, .slice t.A t.n t.c, .int .i64 t.e.at_] 29)
  have H4 := Lib.hid (And.intro B4 (And.intro (ht4.ext X4) (x4.trans X4)))
  clear ht4 hg4 hv4 x4 B4 X4 CR hff hse
  generalize w4.alloc (.cells #[.int .i64 t.e.cl, .int .i64 t.e.nu, .int .i64 t.e.kd, .int .i64 t.e.id, .int .i64 t.e.sk, .int .i64 t.e.sq, .int .i64 t.e.st, .int .i64 t.e.pol, .slice t.A t.n t.c, .int .i64 t.e.at_] 29) = V4 at *
  generalize w4.heap.size = tb at *
  have X4 : Hid (Ext w V4) := Lib.hid (HX2.out.trans (H3.out.2.2.trans H4.out.2.2))
  have CR := Lib.hid (readl_any (some ⟨ib, 0, none⟩) n (n + 6) l V4 (HR2.out.unmark.ext (H3.out.2.2.trans H4.out.2.2)) HLB.out hn (HS.out V4 X4.out).2.1 (HS.out V4 X4.out).2.2)
  go_upto_region 7 with (go_at_call 32; refine CR.out.mono ?_; rintro x w5 ⟨hq5, x5⟩; obtain ⟨ss, B5, n5, d5, f5, v5, rfl, hl5, hn5, hg5, hv5⟩ := gotL_of hq5; clear hq5)
  have HGL := Lib.hid (And.intro hg5 (And.intro hv5.out (And.intro hl5 (And.intro hn5 x5))))
  have CR := Lib.hid (rread_any A n c l w5 (HS.out w5 (X4.out.trans x5)).1 HLB.out hn hnc)
  clear hg5 hv5 hl5 hn5 x5
  go_upto_region 8 with (go_at_call 33; refine CR.out.mono ?_; rintro x w6 ⟨hq6, x6⟩; obtain ⟨tt, B6, n6, d6, f6, v6, rfl, hl6, hn6, hg6, hv6⟩ := gotL_of hq6; clear hq6)
  obtain ⟨hff, hse⟩ := HGL.out.1.same hg6
  have XV4 := Lib.hid (HGL.out.2.2.2.2.trans x6)
  have HTL := Lib.hid (And.intro hse (And.intro (hv6.out.trans (by rw [← hff])) (And.intro hl6 hn6)))
  have HL6 := Lib.hid (HGL.out.2.2.1.ext x6)
  clear hg6 hv6 hl6 hn6 x6 hff hse CR
  have y0 : ∀ W, Ext V4 W → W.cell? ⟨sb, 0, none⟩ = some (.int .i64 s.e.cl) := fun W hx => block_cell ((hx.block _ (block_lt ((H4.out.2.2.block _ (block_lt H3.out.1)).trans H3.out.1))).trans ((H4.out.2.2.block _ (block_lt H3.out.1)).trans H3.out.1)) 0
  have y1 : ∀ W, Ext V4 W → W.cell? ⟨sb, 1, none⟩ = some (.int .i64 s.e.nu) := fun W hx => block_cell ((hx.block _ (block_lt ((H4.out.2.2.block _ (block_lt H3.out.1)).trans H3.out.1))).trans ((H4.out.2.2.block _ (block_lt H3.out.1)).trans H3.out.1)) 1
  have y2 : ∀ W, Ext V4 W → W.cell? ⟨sb, 2, none⟩ = some (.int .i64 s.e.kd) := fun W hx => block_cell ((hx.block _ (block_lt ((H4.out.2.2.block _ (block_lt H3.out.1)).trans H3.out.1))).trans ((H4.out.2.2.block _ (block_lt H3.out.1)).trans H3.out.1)) 2
  have y3 : ∀ W, Ext V4 W → W.cell? ⟨sb, 3, none⟩ = some (.int .i64 s.e.id) := fun W hx => block_cell ((hx.block _ (block_lt ((H4.out.2.2.block _ (block_lt H3.out.1)).trans H3.out.1))).trans ((H4.out.2.2.block _ (block_lt H3.out.1)).trans H3.out.1)) 3
  have y4 : ∀ W, Ext V4 W → W.cell? ⟨sb, 4, none⟩ = some (.int .i64 s.e.sk) := fun W hx => block_cell ((hx.block _ (block_lt ((H4.out.2.2.block _ (block_lt H3.out.1)).trans H3.out.1))).trans ((H4.out.2.2.block _ (block_lt H3.out.1)).trans H3.out.1)) 4
  have y5 : ∀ W, Ext V4 W → W.cell? ⟨sb, 5, none⟩ = some (.int .i64 s.e.sq) := fun W hx => block_cell ((hx.block _ (block_lt ((H4.out.2.2.block _ (block_lt H3.out.1)).trans H3.out.1))).trans ((H4.out.2.2.block _ (block_lt H3.out.1)).trans H3.out.1)) 5
  have y6 : ∀ W, Ext V4 W → W.cell? ⟨sb, 6, none⟩ = some (.int .i64 s.e.st) := fun W hx => block_cell ((hx.block _ (block_lt ((H4.out.2.2.block _ (block_lt H3.out.1)).trans H3.out.1))).trans ((H4.out.2.2.block _ (block_lt H3.out.1)).trans H3.out.1)) 6
  have y7 : ∀ W, Ext V4 W → W.cell? ⟨sb, 7, none⟩ = some (.int .i64 s.e.pol) := fun W hx => block_cell ((hx.block _ (block_lt ((H4.out.2.2.block _ (block_lt H3.out.1)).trans H3.out.1))).trans ((H4.out.2.2.block _ (block_lt H3.out.1)).trans H3.out.1)) 7
  have y8 : ∀ W, Ext V4 W → W.cell? ⟨sb, 8, none⟩ = some (.slice s.A s.n s.c) := fun W hx => block_cell ((hx.block _ (block_lt ((H4.out.2.2.block _ (block_lt H3.out.1)).trans H3.out.1))).trans ((H4.out.2.2.block _ (block_lt H3.out.1)).trans H3.out.1)) 8
  have y9 : ∀ W, Ext V4 W → W.cell? ⟨sb, 9, none⟩ = some (.int .i64 s.e.at_) := fun W hx => block_cell ((hx.block _ (block_lt ((H4.out.2.2.block _ (block_lt H3.out.1)).trans H3.out.1))).trans ((H4.out.2.2.block _ (block_lt H3.out.1)).trans H3.out.1)) 9
  have z0 : ∀ W, Ext V4 W → W.cell? ⟨tb, 0, none⟩ = some (.int .i64 t.e.cl) := fun W hx => block_cell ((hx.block _ (block_lt (H4.out.1))).trans (H4.out.1)) 0
  have z1 : ∀ W, Ext V4 W → W.cell? ⟨tb, 1, none⟩ = some (.int .i64 t.e.nu) := fun W hx => block_cell ((hx.block _ (block_lt (H4.out.1))).trans (H4.out.1)) 1
  have z2 : ∀ W, Ext V4 W → W.cell? ⟨tb, 2, none⟩ = some (.int .i64 t.e.kd) := fun W hx => block_cell ((hx.block _ (block_lt (H4.out.1))).trans (H4.out.1)) 2
  have z3 : ∀ W, Ext V4 W → W.cell? ⟨tb, 3, none⟩ = some (.int .i64 t.e.id) := fun W hx => block_cell ((hx.block _ (block_lt (H4.out.1))).trans (H4.out.1)) 3
  have z4 : ∀ W, Ext V4 W → W.cell? ⟨tb, 4, none⟩ = some (.int .i64 t.e.sk) := fun W hx => block_cell ((hx.block _ (block_lt (H4.out.1))).trans (H4.out.1)) 4
  have z5 : ∀ W, Ext V4 W → W.cell? ⟨tb, 5, none⟩ = some (.int .i64 t.e.sq) := fun W hx => block_cell ((hx.block _ (block_lt (H4.out.1))).trans (H4.out.1)) 5
  have z6 : ∀ W, Ext V4 W → W.cell? ⟨tb, 6, none⟩ = some (.int .i64 t.e.st) := fun W hx => block_cell ((hx.block _ (block_lt (H4.out.1))).trans (H4.out.1)) 6
  have z7 : ∀ W, Ext V4 W → W.cell? ⟨tb, 7, none⟩ = some (.int .i64 t.e.pol) := fun W hx => block_cell ((hx.block _ (block_lt (H4.out.1))).trans (H4.out.1)) 7
  have z8 : ∀ W, Ext V4 W → W.cell? ⟨tb, 8, none⟩ = some (.slice t.A t.n t.c) := fun W hx => block_cell ((hx.block _ (block_lt (H4.out.1))).trans (H4.out.1)) 8
  have z9 : ∀ W, Ext V4 W → W.cell? ⟨tb, 9, none⟩ = some (.int .i64 t.e.at_) := fun W hx => block_cell ((hx.block _ (block_lt (H4.out.1))).trans (H4.out.1)) 9
  have s0 := strs c (HS.out V4 X4.out).1
  have C1 := Lib.hid (rsame_any s t w6 ((H3.out.2.1.ext H4.out.2.2).ext XV4.out) (H4.out.2.1.ext XV4.out) true (Lib.hid (decide_eq_true HT.out.1)))
  have C2 := Lib.hid (fun W (hx : Ext w6 W) => rsameledger_any B5 n5 d5 ss B6 n6 d6 tt W (HL6.out.ext hx) (HTL.out.2.2.1.ext hx) (by have h1 := HGL.out.2.2.2.1; have h2 := HTL.out.2.2.2; exact ⟨by omega, by omega⟩) true (Lib.hid (decide_eq_true HTL.out.1)))
  have C3 := Lib.hid (fun W (hx : Ext V4 W) => kept_any ib n c A l W hn (HR2.out.ext ((H3.out.2.2.trans H4.out.2.2).trans hx)) (HS.out W (X4.out.trans hx)).1)
  have C4 := Lib.hid (fun W (hx : Ext V4 W) (hf : f = true) => put_got (w := W) (l := l) (s := s) ((H3.out.2.1.ext H4.out.2.2).ext hx) (by rw [← hf]; exact HG.out.1))
  have C5 := Lib.hid (fun W (hx : Ext w6 W) (hf : f5 = true) => write_got (w := W) (l := l) (ss := ss) (d := d5) (HL6.out.ext hx) HGL.out.2.2.2.1 (by rw [← hf]; exact HGL.out.1))
  have XV := XV4.out
  have HE := Lib.hid (fun W (hx : Ext V4 W) => (HS.out W (X4.out.trans hx)).2.1)
  have hv1 := HG.out.2
  have hv2 := HT.out.2
  have hv3 := HGL.out.2.1
  have hv4 := HTL.out.2.1
  clear HG HT HGL HTL HL6 HR2 H3 H4 HX2 HS HLB
  cases f <;> cases f5 <;> simp only [cond_true, cond_false] at hv1 hv2 hv3 hv4 <;> subst hv1 <;> subst hv2 <;> subst hv3 <;> subst hv4
  all_goals go_upto_region 10 with (first
    | (go_at_call 24; refine C1.out.mono ?_; rintro x w7 ⟨rfl, x7⟩)
    | (go_at_call 16; refine (C2.out _ x7).mono ?_; rintro x w8 ⟨rfl, x8⟩; have X8 := (XV4.out.trans x7).trans x8; have x6_ := x7.trans x8)
    | (go_at_call 34; refine (C3.out _ X8).mono ?_; rintro x w9 ⟨rfl, jj, rfl⟩; have X9 := X8.trans ((Ext.refl w8).drewN jj)))
  all_goals
    have pB := (HE.out _ X9).2.1
    have eN := fun W => err_same_ne W pb
    have XW := X4.out.trans X9
    clear C1 C2 C3 x7 x8 X8 XV
  · go_wp2_with fail
    go_returns
    exact ⟨rfl, XW⟩
  · go_wp2_with (first | (go_at_call 35; refine (C5.out _ (x6_.trans ((Ext.refl w8).drewN jj)) (by simp)).mono ?_; rintro x wB ⟨BB, mB, dB, rfl, oB, xB⟩; have sB := strs dB oB.rd wB (Ext.refl wB); have s0B := s0 wB (X9.trans xB)))
    go_returns
    exact ⟨rfl, XW.trans xB⟩
  · go_wp2_with (first | (go_at_call 26; refine (C4.out _ X9 (by simp)).mono ?_; rintro x wA ⟨BA, mA, dA, rfl, oA, xA⟩; have sA := fun W (hx : Ext wA W) => strs dA oA.rd W hx; have sAA := sA wA (Ext.refl wA); have s0A := s0 wA (X9.trans xA)))
    go_returns
    exact ⟨rfl, XW.trans xA⟩
  · go_wp2_with (first | (go_at_call 26; refine (C4.out _ X9 (by simp)).mono ?_; rintro x wA ⟨BA, mA, dA, rfl, oA, xA⟩; have sA := fun W (hx : Ext wA W) => strs dA oA.rd W hx; have sAA := sA wA (Ext.refl wA); have s0A := s0 wA (X9.trans xA)) | (go_at_call 35; refine (C5.out _ ((x6_.trans ((Ext.refl w8).drewN jj)).trans xA) (by simp)).mono ?_; rintro x wB ⟨BB, mB, dB, rfl, oB, xB⟩; have sB := strs dB oB.rd wB (Ext.refl wB); have s0B := s0 wB ((X9.trans xA).trans xB)))
    go_returns
    exact ⟨rfl, XW.trans (xA.trans xB)⟩
  
end Go.Proofs.YteflnnlihblpgaaDoor
