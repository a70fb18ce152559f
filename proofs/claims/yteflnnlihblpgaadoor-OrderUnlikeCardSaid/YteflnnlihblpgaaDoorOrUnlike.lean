/-
  Package almonerlaw09: OrderUnlike, walked.
-/
import Derived.Test.YteflnnlihblpgaaDoorOrForms
import Derived.Test.YteflnnlihblpgaaDoorOrReadL
import Derived.Test.YteflnnlihblpgaaDoorOrWrite
import Derived.Test.YteflnnlihblpgaaDoorDrift
namespace Go.Proofs.YteflnnlihblpgaaDoor
set_option maxRecDepth 100000
open Go.RowKit
set_option linter.unusedVariables false
/-- The texts of a slice of bytes, in every world behind. -/
theorem strs {w : World} {A : Option Addr} {n : Nat} {l : List Nat} (d : Nat) (h : Rd w 1 A n (u8s l)) (W : World) (hx : Ext w W) : (convert 54 9 (.slice A n d)).run Tryd.prog W = .ok (.string (str l)) W :=
  run_str Tryd.underlying54 Tryd.underlying5 Tryd.underlying9 d (h.ext hx)
/-- A ledger of two. -/
theorem led_two (x y : EnS) (w W : World) (hx : Ext (w.alloc (.cells #[.int .i64 x.e.cl, .int .i64 x.e.nu, .int .i64 x.e.kd, .int .i64 x.e.id, .int .i64 x.e.sk, .int .i64 x.e.sq, .int .i64 x.e.st, .int .i64 x.e.pol, .slice x.A x.n x.c, .int .i64 x.e.at_, .int .i64 y.e.cl, .int .i64 y.e.nu, .int .i64 y.e.kd, .int .i64 y.e.id, .int .i64 y.e.sk, .int .i64 y.e.sq, .int .i64 y.e.st, .int .i64 y.e.pol, .slice y.A y.n y.c, .int .i64 y.e.at_] 29)) W) (h1 : x.Lies W) (h2 : y.Lies W) : Led W (some ⟨w.heap.size, 0, none⟩) 2 [x, y] :=
  ⟨Rd.ext (⟨rfl, fun _ => ⟨_, rfl, by rw [World.size_alloc]; exact Nat.lt_succ_self _, World.news_of_block (heap_alloc_new w _)⟩⟩ : Rd (w.alloc (.cells #[.int .i64 x.e.cl, .int .i64 x.e.nu, .int .i64 x.e.kd, .int .i64 x.e.id, .int .i64 x.e.sk, .int .i64 x.e.sq, .int .i64 x.e.st, .int .i64 x.e.pol, .slice x.A x.n x.c, .int .i64 x.e.at_, .int .i64 y.e.cl, .int .i64 y.e.nu, .int .i64 y.e.kd, .int .i64 y.e.id, .int .i64 y.e.sk, .int .i64 y.e.sq, .int .i64 y.e.st, .int .i64 y.e.pol, .slice y.A y.n y.c, .int .i64 y.e.at_] 29)) 10 (some ⟨w.heap.size, 0, none⟩) 2 (erows [x, y]).flatten) hx, fun s hs => by
    rcases List.mem_cons.1 hs with rfl | hs
    · exact h1
    · obtain rfl := List.mem_singleton.1 hs
      exact h2⟩
/-- What Read answers to a ledger's own bytes. -/
theorem read_own {es : List En} (hg : GoodL es) {base : Nat} {bad good : Value} {x : Ending} {w' : World} (h : ReadOut (putL es) base bad good x w') : ∃ (ss : List EnS) (B : Option Addr) (n d : Nat), ss.length = n ∧ ents ss = es ∧ x = .returned (.tuple #[.slice B n d, good]) ∧ OLed w' base B n d ss := by
  rcases h with ⟨ss, B, n, d, h1, h2, h3, h4, h5⟩ | ⟨h1, _⟩
  · exact ⟨ss, B, n, d, h1, (putL_inj hg h2 h3).symm, h4, h5⟩
  · exact absurd rfl (h1 es hg)
section
variable {w : World} {ad : Addr} {n : Nat} {ss : List EnS}
theorem Led.entry_at (h : Led w (some ad) n ss) {k k10 : Nat} {x : EnS} (hk : ss[k]? = some x) (h10 : k * 10 = k10) :
    w.cell? (ad.add k10) = some (.int .i64 x.e.cl) ∧ w.cell? ⟨(ad.add k10).block, (ad.add k10).off + 1, none⟩ = some (.int .i64 x.e.nu) ∧ w.cell? ⟨(ad.add k10).block, (ad.add k10).off + 2, none⟩ = some (.int .i64 x.e.kd) ∧ w.cell? ⟨(ad.add k10).block, (ad.add k10).off + 3, none⟩ = some (.int .i64 x.e.id) ∧ w.cell? ⟨(ad.add k10).block, (ad.add k10).off + 4, none⟩ = some (.int .i64 x.e.sk) ∧ w.cell? ⟨(ad.add k10).block, (ad.add k10).off + 5, none⟩ = some (.int .i64 x.e.sq) ∧ w.cell? ⟨(ad.add k10).block, (ad.add k10).off + 6, none⟩ = some (.int .i64 x.e.st) ∧ w.cell? ⟨(ad.add k10).block, (ad.add k10).off + 7, none⟩ = some (.int .i64 x.e.pol) ∧ w.cell? ⟨(ad.add k10).block, (ad.add k10).off + 8, none⟩ = some (.slice x.A x.n x.c) ∧ w.cell? ⟨(ad.add k10).block, (ad.add k10).off + 9, none⟩ = some (.int .i64 x.e.at_) := by
  obtain ⟨ad', h1, q⟩ := h.entry hk h10
  injection h1 with h1
  rw [h1]
  exact q
theorem two_of {uu : List EnS} {s t : EnS} (h : ents uu = ents [s, t]) : ∃ u v, uu = [u, v] ∧ u.e = s.e ∧ v.e = t.e := by
  match uu with
  | [] => simp [ents] at h
  | [u] => simp [ents] at h
  | [u, v] => exact ⟨u, v, rfl, by simpa [ents] using h⟩
  | a :: b :: c :: d => simp [ents] at h
end
theorem str_same {l m : List Nat} (hl : ∀ x ∈ l, x < 256) (hm : ∀ x ∈ m, x < 256) {P : Prop} [Decidable P] (h : l = m ↔ P) {b : Bool} (hb : decide P = b) : ((str l).toList == (str m).toList) = b := by
  subst hb
  by_cases hp : P
  · rw [h.2 hp, decide_eq_true hp]
    simp
  · rw [decide_eq_false hp, beq_eq_false_iff_ne]
    rw [ByteArray.toList_eq, ByteArray.toList_eq]
    exact fun h2 => hp (h.1 (str_inj hl hm (Go.WideShapes.bytes_inj h2)))
theorem bool_same (b : Bool) (W : World) : (binOp .eql 4 (.bool b) (.bool b)).run Tryd.prog W = .ok (.bool true) W := by
  cases b <;> kernel_rfl
set_option maxHeartbeats 6400000 in
theorem unlike_any (s t : EnS) (w : World) (hs : s.Lies w) (ht : t.Lies w) {pb ps : Addr} (hB : Sen w 2 pb) (hS : Sen w 1 ps) : Calls Tryd.prog 8 #[.agg #[.int .i64 s.e.cl, .int .i64 s.e.nu, .int .i64 s.e.kd, .int .i64 s.e.id, .int .i64 s.e.sk, .int .i64 s.e.sq, .int .i64 s.e.st, .int .i64 s.e.pol, .slice s.A s.n s.c, .int .i64 s.e.at_], .agg #[.int .i64 t.e.cl, .int .i64 t.e.nu, .int .i64 t.e.kd, .int .i64 t.e.id, .int .i64 t.e.sk, .int .i64 t.e.sq, .int .i64 t.e.st, .int .i64 t.e.pol, .slice t.A t.n t.c, .int .i64 t.e.at_]] w fun x w' => x = .returned (.bool true) ∧ Ext w w' := by
  have HS := Lib.hid (fun W (hx : Ext w W) => And.intro (hs.ext hx) (And.intro (ht.ext hx) (And.intro (hB.ext hx) (hS.ext hx))))
  have X1 := (Ext.refl w).alloc (.cells #[.int .i64 s.e.cl, .int .i64 s.e.nu, .int .i64 s.e.kd, .int .i64 s.e.id, .int .i64 s.e.sk, .int .i64 s.e.sq, .int .i64 s.e.st, .int .i64 s.e.pol, .slice s.A s.n s.c, .int .i64 s.e.at_] 29)
  have X2 := X1.alloc (.cells #[.int .i64 t.e.cl, .int .i64 t.e.nu, .int .i64 t.e.kd, .int .i64 t.e.id, .int .i64 t.e.sk, .int .i64 t.e.sq, .int .i64 t.e.st, .int .i64 t.e.pol, .slice t.A t.n t.c, .int .i64 t.e.at_] 29)
  have b1 := heap_alloc_new w (.cells #[.int .i64 s.e.cl, .int .i64 s.e.nu, .int .i64 s.e.kd, .int .i64 s.e.id, .int .i64 s.e.sk, .int .i64 s.e.sq, .int .i64 s.e.st, .int .i64 s.e.pol, .slice s.A s.n s.c, .int .i64 s.e.at_] 29)
  have b2 := heap_alloc_new (w.alloc (.cells #[.int .i64 s.e.cl, .int .i64 s.e.nu, .int .i64 s.e.kd, .int .i64 s.e.id, .int .i64 s.e.sk, .int .i64 s.e.sq, .int .i64 s.e.st, .int .i64 s.e.pol, .slice s.A s.n s.c, .int .i64 s.e.at_] 29)) (.cells #[.int .i64 t.e.cl, .int .i64 t.e.nu, .int .i64 t.e.kd, .int .i64 t.e.id, .int .i64 t.e.sk, .int .i64 t.e.sq, .int .i64 t.e.st, .int .i64 t.e.pol, .slice t.A t.n t.c, .int .i64 t.e.at_] 29)
  rw [World.size_alloc] at b2
  have b3 := (((Ext.refl (w.alloc (.cells #[.int .i64 s.e.cl, .int .i64 s.e.nu, .int .i64 s.e.kd, .int .i64 s.e.id, .int .i64 s.e.sk, .int .i64 s.e.sq, .int .i64 s.e.st, .int .i64 s.e.pol, .slice s.A s.n s.c, .int .i64 s.e.at_] 29))).alloc (.cells #[.int .i64 t.e.cl, .int .i64 t.e.nu, .int .i64 t.e.kd, .int .i64 t.e.id, .int .i64 t.e.sk, .int .i64 t.e.sq, .int .i64 t.e.st, .int .i64 t.e.pol, .slice t.A t.n t.c, .int .i64 t.e.at_] 29)).block _ (block_lt b1)).trans b1
  have HV := Lib.hid (And.intro b3 (And.intro b2 X2))
  clear X1 X2 b1 b2 b3
  clear hs ht hB hS
  go_enter Tryd.func8, Tryd.ntmps8
  go_upto_region 1 with (fail)
  generalize (w.alloc (.cells #[.int .i64 s.e.cl, .int .i64 s.e.nu, .int .i64 s.e.kd, .int .i64 s.e.id, .int .i64 s.e.sk, .int .i64 s.e.sq, .int .i64 s.e.st, .int .i64 s.e.pol, .slice s.A s.n s.c, .int .i64 s.e.at_] 29)).alloc (.cells #[.int .i64 t.e.cl, .int .i64 t.e.nu, .int .i64 t.e.kd, .int .i64 t.e.id, .int .i64 t.e.sk, .int .i64 t.e.sq, .int .i64 t.e.st, .int .i64 t.e.pol, .slice t.A t.n t.c, .int .i64 t.e.at_] 29) = V at *
  generalize w.heap.size = ob at *
  have c0 : ∀ W, Ext V W → W.cell? ⟨ob, 0, none⟩ = some (.int .i64 s.e.cl) := fun W hx => block_cell ((hx.block _ (block_lt (HV.out.1))).trans (HV.out.1)) 0
  have c1 : ∀ W, Ext V W → W.cell? ⟨ob, 1, none⟩ = some (.int .i64 s.e.nu) := fun W hx => block_cell ((hx.block _ (block_lt (HV.out.1))).trans (HV.out.1)) 1
  have c2 : ∀ W, Ext V W → W.cell? ⟨ob, 2, none⟩ = some (.int .i64 s.e.kd) := fun W hx => block_cell ((hx.block _ (block_lt (HV.out.1))).trans (HV.out.1)) 2
  have c3 : ∀ W, Ext V W → W.cell? ⟨ob, 3, none⟩ = some (.int .i64 s.e.id) := fun W hx => block_cell ((hx.block _ (block_lt (HV.out.1))).trans (HV.out.1)) 3
  have c4 : ∀ W, Ext V W → W.cell? ⟨ob, 4, none⟩ = some (.int .i64 s.e.sk) := fun W hx => block_cell ((hx.block _ (block_lt (HV.out.1))).trans (HV.out.1)) 4
  have c5 : ∀ W, Ext V W → W.cell? ⟨ob, 5, none⟩ = some (.int .i64 s.e.sq) := fun W hx => block_cell ((hx.block _ (block_lt (HV.out.1))).trans (HV.out.1)) 5
  have c6 : ∀ W, Ext V W → W.cell? ⟨ob, 6, none⟩ = some (.int .i64 s.e.st) := fun W hx => block_cell ((hx.block _ (block_lt (HV.out.1))).trans (HV.out.1)) 6
  have c7 : ∀ W, Ext V W → W.cell? ⟨ob, 7, none⟩ = some (.int .i64 s.e.pol) := fun W hx => block_cell ((hx.block _ (block_lt (HV.out.1))).trans (HV.out.1)) 7
  have c8 : ∀ W, Ext V W → W.cell? ⟨ob, 8, none⟩ = some (.slice s.A s.n s.c) := fun W hx => block_cell ((hx.block _ (block_lt (HV.out.1))).trans (HV.out.1)) 8
  have c9 : ∀ W, Ext V W → W.cell? ⟨ob, 9, none⟩ = some (.int .i64 s.e.at_) := fun W hx => block_cell ((hx.block _ (block_lt (HV.out.1))).trans (HV.out.1)) 9
  have d0 : ∀ W, Ext V W → W.cell? ⟨ob + 1, 0, none⟩ = some (.int .i64 t.e.cl) := fun W hx => block_cell ((hx.block _ (block_lt (HV.out.2.1))).trans (HV.out.2.1)) 0
  have d1 : ∀ W, Ext V W → W.cell? ⟨ob + 1, 1, none⟩ = some (.int .i64 t.e.nu) := fun W hx => block_cell ((hx.block _ (block_lt (HV.out.2.1))).trans (HV.out.2.1)) 1
  have d2 : ∀ W, Ext V W → W.cell? ⟨ob + 1, 2, none⟩ = some (.int .i64 t.e.kd) := fun W hx => block_cell ((hx.block _ (block_lt (HV.out.2.1))).trans (HV.out.2.1)) 2
  have d3 : ∀ W, Ext V W → W.cell? ⟨ob + 1, 3, none⟩ = some (.int .i64 t.e.id) := fun W hx => block_cell ((hx.block _ (block_lt (HV.out.2.1))).trans (HV.out.2.1)) 3
  have d4 : ∀ W, Ext V W → W.cell? ⟨ob + 1, 4, none⟩ = some (.int .i64 t.e.sk) := fun W hx => block_cell ((hx.block _ (block_lt (HV.out.2.1))).trans (HV.out.2.1)) 4
  have d5 : ∀ W, Ext V W → W.cell? ⟨ob + 1, 5, none⟩ = some (.int .i64 t.e.sq) := fun W hx => block_cell ((hx.block _ (block_lt (HV.out.2.1))).trans (HV.out.2.1)) 5
  have d6 : ∀ W, Ext V W → W.cell? ⟨ob + 1, 6, none⟩ = some (.int .i64 t.e.st) := fun W hx => block_cell ((hx.block _ (block_lt (HV.out.2.1))).trans (HV.out.2.1)) 6
  have d7 : ∀ W, Ext V W → W.cell? ⟨ob + 1, 7, none⟩ = some (.int .i64 t.e.pol) := fun W hx => block_cell ((hx.block _ (block_lt (HV.out.2.1))).trans (HV.out.2.1)) 7
  have d8 : ∀ W, Ext V W → W.cell? ⟨ob + 1, 8, none⟩ = some (.slice t.A t.n t.c) := fun W hx => block_cell ((hx.block _ (block_lt (HV.out.2.1))).trans (HV.out.2.1)) 8
  have d9 : ∀ W, Ext V W → W.cell? ⟨ob + 1, 9, none⟩ = some (.int .i64 t.e.at_) := fun W hx => block_cell ((hx.block _ (block_lt (HV.out.2.1))).trans (HV.out.2.1)) 9
  have CA := Lib.hid (alive_any V)
  have XV := Ext.refl V
  have HL := Lib.hid (fun W (hx : Ext V W) => HS.out W (HV.out.2.2.trans hx))
  go_upto_region 3 with (go_at_call 12; refine CA.out.mono ?_; rintro x w1 ⟨rfl, x1⟩)
  by_cases ha : s.e.form = true
  rotate_left 1
  · have ha : s.e.form = false := by simpa using ha
    by_cases hb : t.e.form = true
    · skip
      have CP := Lib.hid (fun W (hx : Ext V W) => put_no s W (HL.out W hx).1 ha (HL.out W hx).2.2.2)
      have FP := Lib.hid (fun W (hx : Ext V W) => rform_any s.e s.A s.n s.c W (HL.out W hx).1 false (Lib.hid ha))
      have CQ := Lib.hid (fun W (hx : Ext V W) => put_ok (e := t.e) (c := t.c) (HL.out W hx).2.1.rd hb)
      have FQ := Lib.hid (fun W (hx : Ext V W) => rform_any t.e t.A t.n t.c W (HL.out W hx).2.1 true (Lib.hid hb))
      go_wp2_with (first | (go_at_call 26; refine (CP.out _ x1).mono ?_; clear CP; rintro x w2 ⟨rfl, x2⟩; have X2 := x1.trans x2) | (go_at_call 26; refine (CQ.out _ X2).mono ?_; clear CQ; rintro x w3 ⟨B3, m3, d3, rfl, o3, x3⟩; have X3 := X2.trans x3) | (go_at_call 27; refine (FP.out _ X3).mono ?_; clear FP; rintro x w4 ⟨rfl, x4⟩; have X4 := X3.trans x4) | (go_at_call 27; refine (FQ.out _ X4).mono ?_; rintro x w5 ⟨rfl, x5⟩; have X5 := X4.trans x5))
      go_returns
      exact ⟨rfl, HV.out.2.2.trans X4⟩
    · have hb : t.e.form = false := by simpa using hb
      have CP := Lib.hid (fun W (hx : Ext V W) => put_no s W (HL.out W hx).1 ha (HL.out W hx).2.2.2)
      have FP := Lib.hid (fun W (hx : Ext V W) => rform_any s.e s.A s.n s.c W (HL.out W hx).1 false (Lib.hid ha))
      have CQ := Lib.hid (fun W (hx : Ext V W) => put_no t W (HL.out W hx).2.1 hb (HL.out W hx).2.2.2)
      have FQ := Lib.hid (fun W (hx : Ext V W) => rform_any t.e t.A t.n t.c W (HL.out W hx).2.1 false (Lib.hid hb))
      go_wp2_with (first | (go_at_call 26; refine (CP.out _ x1).mono ?_; clear CP; rintro x w2 ⟨rfl, x2⟩; have X2 := x1.trans x2) | (go_at_call 26; refine (CQ.out _ X2).mono ?_; clear CQ; rintro x w3 ⟨rfl, x3⟩; have X3 := X2.trans x3) | (go_at_call 27; refine (FP.out _ X3).mono ?_; clear FP; rintro x w4 ⟨rfl, x4⟩; have X4 := X3.trans x4) | (go_at_call 27; refine (FQ.out _ X4).mono ?_; rintro x w5 ⟨rfl, x5⟩; have X5 := X4.trans x5))
      go_returns
      exact ⟨rfl, HV.out.2.2.trans X4⟩
  by_cases hb : t.e.form = true
  rotate_left 1
  · have hb : t.e.form = false := by simpa using hb
    have CP := Lib.hid (fun W (hx : Ext V W) => put_ok (e := s.e) (c := s.c) (HL.out W hx).1.rd ha)
    have FP := Lib.hid (fun W (hx : Ext V W) => rform_any s.e s.A s.n s.c W (HL.out W hx).1 true (Lib.hid ha))
    have CQ := Lib.hid (fun W (hx : Ext V W) => put_no t W (HL.out W hx).2.1 hb (HL.out W hx).2.2.2)
    have FQ := Lib.hid (fun W (hx : Ext V W) => rform_any t.e t.A t.n t.c W (HL.out W hx).2.1 false (Lib.hid hb))
    go_wp2_with (first | (go_at_call 26; refine (CP.out _ x1).mono ?_; clear CP; rintro x w2 ⟨B2, m2, d2, rfl, o2, x2⟩; have X2 := x1.trans x2) | (go_at_call 26; refine (CQ.out _ X2).mono ?_; clear CQ; rintro x w3 ⟨rfl, x3⟩; have X3 := X2.trans x3) | (go_at_call 27; refine (FP.out _ X3).mono ?_; clear FP; rintro x w4 ⟨rfl, x4⟩; have X4 := X3.trans x4) | (go_at_call 27; refine (FQ.out _ X4).mono ?_; rintro x w5 ⟨rfl, x5⟩; have X5 := X4.trans x5))
    go_returns
    exact ⟨rfl, HV.out.2.2.trans X5⟩
  have CP := Lib.hid (fun W (hx : Ext V W) => put_ok (e := s.e) (c := s.c) (HL.out W hx).1.rd ha)
  have FP := Lib.hid (fun W (hx : Ext V W) => rform_any s.e s.A s.n s.c W (HL.out W hx).1 true (Lib.hid ha))
  have CQ := Lib.hid (fun W (hx : Ext V W) => put_ok (e := t.e) (c := t.c) (HL.out W hx).2.1.rd hb)
  have FQ := Lib.hid (fun W (hx : Ext V W) => rform_any t.e t.A t.n t.c W (HL.out W hx).2.1 true (Lib.hid hb))
  obtain ⟨b, hbe⟩ : ∃ b, decide (s.e = t.e) = b := ⟨_, rfl⟩
  have HBE := Lib.hid hbe
  clear hbe
  have HF := Lib.hid (And.intro ha hb)
  clear ha hb
  have CS := Lib.hid (fun W (hx : Ext V W) => rsame_any s t W (HL.out W hx).1 (HL.out W hx).2.1 b HBE)
  go_upto_region 8 with (first | (go_at_call 26; refine (CP.out _ x1).mono ?_; clear CP; rintro x w2 ⟨B2, m2, d2, rfl, o2, x2⟩; have X2 := x1.trans x2) | (go_at_call 26; refine (CQ.out _ X2).mono ?_; clear CQ; rintro x w3 ⟨B3, m3, d3, rfl, o3, x3⟩; have X3 := X2.trans x3) | (go_at_call 24; refine (CS.out _ X3).mono ?_; rintro x w4 ⟨rfl, x4⟩; have X4 := X3.trans x4))
  have S2 := Lib.hid (strs d2 (o2.rd.ext (x3.trans x4)))
  have S3 := Lib.hid (strs d3 (o3.rd.ext x4))
  clear o2 o3 x2 x3 x4 X2 X3 x1 FP FQ CS
  have HX4 := Lib.hid X4
  clear X4
  have CW := Lib.hid (write_ok (some ⟨w4.heap.size, 0, none⟩) 2 2 [s, t] (w4.alloc (.cells #[.int .i64 s.e.cl, .int .i64 s.e.nu, .int .i64 s.e.kd, .int .i64 s.e.id, .int .i64 s.e.sk, .int .i64 s.e.sq, .int .i64 s.e.st, .int .i64 s.e.pol, .slice s.A s.n s.c, .int .i64 s.e.at_, .int .i64 t.e.cl, .int .i64 t.e.nu, .int .i64 t.e.kd, .int .i64 t.e.id, .int .i64 t.e.sk, .int .i64 t.e.sq, .int .i64 t.e.st, .int .i64 t.e.pol, .slice t.A t.n t.c, .int .i64 t.e.at_] 29)) (led_two s t w4 _ (Ext.refl _) (HL.out _ (HX4.out.alloc _)).1 (HL.out _ (HX4.out.alloc _)).2.1) (by omega) (by have h := HF.out; simpa [ents] using h))
  have X4 := HX4.out
  go_upto_region 9 with (go_at_call 35; refine CW.out.mono ?_; clear CW; rintro x w5 ⟨B5, m5, d5, rfl, o5, x5⟩; have X5 : Ext V w5 := (X4.alloc _).trans x5)
  have HX5 := Lib.hid (And.intro X5 (And.intro o5.rd (((Ext.refl w4).alloc _).trans x5)))
  clear o5 x5 X4
  have CW := Lib.hid (write_ok (some ⟨w5.heap.size, 0, none⟩) 2 2 [t, s] (w5.alloc (.cells #[.int .i64 t.e.cl, .int .i64 t.e.nu, .int .i64 t.e.kd, .int .i64 t.e.id, .int .i64 t.e.sk, .int .i64 t.e.sq, .int .i64 t.e.st, .int .i64 t.e.pol, .slice t.A t.n t.c, .int .i64 t.e.at_, .int .i64 s.e.cl, .int .i64 s.e.nu, .int .i64 s.e.kd, .int .i64 s.e.id, .int .i64 s.e.sk, .int .i64 s.e.sq, .int .i64 s.e.st, .int .i64 s.e.pol, .slice s.A s.n s.c, .int .i64 s.e.at_] 29)) (led_two t s w5 _ (Ext.refl _) (HL.out _ (HX5.out.1.alloc _)).2.1 (HL.out _ (HX5.out.1.alloc _)).1) (by omega) (by have h := HF.out; simp [ents, h]))
  go_upto_region 10 with (go_at_call 35; refine CW.out.mono ?_; clear CW; rintro x w6 ⟨B6, m6, d6, rfl, o6, x6⟩; have X6 : Ext V w6 := (X5.alloc _).trans x6)
  have x56 := ((Ext.refl w5).alloc _).trans x6
  have CR := Lib.hid (readl_any B5 m5 d5 (putL (ents [s, t])) w6 (HX5.out.2.1.ext x56) (putL_byte _) (by
    have h1 := putK_len 2 (by omega) (ents [s, t]) (by have h := HF.out; simpa [ents] using h)
    rw [show putK 2 (ents [s, t]) = putL (ents [s, t]) from rfl] at h1
    have h3 := HX5.out.2.1.len
    rw [u8s_len] at h3
    simp [ents] at h1 h3
    omega) (HL.out _ X6).2.2.1 (HL.out _ X6).2.2.2)
  have HX6 := Lib.hid (And.intro X6 (And.intro o6.rd x56))
  clear o6 x6 x56 X5
  go_upto_region 11 with (go_at_call 32; refine CR.out.mono ?_; clear CR; rintro x w7 ⟨hro, x7⟩; have X7 := X6.trans x7; obtain ⟨uu, B7, m7, d7, hul, hue, rfl, hol⟩ := read_own (show GoodL (ents [s, t]) from ⟨by simp [ents], by have h := HF.out; simpa [ents] using h⟩) hro; clear hro)
  obtain ⟨u, v, rfl, hu, hv⟩ := two_of hue
  obtain rfl : 2 = m7 := hul
  obtain ⟨ad, hB7⟩ : ∃ ad, B7 = some ad := by obtain ⟨ad, h, _⟩ := hol.led.entry (k := 0) (k10 := 0) rfl rfl; exact ⟨ad, h⟩
  subst hB7
  have HU := Lib.hid (fun W (hx : Ext w7 W) => And.intro (hol.led.ext hx) (And.intro (((hol.all u (by simp)).1).ext hx) (And.intro (((hol.all v (by simp)).1).ext hx) (HL.out W (X7.trans hx)))))
  have yy := fun W (hx : Ext w7 W) => (HU.out W hx).1.entry_at (k := 0) (k10 := 0) rfl rfl
  have zz := fun W (hx : Ext w7 W) => (HU.out W hx).1.entry_at (k := 1) (k10 := 10) rfl rfl
  rw [show ad.add 0 = ad by unfold Addr.add; rw [if_pos rfl]] at yy
  rw [show ad.add 10 = ⟨ad.block, ad.off + 10, none⟩ by unfold Addr.add; rw [if_neg (by omega)]] at zz
  dsimp only at zz
  have y0 := fun W (hx : Ext w7 W) => (yy W hx).1
  have y1 := fun W (hx : Ext w7 W) => (yy W hx).2.1
  have y2 := fun W (hx : Ext w7 W) => (yy W hx).2.2.1
  have y3 := fun W (hx : Ext w7 W) => (yy W hx).2.2.2.1
  have y4 := fun W (hx : Ext w7 W) => (yy W hx).2.2.2.2.1
  have y5 := fun W (hx : Ext w7 W) => (yy W hx).2.2.2.2.2.1
  have y6 := fun W (hx : Ext w7 W) => (yy W hx).2.2.2.2.2.2.1
  have y7 := fun W (hx : Ext w7 W) => (yy W hx).2.2.2.2.2.2.2.1
  have y8 := fun W (hx : Ext w7 W) => (yy W hx).2.2.2.2.2.2.2.2.1
  have y9 := fun W (hx : Ext w7 W) => (yy W hx).2.2.2.2.2.2.2.2.2
  have z0 := fun W (hx : Ext w7 W) => (zz W hx).1
  have z1 := fun W (hx : Ext w7 W) => (zz W hx).2.1
  have z2 := fun W (hx : Ext w7 W) => (zz W hx).2.2.1
  have z3 := fun W (hx : Ext w7 W) => (zz W hx).2.2.2.1
  have z4 := fun W (hx : Ext w7 W) => (zz W hx).2.2.2.2.1
  have z5 := fun W (hx : Ext w7 W) => (zz W hx).2.2.2.2.2.1
  have z6 := fun W (hx : Ext w7 W) => (zz W hx).2.2.2.2.2.2.1
  have z7 := fun W (hx : Ext w7 W) => (zz W hx).2.2.2.2.2.2.2.1
  have z8 := fun W (hx : Ext w7 W) => (zz W hx).2.2.2.2.2.2.2.2.1
  have z9 := fun W (hx : Ext w7 W) => (zz W hx).2.2.2.2.2.2.2.2.2
  have C10 := Lib.hid (fun W (hx : Ext w7 W) => same_any s t W (HU.out W hx).2.2.2.1 (HU.out W hx).2.2.2.2.1 b HBE)
  have C45 := Lib.hid (fun W (hx : Ext w7 W) => rsame_any u s W (HU.out W hx).2.1 (HU.out W hx).2.2.2.1 true (Lib.hid (decide_eq_true hu)))
  have C52 := Lib.hid (fun W (hx : Ext w7 W) => rsame_any v t W (HU.out W hx).2.2.1 (HU.out W hx).2.2.2.2.1 true (Lib.hid (decide_eq_true hv)))
  have x47 : Hid (Ext w4 w7) := Lib.hid (HX5.out.2.2.trans (HX6.out.2.2.trans x7))
  have sA := fun W (hx : Ext w7 W) => S2.out W (x47.out.trans hx)
  have sB := fun W (hx : Ext w7 W) => S3.out W (x47.out.trans hx)
  have sC := fun W (hx : Ext w7 W) => strs d5 HX5.out.2.1 W ((HX6.out.2.2.trans x7).trans hx)
  have sD := fun W (hx : Ext w7 W) => strs d6 HX6.out.2.1 W (x7.trans hx)
  have q1 := str_same s.e.put_byte t.e.put_byte (P := s.e = t.e) ⟨fun h => put_inj HF.out.1 HF.out.2 h, fun h => by rw [h]⟩ HBE.out
  have q2 := str_same (putL_byte (ents [s, t])) (putL_byte (ents [t, s])) (P := s.e = t.e) ⟨fun h => by
    have h1 := putL_inj (by constructor <;> simp [ents, HF.out]) (by constructor <;> simp [ents, HF.out]) h
    simp [ents] at h1
    exact h1.1, fun h => by simp [ents, h]⟩ HBE.out
  have q3 := bool_same b
  generalize str s.e.put = pa at *
  generalize str t.e.put = pb_ at *
  generalize str (putL (ents [s, t])) = pc at *
  generalize str (putL (ents [t, s])) = pd at *
  have HVV := Lib.hid (And.intro ((X7.block _ (block_lt HV.out.1)).trans HV.out.1) (And.intro ((X7.block _ (block_lt HV.out.2.1)).trans HV.out.2.1) (HV.out.2.2.trans X7)))
  clear yy zz hol hue hu hv x7 X7 X6 HX6 HX5 HX4 x47 S2 S3 HF CA XV HL HV c0 c1 c2 c3 c4 c5 c6 c7 c8 c9
  have c0 : ∀ W, Ext w7 W → W.cell? ⟨ob, 0, none⟩ = some (.int .i64 s.e.cl) := fun W hx => block_cell ((hx.block _ (block_lt (HVV.out.1))).trans (HVV.out.1)) 0
  have c1 : ∀ W, Ext w7 W → W.cell? ⟨ob, 1, none⟩ = some (.int .i64 s.e.nu) := fun W hx => block_cell ((hx.block _ (block_lt (HVV.out.1))).trans (HVV.out.1)) 1
  have c2 : ∀ W, Ext w7 W → W.cell? ⟨ob, 2, none⟩ = some (.int .i64 s.e.kd) := fun W hx => block_cell ((hx.block _ (block_lt (HVV.out.1))).trans (HVV.out.1)) 2
  have c3 : ∀ W, Ext w7 W → W.cell? ⟨ob, 3, none⟩ = some (.int .i64 s.e.id) := fun W hx => block_cell ((hx.block _ (block_lt (HVV.out.1))).trans (HVV.out.1)) 3
  have c4 : ∀ W, Ext w7 W → W.cell? ⟨ob, 4, none⟩ = some (.int .i64 s.e.sk) := fun W hx => block_cell ((hx.block _ (block_lt (HVV.out.1))).trans (HVV.out.1)) 4
  have c5 : ∀ W, Ext w7 W → W.cell? ⟨ob, 5, none⟩ = some (.int .i64 s.e.sq) := fun W hx => block_cell ((hx.block _ (block_lt (HVV.out.1))).trans (HVV.out.1)) 5
  have c6 : ∀ W, Ext w7 W → W.cell? ⟨ob, 6, none⟩ = some (.int .i64 s.e.st) := fun W hx => block_cell ((hx.block _ (block_lt (HVV.out.1))).trans (HVV.out.1)) 6
  have c7 : ∀ W, Ext w7 W → W.cell? ⟨ob, 7, none⟩ = some (.int .i64 s.e.pol) := fun W hx => block_cell ((hx.block _ (block_lt (HVV.out.1))).trans (HVV.out.1)) 7
  have c8 : ∀ W, Ext w7 W → W.cell? ⟨ob, 8, none⟩ = some (.slice s.A s.n s.c) := fun W hx => block_cell ((hx.block _ (block_lt (HVV.out.1))).trans (HVV.out.1)) 8
  have c9 : ∀ W, Ext w7 W → W.cell? ⟨ob, 9, none⟩ = some (.int .i64 s.e.at_) := fun W hx => block_cell ((hx.block _ (block_lt (HVV.out.1))).trans (HVV.out.1)) 9
  have e0 : ∀ W, Ext w7 W → W.cell? ⟨ob + 1, 0, none⟩ = some (.int .i64 t.e.cl) := fun W hx => block_cell ((hx.block _ (block_lt (HVV.out.2.1))).trans (HVV.out.2.1)) 0
  have e1 : ∀ W, Ext w7 W → W.cell? ⟨ob + 1, 1, none⟩ = some (.int .i64 t.e.nu) := fun W hx => block_cell ((hx.block _ (block_lt (HVV.out.2.1))).trans (HVV.out.2.1)) 1
  have e2 : ∀ W, Ext w7 W → W.cell? ⟨ob + 1, 2, none⟩ = some (.int .i64 t.e.kd) := fun W hx => block_cell ((hx.block _ (block_lt (HVV.out.2.1))).trans (HVV.out.2.1)) 2
  have e3 : ∀ W, Ext w7 W → W.cell? ⟨ob + 1, 3, none⟩ = some (.int .i64 t.e.id) := fun W hx => block_cell ((hx.block _ (block_lt (HVV.out.2.1))).trans (HVV.out.2.1)) 3
  have e4 : ∀ W, Ext w7 W → W.cell? ⟨ob + 1, 4, none⟩ = some (.int .i64 t.e.sk) := fun W hx => block_cell ((hx.block _ (block_lt (HVV.out.2.1))).trans (HVV.out.2.1)) 4
  have e5 : ∀ W, Ext w7 W → W.cell? ⟨ob + 1, 5, none⟩ = some (.int .i64 t.e.sq) := fun W hx => block_cell ((hx.block _ (block_lt (HVV.out.2.1))).trans (HVV.out.2.1)) 5
  have e6 : ∀ W, Ext w7 W → W.cell? ⟨ob + 1, 6, none⟩ = some (.int .i64 t.e.st) := fun W hx => block_cell ((hx.block _ (block_lt (HVV.out.2.1))).trans (HVV.out.2.1)) 6
  have e7 : ∀ W, Ext w7 W → W.cell? ⟨ob + 1, 7, none⟩ = some (.int .i64 t.e.pol) := fun W hx => block_cell ((hx.block _ (block_lt (HVV.out.2.1))).trans (HVV.out.2.1)) 7
  have e8 : ∀ W, Ext w7 W → W.cell? ⟨ob + 1, 8, none⟩ = some (.slice t.A t.n t.c) := fun W hx => block_cell ((hx.block _ (block_lt (HVV.out.2.1))).trans (HVV.out.2.1)) 8
  have e9 : ∀ W, Ext w7 W → W.cell? ⟨ob + 1, 9, none⟩ = some (.int .i64 t.e.at_) := fun W hx => block_cell ((hx.block _ (block_lt (HVV.out.2.1))).trans (HVV.out.2.1)) 9
  refine w_region (fun w1 => Ext w7 w1) [] (by kernel_rfl) ((Ext.refl w7).drew) ?_
  refine w_take (i := 0) (v := ?_) [] (some 64) rfl (by rfl) (by kernel_rfl) (by kernel_rfl) (by kernel_rfl) (by kernel_rfl) (by kernel_rfl) (by kernel_rfl) (fun _ _ _ h => h) (YieldsIf.yieldsW (.inl ⟨by rfl, ?_⟩)) ?_
  rotate_left 1
  · (intro W hW; (try dsimp only at hW); go_simp; try with_reducible rfl)
  try simp only [Act.put, List.setIfInBounds_toArray, List.set_cons_zero, List.set_cons_succ]
  refine w_take (i := 1) (v := ?_) [] (some 65) rfl (by rfl) (by kernel_rfl) (by kernel_rfl) (by kernel_rfl) (by kernel_rfl) (by kernel_rfl) (by kernel_rfl) (fun _ _ _ h => h) (YieldsIf.yieldsW (.inl ⟨by rfl, ?_⟩)) ?_
  rotate_left 1
  · (intro W hW; (try dsimp only at hW); go_simp; try with_reducible rfl)
  try simp only [Act.put, List.setIfInBounds_toArray, List.set_cons_zero, List.set_cons_succ]
  refine w_take (i := 2) (v := ?_) [] (some 66) rfl (by rfl) (by kernel_rfl) (by kernel_rfl) (by kernel_rfl) (by kernel_rfl) (by kernel_rfl) (by kernel_rfl) (fun _ _ _ h => h) (YieldsIf.yieldsW (.inl ⟨by rfl, ?_⟩)) ?_
  rotate_left 1
  · (intro W hW; (try dsimp only at hW); go_simp; try with_reducible rfl)
  try simp only [Act.put, List.setIfInBounds_toArray, List.set_cons_zero, List.set_cons_succ]
  refine w_take (i := 3) (v := ?_) [] (some 67) rfl (by rfl) (by kernel_rfl) (by kernel_rfl) (by kernel_rfl) (by kernel_rfl) (by kernel_rfl) (by kernel_rfl) (fun _ _ _ h => h) (YieldsIf.yieldsW (.inl ⟨by rfl, ?_⟩)) ?_
  rotate_left 1
  · (intro W hW; (try dsimp only at hW); go_simp; try with_reducible rfl)
  try simp only [Act.put, List.setIfInBounds_toArray, List.set_cons_zero, List.set_cons_succ]
  refine w_take (i := 4) (v := .bool b) [] (some 68) rfl (by rfl) (by kernel_rfl) (by kernel_rfl) (by kernel_rfl) (by kernel_rfl) (by kernel_rfl) (by kernel_rfl) (fun _ _ _ h => h) (YieldsIf.yieldsW (.inl ⟨by rfl, ?_⟩)) ?_
  · (intro W hW; (try dsimp only at hW); go_simp; try with_reducible rfl)
  try simp only [Act.put, List.setIfInBounds_toArray, List.set_cons_zero, List.set_cons_succ]
  refine w_take (i := 5) (v := ?_) [] (some 69) rfl (by rfl) (by kernel_rfl) (by kernel_rfl) (by kernel_rfl) (by kernel_rfl) (by kernel_rfl) (by kernel_rfl) (fun _ _ _ h => h) (YieldsIf.yieldsW (.inl ⟨by rfl, ?_⟩)) ?_
  rotate_left 1
  · (intro W hW; (try dsimp only at hW); go_simp; try with_reducible rfl)
  try simp only [Act.put, List.setIfInBounds_toArray, List.set_cons_zero, List.set_cons_succ]
  refine w_take (i := 6) (v := .bool true) [] (some 70) rfl (by rfl) (by kernel_rfl) (by kernel_rfl) (by kernel_rfl) (by kernel_rfl) (by kernel_rfl) (by kernel_rfl) (fun _ _ _ h => h) (YieldsIf.yieldsW (.inl ⟨by rfl, ?_⟩)) ?_
  · (intro W hW; (try dsimp only at hW); go_simp; try with_reducible rfl)
  try simp only [Act.put, List.setIfInBounds_toArray, List.set_cons_zero, List.set_cons_succ]
  refine w_take (i := 7) (v := .bool true) [] (some 71) rfl (by rfl) (by kernel_rfl) (by kernel_rfl) (by kernel_rfl) (by kernel_rfl) (by kernel_rfl) (by kernel_rfl) (fun _ _ _ h => h) (YieldsIf.yieldsW (.inl ⟨by rfl, ?_⟩)) ?_
  · (intro W hW; (try dsimp only at hW); go_simp; try with_reducible rfl)
  try simp only [Act.put, List.setIfInBounds_toArray, List.set_cons_zero, List.set_cons_succ]
  refine w_take (i := 8) (v := ?_) [] (some 72) rfl (by rfl) (by kernel_rfl) (by kernel_rfl) (by kernel_rfl) (by kernel_rfl) (by kernel_rfl) (by kernel_rfl) (fun _ _ _ h => h) (YieldsIf.yieldsW (.inl ⟨by rfl, ?_⟩)) ?_
  rotate_left 1
  · (intro W hW; (try dsimp only at hW); go_simp; try with_reducible rfl)
  try simp only [Act.put, List.setIfInBounds_toArray, List.set_cons_zero, List.set_cons_succ]
  refine w_take (i := 9) (v := ?_) [] (some 73) rfl (by rfl) (by kernel_rfl) (by kernel_rfl) (by kernel_rfl) (by kernel_rfl) (by kernel_rfl) (by kernel_rfl) (fun _ _ _ h => h) (YieldsIf.yieldsW (.inl ⟨by rfl, ?_⟩)) ?_
  rotate_left 1
  · (intro W hW; (try dsimp only at hW); go_simp; try with_reducible rfl)
  try simp only [Act.put, List.setIfInBounds_toArray, List.set_cons_zero, List.set_cons_succ]
  refine w_take (i := 10) (v := .bool b) [] (some 74) rfl (by rfl) (by kernel_rfl) (by kernel_rfl) (by kernel_rfl) (by kernel_rfl) (by kernel_rfl) (by kernel_rfl) (fun _ _ _ h => h) (.inl ⟨by rfl, ?_⟩) ?_
  · (intro W hW; refine .inr ⟨_, _, _, ?_, ((C10.out W hW).mono fun _ _ ⟨h1, h2⟩ => ⟨h1, hW.trans h2⟩)⟩; go_simp; try with_reducible rfl)
  try simp only [Act.put, List.setIfInBounds_toArray, List.set_cons_zero, List.set_cons_succ]
  refine w_take (i := 11) (v := ?_) [] (some 75) rfl (by rfl) (by kernel_rfl) (by kernel_rfl) (by kernel_rfl) (by kernel_rfl) (by kernel_rfl) (by kernel_rfl) (fun _ _ _ h => h) (YieldsIf.yieldsW (.inl ⟨by rfl, ?_⟩)) ?_
  rotate_left 1
  · (intro W hW; (try dsimp only at hW); go_simp; try with_reducible rfl)
  try simp only [Act.put, List.setIfInBounds_toArray, List.set_cons_zero, List.set_cons_succ]
  refine w_take (i := 12) (v := .bool true) [] (some 76) rfl (by rfl) (by kernel_rfl) (by kernel_rfl) (by kernel_rfl) (by kernel_rfl) (by kernel_rfl) (by kernel_rfl) (fun _ _ _ h => h) (YieldsIf.yieldsW (.inl ⟨by rfl, ?_⟩)) ?_
  · (intro W hW; (try dsimp only at hW); go_simp; try with_reducible rfl)
  try simp only [Act.put, List.setIfInBounds_toArray, List.set_cons_zero, List.set_cons_succ]
  refine w_take (i := 13) (v := .bool true) [] (some 77) rfl (by rfl) (by kernel_rfl) (by kernel_rfl) (by kernel_rfl) (by kernel_rfl) (by kernel_rfl) (by kernel_rfl) (fun _ _ _ h => h) (YieldsIf.yieldsW (.inl ⟨by rfl, ?_⟩)) ?_
  · (intro W hW; (try dsimp only at hW); go_simp; try with_reducible rfl)
  try simp only [Act.put, List.setIfInBounds_toArray, List.set_cons_zero, List.set_cons_succ]
  refine w_take (i := 14) (v := .bool true) [] (some 78) rfl (by rfl) (by kernel_rfl) (by kernel_rfl) (by kernel_rfl) (by kernel_rfl) (by kernel_rfl) (by kernel_rfl) (fun _ _ _ h => h) (YieldsIf.yieldsW (.inl ⟨by rfl, ?_⟩)) ?_
  · (intro W hW; (try dsimp only at hW); go_simp; try with_reducible rfl)
  try simp only [Act.put, List.setIfInBounds_toArray, List.set_cons_zero, List.set_cons_succ]
  refine w_take (i := 15) (v := ?_) [] (some 79) rfl (by rfl) (by kernel_rfl) (by kernel_rfl) (by kernel_rfl) (by kernel_rfl) (by kernel_rfl) (by kernel_rfl) (fun _ _ _ h => h) (YieldsIf.yieldsW (.inl ⟨by rfl, ?_⟩)) ?_
  rotate_left 1
  · (intro W hW; (try dsimp only at hW); go_simp; try with_reducible rfl)
  try simp only [Act.put, List.setIfInBounds_toArray, List.set_cons_zero, List.set_cons_succ]
  refine w_take (i := 16) (v := .bool true) [] (some 80) rfl (by rfl) (by kernel_rfl) (by kernel_rfl) (by kernel_rfl) (by kernel_rfl) (by kernel_rfl) (by kernel_rfl) (fun _ _ _ h => h) (YieldsIf.yieldsW (.inl ⟨by rfl, ?_⟩)) ?_
  · (intro W hW; (try dsimp only at hW); go_simp; try with_reducible rfl)
  try simp only [Act.put, List.setIfInBounds_toArray, List.set_cons_zero, List.set_cons_succ]
  refine w_take (i := 17) (v := .bool true) [] (some 81) rfl (by rfl) (by kernel_rfl) (by kernel_rfl) (by kernel_rfl) (by kernel_rfl) (by kernel_rfl) (by kernel_rfl) (fun _ _ _ h => h) (YieldsIf.yieldsW (.inl ⟨by rfl, ?_⟩)) ?_
  · (intro W hW; (try dsimp only at hW); go_simp; try with_reducible rfl)
  try simp only [Act.put, List.setIfInBounds_toArray, List.set_cons_zero, List.set_cons_succ]
  refine w_take (i := 18) (v := .bool true) [] (some 82) rfl (by rfl) (by kernel_rfl) (by kernel_rfl) (by kernel_rfl) (by kernel_rfl) (by kernel_rfl) (by kernel_rfl) (fun _ _ _ h => h) (YieldsIf.yieldsW (.inl ⟨by rfl, ?_⟩)) ?_
  · (intro W hW; (try dsimp only at hW); go_simp; try with_reducible rfl)
  try simp only [Act.put, List.setIfInBounds_toArray, List.set_cons_zero, List.set_cons_succ]
  refine w_take (i := 19) (v := ?_) [] (some 83) rfl (by rfl) (by kernel_rfl) (by kernel_rfl) (by kernel_rfl) (by kernel_rfl) (by kernel_rfl) (by kernel_rfl) (fun _ _ _ h => h) (YieldsIf.yieldsW (.inl ⟨by rfl, ?_⟩)) ?_
  rotate_left 1
  · (intro W hW; (try dsimp only at hW); go_simp; try with_reducible rfl)
  try simp only [Act.put, List.setIfInBounds_toArray, List.set_cons_zero, List.set_cons_succ]
  refine w_take (i := 20) (v := .bool true) [] (some 84) rfl (by rfl) (by kernel_rfl) (by kernel_rfl) (by kernel_rfl) (by kernel_rfl) (by kernel_rfl) (by kernel_rfl) (fun _ _ _ h => h) (YieldsIf.yieldsW (.inl ⟨by rfl, ?_⟩)) ?_
  · (intro W hW; (try dsimp only at hW); go_simp; try with_reducible rfl)
  try simp only [Act.put, List.setIfInBounds_toArray, List.set_cons_zero, List.set_cons_succ]
  refine w_take (i := 21) (v := .bool true) [] (some 85) rfl (by rfl) (by kernel_rfl) (by kernel_rfl) (by kernel_rfl) (by kernel_rfl) (by kernel_rfl) (by kernel_rfl) (fun _ _ _ h => h) (YieldsIf.yieldsW (.inl ⟨by rfl, ?_⟩)) ?_
  · (intro W hW; (try dsimp only at hW); go_simp; try with_reducible rfl)
  try simp only [Act.put, List.setIfInBounds_toArray, List.set_cons_zero, List.set_cons_succ]
  refine w_take (i := 22) (v := .bool true) [] (some 86) rfl (by rfl) (by kernel_rfl) (by kernel_rfl) (by kernel_rfl) (by kernel_rfl) (by kernel_rfl) (by kernel_rfl) (fun _ _ _ h => h) (YieldsIf.yieldsW (.inl ⟨by rfl, ?_⟩)) ?_
  · (intro W hW; (try dsimp only at hW); go_simp; try with_reducible rfl)
  try simp only [Act.put, List.setIfInBounds_toArray, List.set_cons_zero, List.set_cons_succ]
  refine w_take (i := 23) (v := ?_) [] (some 87) rfl (by rfl) (by kernel_rfl) (by kernel_rfl) (by kernel_rfl) (by kernel_rfl) (by kernel_rfl) (by kernel_rfl) (fun _ _ _ h => h) (YieldsIf.yieldsW (.inl ⟨by rfl, ?_⟩)) ?_
  rotate_left 1
  · (intro W hW; (try dsimp only at hW); go_simp; try with_reducible rfl)
  try simp only [Act.put, List.setIfInBounds_toArray, List.set_cons_zero, List.set_cons_succ]
  refine w_take (i := 24) (v := .bool true) [] (some 88) rfl (by rfl) (by kernel_rfl) (by kernel_rfl) (by kernel_rfl) (by kernel_rfl) (by kernel_rfl) (by kernel_rfl) (fun _ _ _ h => h) (YieldsIf.yieldsW (.inl ⟨by rfl, ?_⟩)) ?_
  · (intro W hW; (try dsimp only at hW); go_simp; try with_reducible rfl)
  try simp only [Act.put, List.setIfInBounds_toArray, List.set_cons_zero, List.set_cons_succ]
  refine w_take (i := 25) (v := .bool true) [] (some 89) rfl (by rfl) (by kernel_rfl) (by kernel_rfl) (by kernel_rfl) (by kernel_rfl) (by kernel_rfl) (by kernel_rfl) (fun _ _ _ h => h) (YieldsIf.yieldsW (.inl ⟨by rfl, ?_⟩)) ?_
  · (intro W hW; (try dsimp only at hW); go_simp; try with_reducible rfl)
  try simp only [Act.put, List.setIfInBounds_toArray, List.set_cons_zero, List.set_cons_succ]
  refine w_take (i := 26) (v := .bool true) [] (some 90) rfl (by rfl) (by kernel_rfl) (by kernel_rfl) (by kernel_rfl) (by kernel_rfl) (by kernel_rfl) (by kernel_rfl) (fun _ _ _ h => h) (YieldsIf.yieldsW (.inl ⟨by rfl, ?_⟩)) ?_
  · (intro W hW; (try dsimp only at hW); go_simp; try with_reducible rfl)
  try simp only [Act.put, List.setIfInBounds_toArray, List.set_cons_zero, List.set_cons_succ]
  refine w_take (i := 27) (v := ?_) [] (some 91) rfl (by rfl) (by kernel_rfl) (by kernel_rfl) (by kernel_rfl) (by kernel_rfl) (by kernel_rfl) (by kernel_rfl) (fun _ _ _ h => h) (YieldsIf.yieldsW (.inl ⟨by rfl, ?_⟩)) ?_
  rotate_left 1
  · (intro W hW; (try dsimp only at hW); go_simp; try with_reducible rfl)
  try simp only [Act.put, List.setIfInBounds_toArray, List.set_cons_zero, List.set_cons_succ]
  refine w_take (i := 28) (v := ?_) [] (some 92) rfl (by rfl) (by kernel_rfl) (by kernel_rfl) (by kernel_rfl) (by kernel_rfl) (by kernel_rfl) (by kernel_rfl) (fun _ _ _ h => h) (YieldsIf.yieldsW (.inl ⟨by rfl, ?_⟩)) ?_
  rotate_left 1
  · (intro W hW; (try dsimp only at hW); go_simp; try with_reducible rfl)
  try simp only [Act.put, List.setIfInBounds_toArray, List.set_cons_zero, List.set_cons_succ]
  refine w_take (i := 29) (v := ?_) [] (some 93) rfl (by rfl) (by kernel_rfl) (by kernel_rfl) (by kernel_rfl) (by kernel_rfl) (by kernel_rfl) (by kernel_rfl) (fun _ _ _ h => h) (YieldsIf.yieldsW (.inl ⟨by rfl, ?_⟩)) ?_
  rotate_left 1
  · (intro W hW; (try dsimp only at hW); go_simp; try with_reducible rfl)
  try simp only [Act.put, List.setIfInBounds_toArray, List.set_cons_zero, List.set_cons_succ]
  refine w_take (i := 30) (v := ?_) [] (some 94) rfl (by rfl) (by kernel_rfl) (by kernel_rfl) (by kernel_rfl) (by kernel_rfl) (by kernel_rfl) (by kernel_rfl) (fun _ _ _ h => h) (YieldsIf.yieldsW (.inl ⟨by rfl, ?_⟩)) ?_
  rotate_left 1
  · (intro W hW; (try dsimp only at hW); go_simp; try with_reducible rfl)
  try simp only [Act.put, List.setIfInBounds_toArray, List.set_cons_zero, List.set_cons_succ]
  refine w_take (i := 31) (v := .bool b) [] (some 95) rfl (by rfl) (by kernel_rfl) (by kernel_rfl) (by kernel_rfl) (by kernel_rfl) (by kernel_rfl) (by kernel_rfl) (fun _ _ _ h => h) (YieldsIf.yieldsW (.inl ⟨by rfl, ?_⟩)) ?_
  · (intro W hW; (try dsimp only at hW); go_simp; try with_reducible rfl)
  try simp only [Act.put, List.setIfInBounds_toArray, List.set_cons_zero, List.set_cons_succ]
  refine w_take (i := 32) (v := ?_) [] (some 96) rfl (by rfl) (by kernel_rfl) (by kernel_rfl) (by kernel_rfl) (by kernel_rfl) (by kernel_rfl) (by kernel_rfl) (fun _ _ _ h => h) (YieldsIf.yieldsW (.inl ⟨by rfl, ?_⟩)) ?_
  rotate_left 1
  · (intro W hW; (try dsimp only at hW); go_simp; try with_reducible rfl)
  try simp only [Act.put, List.setIfInBounds_toArray, List.set_cons_zero, List.set_cons_succ]
  refine w_take (i := 33) (v := .bool true) [] (some 97) rfl (by rfl) (by kernel_rfl) (by kernel_rfl) (by kernel_rfl) (by kernel_rfl) (by kernel_rfl) (by kernel_rfl) (fun _ _ _ h => h) (YieldsIf.yieldsW (.inl ⟨by rfl, ?_⟩)) ?_
  · (intro W hW; (try dsimp only at hW); go_simp; try with_reducible rfl)
  try simp only [Act.put, List.setIfInBounds_toArray, List.set_cons_zero, List.set_cons_succ]
  refine w_take (i := 34) (v := .bool true) [] (some 98) rfl (by rfl) (by kernel_rfl) (by kernel_rfl) (by kernel_rfl) (by kernel_rfl) (by kernel_rfl) (by kernel_rfl) (fun _ _ _ h => h) (YieldsIf.yieldsW (.inl ⟨by rfl, ?_⟩)) ?_
  · (intro W hW; (try dsimp only at hW); go_simp; try with_reducible rfl)
  try simp only [Act.put, List.setIfInBounds_toArray, List.set_cons_zero, List.set_cons_succ]
  refine w_take (i := 35) (v := .bool true) [] (some 99) rfl (by rfl) (by kernel_rfl) (by kernel_rfl) (by kernel_rfl) (by kernel_rfl) (by kernel_rfl) (by kernel_rfl) (fun _ _ _ h => h) (YieldsIf.yieldsW (.inl ⟨by rfl, ?_⟩)) ?_
  · (intro W hW; (try dsimp only at hW); go_simp; try with_reducible rfl)
  try simp only [Act.put, List.setIfInBounds_toArray, List.set_cons_zero, List.set_cons_succ]
  refine w_take (i := 36) (v := ?_) [] (some 100) rfl (by rfl) (by kernel_rfl) (by kernel_rfl) (by kernel_rfl) (by kernel_rfl) (by kernel_rfl) (by kernel_rfl) (fun _ _ _ h => h) (YieldsIf.yieldsW (.inl ⟨by rfl, ?_⟩)) ?_
  rotate_left 1
  · (intro W hW; (try dsimp only at hW); go_simp; try with_reducible rfl)
  try simp only [Act.put, List.setIfInBounds_toArray, List.set_cons_zero, List.set_cons_succ]
  refine w_take (i := 37) (v := ?_) [] (some 101) rfl (by rfl) (by kernel_rfl) (by kernel_rfl) (by kernel_rfl) (by kernel_rfl) (by kernel_rfl) (by kernel_rfl) (fun _ _ _ h => h) (YieldsIf.yieldsW (.inl ⟨by rfl, ?_⟩)) ?_
  rotate_left 1
  · (intro W hW; (try dsimp only at hW); go_simp; try with_reducible rfl)
  try simp only [Act.put, List.setIfInBounds_toArray, List.set_cons_zero, List.set_cons_succ]
  refine w_take (i := 38) (v := .bool true) [] (some 102) rfl (by rfl) (by kernel_rfl) (by kernel_rfl) (by kernel_rfl) (by kernel_rfl) (by kernel_rfl) (by kernel_rfl) (fun _ _ _ h => h) (YieldsIf.yieldsW (.inl ⟨by rfl, ?_⟩)) ?_
  · (intro W hW; (try dsimp only at hW); go_simp; try with_reducible rfl)
  try simp only [Act.put, List.setIfInBounds_toArray, List.set_cons_zero, List.set_cons_succ]
  refine w_take (i := 39) (v := .bool true) [] (some 103) rfl (by rfl) (by kernel_rfl) (by kernel_rfl) (by kernel_rfl) (by kernel_rfl) (by kernel_rfl) (by kernel_rfl) (fun _ _ _ h => h) (YieldsIf.yieldsW (.inl ⟨by rfl, ?_⟩)) ?_
  · (intro W hW; (try dsimp only at hW); go_simp; try with_reducible rfl)
  try simp only [Act.put, List.setIfInBounds_toArray, List.set_cons_zero, List.set_cons_succ]
  refine w_take (i := 40) (v := .bool true) [] (some 104) rfl (by rfl) (by kernel_rfl) (by kernel_rfl) (by kernel_rfl) (by kernel_rfl) (by kernel_rfl) (by kernel_rfl) (fun _ _ _ h => h) (YieldsIf.yieldsW (.inl ⟨by rfl, ?_⟩)) ?_
  · (intro W hW; (try dsimp only at hW); go_simp; try with_reducible rfl)
  try simp only [Act.put, List.setIfInBounds_toArray, List.set_cons_zero, List.set_cons_succ]
  refine w_take (i := 41) (v := ?_) [] (some 105) rfl (by rfl) (by kernel_rfl) (by kernel_rfl) (by kernel_rfl) (by kernel_rfl) (by kernel_rfl) (by kernel_rfl) (fun _ _ _ h => h) (YieldsIf.yieldsW (.inl ⟨by rfl, ?_⟩)) ?_
  rotate_left 1
  · (intro W hW; (try dsimp only at hW); go_simp; try with_reducible rfl)
  try simp only [Act.put, List.setIfInBounds_toArray, List.set_cons_zero, List.set_cons_succ]
  refine w_take (i := 42) (v := ?_) [] (some 106) rfl (by rfl) (by kernel_rfl) (by kernel_rfl) (by kernel_rfl) (by kernel_rfl) (by kernel_rfl) (by kernel_rfl) (fun _ _ _ h => h) (YieldsIf.yieldsW (.inl ⟨by rfl, ?_⟩)) ?_
  rotate_left 1
  · (intro W hW; (try dsimp only at hW); go_simp; try with_reducible rfl)
  try simp only [Act.put, List.setIfInBounds_toArray, List.set_cons_zero, List.set_cons_succ]
  refine w_take (i := 43) (v := ?_) [] (some 107) rfl (by rfl) (by kernel_rfl) (by kernel_rfl) (by kernel_rfl) (by kernel_rfl) (by kernel_rfl) (by kernel_rfl) (fun _ _ _ h => h) (YieldsIf.yieldsW (.inl ⟨by rfl, ?_⟩)) ?_
  rotate_left 1
  · (intro W hW; (try dsimp only at hW); go_simp; try with_reducible rfl)
  try simp only [Act.put, List.setIfInBounds_toArray, List.set_cons_zero, List.set_cons_succ]
  refine w_take (i := 44) (v := ?_) [] (some 108) rfl (by rfl) (by kernel_rfl) (by kernel_rfl) (by kernel_rfl) (by kernel_rfl) (by kernel_rfl) (by kernel_rfl) (fun _ _ _ h => h) (YieldsIf.yieldsW (.inl ⟨by rfl, ?_⟩)) ?_
  rotate_left 1
  · (intro W hW; (try dsimp only at hW); go_simp; try with_reducible rfl)
  try simp only [Act.put, List.setIfInBounds_toArray, List.set_cons_zero, List.set_cons_succ]
  refine w_take (i := 45) (v := .bool true) [] (some 109) rfl (by rfl) (by kernel_rfl) (by kernel_rfl) (by kernel_rfl) (by kernel_rfl) (by kernel_rfl) (by kernel_rfl) (fun _ _ _ h => h) (.inl ⟨by rfl, ?_⟩) ?_
  · (intro W hW; refine .inr ⟨_, _, _, ?_, ((C45.out W hW).mono fun _ _ ⟨h1, h2⟩ => ⟨h1, hW.trans h2⟩)⟩; go_simp; try with_reducible rfl)
  try simp only [Act.put, List.setIfInBounds_toArray, List.set_cons_zero, List.set_cons_succ]
  refine w_take (i := 46) (v := .bool true) [] (some 110) rfl (by rfl) (by kernel_rfl) (by kernel_rfl) (by kernel_rfl) (by kernel_rfl) (by kernel_rfl) (by kernel_rfl) (fun _ _ _ h => h) (YieldsIf.yieldsW (.inl ⟨by rfl, ?_⟩)) ?_
  · (intro W hW; (try dsimp only at hW); go_simp; try with_reducible rfl)
  try simp only [Act.put, List.setIfInBounds_toArray, List.set_cons_zero, List.set_cons_succ]
  refine w_take (i := 47) (v := .bool true) [] (some 111) rfl (by rfl) (by kernel_rfl) (by kernel_rfl) (by kernel_rfl) (by kernel_rfl) (by kernel_rfl) (by kernel_rfl) (fun _ _ _ h => h) (YieldsIf.yieldsW (.inl ⟨by rfl, ?_⟩)) ?_
  · (intro W hW; (try dsimp only at hW); go_simp; try with_reducible rfl)
  try simp only [Act.put, List.setIfInBounds_toArray, List.set_cons_zero, List.set_cons_succ]
  refine w_take (i := 48) (v := ?_) [] (some 112) rfl (by rfl) (by kernel_rfl) (by kernel_rfl) (by kernel_rfl) (by kernel_rfl) (by kernel_rfl) (by kernel_rfl) (fun _ _ _ h => h) (YieldsIf.yieldsW (.inl ⟨by rfl, ?_⟩)) ?_
  rotate_left 1
  · (intro W hW; (try dsimp only at hW); go_simp; try with_reducible rfl)
  try simp only [Act.put, List.setIfInBounds_toArray, List.set_cons_zero, List.set_cons_succ]
  refine w_take (i := 49) (v := ?_) [] (some 113) rfl (by rfl) (by kernel_rfl) (by kernel_rfl) (by kernel_rfl) (by kernel_rfl) (by kernel_rfl) (by kernel_rfl) (fun _ _ _ h => h) (YieldsIf.yieldsW (.inl ⟨by rfl, ?_⟩)) ?_
  rotate_left 1
  · (intro W hW; (try dsimp only at hW); go_simp; try with_reducible rfl)
  try simp only [Act.put, List.setIfInBounds_toArray, List.set_cons_zero, List.set_cons_succ]
  refine w_take (i := 50) (v := ?_) [] (some 114) rfl (by rfl) (by kernel_rfl) (by kernel_rfl) (by kernel_rfl) (by kernel_rfl) (by kernel_rfl) (by kernel_rfl) (fun _ _ _ h => h) (YieldsIf.yieldsW (.inl ⟨by rfl, ?_⟩)) ?_
  rotate_left 1
  · (intro W hW; (try dsimp only at hW); go_simp; try with_reducible rfl)
  try simp only [Act.put, List.setIfInBounds_toArray, List.set_cons_zero, List.set_cons_succ]
  refine w_take (i := 51) (v := ?_) [] (some 115) rfl (by rfl) (by kernel_rfl) (by kernel_rfl) (by kernel_rfl) (by kernel_rfl) (by kernel_rfl) (by kernel_rfl) (fun _ _ _ h => h) (YieldsIf.yieldsW (.inl ⟨by rfl, ?_⟩)) ?_
  rotate_left 1
  · (intro W hW; (try dsimp only at hW); go_simp; try with_reducible rfl)
  try simp only [Act.put, List.setIfInBounds_toArray, List.set_cons_zero, List.set_cons_succ]
  refine w_take (i := 52) (v := .bool true) [] (some 116) rfl (by rfl) (by kernel_rfl) (by kernel_rfl) (by kernel_rfl) (by kernel_rfl) (by kernel_rfl) (by kernel_rfl) (fun _ _ _ h => h) (.inl ⟨by rfl, ?_⟩) ?_
  · (intro W hW; refine .inr ⟨_, _, _, ?_, ((C52.out W hW).mono fun _ _ ⟨h1, h2⟩ => ⟨h1, hW.trans h2⟩)⟩; go_simp; try with_reducible rfl)
  try simp only [Act.put, List.setIfInBounds_toArray, List.set_cons_zero, List.set_cons_succ]
  refine w_take (i := 53) (v := .bool true) [] (some 117) rfl (by rfl) (by kernel_rfl) (by kernel_rfl) (by kernel_rfl) (by kernel_rfl) (by kernel_rfl) (by kernel_rfl) (fun _ _ _ h => h) (YieldsIf.yieldsW (.inl ⟨by rfl, ?_⟩)) ?_
  · (intro W hW; (try dsimp only at hW); go_simp; try with_reducible rfl)
  try simp only [Act.put, List.setIfInBounds_toArray, List.set_cons_zero, List.set_cons_succ]
  refine w_take (i := 54) (v := .bool true) [] (some 4) rfl (by rfl) (by kernel_rfl) (by kernel_rfl) (by kernel_rfl) (by kernel_rfl) (by kernel_rfl) (by kernel_rfl) (fun _ _ _ h => h) (YieldsIf.yieldsW (.inl ⟨by rfl, ?_⟩)) ?_
  · (intro W hW; (try dsimp only at hW); go_simp; try with_reducible rfl)
  try simp only [Act.put, List.setIfInBounds_toArray, List.set_cons_zero, List.set_cons_succ]
  refine w_done (by kernel_rfl) (by rfl) (fun V2 hV2 => ?_) _
  go_wp2_with fail
  go_returns
  exact ⟨rfl, HVV.out.2.2.trans hV2⟩
end Go.Proofs.YteflnnlihblpgaaDoor
