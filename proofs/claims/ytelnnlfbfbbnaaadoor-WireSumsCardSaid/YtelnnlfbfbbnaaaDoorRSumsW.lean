/-
  The statement WireSums, walked.
-/
import Derived.Test.YtelnnlfbfbbnaaaDoorRSums
namespace Go.Proofs.YtelnnlfbfbbnaaaDoor
open Go.RowKit
set_option linter.unusedVariables false
theorem opened_sealed (l : List Nat) : opened (sealed l) = (l, 0) := by
  unfold opened
  have e1 : (sealed l).length = l.length + 4 := sealed_len l
  rw [if_neg (by omega)]
  have e2 : (sealed l).take ((sealed l).length - 4) = l := by
    rw [e1, Nat.add_sub_cancel]
    unfold sealed
    exact List.take_left' rfl
  rw [e2, if_pos rfl]
/-- What stands all along. -/
structure SumT (w0 w : World) (Ab Aw A : Option Addr) (n c g cb cw : Nat) (l lw : List Nat) : Prop where
  b0 : Rd w0 1 A n (u8s l)
  back : Rd w 1 Ab n (u8s l)
  want : Rd w 1 Aw lw.length (u8s lw)
  inn : Rd w 1 (some ⟨g, 0, none⟩) (n + 6) (u8s (l ++ marks6))
  ext : Ext w0 w
theorem SumT.more {w0 w w' : World} {Ab Aw A : Option Addr} {n c g cb cw : Nat} {l lw : List Nat} (h : SumT w0 w Ab Aw A n c g cb cw l lw) (hx : Ext w w') : SumT w0 w' Ab Aw A n c g cb cw l lw :=
  ⟨h.b0, h.back.ext hx, h.want.ext hx, h.inn.ext hx, h.ext.trans hx⟩
theorem rd_fr {w w' : World} {P : Nat → Prop} {B : Option Addr} {m : Nat} {xs : List Nat} (hf : Fr w w' P) (hr : Rd w 1 B m (u8s xs)) (hne : 0 < m → ∀ a, B = some a → ¬ P a.block) : Rd w' 1 B m (u8s xs) := by
  rcases Nat.eq_zero_or_pos m with h0 | h0
  · subst h0
    have h1 := hr.len
    rw [u8s_len] at h1
    have : xs = [] := List.eq_nil_of_length_eq_zero (by omega)
    subst this
    exact ⟨rfl, fun h => absurd h (by omega)⟩
  · exact hf.rd hr (hne h0)
theorem SumT.fr {w0 w w' : World} {Ab Aw A : Option Addr} {n c g cb cw : Nat} {l lw : List Nat} {P : Nat → Prop} (h : SumT w0 w Ab Aw A n c g cb cw l lw) (hf : Fr w w' P) (hP : ∀ i, P i → w0.heap.size ≤ i)
    (h1 : 0 < n → ∀ a, Ab = some a → ¬ P a.block) (h2 : 0 < lw.length → ∀ a, Aw = some a → ¬ P a.block) (h3 : ¬ P g) : SumT w0 w' Ab Aw A n c g cb cw l lw :=
  ⟨h.b0, rd_fr hf h.back h1, rd_fr hf h.want h2, rd_fr hf h.inn (fun _ a ha => by injection ha with ha; subst ha; exact h3), Fr.ext h.ext hf hP⟩
theorem SumT.cv {w0 w : World} {Ab Aw A : Option Addr} {n c g cb cw : Nat} {l lw : List Nat} (h : SumT w0 w Ab Aw A n c g cb cw l lw) :
    Ext w0 w ∧ (convert 26 9 (.slice Aw lw.length cw)).run Tryd.prog w = .ok (.string (str lw)) w ∧ (convert 26 9 (.slice Ab n cb)).run Tryd.prog w = .ok (.string (str l)) w ∧ (convert 26 9 (.slice A n c)).run Tryd.prog w = .ok (.string (str l)) w :=
  ⟨h.ext, run_str Tryd.underlying26 Tryd.underlying5 Tryd.underlying9 cw h.want, run_str Tryd.underlying26 Tryd.underlying5 Tryd.underlying9 cb h.back, run_str Tryd.underlying26 Tryd.underlying5 Tryd.underlying9 c (h.b0.ext h.ext)⟩
set_option maxRecDepth 8000 in
set_option maxHeartbeats 6400000 in
theorem sums_any (A : Option Addr) (n c : Nat) (l : List Nat) (w : World) (hn : n ≤ 140737488351232) (hnc : n ≤ c) (hr : Rd w 1 A n (u8s l)) (hl : ∀ x ∈ l, x < 256) (E : Nat → Addr) (hE : Errs w E) :
    Calls Tryd.prog 8 #[.slice A n c] w fun e w' => e = .returned (.bool true) ∧ Ext w w' := by
  have HR := Lib.hid hr
  have HL := Lib.hid hl
  have HE := Lib.hid hE
  clear hr hl hE
  go_enter Tryd.func8, Tryd.ntmps8
  go_wp2_with fail
  refine (alive_any _).mono ?_
  rintro e u0 ⟨rfl, e0⟩
  go_wp2_with fail
  refine (bytes_any A n c l u0 hn (HR.out.ext e0)).mono ?_
  rintro e u1 ⟨rfl, rb, e1⟩
  have x1 := e0.trans e1
  go_wp2_with fail
  refine (seal_any _ n (n + 6) l u1 hn rb.unmark HL.out).mono ?_
  rintro e u2 ⟨As, cs, rfl, os, e2⟩
  have x2 := x1.trans e2
  go_wp2_with fail
  refine (open_any _ n (n + 6) l u2 (by omega) (by omega) (rb.unmark.ext e2) HL.out E (HE.out.ext x2)).mono ?_
  rintro e u3 ⟨Ao, co, rfl, oo, e3⟩
  have x3 := x2.trans e3
  go_wp2_with fail
  refine (ropen_any A n c l u3 hn hnc (HR.out.ext x3) HL.out).mono ?_
  rintro e u4 ⟨Aw, cw, rfl, ow, e4⟩
  have x4 := x3.trans e4
  have hs4 := (os.ext (e3.trans e4))
  have hlen : l.length = n := by have h := HR.out.len; rw [u8s_len] at h; omega
  have OB : Calls Tryd.prog 32 #[.slice As (n + 4) cs] u4 fun e w' => ∃ A' c', e = .returned (.tuple #[.slice A' n c', .nilIface]) ∧ Own w' u4.heap.size 5 1 A' n c' (u8s l) ∧ Ext u4 w' := by
    refine (open_any As (n + 4) cs (sealed l) u4 (by omega) hs4.cap_le hs4.rd (sealed_byte HL.out) E (HE.out.ext x4)).mono fun e w' h => ?_
    rw [opened_sealed] at h
    obtain ⟨A', c', rfl, ho, hx⟩ := h
    exact ⟨A', c', by rw [← hlen]; rfl, by rw [← hlen]; exact ho, hx⟩
  have HOB := Lib.hid OB
  clear OB
  go_wp2_with fail
  refine HOB.out.mono ?_
  rintro e W ⟨Ab, cb, rfl, ob, e5⟩
  have OS := Lib.hid (os.ext (e3.trans (e4.trans e5)))
  have OO := Lib.hid (oo.ext (e4.trans e5))
  have Z1 := e2.size
  have Z2 := e3.size
  have Z3 := e4.size
  have Z4 := e5.size
  have blk : ∀ {w1 : World} {base n1 c1 : Nat} {A1 : Option Addr} {xs : List Value} (h : Own w1 base 5 1 A1 n1 c1 xs) (a : Addr), A1 = some a → a.block < w1.heap.size := by
    intro w1 base n1 c1 A1 xs h a ha
    rcases h.2 with ⟨h', _⟩ | ⟨g, cap, cur, h', _, hgg, _⟩
    · injection h' with h1 _ _
      rw [ha] at h1
      cases h1
    · injection h' with h1 _ _
      rw [ha] at h1
      injection h1 with h1
      subst h1
      exact (Array.getElem?_eq_some_iff.1 hgg).1
  have sLt := blk os
  have oLt := blk oo
  have sGe : ∀ a, As = some a → u1.heap.size ≤ a.block := fun a ha => os.base_le _ (by rw [ha]; rfl)
  have oGe : ∀ a, Ao = some a → u2.heap.size ≤ a.block := fun a ha => oo.base_le _ (by rw [ha]; rfl)
  have wGe : ∀ a, Aw = some a → u3.heap.size ≤ a.block := fun a ha => ow.base_le _ (by rw [ha]; rfl)
  have bGe : ∀ a, Ab = some a → u4.heap.size ≤ a.block := fun a ha => ob.base_le _ (by rw [ha]; rfl)
  have gLt : u0.heap.size < u1.heap.size := by
    obtain ⟨ad, h1, h2, _⟩ := rb.2 (by omega)
    injection h1 with h1
    subst h1
    exact h2
  have Z5 := x2.size
  have Z6 := x1.size
  have oB := opened_byte (l := l) HL.out
  have oL := opened_len l
  have opn : ∀ {B : Option Addr} {P : Addr → Prop}, (∀ a, B = some a → P a) → ∀ i, B.map (·.block) = some i → ∃ a : Addr, P a ∧ a.block = i := by
    intro B P h i hi
    cases B with
    | none => cases hi
    | some a =>
      injection hi with hi
      exact ⟨a, h a rfl, hi⟩
  have T0 : SumT w W Ab Aw A n c u0.heap.size cb cw l (opened l).1 := ⟨HR.out, ob.rd, (ow.ext e5).rd, rb.ext (e2.trans (e3.trans (e4.trans e5))), x4.trans e5⟩
  have CV := fun (C : Option Addr) (j cj : Nat) (lj : List Nat) (w' : World) (h : Rd w' 1 C j (u8s lj)) => run_str (P := Tryd.prog) (w := w') (s := 9) Tryd.underlying26 Tryd.underlying5 Tryd.underlying9 cj h
  have CS := Lib.hid (fun (w' : World) (hx : Ext W w') => CV As (n + 4) cs (sealed l) w' (OS.out.rd.ext hx))
  have CO := Lib.hid (fun (w' : World) (hx : Ext W w') => CV Ao (opened l).1.length co (opened l).1 w' (OO.out.rd.ext hx))
  have T1 := Lib.hid T0
  have A0 := Lib.hid (fun (w' : World) (hx : Ext W w') => sum_any (some ⟨u0.heap.size, 0, none⟩) n (n + 6) l w' (by omega) ((T0.more hx).inn.unmark) HL.out)
  have A1 := Lib.hid (fun (w' : World) (hx : Ext W w') => rsum_any A n c l w' (by omega) (HR.out.ext (T0.more hx).ext) HL.out)
  have A2 := Lib.hid (fun (w' : World) (hx : Ext W w') => (rseal_any A n c l w' (by omega) (HR.out.ext (T0.more hx).ext) HL.out).mono fun e w'' (h : ∃ A' c', e = .returned (.slice A' (n + 4) c') ∧ Own w'' w'.heap.size 5 1 A' (n + 4) c' (u8s (sealed l)) ∧ Ext w' w'') =>
    (by
      obtain ⟨A', c', he, ho, hx2⟩ := h
      exact ⟨A', c', he, CV A' (n + 4) c' (sealed l) w'' ho.rd, CS.out _ (hx.trans hx2), hx.trans hx2, (T0.more (hx.trans hx2)).cv⟩ :
      ∃ A' c', e = .returned (.slice A' (n + 4) c') ∧ (convert 26 9 (.slice A' (n + 4) c')).run Tryd.prog w'' = .ok (.string (str (sealed l))) w'' ∧ (convert 26 9 (.slice As (n + 4) cs)).run Tryd.prog w'' = .ok (.string (str (sealed l))) w'' ∧ Ext W w'' ∧
        Ext w w'' ∧ (convert 26 9 (.slice Aw (opened l).1.length cw)).run Tryd.prog w'' = .ok (.string (str (opened l).1)) w'' ∧ (convert 26 9 (.slice Ab n cb)).run Tryd.prog w'' = .ok (.string (str l)) w'' ∧ (convert 26 9 (.slice A n c)).run Tryd.prog w'' = .ok (.string (str l)) w''))
  have A3 := Lib.hid (fun (w' : World) (hx : Ext W w') => (num_errV E (opened l).2 w' (HE.out.ext (T0.more hx).ext) (opened_err l)).mono fun e w'' (h : e = .returned (.int .i64 ((opened l).2 : Int)) ∧ Ext w' w'') =>
    (⟨h.1, CO.out _ (hx.trans h.2), hx.trans h.2, (T0.more (hx.trans h.2)).cv⟩ :
      e = .returned (.int .i64 ((opened l).2 : Int)) ∧ (convert 26 9 (.slice Ao (opened l).1.length co)).run Tryd.prog w'' = .ok (.string (str (opened l).1)) w'' ∧ Ext W w'' ∧
        Ext w w'' ∧ (convert 26 9 (.slice Aw (opened l).1.length cw)).run Tryd.prog w'' = .ok (.string (str (opened l).1)) w'' ∧ (convert 26 9 (.slice Ab n cb)).run Tryd.prog w'' = .ok (.string (str l)) w'' ∧ (convert 26 9 (.slice A n c)).run Tryd.prog w'' = .ok (.string (str l)) w''))
  have A4 := Lib.hid (fun (w' : World) (hx : Ext W w') => (apart_any As Ao (n + 4) cs (opened l).1.length co u2.heap.size (sealed l) (opened l).1 w' (OS.out.rd.ext hx) (OO.out.ext hx) oB (by omega) (by have := hx.size; omega) (fun a ha e => by
      obtain ⟨b, h2, h3⟩ := opn oGe _ e
      have h1 := sLt a ha
      omega)).mono fun e w'' (h : e = .returned (.bool true) ∧ Fr w' w'' (fun b => Ao.map (·.block) = some b)) =>
    (by
      have t2 := (T0.more hx).fr h.2 (fun i hi => by obtain ⟨b, h2, h3⟩ := opn oGe _ hi; omega) (fun _ a ha e => by obtain ⟨b, h2, h3⟩ := opn oLt _ e; have h1 := bGe a ha; omega) (fun _ a ha e => by obtain ⟨b, h2, h3⟩ := opn oLt _ e; have h1 := wGe a ha; omega) (fun e => by obtain ⟨b, h2, h3⟩ := opn oGe _ e; omega)
      exact ⟨h.1, h.2.own (OS.out.ext hx) (fun a ha e => by obtain ⟨b, h2, h3⟩ := opn oGe _ e; have h1 := sLt a ha; omega), by have h1 := h.2.size; have h2 := hx.size; omega, t2, t2.cv⟩ :
      e = .returned (.bool true) ∧ Own w'' u1.heap.size 5 1 As (n + 4) cs (u8s (sealed l)) ∧ u1.heap.size ≤ w''.heap.size ∧ SumT w w'' Ab Aw A n c u0.heap.size cb cw l (opened l).1 ∧
        Ext w w'' ∧ (convert 26 9 (.slice Aw (opened l).1.length cw)).run Tryd.prog w'' = .ok (.string (str (opened l).1)) w'' ∧ (convert 26 9 (.slice Ab n cb)).run Tryd.prog w'' = .ok (.string (str l)) w'' ∧ (convert 26 9 (.slice A n c)).run Tryd.prog w'' = .ok (.string (str l)) w''))
  have A5 := Lib.hid (fun (w' : World) (h0 : Own w' u1.heap.size 5 1 As (n + 4) cs (u8s (sealed l))) (hz : u1.heap.size ≤ w'.heap.size) (ht : SumT w w' Ab Aw A n c u0.heap.size cb cw l (opened l).1) => (apart_any Ab As n cb (n + 4) cs u1.heap.size l (sealed l) w' ht.back h0 (sealed_byte HL.out) (by omega) hz (fun a ha e => by
      obtain ⟨b, h2, h3⟩ := opn sLt _ e
      have h1 := bGe a ha
      omega)).mono fun e w'' (h : e = .returned (.bool true) ∧ Fr w' w'' (fun b => As.map (·.block) = some b)) =>
    (by
      have t2 := ht.fr h.2 (fun i hi => by obtain ⟨b, h2, h3⟩ := opn sGe _ hi; omega) (fun _ a ha e => by obtain ⟨b, h2, h3⟩ := opn sLt _ e; have h1 := bGe a ha; omega) (fun _ a ha e => by obtain ⟨b, h2, h3⟩ := opn sLt _ e; have h1 := wGe a ha; omega) (fun e => by obtain ⟨b, h2, h3⟩ := opn sGe _ e; omega)
      exact ⟨h.1, t2, t2.cv⟩ :
      e = .returned (.bool true) ∧ SumT w w'' Ab Aw A n c u0.heap.size cb cw l (opened l).1 ∧
        Ext w w'' ∧ (convert 26 9 (.slice Aw (opened l).1.length cw)).run Tryd.prog w'' = .ok (.string (str (opened l).1)) w'' ∧ (convert 26 9 (.slice Ab n cb)).run Tryd.prog w'' = .ok (.string (str l)) w'' ∧ (convert 26 9 (.slice A n c)).run Tryd.prog w'' = .ok (.string (str l)) w''))
  have A6 := Lib.hid (fun (w' : World) (ht : SumT w w' Ab Aw A n c u0.heap.size cb cw l (opened l).1) => (kept_any u0.heap.size n c A l w' hn ht.inn (HR.out.ext ht.ext)).mono fun e w'' (h : e = .returned (.bool true) ∧ ∃ k, w'' = w'.drewN k) =>
    (by
      obtain ⟨he, k, rfl⟩ := h
      exact ⟨he, (ht.more ((Ext.refl _).drewN k)).cv⟩ :
      e = .returned (.bool true) ∧
        Ext w w'' ∧ (convert 26 9 (.slice Aw (opened l).1.length cw)).run Tryd.prog w'' = .ok (.string (str (opened l).1)) w'' ∧ (convert 26 9 (.slice Ab n cb)).run Tryd.prog w'' = .ok (.string (str l)) w'' ∧ (convert 26 9 (.slice A n c)).run Tryd.prog w'' = .ok (.string (str l)) w''))
  have r5d : Ext W W.drew := (Ext.refl W).drew
  obtain ⟨k0, k1, k2, k3⟩ := (T0.more r5d).cv
  have i1 := CS.out W.drew r5d
  have XW := x4.trans e5
  clear CV oB oL Z1 Z2 Z3 Z4 Z5 Z6 sLt sGe oGe oLt wGe bGe gLt hlen os oo ow ob rb e0 e1 e2 e3 e4 e5 x1 x2 x3 x4 hs4 HOB blk opn T0
  generalize (opened l).2 = oe at *
  go_upto_region 8 with (fail)
  generalize str (sealed l) = s1 at *
  generalize str (opened l).1 = s2 at *
  generalize str l = s3 at *
  generalize (opened l).1.length = on at *
  go_region_held (fun w' => Ext w w' ∧ (convert 26 9 (.slice Aw on cw)).run Tryd.prog w' = .ok (.string s2) w' ∧ (convert 26 9 (.slice Ab n cb)).run Tryd.prog w' = .ok (.string s3) w' ∧ (convert 26 9 (.slice A n c)).run Tryd.prog w' = .ok (.string s3) w') (first | with_reducible assumption | (refine ⟨?_, ?_, ?_, ?_⟩ <;> with_reducible assumption)) (first
    | (go_at_call 34; (with_reducible refine (A0.out _ (by assumption)).mono ?_); rintro en1 vA ⟨rfl, rfl⟩)
    | (go_at_call 35; (with_reducible refine (A1.out _ (by assumption)).mono ?_); rintro en2 vB ⟨rfl, rfl⟩)
    | (go_at_call 36; (with_reducible refine (A2.out _ (by assumption)).mono ?_); rintro en3 vC ⟨AC, cC, rfl, qA, qC, r6, m1, m2, m3, m4⟩)
    | (go_at_call 24; (with_reducible refine (A3.out _ (by assumption)).mono ?_); rintro en4 vD ⟨rfl, q1, r7, m5, m6, m7, m8⟩)
    | (go_at_call 37; first
        | ((with_reducible refine (A4.out _ (by assumption)).mono ?_); rintro en5 vE ⟨rfl, r8, r9, r10, m9, m10, m11, m12⟩)
        | ((with_reducible refine (A5.out _ (by assumption) (by assumption) (by assumption)).mono ?_); rintro en6 vF ⟨rfl, r12, m13, m14, m15, m16⟩))
    | (go_at_call 20; (with_reducible refine (A6.out _ (by assumption)).mono ?_); rintro en7 vG ⟨rfl, m17, m18, m19, m20⟩))
  all_goals
    go_wp2_with fail
    go_returns
    exact ⟨rfl, by assumption⟩
end Go.Proofs.YtelnnlfbfbbnaaaDoor
