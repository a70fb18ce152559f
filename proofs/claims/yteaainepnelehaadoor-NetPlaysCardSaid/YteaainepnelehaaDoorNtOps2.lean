/-
  Package net: Deliver, Drop, Waiting, walked.
-/
import Derived.Test.YteaainepnelehaaDoorNtOps
import Derived.Test.YteaainepnelehaaDoorOpen
namespace Go.Proofs.YteaainepnelehaaDoor
set_option maxRecDepth 100000
open Go.RowKit
set_option linter.unusedVariables false
theorem eltIn : Elt Tryd.prog 64 3 1 8 (.int .i64 0) := ⟨Tryd.underlying64, by kernel_rfl, rfl, by omega⟩
section
variable {w : World} {g m c last : Nat} {A : Option Addr} {ls : List LetV}
/-- A letter is gone. -/
theorem net_less {w2 w3 : World} {A0 : Addr} (h : NetS w g (some A0) m c ls last) (hx : Ext w w2) {k : Nat} (hk : k < m) (ho : Own w3 (g + 1) 46 4 (some A0) (m - 1) c (lrows (ls.eraseIdx k)).flatten) (hf : Fr w2 w3 (· = A0.block)) :
    NetS (w3.setCell ⟨g, 0, none⟩ (.slice (some A0) (m - 1) c)) g (some A0) (m - 1) c (ls.eraseIdx k) last ∧ Fr w (w3.setCell ⟨g, 0, none⟩ (.slice (some A0) (m - 1) c)) (fun b => b = g ∨ (some A0 : Option Addr).map (·.block) = some b) := by
  have hag := h.ag A0 rfl
  have f3 : Fr w w3 (fun b => (some A0 : Option Addr).map (·.block) = some b) := (Fr.of_ext hx _).trans (hf.mono (fun i _ e => by rw [e]; rfl)) (fun _ _ h => h)
  have fs := Fr.store w3 ⟨g, 0, none⟩ (.slice (some A0) (m - 1) c)
  have FW : Fr w (w3.setCell ⟨g, 0, none⟩ (.slice (some A0) (m - 1) c)) (fun b => b = g ∨ (some A0 : Option Addr).map (·.block) = some b) := (f3.mono (fun i _ h => .inr h)).trans fs (fun i _ h => .inl h)
  have bg3 := (f3.block g h.lt (fun e => by injection e with e; exact hag e)).trans h.blk
  have sub : ∀ x, x ∈ ls.eraseIdx k → x ∈ ls := fun x hx => List.mem_of_mem_eraseIdx hx
  refine ⟨⟨heap_setCell_same w3 g 0 _ _ _ bg3, fs.own ho (fun a ha e => by injection ha with ha; subst ha; exact hag e), fun i j x y hij hx hy => ?_, fun x hx => h.top x (sub x hx), fun x hx => ?_, by have := h.few; omega, h.low⟩, FW⟩
  · rw [List.getElem?_eraseIdx] at hx hy
    split at hx <;> split at hy
    · exact h.ris i j x y hij hx hy
    · exact h.ris i (j + 1) x y (by omega) hx hy
    · omega
    · exact h.ris (i + 1) (j + 1) x y (by omega) hx hy
  · obtain ⟨q1, q2, q3, q4⟩ := h.byt x (sub x hx)
    exact ⟨rd0 FW q1 (fun h0 a ha e => by rcases e with e | e; exact (q4 h0 a ha).1 e; exact (q4 h0 a ha).2 e), q2, q3, q4⟩
set_option maxHeartbeats 3200000 in
theorem deliver_ok (h : NetS w g A m c ls last) {k : Nat} {y : Int} {x : LetV} (hk : ls[k]? = some x) (hy : (x.N : Int) = y) :
    Calls Tryd.prog 10 #[.pointer (some ⟨g, 0, none⟩), .int .i64 y] w fun e w' => e = .returned (.tuple #[x.val, .nilIface]) ∧ NetS w' g A (m - 1) c (ls.eraseIdx k) last ∧ Fr w w' (fun b => b = g ∨ A.map (·.block) = some b) := by
  obtain ⟨k4, h4⟩ : ∃ k4, k * 4 = k4 := ⟨_, rfl⟩
  have hkl : k < m := by have := h.len; have := (List.getElem?_eq_some_iff.1 hk).1; omega
  obtain ⟨S, rfl, hSl, hSg, _⟩ := netcells h hk h4
  have X0 := (Ext.refl w).alloc (.cells #[.int .i64 0, .int .i64 0, .int .i64 0, .slice none 0 0] 46)
  have hbr := heap_alloc_new w (.cells #[.int .i64 0, .int .i64 0, .int .i64 0, .slice none 0 0] 46)
  have FD := Lib.hid (find_hit (h.ex X0) hk hy)
  have CE := Lib.hid (fun w' (hx : Ext w w') => netcells (h.ex hx) hk h4)
  have HN := Lib.hid (fun w' (hx : Ext w w') => h.ex hx)
  have HW := Lib.hid (And.intro X0 hbr)
  have k0 : (0 : Int) ≤ k := by omega
  have k1 : (k : Int) < m := by omega
  have hfew := h.few
  have hgl := h.lt
  have HH := Lib.hid h
  clear h hk hy X0 hbr
  go_enter Tryd.func10, Tryd.ntmps10
  go_wp2_with fail
  refine FD.out.mono ?_
  rintro e w1 ⟨rfl, x1⟩
  have X1 : Ext w w1 := HW.out.1.trans x1
  obtain ⟨S', e5, _, _, e0, e1, e2, e3⟩ := CE.out w1 X1
  injection e5 with e5
  injection e5 with e5
  subst e5
  have c0 := (HN.out w1 X1).c0
  have hr1 := (x1.block _ (block_lt HW.out.2)).trans HW.out.2
  have HX1 := Lib.hid (And.intro X1 hr1)
  clear x1 FD CE X1 hr1
  have XB := (Ext.refl w1).alloc (.cells #[.int .i64 (x.N : Int), .int .i64 x.F, .int .i64 x.T, .slice x.A x.n x.c] 46)
  have hb2 := heap_alloc_new w1 (.cells #[.int .i64 (x.N : Int), .int .i64 x.F, .int .i64 x.T, .slice x.A x.n x.c] 46)
  have hg1 : g < w1.heap.size := Nat.lt_of_lt_of_le hgl HX1.out.1.size
  have c0b := (XB.cell (p := ⟨g, 0, none⟩) hg1).trans c0
  have X2 := HX1.out.1.trans XB
  have DL := Lib.hid (delete_any (HN.out _ X2).own hkl hfew)
  have HX2 := Lib.hid (And.intro X2 (And.intro hb2 ((XB.block _ (block_lt HX1.out.2)).trans HX1.out.2)))
  clear X2 hb2 hg1
  go_wp2_with fail
  refine DL.out.mono ?_
  rintro e w3 ⟨rfl, o3, f3⟩
  obtain ⟨hN, hF⟩ := net_less HH.out HX2.out.1 hkl o3 f3
  have z1 := HX1.out.1.size
  have z2 := XB.size
  have hs1 : S < w1.heap.size := Nat.lt_of_lt_of_le hSl z1
  have b8 := (f3.block _ (block_lt HX2.out.2.1) (by omega)).trans HX2.out.2.1
  have br := (f3.block _ (block_lt HX2.out.2.2) (by show ¬ w.heap.size = S; omega)).trans HX2.out.2.2
  have bg := (f3.block g (Nat.lt_of_lt_of_le hgl (Nat.le_trans z1 z2)) (fun e => hSg e.symm)).trans (HN.out _ HX2.out.1).blk
  have s0 : w3.cell? ⟨g, 0, none⟩ = some (.slice (some ⟨S, 0, none⟩) m c) := by rw [block_cell bg]; rfl
  have s1 := block_fz bg 0
  have fs := Fr.store w3 ⟨g, 0, none⟩ (.slice (some ⟨S, 0, none⟩) (m - 1) c)
  have b8' := (fs.block _ (block_lt b8) (by show ¬ w1.heap.size = g; omega)).trans b8
  have br' := (fs.block _ (block_lt br) (by show ¬ w.heap.size = g; omega)).trans br
  have HZ := Lib.hid (And.intro hN (And.intro hF (And.intro b8' br')))
  clear hN hF b8 br bg fs b8' br' o3 f3 DL HX1 HX2 XB c0b e0 e1 e2 e3 c0
  go_upto_region 6 with (fail)
  generalize w3.setCell ⟨g, 0, none⟩ (.slice (some ⟨S, 0, none⟩) (m - 1) c) = w4 at *
  generalize w1.heap.size = b1 at *
  generalize hb0 : w.heap.size = b0 at *
  have m0 := block_cell HZ.out.2.2.1 0
  have m1 := block_cell HZ.out.2.2.1 1
  have m2 := block_cell HZ.out.2.2.1 2
  have m3 := block_cell HZ.out.2.2.1 3
  have r0 := block_cell HZ.out.2.2.2 0
  have r1 := block_cell HZ.out.2.2.2 1
  have r2 := block_cell HZ.out.2.2.2 2
  have r3 := block_cell HZ.out.2.2.2 3
  have q0 := block_fz HZ.out.2.2.2 0
  have q1 := block_fz HZ.out.2.2.2 1
  have q2 := block_fz HZ.out.2.2.2 2
  have q3 := block_fz HZ.out.2.2.2 3
  clear s0 s1
  have F4 : Fr w4 ((((w4.setCell ⟨b0, 0, none⟩ (.int .i64 (x.N : Int))).setCell ⟨b0, 1, none⟩ (.int .i64 x.F)).setCell ⟨b0, 2, none⟩ (.int .i64 x.T)).setCell ⟨b0, 3, none⟩ (.slice x.A x.n x.c)) (· = b0) :=
    (((Fr.store w4 ⟨b0, 0, none⟩ _).trans (Fr.store _ ⟨b0, 1, none⟩ _) (fun _ _ h => h)).trans (Fr.store _ ⟨b0, 2, none⟩ _) (fun _ _ h => h)).trans (Fr.store _ ⟨b0, 3, none⟩ _) (fun _ _ h => h)
  have B4 : ((((w4.setCell ⟨b0, 0, none⟩ (.int .i64 (x.N : Int))).setCell ⟨b0, 1, none⟩ (.int .i64 x.F)).setCell ⟨b0, 2, none⟩ (.int .i64 x.T)).setCell ⟨b0, 3, none⟩ (.slice x.A x.n x.c)).heap[b0]? = some (.cells #[.int .i64 (x.N : Int), .int .i64 x.F, .int .i64 x.T, .slice x.A x.n x.c] 46 (0, 0)) :=
    heap_setCell_same _ b0 3 _ _ _ (heap_setCell_same _ b0 2 _ _ _ (heap_setCell_same _ b0 1 _ _ _ (heap_setCell_same w4 b0 0 _ _ _ HZ.out.2.2.2)))
  have HF4 := Lib.hid F4
  have HB4 := Lib.hid B4
  clear F4 B4
  go_wp2_with fail
  generalize (((w4.setCell ⟨b0, 0, none⟩ (.int .i64 (x.N : Int))).setCell ⟨b0, 1, none⟩ (.int .i64 x.F)).setCell ⟨b0, 2, none⟩ (.int .i64 x.T)).setCell ⟨b0, 3, none⟩ (.slice x.A x.n x.c) = w5 at *
  clear m0 m1 m2 m3 r0 r1 r2 r3 q0 q1 q2 q3
  have t0 : w5.cell? ⟨b0, 0, none⟩ = some (.int .i64 (x.N : Int)) := block_cell HB4.out 0
  have t1 : w5.cell? ⟨b0, 1, none⟩ = some (.int .i64 x.F) := block_cell HB4.out 1
  have t2 : w5.cell? ⟨b0, 2, none⟩ = some (.int .i64 x.T) := block_cell HB4.out 2
  have t3 : w5.cell? ⟨b0, 3, none⟩ = some (.slice x.A x.n x.c) := block_cell HB4.out 3
  refine bodyPost_ret (v := .tuple #[.agg #[.int .i64 (x.N : Int), .int .i64 x.F, .int .i64 x.T, .slice x.A x.n x.c], .nilIface]) (by simp [results, Tryd.results10, go_sem, t0, t1, t2, t3]) rfl ?_
  refine ⟨rfl, HZ.out.1.fr HF4.out (by omega) (fun a ha e => by injection ha with ha; subst ha; have e : S = b0 := e; omega) (fun z hz h0 a ha e => ?_), HZ.out.2.1.trans HF4.out (fun i hi e => by omega)⟩
  obtain ⟨ad, e1, hlt, _⟩ := (HH.out.byt z (List.mem_of_mem_eraseIdx hz)).1.2 h0
  rw [ha] at e1
  injection e1 with e1
  subst e1
  omega
end
end Go.Proofs.YteaainepnelehaaDoor
