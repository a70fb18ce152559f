/-
  queue.Merge: its state; its closure, walked.
-/
import Derived.Test.YtocjbllkgbjihaaDoorQuLeast
import Derived.Test.YtocjbllkgbjihaaDoorQuMergeP
import Derived.Test.YtocjbllkgbjihaaDoorQuSortS
namespace Go.Proofs.YtocjbllkgbjihaaDoor
set_option maxRecDepth 100000
open Go.RowKit Go.Maps
set_option linter.unusedVariables false
/-- A slice of ints. -/
structure SlI where
  A : Option Addr
  n : Nat
  c : Nat
  l : List Int
def SlI.v (s : SlI) : Value := .slice s.A s.n s.c
def slcells (ss : List SlI) : List Value := ss.map SlI.v
theorem slcells_len (ss : List SlI) : (slcells ss).length = ss.length := by simp [slcells]
theorem slcells_at {ss : List SlI} {k : Nat} {s : SlI} (h : ss[k]? = some s) : (slcells ss)[k]? = some s.v := by simp [slcells, h]
/-- A slice of slices of ints. -/
structure LS (w : World) (A : Option Addr) (N : Nat) (ss : List SlI) : Prop where
  rd : Rd w 1 A N (slcells ss)
  each : ∀ s ∈ ss, Rd w 1 s.A s.n (ints s.l)
theorem LS.ext {w w' : World} {A : Option Addr} {N : Nat} {ss : List SlI} (h : LS w A N ss) (hx : Ext w w') : LS w' A N ss := ⟨h.rd.ext hx, fun s hs => (h.each s hs).ext hx⟩
theorem LS.len {w : World} {A : Option Addr} {N : Nat} {ss : List SlI} (h : LS w A N ss) : ss.length = N := by have := h.rd.len; rwa [slcells_len] at this
theorem LS.nlen {w : World} {A : Option Addr} {N : Nat} {ss : List SlI} (h : LS w A N ss) : ∀ s ∈ ss, s.l.length = s.n := fun s hs => by have := (h.each s hs).len; rwa [ints_len] at this
abbrev lists (ss : List SlI) : List (List Int) := ss.map SlI.l
theorem lists_at {ss : List SlI} {k : Nat} {s : SlI} (h : ss[k]? = some s) : (lists ss)[k]? = some s.l := by simp [lists, h]
theorem ns_at {k : IntKind} {l : List Nat} {i x : Nat} (h : l[i]? = some x) : (ns k l)[i]? = some (.int k (x : Int)) := by simp [ns, h]
theorem ns_set (k : IntKind) (l : List Nat) (i x : Nat) : ns k (l.set i x) = (ns k l).set i (.int k (x : Int)) := by simp [ns, List.map_set]
/-- The heap, the places, the boxes of the closure. -/
structure MS (W0 w : World) (g : Nat) (F : Nat → Prop) (Z NB nb lb tb N C M : Nat) (A : Option Addr) (ss : List SlI) (cs nx : List Nat) (L : List Th) (q : Nat → Bool) : Prop where
  lp : LP w g F L Z
  no : Own w W0.heap.size 3 1 (some ⟨NB, 0, none⟩) N N (ns .i64 nx)
  b1 : w.heap[nb]? = some (.cells #[.slice (some ⟨NB, 0, none⟩) N N] 22 (0, 0))
  b2 : w.heap[lb]? = some (.cells #[.slice A N C] 40 (0, 0))
  b3 : w.heap[tb]? = some (.cells #[.pointer (some ⟨g, 0, none⟩)] 68 (0, 0))
  nF : ¬ F NB ∧ ¬ F nb ∧ ¬ F lb ∧ ¬ F tb
  ne : nb ≠ NB ∧ lb ≠ NB ∧ tb ≠ NB
  bF : ∀ k, F k → W0.heap.size ≤ k
  x : Ext W0 w
  hp : HeapN L L.length
  mh : MH (lists ss) cs nx L q
  few : L.length ≤ M
  ids : Ids L
section
variable {W0 w w' : World} {g Z NB nb lb tb N C M : Nat} {F : Nat → Prop} {A : Option Addr} {ss : List SlI} {cs nx : List Nat} {L : List Th} {q : Nat → Bool}
theorem MS.ext (h : MS W0 w g F Z NB nb lb tb N C M A ss cs nx L q) (hx : Ext w w') : MS W0 w' g F Z NB nb lb tb N C M A ss cs nx L q :=
  ⟨h.lp.ext hx, h.no.ext hx, (hx.block _ (block_lt h.b1)).trans h.b1, (hx.block _ (block_lt h.b2)).trans h.b2, (hx.block _ (block_lt h.b3)).trans h.b3, h.nF, h.ne, h.bF, h.x.trans hx, h.hp, h.mh, h.few, h.ids⟩
/-- The heap's own call. -/
theorem MS.l (h : MS W0 w g F Z NB nb lb tb N C M A ss cs nx L q) {F' : Nat → Prop} {L' : List Th} {Z' M' : Nat} {cs' : List Nat} {q' : Nat → Bool} (hl : LN w w' g F F' L' Z') (hp : HeapN L' L'.length) (hm : MH (lists ss) cs' nx L' q') (hf : L'.length ≤ M') (hi : Ids L') :
    MS W0 w' g F' Z' NB nb lb tb N C M' A ss cs' nx L' q' := by
  have e := hl.from_ h.x h.bF
  exact ⟨hl.lp, hl.fr.own h.no (fun a ha e => by injection ha with ha; subst ha; exact h.nF.1 e), (hl.fr.block _ (block_lt h.b1) h.nF.2.1).trans h.b1, (hl.fr.block _ (block_lt h.b2) h.nF.2.2.1).trans h.b2, (hl.fr.block _ (block_lt h.b3) h.nF.2.2.2).trans h.b3,
    ⟨hl.out h.no.lt h.nF.1, hl.out (block_lt h.b1) h.nF.2.1, hl.out (block_lt h.b2) h.nF.2.2.1, hl.out (block_lt h.b3) h.nF.2.2.2⟩, h.ne, e.2, e.1, hp, hm, hf, hi⟩
/-- A place is written. -/
theorem MS.putNx (h : MS W0 w g F Z NB nb lb tb N C M A ss cs nx L q) (i k : Nat) {nx2 : List Nat} {q' : Nat → Bool} (e : nx2 = nx.set i k) (hm : MH (lists ss) cs nx2 L q') : MS W0 (w.setCell ⟨NB, i, none⟩ (.int .i64 (k : Int))) g F Z NB nb lb tb N C M A ss cs nx2 L q' := by
  have ff := Fr.store w ⟨NB, i, none⟩ (.int .i64 (k : Int))
  refine ⟨h.lp.fr ff (fun b hb e => h.nF.1 (by have e2 : b = NB := e; rw [← e2]; exact hb)), ?_, (ff.block _ (block_lt h.b1) h.ne.1).trans h.b1, (ff.block _ (block_lt h.b2) h.ne.2.1).trans h.b2, (ff.block _ (block_lt h.b3) h.ne.2.2).trans h.b3, h.nF, h.ne, h.bF, Fr.ext h.x ff (fun b e => by rw [e]; exact h.no.base_le NB rfl), h.hp, hm, h.few, h.ids⟩
  rw [e, ns_set]
  exact h.no.stored i _
theorem ids_push {x : Th} {L' : List Th} (h : Ids L) (hx : ∀ y ∈ L, y.id ≠ x.id) (hp : L'.Perm (x :: L)) : Ids L' := (h.cons hx).perm hp.symm
set_option maxHeartbeats 3200000 in
theorem put_any (hls : LS W0 A N ss) (h : MS W0 w g F Z NB nb lb tb N C M A ss cs nx L q) {i : Nat} (hi : i < N) (hqi : q i = false) (hcs : ∀ j l, (lists ss)[j]? = some l → cs.getD j 0 ≤ l.length) (hM : M ≤ 10000000) (hN : N ≤ 100000000000) (hbig : ∀ s ∈ ss, s.n ≤ 100000000000000) (hZ : Z < 4611686018000000000) :
    Calls Tryd.prog 34 #[.int .i64 (i : Int), .pointer (some ⟨nb, 0, none⟩), .pointer (some ⟨lb, 0, none⟩), .pointer (some ⟨tb, 0, none⟩)] w fun e w' => e = .returned (.tuple #[]) ∧ ∃ F' nx' L', MS W0 w' g F' (Z + 1 + 2 * M) NB nb lb tb N C (M + 1) A ss cs nx' L' (fun j => q j || j == i) ∧ Fr w w' (fun k => F k ∨ k = NB) ∧ ∀ b, F' b → F b ∨ w.heap.size ≤ b := by
  obtain ⟨s, hs⟩ : ∃ s, ss[i]? = some s := ⟨ss[i]'(by rw [hls.len]; exact hi), List.getElem?_eq_getElem _⟩
  have hnl := h.mh.nl
  rw [List.length_map, hls.len] at hnl
  obtain ⟨k, hk⟩ : ∃ k, nx[i]? = some k := ⟨nx[i]'(by omega), List.getElem?_eq_getElem _⟩
  have hkd : nx.getD i 0 = k := by simp [List.getD_eq_getElem?_getD, hk]
  obtain ⟨la, rfl, _, z1⟩ := (hls.rd.ext h.x).at_ hi
  have y1 := z1 i _ (slcells_at hs)
  unfold SlI.v at y1
  have y2 : w.cell? ⟨NB, i, none⟩ = some (.int .i64 (k : Int)) := h.no.cellAt hi (ns_at hk)
  have y3 : w.cell? ⟨nb, 0, none⟩ = some (.slice (some ⟨NB, 0, none⟩) N N) := block_cell h.b1 0
  have y4 : w.cell? ⟨lb, 0, none⟩ = some (.slice (some la) N C) := block_cell h.b2 0
  have y5 : w.cell? ⟨tb, 0, none⟩ = some (.pointer (some ⟨g, 0, none⟩)) := block_cell h.b3 0
  have k0 : (0 : Int) ≤ i := by omega
  have k1 : (i : Int) < N := by omega
  have k2 : (0 : Int) ≤ k := by omega
  have hsm := List.mem_of_getElem? hs
  have hsl := hls.nlen s hsm
  have hse := hls.each s hsm
  have hsb := hbig s hsm
  have hll := lists_at hs
  have HH := Lib.hid (And.intro h (And.intro hk (And.intro hkd (And.intro hll (And.intro hqi hsl)))))
  have HQ := Lib.hid (hcs i _ hll)
  by_cases hlt : k < s.n
  · obtain ⟨r, hr⟩ : ∃ r, s.l[k]? = some r := ⟨s.l[k]'(by omega), List.getElem?_eq_getElem _⟩
    obtain ⟨sa, hsA, _, z2⟩ := (hse.ext h.x).at_ hlt
    have y6 := z2 k _ (ints_at' hr)
    have hnew := h.mh.new hqi
    have C1 := Lib.hid (fun (W : World) (hx : Ext w W) => lhpush (h.lp.ext hx) ⟨(i : Int), r⟩ ⟨by show (_ : Int) ≤ (i : Int); omega, by show (i : Int) ≤ _; omega⟩ hnew (by have := h.few; omega) (by have := h.few; omega) h.hp)
    have HR := Lib.hid (And.intro hr hnew)
    have k3 : (k : Int) < s.n := by omega
    have k4 : k ≤ 100000000000000 := by omega
    have hAv : s.A = some sa := hsA
    obtain ⟨sA, sn, sc, sl⟩ := s
    dsimp only at *
    subst hAv
    clear h z1 hs hk hkd hsm hse hll hqi hcs hr hnew z2 hbig hsA
    go_enter Tryd.func34, Tryd.ntmps34
    go_wp2_with fail
    go_quiet (fail)
    have X1 : Ext w (w.drewN nq) := (Ext.refl w).drewN nq
    have HX := Lib.hid X1
    have HS0 : (w.drewN nq).cell? (la.add i) = some (.slice (some sa) sn sc) ∧ (w.drewN nq).cell? ⟨NB, i, none⟩ = some (.int .i64 (k : Int)) ∧ (w.drewN nq).cell? ⟨nb, 0, none⟩ = some (.slice (some ⟨NB, 0, none⟩) N N) ∧ (w.drewN nq).cell? ⟨lb, 0, none⟩ = some (.slice (some la) N C) ∧ (w.drewN nq).cell? ⟨tb, 0, none⟩ = some (.pointer (some ⟨g, 0, none⟩)) ∧ (w.drewN nq).cell? (sa.add k) = some (.int .i64 r) := ⟨y1, y2, y3, y4, y5, y6⟩
    clear y1 y2 y3 y4 y5 y6 X1
    generalize w.drewN nq = W1 at *
    obtain ⟨y1, y2, y3, y4, y5, y6⟩ := HS0
    go_upto_region 1 with (fail)
    have HS1 : W1.drew.cell? (la.add i) = some (.slice (some sa) sn sc) ∧ W1.drew.cell? ⟨NB, i, none⟩ = some (.int .i64 (k : Int)) ∧ W1.drew.cell? ⟨nb, 0, none⟩ = some (.slice (some ⟨NB, 0, none⟩) N N) ∧ W1.drew.cell? ⟨lb, 0, none⟩ = some (.slice (some la) N C) ∧ W1.drew.cell? ⟨tb, 0, none⟩ = some (.pointer (some ⟨g, 0, none⟩)) ∧ W1.drew.cell? (sa.add k) = some (.int .i64 r) := ⟨y1, y2, y3, y4, y5, y6⟩
    refine d_region (fun W : World => W.cell? (la.add i) = some (.slice (some sa) sn sc) ∧ W.cell? ⟨NB, i, none⟩ = some (.int .i64 (k : Int)) ∧ W.cell? ⟨nb, 0, none⟩ = some (.slice (some ⟨NB, 0, none⟩) N N) ∧ W.cell? ⟨lb, 0, none⟩ = some (.slice (some la) N C) ∧ W.cell? ⟨tb, 0, none⟩ = some (.pointer (some ⟨g, 0, none⟩)) ∧ W.cell? (sa.add k) = some (.int .i64 r)) [15] (by kernel_rfl) ?_
    refine d_take (i := 0) (v := ?_) [1, 15] (some 15) rfl (by rfl) (by kernel_rfl) (by kernel_rfl) (by kernel_rfl) (by kernel_rfl) (by kernel_rfl) (by kernel_rfl) (fun _ _ _ h => h) (.inl ⟨by rfl, ?_⟩) HS1 ?_
    rotate_left 1
    · (intro W hW; (try dsimp only at hW); go_simp; try with_reducible rfl)
    try simp only [Act.put, List.setIfInBounds_toArray, List.set_cons_zero, List.set_cons_succ]
    refine d_take (i := 1) (v := ?_) [15] (some 16) rfl (by rfl) (by kernel_rfl) (by kernel_rfl) (by kernel_rfl) (by kernel_rfl) (by kernel_rfl) (by kernel_rfl) (fun _ _ _ h => h) (.inl ⟨by rfl, ?_⟩) HS1 ?_
    rotate_left 1
    · (intro W hW; (try dsimp only at hW); go_simp; try with_reducible rfl)
    try simp only [Act.put, List.setIfInBounds_toArray, List.set_cons_zero, List.set_cons_succ]
    refine d_take (i := 2) (v := ?_) [13, 14, 15] (some 17) rfl (by rfl) (by kernel_rfl) (by kernel_rfl) (by kernel_rfl) (by kernel_rfl) (by kernel_rfl) (by kernel_rfl) (fun _ _ _ h => h) (.inl ⟨by rfl, ?_⟩) HS1 ?_
    rotate_left 1
    · (intro W hW; (try dsimp only at hW); go_simp; try with_reducible rfl)
    try simp only [Act.put, List.setIfInBounds_toArray, List.set_cons_zero, List.set_cons_succ]
    refine d_take (i := 3) (v := ?_) [5, 6, 11, 12, 13, 14, 15] (some 18) rfl (by rfl) (by kernel_rfl) (by kernel_rfl) (by kernel_rfl) (by kernel_rfl) (by kernel_rfl) (by kernel_rfl) (fun _ _ _ h => h) (.inl ⟨by rfl, ?_⟩) HS1 ?_
    rotate_left 1
    · (intro W hW; (try dsimp only at hW); go_simp; try with_reducible rfl)
    try simp only [Act.put, List.setIfInBounds_toArray, List.set_cons_zero, List.set_cons_succ]
    refine d_take (i := 4) (v := ?_) [5, 6, 11, 12, 13, 14, 15] (some 19) rfl (by rfl) (by kernel_rfl) (by kernel_rfl) (by kernel_rfl) (by kernel_rfl) (by kernel_rfl) (by kernel_rfl) (fun _ _ _ h => h) (.inl ⟨by rfl, ?_⟩) HS1 ?_
    rotate_left 1
    · (intro W hW; (try dsimp only at hW); go_simp; try with_reducible rfl)
    try simp only [Act.put, List.setIfInBounds_toArray, List.set_cons_zero, List.set_cons_succ]
    refine d_take (i := 5) (v := ?_) [6, 11, 12, 13, 14, 15] (some 20) rfl (by rfl) (by kernel_rfl) (by kernel_rfl) (by kernel_rfl) (by kernel_rfl) (by kernel_rfl) (by kernel_rfl) (fun _ _ _ h => h) (.inl ⟨by rfl, ?_⟩) HS1 ?_
    rotate_left 1
    · (intro W hW; (try dsimp only at hW); go_simp; try with_reducible rfl)
    try simp only [Act.put, List.setIfInBounds_toArray, List.set_cons_zero, List.set_cons_succ]
    refine d_take (i := 6) (v := ?_) [11, 12, 13, 14, 15] (some 21) rfl (by rfl) (by kernel_rfl) (by kernel_rfl) (by kernel_rfl) (by kernel_rfl) (by kernel_rfl) (by kernel_rfl) (fun _ _ _ h => h) (.inl ⟨by rfl, ?_⟩) HS1 ?_
    rotate_left 1
    · (intro W hW; (try dsimp only at hW); go_simp; try with_reducible rfl)
    try simp only [Act.put, List.setIfInBounds_toArray, List.set_cons_zero, List.set_cons_succ]
    refine d_take (i := 7) (v := ?_) [9, 10, 11, 12, 13, 14, 15] (some 22) rfl (by rfl) (by kernel_rfl) (by kernel_rfl) (by kernel_rfl) (by kernel_rfl) (by kernel_rfl) (by kernel_rfl) (fun _ _ _ h => h) (.inl ⟨by rfl, ?_⟩) HS1 ?_
    rotate_left 1
    · (intro W hW; (try dsimp only at hW); go_simp; try with_reducible rfl)
    try simp only [Act.put, List.setIfInBounds_toArray, List.set_cons_zero, List.set_cons_succ]
    refine d_take (i := 8) (v := ?_) [9, 10, 11, 12, 13, 14, 15] (some 23) rfl (by rfl) (by kernel_rfl) (by kernel_rfl) (by kernel_rfl) (by kernel_rfl) (by kernel_rfl) (by kernel_rfl) (fun _ _ _ h => h) (.inl ⟨by rfl, ?_⟩) HS1 ?_
    rotate_left 1
    · (intro W hW; (try dsimp only at hW); go_simp; try with_reducible rfl)
    try simp only [Act.put, List.setIfInBounds_toArray, List.set_cons_zero, List.set_cons_succ]
    refine d_take (i := 9) (v := ?_) [10, 11, 12, 13, 14, 15] (some 24) rfl (by rfl) (by kernel_rfl) (by kernel_rfl) (by kernel_rfl) (by kernel_rfl) (by kernel_rfl) (by kernel_rfl) (fun _ _ _ h => h) (.inl ⟨by rfl, ?_⟩) HS1 ?_
    rotate_left 1
    · (intro W hW; (try dsimp only at hW); go_simp; try with_reducible rfl)
    try simp only [Act.put, List.setIfInBounds_toArray, List.set_cons_zero, List.set_cons_succ]
    refine d_take (i := 10) (v := ?_) [11, 12, 13, 14, 15] (some 25) rfl (by rfl) (by kernel_rfl) (by kernel_rfl) (by kernel_rfl) (by kernel_rfl) (by kernel_rfl) (by kernel_rfl) (fun _ _ _ h => h) (.inl ⟨by rfl, ?_⟩) HS1 ?_
    rotate_left 1
    · (intro W hW; (try dsimp only at hW); go_simp; try with_reducible rfl)
    try simp only [Act.put, List.setIfInBounds_toArray, List.set_cons_zero, List.set_cons_succ]
    refine d_take (i := 11) (v := ?_) [12, 13, 14, 15] (some 26) rfl (by rfl) (by kernel_rfl) (by kernel_rfl) (by kernel_rfl) (by kernel_rfl) (by kernel_rfl) (by kernel_rfl) (fun _ _ _ h => h) (.inl ⟨by rfl, ?_⟩) HS1 ?_
    rotate_left 1
    · (intro W hW; (try dsimp only at hW); go_simp; try with_reducible rfl)
    try simp only [Act.put, List.setIfInBounds_toArray, List.set_cons_zero, List.set_cons_succ]
    refine d_take (i := 12) (v := ?_) [13, 14, 15] (some 27) rfl (by rfl) (by kernel_rfl) (by kernel_rfl) (by kernel_rfl) (by kernel_rfl) (by kernel_rfl) (by kernel_rfl) (fun _ _ _ h => h) (.inl ⟨by rfl, ?_⟩) HS1 ?_
    rotate_left 1
    · (intro W hW; (try dsimp only at hW); go_simp; try with_reducible rfl)
    try simp only [Act.put, List.setIfInBounds_toArray, List.set_cons_zero, List.set_cons_succ]
    refine d_take (i := 13) (v := ?_) [14, 15] (some 28) rfl (by rfl) (by kernel_rfl) (by kernel_rfl) (by kernel_rfl) (by kernel_rfl) (by kernel_rfl) (by kernel_rfl) (fun _ _ _ h => h) (.inl ⟨by rfl, ?_⟩) HS1 ?_
    rotate_left 1
    · (intro W hW; (try dsimp only at hW); go_simp; try with_reducible rfl)
    try simp only [Act.put, List.setIfInBounds_toArray, List.set_cons_zero, List.set_cons_succ]
    refine d_take (i := 14) (v := ?_) [15] (some 29) rfl (by rfl) (by kernel_rfl) (by kernel_rfl) (by kernel_rfl) (by kernel_rfl) (by kernel_rfl) (by kernel_rfl) (fun _ _ _ h => h) (.inl ⟨by rfl, ?_⟩) HS1 ?_
    rotate_left 1
    · (intro W hW; (try dsimp only at hW); go_simp; try with_reducible rfl)
    try simp only [Act.put, List.setIfInBounds_toArray, List.set_cons_zero, List.set_cons_succ]
    refine d_call (i := 15) (by kernel_rfl) rfl (by rfl) (fun K hK => ?_)
    simp only [List.getElem_toArray, List.getElem_cons_succ, List.getElem_cons_zero]
    go_simp
    refine (C1.out _ (HX.out.trans (Ext.refl W1).drew)).mono ?_
    rintro e w3 ⟨rfl, F3, L3, n3, p3, hh3⟩
    go_simp
    have m2 := (HH.out.1.ext (HX.out.trans (Ext.refl W1).drew))
    have hpc := HH.out.1.mh.put HH.out.2.2.2.1 HH.out.2.2.2.2.1 (by rw [HH.out.2.2.1]; exact HR.out.1) p3
    rw [HH.out.2.2.1] at hpc
    have m3 : MS W0 w3 g F3 (Z + 1 + 2 * L.length) NB nb lb tb N C (M + 1) (some la) ss cs nx L q → True := fun _ => trivial
    have hfew := HH.out.1.few
    have hno3 : Own w3 W0.heap.size 3 1 (some ⟨NB, 0, none⟩) N N (ns .i64 nx) := n3.fr.own m2.no (fun a ha e => by injection ha with ha; subst ha; exact m2.nF.1 e)
    have u0 : w3.cell? ⟨NB, i, none⟩ = some (.int .i64 (k : Int)) := hno3.cellAt hi (ns_at HH.out.2.1)
    have u1 : w3.frozen? ⟨NB, i, none⟩ = false := hno3.frozenAt i
    have u2 : w3.cell? ⟨nb, 0, none⟩ = some (.slice (some ⟨NB, 0, none⟩) N N) := block_cell ((n3.fr.block _ (block_lt m2.b1) m2.nF.2.1).trans m2.b1) 0
    have HE : Hid (∃ F' nx' L', MS W0 (w3.setCell ⟨NB, i, none⟩ (.int .i64 ((k : Int) + 1))) g F' (Z + 1 + 2 * M) NB nb lb tb N C (M + 1) (some la) ss cs nx' L' (fun j => q j || j == i) ∧ Fr w (w3.setCell ⟨NB, i, none⟩ (.int .i64 ((k : Int) + 1))) (fun k => F k ∨ k = NB) ∧ ∀ b, F' b → F b ∨ w.heap.size ≤ b) := by
      have e := n3.from_ m2.x m2.bF
      have ff := Fr.store w3 ⟨NB, i, none⟩ (.int .i64 ((k : Int) + 1))
      have hex := HX.out.trans (Ext.refl W1).drew
      have nF3 : ¬ F3 NB := n3.out m2.no.lt m2.nF.1
      have lp3 : LP w3 g F3 L3 (Z + 1 + 2 * M) := by
        obtain ⟨⟨b, A', n', c', h1, h2⟩, h3, h4⟩ := n3.lp
        exact ⟨⟨b, A', n', c', h1.mono (by omega), h2⟩, h3, h4⟩
      refine Lib.hid ⟨F3, nx.set i (k + 1), L3, ⟨lp3.fr ff (fun b hb e => nF3 (by have e2 : b = NB := e; rw [← e2]; exact hb)), ?_, ?_, ?_, ?_, ⟨nF3, n3.out (block_lt m2.b1) m2.nF.2.1, n3.out (block_lt m2.b2) m2.nF.2.2.1, n3.out (block_lt m2.b3) m2.nF.2.2.2⟩, m2.ne, e.2, Fr.ext e.1 ff (fun b e => by rw [e]; exact hno3.base_le NB rfl), hh3, hpc, by rw [p3.length_eq, List.length_cons]; omega, ids_push m2.ids HR.out.2 p3⟩, ?_, fun b hb => ?_⟩
      · rw [ns_set]; exact hno3.stored i _
      · exact (ff.block _ (Nat.lt_of_lt_of_le (block_lt m2.b1) n3.fr.size) m2.ne.1).trans ((n3.fr.block _ (block_lt m2.b1) m2.nF.2.1).trans m2.b1)
      · exact (ff.block _ (Nat.lt_of_lt_of_le (block_lt m2.b2) n3.fr.size) m2.ne.2.1).trans ((n3.fr.block _ (block_lt m2.b2) m2.nF.2.2.1).trans m2.b2)
      · exact (ff.block _ (Nat.lt_of_lt_of_le (block_lt m2.b3) n3.fr.size) m2.ne.2.2).trans ((n3.fr.block _ (block_lt m2.b3) m2.nF.2.2.2).trans m2.b3)
      · exact ((Fr.of_ext hex (fun k => F k ∨ k = NB)).trans n3.fr (fun _ _ e => .inl e)).trans ff (fun _ _ e => .inr e)
      · rcases n3.fo b hb with h1 | h1
        · exact .inl h1
        · exact .inr (Nat.le_trans hex.size h1)
    refine hK.out _ _ (fun h => absurd h (by decide)) ?_
    clear hK K C1 n3 p3 hh3 m2 hpc m3 hfew hno3 HS1
    try simp only [Act.put, List.setIfInBounds_toArray, List.set_cons_zero, List.set_cons_succ]
    refine d_done (by kernel_rfl) ?_ _
    clear y1 y2 y3 y4 y5 y6
    go_wp2_with fail
    go_returns
    exact ⟨rfl, HE.out⟩
  · have k3 : ¬ (k : Int) < s.n := by omega
    have hm := h.mh.skip hll hqi (hcs i _ hll) (by rw [hkd, hsl]; omega)
    have HE := Lib.hid (fun (W : World) (hx : Ext w W) => show ∃ F' nx' L', MS W0 W g F' (Z + 1 + 2 * M) NB nb lb tb N C (M + 1) (some la) ss cs nx' L' (fun j => q j || j == i) ∧ Fr w W (fun k => F k ∨ k = NB) ∧ ∀ b, F' b → F b ∨ w.heap.size ≤ b from ⟨F, nx, L, by
      have h2 := h.ext hx
      have lp3 : LP W g F L (Z + 1 + 2 * M) := by
        obtain ⟨⟨b, A', n', c', h1, h2⟩, h3, h4⟩ := h2.lp
        exact ⟨⟨b, A', n', c', h1.mono (by omega), h2⟩, h3, h4⟩
      exact ⟨lp3, h2.no, h2.b1, h2.b2, h2.b3, h2.nF, h2.ne, h2.bF, h2.x, h2.hp, hm, Nat.le_succ_of_le h2.few, h2.ids⟩, Fr.of_ext hx _, fun b hb => .inl hb⟩)
    obtain ⟨sA, sn, sc, sl⟩ := s
    dsimp only at *
    clear h z1 hs hk hkd hsm hse hll hqi hcs hm hbig
    go_enter Tryd.func34, Tryd.ntmps34
    go_wp2_with fail
    go_quiet (fail)
    go_wp2_with fail
    go_returns
    exact ⟨rfl, HE.out _ ((Ext.refl w).drewN nq)⟩
end
end Go.Proofs.YtocjbllkgbjihaaDoor
