/-
  The disk and the document's disk: what both answer.
-/
import Derived.Test.YtchkeclhnbekkaaDoorDkLose
import Derived.Test.YtchkeclhnbekkaaDoorDkRefC
import Derived.Test.YtchkeclhnbekkaaDoorNum
namespace Go.Proofs.YtchkeclhnbekkaaDoor
set_option maxRecDepth 100000
open Go.RowKit Go.Maps
set_option linter.unusedVariables false
/-- Num of v is k. -/
def NumIs (E : Nat → Addr) (v : Value) (k : Int) : Prop := ∀ w, Errs w E → Calls Tryd.prog 15 #[v] w fun e w' => e = .returned (.int .i64 k) ∧ Ext w w'
theorem numIs_nil (E : Nat → Addr) : NumIs E .nilIface 0 := fun w _ => num_nil w
theorem numIs_at (E : Nat → Addr) (i g : Nat) (hi : gsN[i]? = some g) : NumIs E (errV (E g)) ((i : Int) + 1) := fun w hE => num_at E i g w hE hi
theorem numIs_chk (E : Nat → Addr) (S : Nat) (i : Int) (lost : Bool) : NumIs E (chkV (E 0) (E 2) S i lost) (chkN S i lost) := by
  unfold chkV chkN
  by_cases h1 : lost = true
  · rw [if_pos h1, if_pos h1]; exact numIs_at E 8 _ rfl
  · rw [if_neg h1, if_neg h1]
    by_cases h2 : i < 0 ∨ (S : Int) ≤ i
    · rw [if_pos h2, if_pos h2]; exact numIs_at E 0 _ rfl
    · rw [if_neg h2, if_neg h2]; exact numIs_nil E
theorem errs_de {w : World} {E : Nat → Addr} (h : Errs w E) : DE w (E 0) (E 2) (E 1) := ⟨h.sen _ (by decide), h.sen _ (by decide), h.sen _ (by decide)⟩
/-- What the document's disk has is what the disk has. -/
def Cor (S : Nat) (f : Int → List Nat) (l : List WrV) (SF NW : Int → List Nat) (lost : Bool) : Prop := lost = false → ∀ i : Nat, i < S → SF (i : Int) = f (i : Int) ∧ NW (i : Int) = readW f l (i : Int)
theorem keepW_congr {f g : Int → List Nat} (x : WrV) (n : Nat) {y : Int} (h : f y = g y) : keepW f x n y = keepW g x n y := by
  unfold keepW
  by_cases e : y = x.i
  · rw [if_pos e, if_pos e, ← e, h]
  · rw [if_neg e, if_neg e, h]
theorem crashW_congr {kp : Nat} {torn : Int} {y : Int} : ∀ (l : List WrV) (j : Nat) {f g : Int → List Nat}, f y = g y → crashW kp torn j f l y = crashW kp torn j g l y
  | [], j, f, g, h => h
  | x :: l, j, f, g, h => by
    rw [crashW, crashW]
    refine crashW_congr l (j + 1) ?_
    split
    · exact keepW_congr x _ h
    · exact h
section
variable {S : Nat} {f SF NW : Int → List Nat} {l : List WrV} {lost : Bool}
theorem Cor.lost_ : Cor S f l SF NW true := fun h => by cases h
theorem Cor.write (h : Cor S f l SF NW false) (hN : ∀ y, IsSec (NW y)) {i : Int} {s : List Nat} (hs : IsSec s) : Cor S f (l ++ [⟨i, s⟩]) SF (keepW NW ⟨i, s⟩ 64) false := fun _ j hj => ⟨(h rfl j hj).1, by
  rw [keepW_all (hN _).1 hs.1, readW_snoc, (h rfl j hj).2]⟩
theorem Cor.flush (h : Cor S f l SF NW false) (hf : ∀ y, IsSec (f y)) (hl : ∀ x ∈ l, IsSec x.s) : Cor S (flushW f l) [] NW NW false := fun _ j hj => by
  have e : NW (j : Int) = flushW f l (j : Int) := by rw [(h rfl j hj).2, flush_read _ hf hl]
  exact ⟨e, e⟩
theorem Cor.crash (h : Cor S f l SF NW lost) (kp : Nat) (torn : Int) : Cor S (crashW kp torn 0 f l) [] (crashW kp torn 0 SF l) (crashW kp torn 0 SF l) lost := fun e j hj => by
  have e := crashW_congr (kp := kp) (torn := torn) l 0 (h e j hj).1
  exact ⟨e, e⟩
end
/-- A row of bytes at the beginning of a block, to be written. -/
def U8W (w : World) (S n : Nat) : Prop := ∃ cur t, w.heap[S]? = some (.cells cur t (0, 0)) ∧ ∀ j, j < n → ∃ y : Int, cur[j]? = some (.int .u8 y)
section
variable {w w' : World} {S n : Nat}
theorem U8W.fr (h : U8W w S n) {P : Nat → Prop} (hf : Fr w w' P) (hP : ¬ P S) : U8W w' S n := by
  obtain ⟨cur, t, h1, h2⟩ := h
  exact ⟨cur, t, (hf.block S (block_lt h1) hP).trans h1, h2⟩
theorem U8W.lt (h : U8W w S n) : S < w.heap.size := by obtain ⟨cur, t, h1, _⟩ := h; exact block_lt h1
theorem U8W.same (h : U8W w S n) (hb : w'.heap[S]? = w.heap[S]?) : U8W w' S n := by
  obtain ⟨cur, t, h1, h2⟩ := h
  exact ⟨cur, t, hb.trans h1, h2⟩
theorem U8W.ext (h : U8W w S n) (hx : Ext w w') : U8W w' S n := h.same (hx.block S h.lt)
theorem U8W.cell (h : U8W w S n) {j : Nat} (hj : j < n) : ∃ y : Int, w.cell? ⟨S, j, none⟩ = some (.int .u8 y) := by
  obtain ⟨cur, t, h1, h2⟩ := h
  obtain ⟨y, hy⟩ := h2 j hj
  exact ⟨y, (block_cell h1 j).trans hy⟩
theorem U8W.fz (h : U8W w S n) (j : Nat) : w.frozen? ⟨S, j, none⟩ = false := by
  obtain ⟨cur, t, h1, _⟩ := h
  exact block_fz h1 j
theorem U8W.set (h : U8W w S n) (k : Nat) (y : Int) : U8W (w.setCell ⟨S, k, none⟩ (.int .u8 y)) S n := by
  obtain ⟨cur, t, h1, h2⟩ := h
  refine ⟨_, t, heap_setCell_same w S k _ _ _ h1, fun j hj => ?_⟩
  rcases Nat.decEq k j with e | e
  · rw [Array.getElem?_setIfInBounds_ne e]
    exact h2 j hj
  · subst e
    obtain ⟨z, hz⟩ := h2 k hj
    rw [Array.getElem?_setIfInBounds_self_of_lt (Array.getElem?_eq_some_iff.1 hz).1]
    exact ⟨y, rfl⟩
theorem U8W.mono (h : U8W w S n) {k : Nat} (hk : k ≤ n) : U8W w S k := by
  obtain ⟨cur, t, h1, h2⟩ := h
  exact ⟨cur, t, h1, fun j hj => h2 j (by omega)⟩
theorem u8w_own {base c : Nat} {l : List Nat} (h : Own w base 5 1 (some ⟨S, 0, none⟩) n c (u8s l)) : U8W w S n := by
  have hl := h.len
  obtain ⟨cur, hg, _, _⟩ := h.capd
  refine ⟨cur, _, hg, fun j hj => ?_⟩
  have hlj : j < l.length := by rw [u8s_len] at hl; omega
  have hy : (u8s l)[j]? = some (.int .u8 ((l[j] : Nat) : Int)) := by simp [u8s, hlj]
  have h7 := h.celln hy
  rw [block_cell hg j] at h7
  exact ⟨_, h7⟩
theorem u8w_blk {l : List Nat} {t : TypeId} (h : w.heap[S]? = some (.cells (u8s l).toArray t (0, 0))) (hn : n ≤ l.length) : U8W w S n := by
  refine ⟨_, t, h, fun j hj => ⟨((l[j]'(by omega) : Nat) : Int), ?_⟩⟩
  simp [u8s, show j < l.length by omega]
end
section
variable {W w w' : World} {g q Zm S : Nat} {X M : Nat → Prop} {nw : Int} {f SF NW : Int → List Nat} {l : List WrV} {lost : Bool} {E : Nat → Addr}
/-- Write, by both. -/
theorem both_write (hE : Errs W E) (h : DL W w g X S f l nw lost Zm) (hZ : Zm < 2600000000000) (hc : Cor S f l SF NW lost) (i : Int) (bb n cap : Nat) {s : List Nat} (hs : ∀ x ∈ s, x < 256) (hB : Rd w 1 (some ⟨bb, 0, none⟩) n (u8s s)) (hX : X bb) (hMb : ¬ M bb) (hN : ∀ y, IsSec (NW y)) :
    ∃ (v : Value) (k : Int) (l' : List WrV) (nw' : Int) (NW' : Int → List Nat), Calls Tryd.prog 10 #[.pointer (some ⟨g, 0, none⟩), .int .i64 i, .slice (some ⟨bb, 0, none⟩) n cap] w (fun e w' => e = .returned v ∧ DLN W w w' g X S f l' nw' lost (Zm + 1)) ∧ NumIs E v k ∧
      (∀ w', RL w' q M S SF NW l nw lost → Rd w' 1 (some ⟨bb, 0, none⟩) n (u8s s) → Calls Tryd.prog 24 #[.pointer (some ⟨q, 0, none⟩), .int .i64 i, .slice (some ⟨bb, 0, none⟩) n cap] w' fun e w'' => e = .returned (.int .i64 k) ∧ RN w' w'' q M S SF NW' l' nw' lost) ∧ Cor S f l' SF NW' lost := by
  obtain ⟨F, b, m, c, Z, A, h1, h2, h3, h4, h5, h6⟩ := h.ex
  have hlen := h1.len
  have hE' := errs_de (hE.ext h.ext)
  have hnw := h.nws
  by_cases hbad : lost = true ∨ i < 0 ∨ (S : Int) ≤ i
  · refine ⟨_, _, l, nw, NW, (write_err h1 i hbad hE'.n hE'.l (some ⟨bb, 0, none⟩) n cap).mono fun e w' ⟨he, hx⟩ => ⟨he, (DLN.same h hx).mono (by omega)⟩, numIs_chk E S i lost, fun w' hr _ => (rwrite_err hr i hbad _ n cap).mono fun e w'' ⟨he, hx⟩ => ⟨he, RN.same hr hx⟩, hc⟩
  · have hl0 : lost = false := by cases lost with
      | false => rfl
      | true => exact absurd (.inl rfl) hbad
    subst hl0
    have hi : 0 ≤ i ∧ i < (S : Int) := ⟨by omega, by omega⟩
    by_cases hn : n = 64
    · subst hn
      have hsec : IsSec s := ⟨by have := hB.len; rwa [u8s_len] at this, hs⟩
      obtain ⟨ii, hii⟩ : ∃ ii : Nat, i = (ii : Int) := ⟨i.toNat, by omega⟩
      subst hii
      refine ⟨_, 0, _, _, _, (write_ok h1 (ii : Int) hi.1 hi.2 hE'.n hE'.l bb cap hsec hB ⟨fun e => (h6 g h2).2.1 (e ▸ hX), fun a ha e => (h6 _ (h4 a ha)).2.1 (e ▸ hX)⟩ (by omega) (by omega)).mono fun e w' ⟨he, hd⟩ => ⟨he, DL.stp h1 h2 h3 h4 h6 h.ext h.xl ⟨by omega, by omega⟩ hd (by simp; omega)⟩, numIs_nil E,
        fun w' hr hb => rwrite_ok hr (by omega) bb cap hsec hb hMb (by omega) (by omega), hc.write hN hsec⟩
    · refine ⟨_, 8, l, nw, NW, (write_large h1 i hi.1 hi.2 hE'.n hE'.l hE'.g (some ⟨bb, 0, none⟩) n cap hn).mono fun e w' ⟨he, hx⟩ => ⟨he, (DLN.same h hx).mono (by omega)⟩, numIs_at E 7 _ rfl, fun w' hr _ => (rwrite_large hr i hi _ n cap hn).mono fun e w'' ⟨he, hx⟩ => ⟨he, RN.same hr hx⟩, hc⟩
/-- Flush, by both. -/
theorem both_flush (hE : Errs W E) (h : DL W w g X S f l nw lost Zm) (hZ : Zm < 2600000000000) (hc : Cor S f l SF NW lost) :
    ∃ (v : Value) (k : Int) (f' : Int → List Nat) (l' : List WrV) (SF' NW' : Int → List Nat), Calls Tryd.prog 11 #[.pointer (some ⟨g, 0, none⟩)] w (fun e w' => e = .returned v ∧ DLN W w w' g X S f' l' nw lost (Zm + 1)) ∧ NumIs E v k ∧
      (∀ w', RL w' q M S SF NW l nw lost → Calls Tryd.prog 26 #[.pointer (some ⟨q, 0, none⟩)] w' fun e w'' => e = .returned (.int .i64 k) ∧ RN w' w'' q M S SF' NW' l' nw lost) ∧ Cor S f' l' SF' NW' lost := by
  cases lost with
  | true =>
    obtain ⟨F, b, m, c, Z, A, h1, h2, h3, h4, h5, h6⟩ := h.ex
    have hE' := errs_de (hE.ext h.ext)
    exact ⟨_, 9, f, l, SF, NW, (flush_lost h1 hE'.l).mono fun e w' ⟨he, hx⟩ => ⟨he, (DLN.same h hx).mono (by omega)⟩, numIs_at E 8 _ rfl, fun w' hr => (rflush_gone hr).mono fun e w'' ⟨he, hx⟩ => ⟨he, RN.same hr hx⟩, hc⟩
  | false =>
    exact ⟨_, 0, _, [], NW, NW, (h.flush hZ).mono fun e w' ⟨he, hd⟩ => ⟨he, hd.mono (by omega)⟩, numIs_nil E, fun w' hr => rflush_ok hr, hc.flush h.secs.1 h.secs.2⟩
theorem DL.lose (h : DL W w g X S f l nw lost Zm) : Calls Tryd.prog 28 #[.pointer (some ⟨g, 0, none⟩)] w fun e w' => e = .returned (.tuple #[]) ∧ DLN W w w' g X S (fun _ => z64) [] nw true (Zm + 1) := by
  obtain ⟨F, b, m, c, Z, A, h1, h2, h3, h4, h5, h6⟩ := h.ex
  have := h.nws
  exact (lose_any h1).mono fun e w' ⟨he, hd⟩ => ⟨he, DL.stp h1 h2 h3 h4 h6 h.ext h.xl ⟨by omega, by omega⟩ hd (by simp; omega)⟩
theorem DL.read_bad (hE : Errs W E) (h : DL W w g X S f l nw lost Zm) (i : Int) (hi : lost = true ∨ i < 0 ∨ (S : Int) ≤ i) :
    Calls Tryd.prog 13 #[.pointer (some ⟨g, 0, none⟩), .int .i64 i] w fun e w' => e = .returned (.tuple #[.slice none 0 0, chkV (E 0) (E 2) S i lost]) ∧ Ext w w' := by
  obtain ⟨F, b, m, c, Z, A, h1, h2, h3, h4, h5, h6⟩ := h.ex
  have hE' := errs_de (hE.ext h.ext)
  exact read_err h1 i hi hE'.n hE'.l
theorem DL.read_good (hE : Errs W E) (h : DL W w g X S f l nw false Zm) (hZ : Zm < 2600000000000) (i : Int) (h0 : 0 ≤ i) (hS : i < S) :
    Calls Tryd.prog 13 #[.pointer (some ⟨g, 0, none⟩), .int .i64 i] w fun e w' => ∃ sb, e = .returned (.tuple #[.slice (some ⟨sb, 0, none⟩) 64 64, .nilIface]) ∧ Rd w' 1 (some ⟨sb, 0, none⟩) 64 (u8s (readW f l i)) ∧ U8W w' sb 64 ∧ w.heap.size ≤ sb ∧ Ext w w' := by
  obtain ⟨F, b, m, c, Z, A, h1, h2, h3, h4, h5, h6⟩ := h.ex
  have hlen := h1.len
  have hE' := errs_de (hE.ext h.ext)
  refine (read_ok h1 i h0 hS hE'.n hE'.l (by omega)).mono fun e w' ⟨sb, he, hb, hs, hx⟩ => ⟨sb, he, ?_, u8w_blk hb ?_, hs, hx⟩
  · have hsec := readW_sec h1.sec h1.lsec i
    refine ⟨by rw [u8s_len, hsec.1], fun _ => ⟨_, rfl, block_lt hb, fun j v hv => ?_⟩⟩
    rw [Addr.add_mid, Nat.zero_add, block_cell hb, List.getElem?_toArray]
    exact hv
  · exact Nat.le_of_eq (readW_sec h1.sec h1.lsec i).1.symm
theorem RL.read_bad (h : RL w q M S SF NW l nw lost) (i : Int) (hi : lost = true ∨ i < 0 ∨ (S : Int) ≤ i) :
    Calls Tryd.prog 25 #[.pointer (some ⟨q, 0, none⟩), .int .i64 i] w fun e w' => e = .returned (.tuple #[.slice none 0 0, .int .i64 (chkN S i lost)]) ∧ Ext w w' := by
  obtain ⟨sb, nb, ac, dc, AA, DA, lb, h1, _⟩ := h.ex
  exact rread_err h1 i hi
theorem RL.read_good (h : RL w q M S SF NW l nw false) {i : Nat} (hi : i < S) :
    Calls Tryd.prog 25 #[.pointer (some ⟨q, 0, none⟩), .int .i64 (i : Int)] w fun e w' => ∃ rb c, e = .returned (.tuple #[.slice (some ⟨rb, 0, none⟩) 64 c, .int .i64 0]) ∧ Rd w' 1 (some ⟨rb, 0, none⟩) 64 (u8s (NW (i : Int))) ∧ Ext w w' := by
  obtain ⟨sb, nb, ac, dc, AA, DA, lb, h1, _⟩ := h.ex
  exact (rread_ok h1 hi).mono fun e w' ⟨rb, c, he, ho, hx⟩ => ⟨rb, c, he, ho.rd, hx⟩
theorem RL.secs (h : RL w q M S SF NW l nw lost) : ∀ y, IsSec (NW y) := by
  obtain ⟨sb, nb, ac, dc, AA, DA, lb, h1, _⟩ := h.ex
  exact h1.ss.2.1
end
/-- Both disks in one world. -/
structure PB (W w : World) (g q : Nat) (X M : Nat → Prop) (S : Nat) (f : Int → List Nat) (l : List WrV) (nw : Int) (lost : Bool) (Zm : Nat) (SF NW : Int → List Nat) (l2 : List WrV) (nw2 : Int) (lost2 : Bool) : Prop where
  dl : DL W w g (fun b => X b ∨ M b) S f l nw lost Zm
  rl : RL w q M S SF NW l2 nw2 lost2
  mx : ∀ b, M b → W.heap.size ≤ b ∧ ¬ X b
section
variable {W w w' : World} {g q Zm S : Nat} {X M : Nat → Prop} {nw nw2 : Int} {f SF NW : Int → List Nat} {l l2 : List WrV} {lost lost2 : Bool}
theorem PB.ext (h : PB W w g q X M S f l nw lost Zm SF NW l2 nw2 lost2) (hx : Ext w w') : PB W w' g q X M S f l nw lost Zm SF NW l2 nw2 lost2 := ⟨h.dl.ex' hx, h.rl.ext hx, h.mx⟩
theorem PB.d (h : PB W w g q X M S f l nw lost Zm SF NW l2 nw2 lost2) {f' : Int → List Nat} {l' : List WrV} {nw' : Int} {lost' : Bool} {Zn : Nat} (n : DLN W w w' g (fun b => X b ∨ M b) S f' l' nw' lost' Zn) : PB W w' g q X M S f' l' nw' lost' Zn SF NW l2 nw2 lost2 := by
  have hf : Fr w w' (fun b => ¬ M b) := ⟨n.dl.ext.os.trans h.dl.ext.os.symm, n.dl.ext.tape.trans h.dl.ext.tape.symm, n.dl.ext.output.trans h.dl.ext.output.symm, n.sz, fun k hk hm => n.kp k (.inr (Classical.not_not.1 hm))⟩
  exact ⟨n.dl, h.rl.fr hf (fun b hb e => e hb), h.mx⟩
/-- A call that writes only blocks that are none of the disk's. -/
theorem DL.wr (h : DL W w g X S f l nw lost Zm) {P : Nat → Prop} (hf : Fr w w' P) (hP : ∀ b, P b → X b) (hW : ∀ b, P b → W.heap.size ≤ b) : DL W w' g X S f l nw lost Zm := by
  obtain ⟨F, b, m, c, Z, A, h1, h2, h3, h4, h5, h6⟩ := h.ex
  have hF : ∀ q, F q → ¬ P q := fun q hq e => (h6 q hq).2.1 (hP q e)
  exact ⟨⟨F, b, m, c, Z, A, h1.fr hf (hF _ h2) (hF _ h3) (fun a ha => hF _ (h4 a ha)), h2, h3, h4, h5, fun q hq => ⟨(h6 q hq).1, (h6 q hq).2.1, Nat.lt_of_lt_of_le (h6 q hq).2.2 hf.size⟩⟩, h.nws, Fr.ext h.ext hf hW, fun q hq => Nat.lt_of_lt_of_le (h.xl q hq) hf.size⟩
/-- Other blocks that stay: blocks of X, and new ones. -/
theorem DL.new_x (h : DL W w g X S f l nw lost Zm) (hz : w.heap.size ≤ w'.heap.size) (h' : DL W w' g X S f l nw lost Zm) {Y : Nat → Prop} (hY : ∀ b, Y b → X b ∨ w.heap.size ≤ b) (hl : ∀ b, Y b → b < w'.heap.size)
    (hF : ∀ {F : Nat → Prop} {b m c Z : Nat} {A : Option Addr}, DS w g b A m c S f l nw lost Z → F g → F b → (∀ a, A = some a → F a.block) → (∀ q, F q → ¬ X q) → DS w' g b A m c S f l nw lost Z) : DL W w' g Y S f l nw lost Zm := by
  obtain ⟨F, b, m, c, Z, A, h1, h2, h3, h4, h5, h6⟩ := h.ex
  exact ⟨⟨F, b, m, c, Z, A, hF h1 h2 h3 h4 (fun q hq => (h6 q hq).2.1), h2, h3, h4, h5, fun q hq => ⟨(h6 q hq).1, fun e => by
    rcases hY q e with e | e
    · exact (h6 q hq).2.1 e
    · have := (h6 q hq).2.2; omega, Nat.lt_of_lt_of_le (h6 q hq).2.2 hz⟩⟩, h.nws, h'.ext, hl⟩
theorem DL.grow (h : DL W w g X S f l nw lost Zm) {P : Nat → Prop} (hf : Fr w w' P) (hP : ∀ b, P b → X b) (hW : ∀ b, P b → W.heap.size ≤ b) {Y : Nat → Prop} (hY : ∀ b, Y b → X b ∨ w.heap.size ≤ b) (hl : ∀ b, Y b → b < w'.heap.size) : DL W w' g Y S f l nw lost Zm :=
  h.new_x hf.size (h.wr hf hP hW) hY hl (fun h1 h2 h3 h4 h6 => h1.fr hf (fun e => h6 _ h2 (hP _ e)) (fun e => h6 _ h3 (hP _ e)) (fun a ha e => h6 _ (h4 a ha) (hP _ e)))
theorem PB.r (h : PB W w g q X M S f l nw lost Zm SF NW l2 nw2 lost2) {SF' NW' : Int → List Nat} {l' : List WrV} {nw' : Int} {lost' : Bool} (n : RN w w' q M S SF' NW' l' nw' lost') : ∃ M', PB W w' g q X M' S f l nw lost Zm SF' NW' l' nw' lost' := by
  obtain ⟨M', h1, h2⟩ := n.ex
  refine ⟨M', h.dl.grow n.fr (fun b hb => .inr hb) (fun b hb => (h.mx b hb).1) (fun b hb => ?_) (fun b hb => ?_), h1, fun b hb => ?_⟩
  · rcases hb with hb | hb
    · exact .inl (.inl hb)
    · rcases h2 b hb with e | e
      · exact .inl (.inr e)
      · exact .inr e
  · rcases hb with hb | hb
    · exact Nat.lt_of_lt_of_le (h.dl.xl b (.inl hb)) n.fr.size
    · exact h1.lt b hb
  · rcases h2 b hb with e | e
    · exact h.mx b e
    · have hw := h.dl.ext.size
      exact ⟨by omega, fun e2 => by have := h.dl.xl b (.inl e2); omega⟩
/-- Blocks of X are written. -/
theorem PB.wr (h : PB W w g q X M S f l nw lost Zm SF NW l2 nw2 lost2) {P : Nat → Prop} (hf : Fr w w' P) (hP : ∀ b, P b → X b ∧ W.heap.size ≤ b) : PB W w' g q X M S f l nw lost Zm SF NW l2 nw2 lost2 :=
  ⟨h.dl.wr hf (fun b hb => .inl (hP b hb).1) (fun b hb => (hP b hb).2), h.rl.fr hf (fun b hb e => (h.mx b hb).2 (hP b e).1), h.mx⟩
/-- New blocks come to X. -/
theorem PB.grow (h : PB W w g q X M S f l nw lost Zm SF NW l2 nw2 lost2) (hx : Ext w w') {Y : Nat → Prop} (hY : ∀ b, Y b → X b ∨ (w.heap.size ≤ b ∧ b < w'.heap.size)) : PB W w' g q Y M S f l nw lost Zm SF NW l2 nw2 lost2 :=
  ⟨h.dl.grow (Fr.of_ext hx (fun _ => False)) (fun _ h => h.elim) (fun _ h => h.elim) (fun b hb => by
    rcases hb with hb | hb
    · rcases hY b hb with e | e
      · exact .inl (.inl e)
      · exact .inr e.1
    · exact .inl (.inr hb)) (fun b hb => by
    rcases hb with hb | hb
    · rcases hY b hb with e | e
      · exact Nat.lt_of_lt_of_le (h.dl.xl b (.inl e)) hx.size
      · exact e.2
    · exact Nat.lt_of_lt_of_le (h.rl.lt b hb) hx.size), h.rl.ext hx, fun b hb => ⟨(h.mx b hb).1, fun e => by
    rcases hY b e with e | e
    · exact (h.mx b hb).2 e
    · have := h.rl.lt b hb; omega⟩⟩
end
/-- Both disks between two calls. -/
structure BX (W w : World) (g q S Zm : Nat) : Prop where
  ex : ∃ (M : Nat → Prop) (f : Int → List Nat) (l : List WrV) (nw : Int) (lost : Bool) (SF NW : Int → List Nat), PB W w g q (fun _ => False) M S f l nw lost Zm SF NW l nw lost ∧ Cor S f l SF NW lost
section
variable {W w w' : World} {g q Zm S : Nat}
theorem BX.ext (h : BX W w g q S Zm) (hx : Ext w w') : BX W w' g q S Zm := by
  obtain ⟨M, f, l, nw, lost, SF, NW, h1, h2⟩ := h.ex
  exact ⟨M, f, l, nw, lost, SF, NW, h1.ext hx, h2⟩
theorem BX.mono (h : BX W w g q S Zm) {Zn : Nat} (hz : Zm ≤ Zn) : BX W w g q S Zn := by
  obtain ⟨M, f, l, nw, lost, SF, NW, h1, h2⟩ := h.ex
  exact ⟨M, f, l, nw, lost, SF, NW, ⟨h1.dl.mono hz, h1.rl, h1.mx⟩, h2⟩
theorem PB.done {X M : Nat → Prop} {nw : Int} {f SF NW : Int → List Nat} {l : List WrV} {lost : Bool} (h : PB W w g q X M S f l nw lost Zm SF NW l nw lost) (hc : Cor S f l SF NW lost) : BX W w g q S Zm :=
  ⟨M, f, l, nw, lost, SF, NW, h.grow (Ext.refl w) (fun _ h => h.elim), hc⟩
end
end Go.Proofs.YtchkeclhnbekkaaDoor
