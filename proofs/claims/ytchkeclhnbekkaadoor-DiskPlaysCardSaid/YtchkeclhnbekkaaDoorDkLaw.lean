/-
  Package almonerlaw05: one disk beside what must stay.
-/
import Derived.Test.YtchkeclhnbekkaaDoorDkNew
namespace Go.Proofs.YtchkeclhnbekkaaDoor
set_option maxRecDepth 100000
open Go.RowKit Go.Maps
set_option linter.unusedVariables false
/-- The errors that a disk answers with. -/
structure DE (W : World) (pn pl pg : Addr) : Prop where
  n : Sen W 0 pn
  l : Sen W 2 pl
  g : Sen W 1 pg
theorem DE.ext {W w : World} {pn pl pg : Addr} (h : DE W pn pl pg) (hx : Ext W w) : DE w pn pl pg := ⟨h.n.ext hx, h.l.ext hx, h.g.ext hx⟩
/-- A disk at block g made behind W; X: blocks that are none of its own; at most Zm writes. -/
structure DL (W w : World) (g : Nat) (X : Nat → Prop) (S : Int) (f : Int → List Nat) (l : List WrV) (nw : Int) (lost : Bool) (Zm : Nat) : Prop where
  ex : ∃ (F : Nat → Prop) (b m c Z : Nat) (A : Option Addr), DS w g b A m c S f l nw lost Z ∧ F g ∧ F b ∧ (∀ a, A = some a → F a.block) ∧ Z + l.length ≤ Zm ∧ (∀ q, F q → W.heap.size ≤ q ∧ ¬ X q ∧ q < w.heap.size)
  nws : 0 ≤ nw ∧ nw ≤ Zm
  ext : Ext W w
  xl : ∀ q, X q → q < w.heap.size
section
variable {W w w' : World} {g Zm : Nat} {X : Nat → Prop} {S nw : Int} {f : Int → List Nat} {l : List WrV} {lost : Bool} {pn pl pg : Addr}
theorem DL.ex' (h : DL W w g X S f l nw lost Zm) (hx : Ext w w') : DL W w' g X S f l nw lost Zm := by
  obtain ⟨F, b, m, c, Z, A, h1, h2, h3, h4, h5, h6⟩ := h.ex
  exact ⟨⟨F, b, m, c, Z, A, h1.ex hx, h2, h3, h4, h5, fun q hq => ⟨(h6 q hq).1, (h6 q hq).2.1, Nat.lt_of_lt_of_le (h6 q hq).2.2 hx.size⟩⟩, h.nws, h.ext.trans hx, fun q hq => Nat.lt_of_lt_of_le (h.xl q hq) hx.size⟩
theorem DL.mono (h : DL W w g X S f l nw lost Zm) {Zn : Nat} (hz : Zm ≤ Zn) : DL W w g X S f l nw lost Zn := by
  obtain ⟨F, b, m, c, Z, A, h1, h2, h3, h4, h5, h6⟩ := h.ex
  have := h.nws
  exact ⟨⟨F, b, m, c, Z, A, h1, h2, h3, h4, by omega, h6⟩, ⟨by omega, by omega⟩, h.ext, h.xl⟩
/-- Blocks that are new stay too. -/
theorem DL.add (h : DL W w g X S f l nw lost Zm) (hx : Ext w w') {q : Nat} (h1 : w.heap.size ≤ q) (h2 : q < w'.heap.size) : DL W w' g (fun b => X b ∨ b = q) S f l nw lost Zm := by
  have h3 := h.ex' hx
  obtain ⟨F, b, m, c, Z, A, k1, k2, k3, k4, k5, k6⟩ := h.ex
  exact ⟨⟨F, b, m, c, Z, A, k1.ex hx, k2, k3, k4, k5, fun p hp => ⟨(k6 p hp).1, fun e => by
    rcases e with e | e
    · exact (k6 p hp).2.1 e
    · have := (k6 p hp).2.2; omega, Nat.lt_of_lt_of_le (k6 p hp).2.2 hx.size⟩⟩, h.nws, h3.ext, fun p hp => by
    rcases hp with hp | hp
    · exact h3.xl p hp
    · omega⟩
theorem DL.sub (h : DL W w g X S f l nw lost Zm) {Y : Nat → Prop} (hY : ∀ q, Y q → X q) : DL W w g Y S f l nw lost Zm := by
  obtain ⟨F, b, m, c, Z, A, h1, h2, h3, h4, h5, h6⟩ := h.ex
  exact ⟨⟨F, b, m, c, Z, A, h1, h2, h3, h4, h5, fun q hq => ⟨(h6 q hq).1, fun e => (h6 q hq).2.1 (hY q e), (h6 q hq).2.2⟩⟩, h.nws, h.ext, fun q hq => h.xl q (hY q hq)⟩
/-- What a call on the disk leaves. -/
structure DLN (W w w' : World) (g : Nat) (X : Nat → Prop) (S : Int) (f : Int → List Nat) (l : List WrV) (nw : Int) (lost : Bool) (Zm : Nat) : Prop where
  dl : DL W w' g X S f l nw lost Zm
  kp : ∀ q, X q → w'.heap[q]? = w.heap[q]?
  sz : w.heap.size ≤ w'.heap.size
theorem DL.stp {F : Nat → Prop} {b m c Z Z' : Nat} {A : Option Addr} (hd : DS w g b A m c S f l nw lost Z) (h2 : F g) (h3 : F b) (h4 : ∀ a, A = some a → F a.block) (h6 : ∀ q, F q → W.heap.size ≤ q ∧ ¬ X q ∧ q < w.heap.size) (hX : Ext W w) (hxl : ∀ q, X q → q < w.heap.size)
    {f' : Int → List Nat} {l' : List WrV} {nw' : Int} {lost' : Bool} {Zn : Nat} (hnw : 0 ≤ nw' ∧ nw' ≤ Zn) (hs : DStep w w' g b A S f' l' nw' lost' Z') (hZ : Z' + l'.length ≤ Zn) : DLN W w w' g X S f' l' nw' lost' Zn := by
  obtain ⟨⟨A', m', c', k1, k2⟩, k3⟩ := hs
  have hF : ∀ q, (q = g ∨ q = b ∨ A.map (·.block) = some q) → F q := fun q e => by
    rcases e with e | e | e
    · rw [e]; exact h2
    · rw [e]; exact h3
    · obtain ⟨a, ha, rfl⟩ := Option.map_eq_some_iff.1 e
      exact h4 a ha
  have hz := k3.size
  have hw := hX.size
  refine ⟨⟨⟨fun q => F q ∨ A'.map (·.block) = some q, b, m', c', Z', A', k1, .inl h2, .inl h3, fun a ha => .inr (by rw [ha]; rfl), hZ, fun q hq => ?_⟩, hnw, Fr.ext hX k3 (fun q e => (h6 q (hF q e)).1), fun q hq => Nat.lt_of_lt_of_le (hxl q hq) hz⟩, fun q hq => k3.block q (hxl q hq) (fun e => (h6 q (hF q e)).2.1 hq), hz⟩
  rcases hq with hq | hq
  · exact ⟨(h6 q hq).1, (h6 q hq).2.1, Nat.lt_of_lt_of_le (h6 q hq).2.2 hz⟩
  · obtain ⟨a, ha, rfl⟩ := Option.map_eq_some_iff.1 hq
    have hlt := k1.own.lt_at ha
    rcases k2 a ha with e | e
    · have h7 := h6 _ (hF _ (.inr (.inr e)))
      exact ⟨h7.1, h7.2.1, hlt⟩
    · exact ⟨by omega, fun e2 => by have := hxl _ e2; omega, hlt⟩
theorem DLN.same (h : DL W w g X S f l nw lost Zm) (hx : Ext w w') : DLN W w w' g X S f l nw lost Zm := ⟨h.ex' hx, fun q hq => hx.block q (h.xl q hq), hx.size⟩
theorem DLN.mono {Zn : Nat} (h : DLN W w w' g X S f l nw lost Zm) (hz : Zm ≤ Zn) : DLN W w w' g X S f l nw lost Zn := ⟨h.dl.mono hz, h.kp, h.sz⟩
/-- Write. -/
theorem DL.write (h : DL W w g X S f l nw false Zm) (hE : DE W pn pl pg) (hZ : Zm < 2600000000000) (i : Int) (bb : Nat) {s : List Nat} (hs : IsSec s) (hB : Rd w 1 (some ⟨bb, 0, none⟩) 64 (u8s s)) (hX : X bb) :
    ∃ v l' nw', ((0 ≤ i ∧ i < S ∧ v = .nilIface ∧ l' = l ++ [⟨i, s⟩] ∧ nw' = nw + 1) ∨ (¬ (0 ≤ i ∧ i < S) ∧ v = errV pn ∧ l' = l ∧ nw' = nw)) ∧
      Calls Tryd.prog 10 #[.pointer (some ⟨g, 0, none⟩), .int .i64 i, .slice (some ⟨bb, 0, none⟩) 64 64] w fun e w' => e = .returned v ∧ DLN W w w' g X S f l' nw' false (Zm + 1) := by
  obtain ⟨F, b, m, c, Z, A, h1, h2, h3, h4, h5, h6⟩ := h.ex
  have hlen := h1.len
  have hE' := hE.ext h.ext
  have hnw := h.nws
  by_cases hi : 0 ≤ i ∧ i < S
  · refine ⟨_, _, _, .inl ⟨hi.1, hi.2, rfl, rfl, rfl⟩, (write_ok h1 i hi.1 hi.2 hE'.n hE'.l bb 64 hs hB ⟨fun e => (h6 g h2).2.1 (e ▸ hX), fun a ha e => (h6 _ (h4 a ha)).2.1 (e ▸ hX)⟩ (by omega) (by omega)).mono fun e w' ⟨he, hd⟩ => ⟨he, ?_⟩⟩
    exact DL.stp h1 h2 h3 h4 h6 h.ext h.xl ⟨by omega, by omega⟩ hd (by simp; omega)
  · have e0 : chkV pn pl S i false = errV pn := by simp [chkV]; omega
    refine ⟨_, _, _, .inr ⟨hi, rfl, rfl, rfl⟩, (write_err h1 i (by omega) hE'.n hE'.l (some ⟨bb, 0, none⟩) 64 64).mono fun e w' ⟨he, hx⟩ => ⟨by rw [he, e0], (DLN.same h hx).mono (by omega)⟩⟩
theorem DL.write_in (h : DL W w g X S f l nw false Zm) (hE : DE W pn pl pg) (hZ : Zm < 2600000000000) (i : Int) (hi : 0 ≤ i ∧ i < S) (bb : Nat) {s : List Nat} (hs : IsSec s) (hB : Rd w 1 (some ⟨bb, 0, none⟩) 64 (u8s s)) (hX : X bb) :
    Calls Tryd.prog 10 #[.pointer (some ⟨g, 0, none⟩), .int .i64 i, .slice (some ⟨bb, 0, none⟩) 64 64] w fun e w' => e = .returned .nilIface ∧ DLN W w w' g X S f (l ++ [⟨i, s⟩]) (nw + 1) false (Zm + 1) := by
  obtain ⟨v, l', nw', hv, hc⟩ := h.write hE hZ i bb hs hB hX
  rcases hv with ⟨_, _, e1, e2, e3⟩ | ⟨hv, _⟩
  · rw [e1, e2, e3] at hc
    exact hc
  · exact absurd hi hv
/-- Flush. -/
theorem DL.flush (h : DL W w g X S f l nw false Zm) (hZ : Zm < 2600000000000) :
    Calls Tryd.prog 11 #[.pointer (some ⟨g, 0, none⟩)] w fun e w' => e = .returned .nilIface ∧ DLN W w w' g X S (flushW f l) [] nw false Zm := by
  obtain ⟨F, b, m, c, Z, A, h1, h2, h3, h4, h5, h6⟩ := h.ex
  exact (flush_ok h1 (by omega)).mono fun e w' ⟨he, hd⟩ => ⟨he, DL.stp h1 h2 h3 h4 h6 h.ext h.xl h.nws hd (by simpa using h5)⟩
/-- Crash. -/
theorem DL.crash (h : DL W w g X S f l nw lost Zm) (hZ : Zm < 2600000000000) (kp : Nat) (hkp : kp < 18446744073709551616) (torn : Int) :
    Calls Tryd.prog 12 #[.pointer (some ⟨g, 0, none⟩), .int .u64 (kp : Int), .int .i64 torn] w fun e w' => e = .returned (.tuple #[]) ∧ DLN W w w' g X S (crashW kp torn 0 f l) [] nw lost Zm := by
  obtain ⟨F, b, m, c, Z, A, h1, h2, h3, h4, h5, h6⟩ := h.ex
  exact (crash_any h1 (by omega) kp hkp torn).mono fun e w' ⟨he, hd⟩ => ⟨he, DL.stp h1 h2 h3 h4 h6 h.ext h.xl h.nws hd (by simpa using h5)⟩
/-- Read. -/
theorem DL.read (h : DL W w g X S f l nw false Zm) (hE : DE W pn pl pg) (hZ : Zm < 2600000000000) (i : Int) (h0 : 0 ≤ i) (hS : i < S) :
    Calls Tryd.prog 13 #[.pointer (some ⟨g, 0, none⟩), .int .i64 i] w fun e w' => ∃ sb, e = .returned (.tuple #[.slice (some ⟨sb, 0, none⟩) 64 64, .nilIface]) ∧ Rd w' 1 (some ⟨sb, 0, none⟩) 64 (u8s (readW f l i)) ∧ w.heap.size ≤ sb ∧ sb < w'.heap.size ∧ Ext w w' := by
  obtain ⟨F, b, m, c, Z, A, h1, h2, h3, h4, h5, h6⟩ := h.ex
  have hlen := h1.len
  have hE' := hE.ext h.ext
  refine (read_ok h1 i h0 hS hE'.n hE'.l (by omega)).mono fun e w' ⟨sb, he, hb, hs, hx⟩ => ⟨sb, he, ?_, hs, block_lt hb, hx⟩
  have hsec := readW_sec h1.sec h1.lsec i
  refine ⟨by rw [u8s_len, hsec.1], fun _ => ⟨_, rfl, block_lt hb, fun j v hv => ?_⟩⟩
  rw [Addr.add_mid, Nat.zero_add, block_cell hb, List.getElem?_toArray]
  exact hv
theorem DL.wait (h : DL W w g X S f l nw lost Zm) : Calls Tryd.prog 14 #[.pointer (some ⟨g, 0, none⟩)] w fun e w' => e = .returned (.int .i64 (l.length : Int)) ∧ Ext w w' := by
  obtain ⟨F, b, m, c, Z, A, h1, h2, h3, h4, h5, h6⟩ := h.ex
  exact waiting_d h1
theorem DL.secs (h : DL W w g X S f l nw lost Zm) : (∀ y, IsSec (f y)) ∧ ∀ x ∈ l, IsSec x.s := by
  obtain ⟨F, b, m, c, Z, A, h1, h2, h3, h4, h5, h6⟩ := h.ex
  exact ⟨h1.sec, h1.lsec⟩
/-- A new disk. -/
theorem DL.new (w : World) (hX : Ext W w) (n : Int) (h1 : 1 ≤ n) (h2 : n ≤ 1024) : Calls Tryd.prog 8 #[.int .i64 n] w fun e w' => e = .returned (.tuple #[.pointer (some ⟨w.heap.size + 1, 0, none⟩), .nilIface]) ∧ DL W w' (w.heap.size + 1) (fun q => W.heap.size ≤ q ∧ q < w.heap.size) n (fun _ => z64) [] 0 false 0 ∧ Ext w w' := by
  refine (new_ok w n h1 h2).mono fun e w' ⟨he, hd, hx⟩ => ⟨he, ⟨⟨fun q => q = w.heap.size + 1 ∨ q = w.heap.size, _, 0, 0, 0, none, hd, .inl rfl, .inr rfl, (fun a ha => by cases ha), Nat.le_refl _, fun q hq => ?_⟩, ⟨Int.le_refl _, by omega⟩, hX.trans hx, fun q hq => by have := hx.size; omega⟩, hx⟩
  have hw := hX.size
  have hl := hd.lt
  refine ⟨by rcases hq with e | e <;> omega, fun e2 => by rcases hq with e | e <;> omega, by rcases hq with e | e <;> omega⟩
end
end Go.Proofs.YtchkeclhnbekkaaDoor
