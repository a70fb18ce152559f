/-
  The statement DiskSafe: what the rows of the law hold while it writes; its argument opened.
-/
import Derived.Test.YtchkeclhnbekkaaDoorDkAlive
import Derived.Test.YtchkeclhnbekkaaDoorDkScript
namespace Go.Proofs.YtchkeclhnbekkaaDoor
set_option maxRecDepth 100000
open Go.ChangeShapes Go.WideShapes Go.Deep Go.RowKit Go.ChangeAt Go.Maps
set_option linter.unusedVariables false
theorem eltB : Elt Tryd.prog 22 32 1 24 (.slice none 0 0) := ⟨Tryd.underlying22, by kernel_rfl, rfl, by omega⟩
/-- The slices of filled sectors. -/
def lvals (lb : List (Nat × List Nat)) : List Value := lb.map fun p => .slice (some ⟨p.1, 0, none⟩) 64 64
theorem lvals_at {lb : List (Nat × List Nat)} {k : Nat} {p : Nat × List Nat} (h : lb[k]? = some p) : (lvals lb)[k]? = some (.slice (some ⟨p.1, 0, none⟩) 64 64) := by simp [lvals, h]
theorem lvals_len (lb : List (Nat × List Nat)) : (lvals lb).length = lb.length := by simp [lvals]
/-- What a call leaves as it was. -/
structure Kp (X : Nat → Prop) (w w' : World) : Prop where
  kp : ∀ q, X q → w'.heap[q]? = w.heap[q]?
  sz : w.heap.size ≤ w'.heap.size
/-- The disk, what its sectors may have. -/
structure SD (w wr : World) (g : Nat) (X : Nat → Prop) (bs : List Nat) (cs : List (List Nat)) (r : List Nat) (Zm : Nat) : Prop where
  ex : ∃ f l nw, DL w wr g X 3 f l nw false Zm ∧ f 0 = z64 ∧ (∀ x ∈ l, x.i ≠ 0) ∧ f 1 = bs ∧ (∀ x ∈ l, x.i = 1 → x.s ∈ cs) ∧ readW f l 1 = r
section
variable {w wr w' : World} {g Zm : Nat} {X : Nat → Prop} {bs r : List Nat} {cs : List (List Nat)} {pn pl pg : Addr}
theorem SD.ex' (h : SD w wr g X bs cs r Zm) (hx : Ext wr w') : SD w w' g X bs cs r Zm := by
  obtain ⟨f, l, nw, h1, h2⟩ := h.ex
  exact ⟨f, l, nw, h1.ex' hx, h2⟩
theorem SD.mono (h : SD w wr g X bs cs r Zm) {Zn : Nat} (hz : Zm ≤ Zn) : SD w wr g X bs cs r Zn := by
  obtain ⟨f, l, nw, h1, h2⟩ := h.ex
  exact ⟨f, l, nw, h1.mono hz, h2⟩
theorem SD.sub (h : SD w wr g X bs cs r Zm) {Y : Nat → Prop} (hY : ∀ q, Y q → X q) : SD w wr g Y bs cs r Zm := by
  obtain ⟨f, l, nw, h1, h2⟩ := h.ex
  exact ⟨f, l, nw, h1.sub hY, h2⟩
theorem SD.add (h : SD w wr g X bs cs r Zm) (hx : Ext wr w') {q : Nat} (h1 : wr.heap.size ≤ q) (h2 : q < w'.heap.size) : SD w w' g (fun b => X b ∨ b = q) bs cs r Zm := by
  obtain ⟨f, l, nw, k1, k2⟩ := h.ex
  exact ⟨f, l, nw, k1.add hx h1 h2, k2⟩
theorem SD.wext (h : SD w wr g X bs cs r Zm) : Ext w wr := by
  obtain ⟨f, l, nw, h1, h2⟩ := h.ex
  exact h1.ext
theorem SD.xl (h : SD w wr g X bs cs r Zm) {q : Nat} (hq : X q) : q < wr.heap.size := by
  obtain ⟨f, l, nw, h1, h2⟩ := h.ex
  exact h1.xl q hq
/-- Stores into blocks that are none of the disk's. -/
theorem SD.poke (h : SD w wr g X bs cs r Zm) {P : Nat → Prop} (hf : Fr wr w' P) (hP : ∀ q, P q → X q ∧ w.heap.size ≤ q) : SD w w' g X bs cs r Zm := by
  obtain ⟨f, l, nw, h0, hr⟩ := h.ex
  obtain ⟨F, b, m, c, Z, A, h1, h2, h3, h4, h5, h6⟩ := h0.ex
  have nF : ∀ p, F p → ¬ P p := fun p hp e => (h6 p hp).2.1 (hP p e).1
  exact ⟨f, l, nw, ⟨⟨F, b, m, c, Z, A, h1.fr hf (nF g h2) (nF b h3) (fun a ha => nF _ (h4 a ha)), h2, h3, h4, h5, fun p hp => ⟨(h6 p hp).1, (h6 p hp).2.1, Nat.lt_of_lt_of_le (h6 p hp).2.2 hf.size⟩⟩, h0.nws, Fr.ext h0.ext hf (fun p e => (hP p e).2), fun p hp => Nat.lt_of_lt_of_le (h0.xl p hp) hf.size⟩, hr⟩
/-- Sector 1 is written. -/
theorem SD.write1 (h : SD w wr g X bs cs r Zm) (hE : DE w pn pl pg) (hZ : Zm < 2199023255552) {fb : Nat} {s : List Nat} (hs : IsSec s) (hB : Rd wr 1 (some ⟨fb, 0, none⟩) 64 (u8s s)) (hX : X fb) (hc : s ∈ cs) :
    Calls Tryd.prog 10 #[.pointer (some ⟨g, 0, none⟩), .int .i64 1, .slice (some ⟨fb, 0, none⟩) 64 64] wr fun e w' => e = .returned .nilIface ∧ SD w w' g X bs cs s (Zm + 1) ∧ Kp X wr w' := by
  obtain ⟨f, l, nw, h1, h2, h3, h4, h5, h6⟩ := h.ex
  refine (h1.write_in hE hZ 1 (by omega) fb hs hB hX).mono fun e w' ⟨he, hd⟩ => ⟨he, ⟨f, _, _, hd.dl, h2, fun x hx => ?_, h4, fun x hx e1 => ?_, by rw [readW_snoc, if_pos rfl]⟩, ⟨hd.kp, hd.sz⟩⟩
  · rcases List.mem_append.1 hx with hx | hx
    · exact h3 x hx
    · simp at hx; subst hx; show (1 : Int) ≠ 0; omega
  · rcases List.mem_append.1 hx with hx | hx
    · exact h5 x hx e1
    · simp at hx; subst hx; exact hc
theorem SD.write2 (h : SD w wr g X bs cs r Zm) (hE : DE w pn pl pg) (hZ : Zm < 2199023255552) {fb : Nat} {s : List Nat} (hs : IsSec s) (hB : Rd wr 1 (some ⟨fb, 0, none⟩) 64 (u8s s)) (hX : X fb) :
    Calls Tryd.prog 10 #[.pointer (some ⟨g, 0, none⟩), .int .i64 2, .slice (some ⟨fb, 0, none⟩) 64 64] wr fun e w' => e = .returned .nilIface ∧ SD w w' g X bs cs r (Zm + 1) ∧ Kp X wr w' := by
  obtain ⟨f, l, nw, h1, h2, h3, h4, h5, h6⟩ := h.ex
  refine (h1.write_in hE hZ 2 (by omega) fb hs hB hX).mono fun e w' ⟨he, hd⟩ => ⟨he, ⟨f, _, _, hd.dl, h2, fun x hx => ?_, h4, fun x hx e1 => ?_, by rw [readW_snoc, if_neg (by show ¬ (2 : Int) = 1; omega)]; exact h6⟩, ⟨hd.kp, hd.sz⟩⟩
  · rcases List.mem_append.1 hx with hx | hx
    · exact h3 x hx
    · simp at hx; subst hx; show (2 : Int) ≠ 0; omega
  · rcases List.mem_append.1 hx with hx | hx
    · exact h5 x hx e1
    · simp at hx; subst hx; exact absurd e1 (by show ¬ (2 : Int) = 1; omega)
/-- Flush: the base is what would be read. -/
theorem SD.flush (h : SD w wr g X bs cs r Zm) (hZ : Zm < 2199023255552) :
    Calls Tryd.prog 11 #[.pointer (some ⟨g, 0, none⟩)] wr fun e w' => e = .returned .nilIface ∧ SD w w' g X r [] r Zm ∧ Kp X wr w' := by
  obtain ⟨f, l, nw, h1, h2, h3, h4, h5, h6⟩ := h.ex
  have hsec := h1.secs
  have e1 := flush_read (l := l) 1 hsec.1 hsec.2
  rw [h6] at e1
  exact (h1.flush hZ).mono fun e w' ⟨he, hd⟩ => ⟨he, ⟨_, [], _, hd.dl, by rw [flushW_stays h3]; exact h2, (fun x hx => by cases hx), e1, (fun x hx => by cases hx), e1⟩, ⟨hd.kp, hd.sz⟩⟩
theorem SD.wider (h : SD w wr g X bs cs r Zm) {ds : List (List Nat)} (hd : ∀ s ∈ cs, s ∈ ds) : SD w wr g X bs ds r Zm := by
  obtain ⟨f, l, nw, h1, h2, h3, h4, h5, h6⟩ := h.ex
  exact ⟨f, l, nw, h1, h2, h3, h4, fun x hx e => hd _ (h5 x hx e), h6⟩
/-- Behind the crash. -/
structure SC (w wr : World) (g : Nat) (X : Nat → Prop) (bs : List Nat) (cs : List (List Nat)) (Zm : Nat) : Prop where
  ex : ∃ f nw, DL w wr g X 3 f [] nw false Zm ∧ f 0 = z64 ∧ ∀ h, h < 2 → halfL h (f 1) = halfL h bs ∨ ∃ s ∈ cs, halfL h (f 1) = halfL h s
theorem SD.crash (h : SD w wr g X bs cs r Zm) (hZ : Zm < 2199023255552) (kp : Nat) (hkp : kp < 18446744073709551616) (torn : Int) :
    Calls Tryd.prog 12 #[.pointer (some ⟨g, 0, none⟩), .int .u64 (kp : Int), .int .i64 torn] wr fun e w' => e = .returned (.tuple #[]) ∧ SC w w' g X bs cs Zm ∧ Kp X wr w' := by
  obtain ⟨f, l, nw, h1, h2, h3, h4, h5, h6⟩ := h.ex
  have hsec := h1.secs
  refine (h1.crash hZ kp hkp torn).mono fun e w' ⟨he, hd⟩ => ⟨he, ⟨_, _, hd.dl, by rw [crashW_stays h3]; exact h2, ?_⟩, ⟨hd.kp, hd.sz⟩⟩
  exact crash_halves (Q := fun h v => v = halfL h bs ∨ ∃ s ∈ cs, v = halfL h s) hsec.2 (fun x hx e h _ => .inr ⟨x.s, h5 x hx e, rfl⟩) 0 f hsec.1 (fun h _ => .inl (by rw [h4]))
end
/-- The argument, opened: the lists that are written. -/
structure WL (W : World) (n : Nat) (A : Option Addr) (vs : List Value) (ps : List (List Nat)) : Prop where
  rd : Rd W 1 A n vs
  len : ps.length = n
  at_ : ∀ (i : Nat) (p : List Nat), ps[i]? = some p → (∃ B d, vs[i]? = some (.slice B p.length d) ∧ Rd W 1 B p.length (u8s p)) ∧ (∀ x ∈ p, x < 256) ∧ p.length ≤ 140737488351232
theorem oneLL : Tryd.prog.cellsOf 22 = 1 := by kernel_rfl
theorem oneLB : Tryd.prog.cellsOf 32 = 1 := by kernel_rfl
theorem bytesLB : Tryd.prog.bytesOf 32 = 24 := by kernel_rfl
theorem oneCi : Tryd.prog.cellsOf 3 = 1 := by kernel_rfl
theorem oneCu : Tryd.prog.cellsOf 23 = 1 := by kernel_rfl
theorem oneCrash : Tryd.prog.cellsOf 25 = 4 := by kernel_rfl
section
variable {H : Type} {enc : TypeId × Value → H} {W : World} {base : Nat} {v : Value} {d : DataW H} {p : List MemPlace} {held : Bool}
theorem cell_lists {fuel : Nat} {y : DataW H × List MemPlace} (h : DataW.trod enc Tryd.prog W 0 (fun _ => true) held fuel 22 [v] = some y) (hs : ∀ n ∈ y.1.weights Tryd.prog 22, n ≤ reachBytes) :
    ∃ (a : Option Addr) (n c : Nat) (vs : List Value) (ps : List (List Nat)), v = .slice a n c ∧ n * 24 ≤ 140737488351232 ∧ WL W n a vs ps := by
  rcases open_slice Tryd.underlying22 h with ⟨hcs, hx⟩ | ⟨x, n, cap, m, k, D, Pl, hcs', _, hl, _, hm, hx, hi⟩
  · simp at hcs
    subst hcs
    exact ⟨none, 0, 0, [], [], rfl, by omega, Rd.nil_, rfl, fun i p h => by simp at h⟩
  · simp at hcs'
    subst hcs'
    simp only [if_true] at hm
    subst hm
    have hx1 := congrArg Prod.fst hx
    have hsz := weight_slice hx1 Tryd.underlying22 bytesLB hs
    simp only [List.length_map, List.length_range] at hsz
    have hD : ∀ i, i < n → ∃ y : Value × List Nat, W.cell? (x.add i) = some y.1 ∧ (∃ B d, y.1 = Value.slice B y.2.length d ∧ Rd W 1 B y.2.length (u8s y.2)) ∧ (∀ z ∈ y.2, z < 256) ∧ y.2.length ≤ 140737488351232 := fun i hin => by
      obtain ⟨cs, hc, ht'⟩ := hi i (by omega)
      rw [oneLB, Nat.mul_one] at hc
      obtain ⟨_, hcl, hat⟩ := World.cells?_some hc
      obtain ⟨u, rfl⟩ : ∃ u, cs = [u] := by
        match cs, hcl with
        | [u], _ => exact ⟨u, rfl⟩
      have hwt := weight_elem (x := D i) hx1 Tryd.underlying22 hs (List.mem_map.2 ⟨i, List.mem_range.2 hin, rfl⟩)
      obtain ⟨B, nb, cb, l, rfl, h1, h2, h3, h4⟩ := cell_row8 Tryd.underlying32 Tryd.underlying5 oneU8b bytesU8b ht' hwt
      have hlen : l.length = nb := by have := h3.len; rwa [u8s_len] at this
      subst hlen
      have h0 := hat 0 (by omega)
      have e0 : (x.add i).add 0 = x.add i := rfl
      rw [e0] at h0
      exact ⟨(.slice B l.length cb, l), h0, ⟨B, cb, rfl, h3⟩, h4, by show l.length ≤ _; omega⟩
    obtain ⟨ys, hyl, hy⟩ := all_at n hD
    refine ⟨some x, n, m, ys.map (·.1), ys.map (·.2), rfl, by omega, ⟨by simp [hyl], fun hn => ⟨x, rfl, ?_, fun j u hu => ?_⟩⟩, by simp [hyl], fun i p hp => ?_⟩
    · obtain ⟨y, h1, _⟩ := hD 0 hn
      exact block_of_cell h1
    · rw [List.getElem?_map] at hu
      cases hj : ys[j]? with
      | none => rw [hj] at hu; cases hu
      | some y =>
        rw [hj] at hu
        injection hu with hu
        subst hu
        exact (hy j y hj).1
    · rw [List.getElem?_map] at hp
      cases hj : ys[i]? with
      | none => rw [hj] at hp; cases hp
      | some y =>
        rw [hj] at hp
        injection hp with hp
        subst hp
        obtain ⟨B, dd, h1, h2⟩ := (hy i y hj).2.1
        refine ⟨⟨B, dd, ?_, h2⟩, (hy i y hj).2.2⟩
        rw [List.getElem?_map, hj]
        exact congrArg some h1
theorem open_crash (hv : Value.okWide Tryd.prog W .any base 25 v) (h : DataW.Trod enc Tryd.prog W 0 (fun _ => true) true 25 v d p) (hs : ∀ n ∈ d.weights Tryd.prog 25, n ≤ reachBytes) :
    ∃ (A : Option Addr) (n c kp : Nat) (vs : List Value) (ps : List (List Nat)) (fl torn : Int), v = .agg #[.slice A n c, .int .i64 fl, .int .i64 torn, .int .u64 (kp : Int)] ∧ n * 24 ≤ 140737488351232 ∧ WL W n A vs ps ∧ kp < 18446744073709551616 := by
  obtain ⟨cs, rfl, hsz⟩ := okWide_struct Tryd.underlying25 hv
  obtain ⟨l⟩ := cs
  match l, hsz.trans oneCrash with
  | [c0, c1, c2, c3], _ =>
    obtain ⟨fuel, hf⟩ := h
    obtain ⟨xs, n, _, hx, _, hlen, hg⟩ := DataW.trod_struct Tryd.underlying25 hf
    have hd : d = .agg (xs.map (·.1)) := congrArg Prod.fst hx
    obtain ⟨y0, y1, y2, y3, rfl⟩ : ∃ y0 y1 y2 y3, xs = [y0, y1, y2, y3] := by
      match xs, hlen with
      | [a, b, c, d], _ => exact ⟨a, b, c, d, rfl⟩
    have g0 : DataW.trod enc Tryd.prog W 0 (fun _ => true) true n 22 [c0] = some y0 := by have h := hg 0 _ rfl; simpa [Value.cells, oneLL] using h
    have g1 : DataW.trod enc Tryd.prog W 0 (fun _ => true) true n 3 [c1] = some y1 := by have h := hg 1 _ rfl; simpa [Value.cells, oneCi] using h
    have g2 : DataW.trod enc Tryd.prog W 0 (fun _ => true) true n 3 [c2] = some y2 := by have h := hg 2 _ rfl; simpa [Value.cells, oneCi] using h
    have g3 : DataW.trod enc Tryd.prog W 0 (fun _ => true) true n 23 [c3] = some y3 := by have h := hg 3 _ rfl; simpa [Value.cells, oneCu] using h
    rw [hd] at hs
    have w0 := weight_field (x := y0.1) Tryd.underlying25 hs (j := 0) rfl rfl
    obtain ⟨fl, e1, _, _⟩ := DataW.trod_int Tryd.underlying3 g1
    obtain ⟨torn, e2, _, _⟩ := DataW.trod_int Tryd.underlying3 g2
    obtain ⟨Kp, e3, _, w3⟩ := DataW.trod_int Tryd.underlying23 g3
    simp only [List.cons.injEq, and_true] at e1 e2 e3
    subst e1 e2 e3
    have hkp := wf_u64b w3
    obtain ⟨kp, rfl⟩ : ∃ kp : Nat, Kp = (kp : Int) := ⟨Kp.toNat, by omega⟩
    obtain ⟨A, na, ca, vs, ps, rfl, h1, h2⟩ := cell_lists g0 w0
    exact ⟨A, na, ca, kp, vs, ps, fl, torn, rfl, h1, h2, by omega⟩
end
end Go.Proofs.YtchkeclhnbekkaaDoor
