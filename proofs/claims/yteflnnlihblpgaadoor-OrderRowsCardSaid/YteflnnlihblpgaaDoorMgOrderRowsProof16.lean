/-
  Package almonernum: Num, walked: the number of an error.
-/
import Derived.Test.YteflnnlihblpgaaDoorMgOrderRowsProof15
import Derived.Maps.RangeWalk
import Derived.Handy
namespace Go.Proofs.YteflnnlihblpgaaDoor
set_option maxRecDepth 100000
open Go.RowKit
set_option linter.unusedVariables false
/-- What Add makes of a ledger: the ledger, the place, the error's number. -/
def AddR (es : List En) (e : En) (us : List En) (p code : Int) : Prop :=
  (∃ q : Nat, placeL es e.cl e.nu = q + 1 ∧ us = es ∧ p = ((q + 1 : Nat) : Int) ∧ code = 0) ∨
  (placeL es e.cl e.nu = 0 ∧ 64 ≤ es.length ∧ us = [] ∧ p = 0 ∧ code = 7) ∨
  (placeL es e.cl e.nu = 0 ∧ es.length < 64 ∧ us = es ++ [e] ∧ p = ((es.length + 1 : Nat) : Int) ∧ code = 0)
theorem AddR.same {es us vs : List En} {e : En} {p q c d : Int} (h : AddR es e us p c) (k : AddR es e vs q d) : us = vs ∧ p = q ∧ c = d := by
  rcases h with ⟨a, h1, h2, h3, h4⟩ | ⟨h1, h0, h2, h3, h4⟩ | ⟨h1, h0, h2, h3, h4⟩ <;> rcases k with ⟨b, k1, k2, k3, k4⟩ | ⟨k1, k0, k2, k3, k4⟩ | ⟨k1, k0, k2, k3, k4⟩ <;> subst h2 <;> subst k2 <;> subst h3 <;> subst k3 <;> subst h4 <;> subst k4 <;> first
    | exact ⟨rfl, rfl, rfl⟩
    | (exact ⟨rfl, by omega, rfl⟩)
    | omega
theorem radd_any (A : Option Addr) (n c : Nat) (ss : List EnS) (s : EnS) (w : World) (hs : Led w A n ss) (he : s.Lies w) (hn : n ≤ 1470000000000) (hc : n ≤ c) : Calls Tryd.prog 15 #[.slice A n c, .agg #[.int .i64 s.e.cl, .int .i64 s.e.nu, .int .i64 s.e.kd, .int .i64 s.e.id, .int .i64 s.e.sk, .int .i64 s.e.sq, .int .i64 s.e.st, .int .i64 s.e.pol, .slice s.A s.n s.c, .int .i64 s.e.at_]] w fun x w' => ∃ B m d uu p code, x = .returned (.tuple #[.slice B m d, .int .i64 p, .int .i64 code]) ∧ AddR (ents ss) s.e (ents uu) p code ∧ Led w' B m uu ∧ Ext w w' := by
  have hl : (ents ss).length = n := by rw [ents_len]; exact hs.len
  cases hp : placeL (ents ss) s.e.cl s.e.nu with
  | succ p => exact (radd_there A n c ss s w hs he hn p hp).mono fun x w' ⟨h1, h2⟩ => ⟨A, n, c, ss, _, _, h1, .inl ⟨p, hp, rfl, rfl, rfl⟩, hs.ext h2, h2⟩
  | zero =>
    rcases Nat.lt_or_ge n 64 with h64 | h64
    · exact (radd_new A n c ss s w hs he hn hp h64).mono fun x w' ⟨B, d, uu, h1, h2, h3, h4⟩ => ⟨B, n + 1, d, uu, _, _, h1, .inr (.inr ⟨hp, by omega, h2, by rw [hl], rfl⟩), h3, h4⟩
    · exact (radd_full A n c ss s w hs he hn hp h64).mono fun x w' ⟨h1, h2⟩ => ⟨none, 0, 0, [], _, _, h1, .inr (.inl ⟨hp, by omega, rfl, rfl, rfl⟩), Led.nil_, h2⟩
theorem add_any (A : Option Addr) (n c : Nat) (ss : List EnS) (s : EnS) (w : World) (hs : Led w A n ss) (he : s.Lies w) (hn : n ≤ 1470000000000) {ps : Addr} (hG : Sen w 0 ps) {pf : Addr} (hF : Sen w 4 pf) : Calls Tryd.prog 14 #[.slice A n c, .agg #[.int .i64 s.e.cl, .int .i64 s.e.nu, .int .i64 s.e.kd, .int .i64 s.e.id, .int .i64 s.e.sk, .int .i64 s.e.sq, .int .i64 s.e.st, .int .i64 s.e.pol, .slice s.A s.n s.c, .int .i64 s.e.at_]] w fun x w' => ∃ B m d uu p code v, x = .returned (.tuple #[.slice B m d, .int .i64 p, v]) ∧ AddR (ents ss) s.e (ents uu) p code ∧ OLed w' w.heap.size B m d uu ∧ Ext w w' ∧ Hid (code = 0 ∧ v = .nilIface ∨ code = 7 ∧ v = .iface 149 (.pointer (some pf))) := by
  have hl : (ents ss).length = n := by rw [ents_len]; exact hs.len
  cases hp : placeL (ents ss) s.e.cl s.e.nu with
  | succ p => exact (add_there A n c ss s w hs he hn p hp).mono fun x w' ⟨B, d, uu, h1, h2, h3, h4⟩ => ⟨B, n, d, uu, _, 0, _, h1, .inl ⟨p, hp, h2, rfl, rfl⟩, h3, h4, Lib.hid (.inl ⟨rfl, rfl⟩)⟩
  | zero =>
    rcases Nat.lt_or_ge n 64 with h64 | h64
    · exact (add_new A n c ss s w hs he hn hp h64 hG).mono fun x w' ⟨B, d, uu, h1, h2, h3, h4⟩ => ⟨B, n + 1, d, uu, _, 0, _, h1, .inr (.inr ⟨hp, by omega, h2, by rw [hl], rfl⟩), h3, h4, Lib.hid (.inl ⟨rfl, rfl⟩)⟩
    · exact (add_full A n c ss s w hs he hn hp h64 hG hF).mono fun x w' ⟨h1, h2⟩ => ⟨none, 0, 0, [], _, 7, _, h1, .inr (.inl ⟨hp, by omega, rfl, rfl, rfl⟩), OLed.nil_, h2, Lib.hid (.inr ⟨rfl, rfl⟩)⟩
end Go.Proofs.YteflnnlihblpgaaDoor
namespace Go.Proofs.YteflnnlihblpgaaDoor
set_option maxRecDepth 100000
open Go.RowKit
set_option linter.unusedVariables false
theorem stepL_other {g : Int → Option Int} {e : En} {y : Int} (h : y ≠ e.cl) : stepL g e y = g y := by
  unfold stepL
  rw [if_neg (fun q => h q.1)]
/-- What stands under an entry's own client behind it is no less than its number. -/
theorem stepL_self (g : Int → Option Int) (e : En) : ∃ n, stepL g e e.cl = some n ∧ e.nu ≤ n := by
  unfold stepL
  by_cases h : g e.cl = none ∨ ∃ n, g e.cl = some n ∧ n < e.nu
  · rw [if_pos ⟨rfl, h⟩]
    exact ⟨_, rfl, Int.le_refl _⟩
  · rw [if_neg (fun q => h q.2)]
    cases hg : g e.cl with
    | none => exact absurd (.inl hg) h
    | some n => exact ⟨n, rfl, by
        rcases Int.lt_or_le n e.nu with h2 | h2
        · exact absurd (.inr ⟨n, hg, h2⟩) h
        · exact h2⟩
theorem stepL_le {g : Int → Option Int} {e : En} {y n : Int} (h : g y = some n) : ∃ m, stepL g e y = some m ∧ n ≤ m := by
  by_cases hy : y = e.cl
  · subst hy
    unfold stepL
    by_cases h2 : n < e.nu
    · rw [if_pos ⟨rfl, .inr ⟨n, h, h2⟩⟩]
      exact ⟨_, rfl, by omega⟩
    · rw [if_neg (by rintro ⟨_, h3 | ⟨m, h3, h4⟩⟩ <;> rw [h] at h3 <;> simp at h3; omega)]
      exact ⟨n, h, Int.le_refl _⟩
  · rw [stepL_other hy]
    exact ⟨n, h, Int.le_refl _⟩
theorem foldL_le : ∀ (es : List En) {g : Int → Option Int} {y n : Int}, g y = some n → ∃ m, es.foldl stepL g y = some m ∧ n ≤ m
  | [], g, y, n, h => ⟨n, h, Int.le_refl _⟩
  | e :: es, g, y, n, h => by
    obtain ⟨m, h1, h2⟩ := stepL_le (e := e) h
    obtain ⟨k, h3, h4⟩ := foldL_le es h1
    exact ⟨k, h3, by omega⟩
theorem foldL_mem : ∀ (es : List En) {g : Int → Option Int} {e : En}, e ∈ es → ∃ m, es.foldl stepL g e.cl = some m ∧ e.nu ≤ m
  | d :: es, g, e, h => by
    rcases List.mem_cons.1 h with rfl | h
    · obtain ⟨m, h1, h2⟩ := stepL_self g e
      obtain ⟨k, h3, h4⟩ := foldL_le es h1
      exact ⟨k, h3, by omega⟩
    · exact foldL_mem es h
theorem lastF_mem {es : List En} {e : En} (h : e ∈ es) : ∃ m, lastF es e.cl = some m ∧ e.nu ≤ m := foldL_mem es h
/-- A last number is an entry's. -/
theorem foldL_from : ∀ (es : List En) {g : Int → Option Int} {y n : Int}, es.foldl stepL g y = some n → g y = some n ∨ ∃ e ∈ es, e.cl = y ∧ e.nu = n
  | [], g, y, n, h => .inl h
  | e :: es, g, y, n, h => by
    rcases foldL_from es h with h | ⟨d, hd, h1⟩
    · unfold stepL at h
      split at h
      · rename_i hc
        injection h with h
        exact .inr ⟨e, by simp, hc.1.symm, h⟩
      · exact .inl h
    · exact .inr ⟨d, by simp [hd], h1⟩
theorem lastF_from {es : List En} {y n : Int} (h : lastF es y = some n) : ∃ e ∈ es, e.cl = y ∧ e.nu = n := by
  rcases foldL_from es h with h | h
  · cases h
  · exact h
/-- A last number is found. -/
theorem lastF_place {es : List En} {y n : Int} (h : lastF es y = some n) : placeL es y n ≠ 0 := fun h0 => by
  obtain ⟨e, he, h1, h2⟩ := lastF_from h
  exact placeL_zero h0 e he ⟨h1, h2⟩
/-- What Add makes of a ledger begins with it. -/
theorem AddR.begins {es us : List En} {e : En} {p : Int} (h : AddR es e us p 0) : begB es us = true := by
  rcases h with ⟨q, _, rfl, _⟩ | ⟨_, _, _, _, h⟩ | ⟨_, _, rfl, _⟩
  · simp [begB]
  · cases h
  · simp [begB]
theorem place_any (A : Option Addr) (n c : Nat) (ss : List EnS) (w : World) (cl nu : Int) (hs : Led w A n ss) (hn : n ≤ 2000000000000) {pg : Addr} (hS : Sen w 0 pg) : Calls Tryd.prog 18 #[.slice A n c, .int .i64 cl, .int .i64 nu] w fun x w' => ∃ v, x = .returned (.tuple #[.int .i64 (placeL (ents ss) cl nu : Int), v]) ∧ Ext w w' ∧ Hid (placeL (ents ss) cl nu = 0 ∧ v = .iface 149 (.pointer (some pg)) ∨ placeL (ents ss) cl nu ≠ 0 ∧ v = .nilIface) := by
  cases hp : placeL (ents ss) cl nu with
  | zero => exact (place_no A n c ss w cl nu hs hn hp hS).mono fun x w' ⟨h1, h2⟩ => ⟨_, h1, h2, Lib.hid (.inl ⟨rfl, rfl⟩)⟩
  | succ p => exact (place_ok A n c ss w cl nu hs hn p hp).mono fun x w' ⟨h1, h2⟩ => ⟨_, h1, h2, Lib.hid (.inr ⟨by omega, rfl⟩)⟩
end Go.Proofs.YteflnnlihblpgaaDoor
namespace Go.Proofs.YteflnnlihblpgaaDoor
set_option maxRecDepth 100000
open Go.RowKit
set_option linter.unusedVariables false
theorem add_zero_ (b k : Nat) : (⟨b, 0, none⟩ : Addr).add k = ⟨b, k, none⟩ := by
  unfold Addr.add
  split
  · rename_i h; rw [h]
  · simp
theorem cell_same' {w : World} {q k : Nat} {u : Value} (v : Value) (h : w.cell? ⟨q, k, none⟩ = some u) : (w.setCell ⟨q, k, none⟩ v).cell? ⟨q, k, none⟩ = some v := World.cell?_setCell_same _ _ _ h
theorem cell_other' {w : World} {q k b j : Nat} (v : Value) (h : q ≠ b ∨ k ≠ j) : (w.setCell ⟨q, k, none⟩ v).cell? ⟨b, j, none⟩ = w.cell? ⟨b, j, none⟩ :=
  World.cell?_setCell_other _ _ _ _ (by intro e; injection e with e1 e2; rcases h with h | h; exact h e1; exact h e2)
/-- The entries uu in block b, all from base on, have been written over in part. -/
structure Spoil (W wr : World) (base b : Nat) (uu : List EnS) : Prop where
  fr : Fr W wr (base ≤ ·)
  lo : base ≤ b
  fb : ∀ k, wr.frozen? ⟨b, k, none⟩ = false
  row : ∀ i s, uu[i]? = some s → wr.cell? ⟨b, i * 10 + 8, none⟩ = some (.slice s.A s.n s.c) ∧ ∃ x : Int, wr.cell? ⟨b, i * 10, none⟩ = some (.int .i64 x)
  tk : ∀ s ∈ uu, ∀ j, j < s.n → ∃ g, s.A = some ⟨g, 0, none⟩ ∧ g ≠ b ∧ base ≤ g ∧ (∀ k, wr.frozen? ⟨g, k, none⟩ = false) ∧ ∃ x : Int, wr.cell? ⟨g, j * 4, none⟩ = some (.int .i64 x)
section
variable {W wr : World} {base b m d : Nat} {uu : List EnS} {s : EnS} {i j : Nat}
/-- Where a row of a call's own lies. -/
theorem Own.zero {e : TypeId} {z n c : Nat} {A : Option Addr} {xs : List Value} (h : Own W base e z A n c xs) (hn : 0 < n) : ∃ g cs, A = some ⟨g, 0, none⟩ ∧ base ≤ g ∧ W.heap[g]? = some (.cells cs e (0, 0)) := by
  rcases h.2 with ⟨h1, h2⟩ | ⟨g, cap, cur, h1, hb, hg, _⟩
  · have hz := h.1
    injection h1 with h1 h3 h4
    omega
  · injection h1 with h1
    exact ⟨g, cur, h1, hb, hg⟩
theorem Spoil.start (h : OLed W base (some ⟨b, 0, none⟩) m d uu) (hm : 0 < m) : Spoil W W base b uu := by
  obtain ⟨g, cs, e, hlo, hblk⟩ := h.own.zero hm
  injection e with e
  injection e with e _ _
  subst e
  refine ⟨Fr.refl _ _, hlo, fun k => by simp only [World.frozen?, hblk]; simp, fun i s hi => ?_, fun s hs j hj => ?_⟩
  · obtain ⟨ad, e, y0, _, _, _, _, _, _, _, y8, _⟩ := h.led.entry hi rfl
    injection e with e
    rw [← e, add_zero_] at y0 y8
    exact ⟨y8, _, y0⟩
  · obtain ⟨hl, hmine⟩ := h.all s hs
    obtain ⟨g, cs2, e2, hlo2, hblk2⟩ := Own.zero hmine (by omega)
    have hl2 := rd_tlen hl.rd
    obtain ⟨ae, e3, y0, _⟩ := hl.rd.task (k := j) (List.getElem?_eq_getElem (by omega)) rfl
    rw [e2] at e3
    injection e3 with e3
    rw [← e3, add_zero_] at y0
    exact ⟨g, e2, Own.away_t hmine hblk (by decide) _ e2, hlo2, fun k => by simp only [World.frozen?, hblk2]; simp, _, y0⟩
/-- A task is written over. -/
theorem Spoil.task (h : Spoil W wr base b uu) (hs : s ∈ uu) (hj : j < s.n) {g : Nat} (hg : s.A = some ⟨g, 0, none⟩) (v : Int) : Spoil W (wr.setCell ⟨g, j * 4, none⟩ (.int .i64 v)) base b uu := by
  obtain ⟨g', e, hgb, hbg, _, x, hx⟩ := h.tk s hs j hj
  rw [hg] at e
  injection e with e
  injection e with e _ _
  subst e
  refine ⟨h.fr.trans (Fr.store _ _ _) (fun q _ e => by show base ≤ q; rw [show q = g from e]; exact hbg), h.lo, fun k => by rw [World.frozen?_setCell]; exact h.fb k, fun i t hi => ?_, fun t ht k hk => ?_⟩
  · rw [cell_other' _ (.inl hgb), cell_other' _ (.inl hgb)]
    exact h.row i t hi
  · obtain ⟨q, e1, e2, e3, ef, y, hy⟩ := h.tk t ht k hk
    refine ⟨q, e1, e2, e3, fun k => by rw [World.frozen?_setCell]; exact ef k, ?_⟩
    by_cases hq : g = q ∧ j * 4 = k * 4
    · obtain ⟨rfl, hjk⟩ := hq
      rw [hjk] at hx ⊢
      exact ⟨v, cell_same' _ hx⟩
    · rw [cell_other' _ (by omega)]
      exact ⟨y, hy⟩
/-- A client is written over. -/
theorem Spoil.client (h : Spoil W wr base b uu) (hi : uu[i]? = some s) (v : Int) : Spoil W (wr.setCell ⟨b, i * 10, none⟩ (.int .i64 v)) base b uu := by
  obtain ⟨_, x, hx⟩ := h.row i s hi
  refine ⟨h.fr.trans (Fr.store _ _ _) (fun q _ e => by show base ≤ q; rw [show q = b from e]; exact h.lo), h.lo, fun k => by rw [World.frozen?_setCell]; exact h.fb k, fun k t hk => ?_, fun t ht k hk => ?_⟩
  · obtain ⟨h1, y, hy⟩ := h.row k t hk
    refine ⟨by rw [cell_other' _ (.inr (by omega))]; exact h1, ?_⟩
    by_cases e : i = k
    · subst e
      exact ⟨v, cell_same' _ hx⟩
    · rw [cell_other' _ (.inr (by omega))]
      exact ⟨y, hy⟩
  · obtain ⟨q, e1, e2, e3, ef, y, hy⟩ := h.tk t ht k hk
    exact ⟨q, e1, e2, e3, fun k => by rw [World.frozen?_setCell]; exact ef k, y, by rw [cell_other' _ (.inl (fun e => e2 e.symm))]; exact hy⟩
end
end Go.Proofs.YteflnnlihblpgaaDoor
namespace Go.Proofs.YteflnnlihblpgaaDoor
set_option maxRecDepth 100000
open Go.RowKit Go.Maps
set_option linter.unusedVariables false
/-- Block r walks the map in block b, that has f x under x; cnt entries are left. -/
def MapR (P : Program) (kt : TypeId) (w : World) (b r n : Nat) (f : Int → Option Value) (cnt : Nat) : Prop :=
  ∃ (D : DataW Value) (left : Lit → Bool), w.ranges P kt tok b r n D left cnt ∧ (∀ x : Int, has D (.int .i64 x) = (f x).isSome ∧ ∀ v, f x = some v → ∀ z, D.atKey (.int .i64 x) z = .held v) ∧ ∀ kl, left kl = true → has D kl = true
section
variable {P : Program} {kt et t : TypeId} {w : World} {b r n cnt : Nat} {f : Int → Option Value}
theorem MapR.ext {w' : World} (h : MapR P kt w b r n f cnt) (hx : Ext w w') : MapR P kt w' b r n f cnt := by
  obtain ⟨D, left, h1, h2⟩ := h
  exact ⟨D, left, h1.kept (row := none) ⟨hx.os, hx.tape, hx.output, hx.size, fun i hi _ => hx.block i hi⟩ (by simp) (by simp), h2⟩
theorem MapR.left_eq (h : MapR P kt w b r n f cnt) : w.rangeLeft b r = cnt := by
  obtain ⟨D, left, h1, _⟩ := h
  exact h1.left_eq
theorem MapI.range (h : MapI P kt w b n f) (ht : P.underlying t = some (.map kt et)) (hk : P.underlying kt = some (.int .i64)) :
    ∃ w' cnt, (Instr.range t (.map (some b))).run P w = .ok (.pointer (some ⟨w.heap.size, 0, none⟩)) w' ∧ MapR P kt w' b w.heap.size n f cnt ∧ Ext w w' := by
  obtain ⟨D, h1, _, h2⟩ := h
  obtain ⟨w', hrun, r1, r2, _⟩ := h1.range (int_keyed hk) ht
  exact ⟨w', _, hrun, ⟨D, _, r1, h2, fun kl h => h⟩, ⟨r2.os, r2.tape, r2.output, r2.size, fun k hk => r2.block k hk (by simp)⟩⟩
theorem MapR.next (h : MapR P kt w b r n f cnt) (hk : P.underlying kt = some (.int .i64)) (ty : TypeId) :
    ((Instr.next (.pointer (some ⟨r, 0, none⟩)) false ty).run P w = .ok (.tuple #[.bool false]) w) ∨
    ∃ (x : Int) (v : Value) (w' : World) (cnt' : Nat), f x = some v ∧ (Instr.next (.pointer (some ⟨r, 0, none⟩)) false ty).run P w = .ok (.tuple #[.bool true, .int .i64 x, v]) w' ∧ MapR P kt w' b r n f cnt' ∧ cnt' < cnt ∧ Fr w w' (· = r) ∧
      (Instr.entry (.pointer (some ⟨r, 0, none⟩))).run P w' = .ok (.tuple #[.int .i64 x, v]) w' ∧ -9223372036854775808 ≤ x ∧ x ≤ 9223372036854775807 := by
  obtain ⟨D, left, h1, h2, h3⟩ := h
  rcases h1.next (int_keyed hk) ty with ⟨_, _, hrun⟩ | ⟨key, v, kl, y, w', cnt', hkey, hlk, hv, hat, hrun, hrg, hlt, hgr, hsz, hen⟩
  · exact .inl hrun
  · refine .inr ?_
    obtain ⟨x, rfl, rfl, hwf⟩ := Maps.keyOf_int_inv hk hkey
    have hb : -9223372036854775808 ≤ x ∧ x ≤ 9223372036854775807 := by simp [Lit.wf, IntKind.signed, IntKind.bits, IntKind.min, IntKind.max] at hwf; omega
    obtain ⟨g1, g2⟩ := h2 x
    rw [h3 _ hlk] at g1
    cases hf : f x with
    | none => rw [hf] at g1; cases g1
    | some u =>
      have e1 := g2 u hf (.held v)
      rw [hat] at e1
      have e2 : y = (.held v, []) := by
        have h := hv
        simp only [tok, Option.some.injEq] at h
        exact h.symm
      rw [e2] at e1
      injection e1 with e1
      subst e1
      exact ⟨x, v, w', cnt', hf, hrun, ⟨D, _, hrg, h2, fun kl h => h3 kl (by simp at h; exact h.1)⟩, hlt, ⟨hgr.os, hgr.tape, hgr.output, hgr.size, fun k hk' hp => hgr.block k hk' (fun e => hp (by first | exact Option.some.inj e | exact (Option.some.inj e).symm))⟩, hen, by omega, by omega⟩
end
end Go.Proofs.YteflnnlihblpgaaDoor
namespace Go.Proofs.YteflnnlihblpgaaDoor
set_option maxRecDepth 100000
open Go.RowKit
set_option linter.unusedVariables false

/-- The errors' variables in the document's order. -/
def gsN : List Nat := [5, 6, 2, 3, 0, 7, 4, 8, 9, 10, 11, 12, 13, 14, 15, 1]
/-- Each holds an error of its own. -/
structure Errs (w : World) (E : Nat → Addr) : Prop where
  sen : ∀ g ∈ gsN, Sen w g (E g)
  dis : ∀ g ∈ gsN, ∀ h ∈ gsN, g ≠ h → E g ≠ E h
theorem Errs.ext {w w' : World} {E : Nat → Addr} (h : Errs w E) (hx : Ext w w') : Errs w' E := ⟨fun g hg => (h.sen g hg).ext hx, h.dis⟩
theorem errs_mk {l : List (String × List UInt8 × Nat)} {W : World} {E : Nat → Addr} (hE : ∀ x ∈ l, Sen W x.2.2 (E x.2.2)) (hD : ∀ x ∈ l, ∀ y ∈ l, x.2.2 ≠ y.2.2 → E x.2.2 ≠ E y.2.2)
    (hl : ∀ g ∈ gsN, g ∈ l.map fun x => x.2.2) : Errs W E := by
  refine ⟨fun g hg => ?_, fun g hg h hh hne => ?_⟩
  · obtain ⟨x, hx, rfl⟩ := List.mem_map.1 (hl g hg)
    exact hE x hx
  · obtain ⟨x, hx, rfl⟩ := List.mem_map.1 (hl g hg)
    obtain ⟨y, hy, rfl⟩ := List.mem_map.1 (hl h hh)
    exact hD x hx y hy hne
theorem gsN_nodup : gsN.Nodup := by decide
def errVals (E : Nat → Addr) : List Value := gsN.map fun g => Value.iface 149 (.pointer (some (E g)))

set_option maxHeartbeats 800000 in
theorem num_nil (w : World) : Calls Tryd.prog 17 #[.nilIface] w fun e w' => e = .returned (.int .i64 0) ∧ Ext w w' := by
  go_enter Tryd.func17, Tryd.ntmps17
  go_wp2_with fail
  go_returns
  exact ⟨rfl, Ext.refl w⟩
set_option maxHeartbeats 1600000 in
theorem num_at (E : Nat → Addr) (i g : Nat) (w : World) (hE : Errs w E) (hi : gsN[i]? = some g) :
    Calls Tryd.prog 17 #[.iface 149 (.pointer (some (E g)))] w fun e w' => e = .returned (.int .i64 ((i : Int) + 1)) ∧ Ext w w' := by
  have hi16 : i < 16 := by
    have := (List.getElem?_eq_some_iff.1 hi).1
    exact this
  have c0 := (hE.sen 5 (by decide)).2.1
  have c1 := (hE.sen 6 (by decide)).2.1
  have c2 := (hE.sen 2 (by decide)).2.1
  have c3 := (hE.sen 3 (by decide)).2.1
  have c4 := (hE.sen 0 (by decide)).2.1
  have c5 := (hE.sen 7 (by decide)).2.1
  have c6 := (hE.sen 4 (by decide)).2.1
  have c7 := (hE.sen 8 (by decide)).2.1
  have c8 := (hE.sen 9 (by decide)).2.1
  have c9 := (hE.sen 10 (by decide)).2.1
  have c10 := (hE.sen 11 (by decide)).2.1
  have c11 := (hE.sen 12 (by decide)).2.1
  have c12 := (hE.sen 13 (by decide)).2.1
  have c13 := (hE.sen 14 (by decide)).2.1
  have c14 := (hE.sen 15 (by decide)).2.1
  have c15 := (hE.sen 1 (by decide)).2.1
  have hxs : ∀ (k h : Nat), gsN[k]? = some h → (errVals E)[k]? = some (Value.iface 149 (.pointer (some (E h)))) := by
    intro k h hk
    unfold errVals; rw [List.getElem?_map, hk]; rfl
  have HI := Lib.hid (And.intro hi (And.intro hxs hE))
  clear hi hxs hE
  go_enter Tryd.func17, Tryd.ntmps17
  go_wp2_with fail
  have hx : Ext w (w.alloc (.cells #[.iface 149 (.pointer (some (E 5))), .iface 149 (.pointer (some (E 6))), .iface 149 (.pointer (some (E 2))), .iface 149 (.pointer (some (E 3))), .iface 149 (.pointer (some (E 0))), .iface 149 (.pointer (some (E 7))), .iface 149 (.pointer (some (E 4))), .iface 149 (.pointer (some (E 8))), .iface 149 (.pointer (some (E 9))), .iface 149 (.pointer (some (E 10))), .iface 149 (.pointer (some (E 11))), .iface 149 (.pointer (some (E 12))), .iface 149 (.pointer (some (E 13))), .iface 149 (.pointer (some (E 14))), .iface 149 (.pointer (some (E 15))), .iface 149 (.pointer (some (E 1)))] 33)) := (Ext.refl w).alloc _
  have hrd : Rd (w.alloc (.cells #[.iface 149 (.pointer (some (E 5))), .iface 149 (.pointer (some (E 6))), .iface 149 (.pointer (some (E 2))), .iface 149 (.pointer (some (E 3))), .iface 149 (.pointer (some (E 0))), .iface 149 (.pointer (some (E 7))), .iface 149 (.pointer (some (E 4))), .iface 149 (.pointer (some (E 8))), .iface 149 (.pointer (some (E 9))), .iface 149 (.pointer (some (E 10))), .iface 149 (.pointer (some (E 11))), .iface 149 (.pointer (some (E 12))), .iface 149 (.pointer (some (E 13))), .iface 149 (.pointer (some (E 14))), .iface 149 (.pointer (some (E 15))), .iface 149 (.pointer (some (E 1)))] 33)) 1 (some ⟨w.heap.size, 0, none⟩) 16 (errVals E) := Rd.block (g := w.heap.size) (heap_alloc_new w _) rfl ⟨[], rfl⟩
  clear c0 c1 c2 c3 c4 c5 c6 c7 c8 c9 c10 c11 c12 c13 c14 c15
  generalize w.alloc (.cells #[.iface 149 (.pointer (some (E 5))), .iface 149 (.pointer (some (E 6))), .iface 149 (.pointer (some (E 2))), .iface 149 (.pointer (some (E 3))), .iface 149 (.pointer (some (E 0))), .iface 149 (.pointer (some (E 7))), .iface 149 (.pointer (some (E 4))), .iface 149 (.pointer (some (E 8))), .iface 149 (.pointer (some (E 9))), .iface 149 (.pointer (some (E 10))), .iface 149 (.pointer (some (E 11))), .iface 149 (.pointer (some (E 12))), .iface 149 (.pointer (some (E 13))), .iface 149 (.pointer (some (E 14))), .iface 149 (.pointer (some (E 15))), .iface 149 (.pointer (some (E 1)))] 33) = w1 at *
  generalize w.heap.size = G at *
  have HR := Lib.hid hrd
  clear hrd
  go_loop [27] (fun v => ∃ k : Nat, k ≤ i ∧ v = .int .i64 k) (fun v => i - (intOf v).toNat)
  case atStart => exact ⟨0, by omega, rfl⟩
  case round =>
    obtain ⟨k, hk, rfl⟩ := hrel
    obtain ⟨h, hh⟩ : ∃ h, gsN[k]? = some h := ⟨gsN[k]'(show k < 16 by omega), List.getElem?_eq_getElem _⟩
    have hc : w1.cell? ⟨G, k, none⟩ = some (.iface 149 (.pointer (some (E h)))) := by
      obtain ⟨ad, e, _, h2⟩ := HR.out.2 (by omega)
      injection e with e
      subst e
      have := h2 k _ (HI.out.2.1 k h hh)
      rwa [show (⟨G, 0, none⟩ : Addr).add k = ⟨G, k, none⟩ by unfold Addr.add; split <;> simp_all] at this
    by_cases e : k = i
    · subst e
      obtain rfl : g = h := Option.some.inj (HI.out.1.symm.trans hh)
      have ES := err_same w1 (E g)
      clear hh HI
      go_wp2_with fail
      go_returns
      exact ⟨rfl, hx⟩
    · have hne : g ≠ h := by
        rintro rfl
        exact e ((List.getElem?_inj (show k < 16 by omega) gsN_nodup).1 (hh.trans HI.out.1.symm))
      have hgm : g ∈ gsN := List.mem_of_getElem? HI.out.1
      have hhm : h ∈ gsN := List.mem_of_getElem? hh
      have EO := err_other ((HI.out.2.2.sen g hgm).ext hx) ((HI.out.2.2.sen h hhm).ext hx) (HI.out.2.2.dis g hgm h hhm hne)
      clear hne hgm hhm hh
      go_wp2_with fail
      go_round
      case rel => exact ⟨k + 1, by omega, rfl⟩
      case measure => simp [intOf]; omega
end Go.Proofs.YteflnnlihblpgaaDoor
