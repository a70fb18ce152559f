/-
  Plain facts for OrderAdds: the places and the last numbers of a ledger to which an entry is added; a ledger of a call's own beside maps.
-/
import Derived.Test.YteflnnlihblpgaaDoorMgOrderAddsProof15
import Derived.Maps.RangeWalk
import Derived.Maps.Ext
import Derived.DeepKeys4
namespace Go.Proofs.YteflnnlihblpgaaDoor
set_option maxRecDepth 100000
open Go.RowKit
set_option linter.unusedVariables false
/-- What Add makes of a ledger: the ledger, the place, the error's number. -/
def AddR (es : List En) (e : En) (us : List En) (p code : Int) : Prop :=
  (∃ q : Nat, placeL es e.cl e.nu = q + 1 ∧ us = es ∧ p = ((q + 1 : Nat) : Int) ∧ code = 0) ∨
  (placeL es e.cl e.nu = 0 ∧ 64 ≤ es.length ∧ us = [] ∧ p = 0 ∧ code = 7) ∨
  (placeL es e.cl e.nu = 0 ∧ es.length < 64 ∧ us = es ++ [e] ∧ p = ((es.length + 1 : Nat) : Int) ∧ code = 0)
theorem AddR.same {es us vs : List En} {e : En} {p q c d : Int} (h : AddR es e us p c) (k : AddR es e vs q d) : us = vs ∧ p = q ∧ c = d := by
  rcases h with ⟨a, h1, h2, h3, h4⟩ | ⟨h1, h0, h2, h3, h4⟩ | ⟨h1, h0, h2, h3, h4⟩ <;> rcases k with ⟨b, k1, k2, k3, k4⟩ | ⟨k1, k0, k2, k3, k4⟩ | ⟨k1, k0, k2, k3, k4⟩ <;> subst h2 <;> subst k2 <;> subst h3 <;> subst k3 <;> subst h4 <;> subst k4 <;> first
    | exact ⟨rfl, rfl, rfl⟩
    | (exact ⟨rfl, by omega, rfl⟩)
    | omega
theorem radd_any (A : Option Addr) (n c : Nat) (ss : List EnS) (s : EnS) (w : World) (hs : Led w A n ss) (he : s.Lies w) (hn : n ≤ 1470000000000) (hc : n ≤ c) : Calls Tryd.prog 15 #[.slice A n c, .agg #[.int .i64 s.e.cl, .int .i64 s.e.nu, .int .i64 s.e.kd, .int .i64 s.e.id, .int .i64 s.e.sk, .int .i64 s.e.sq, .int .i64 s.e.st, .int .i64 s.e.pol, .slice s.A s.n s.c, .int .i64 s.e.at_]] w fun x w' => ∃ B m d uu p code, x = .returned (.tuple #[.slice B m d, .int .i64 p, .int .i64 code]) ∧ AddR (ents ss) s.e (ents uu) p code ∧ Led w' B m uu ∧ Ext w w' := by
  have hl : (ents ss).length = n := by rw [ents_len]; exact hs.len
  cases hp : placeL (ents ss) s.e.cl s.e.nu with
  | succ p => exact (radd_there A n c ss s w hs he hn p hp).mono fun x w' ⟨h1, h2⟩ => ⟨A, n, c, ss, _, _, h1, .inl ⟨p, hp, rfl, rfl, rfl⟩, hs.ext h2, h2⟩
  | zero =>
    rcases Nat.lt_or_ge n 64 with h64 | h64
    · exact (radd_new A n c ss s w hs he hn hp h64).mono fun x w' ⟨B, d, uu, h1, h2, h3, h4⟩ => ⟨B, n + 1, d, uu, _, _, h1, .inr (.inr ⟨hp, by omega, h2, by rw [hl], rfl⟩), h3, h4⟩
    · exact (radd_full A n c ss s w hs he hn hp h64).mono fun x w' ⟨h1, h2⟩ => ⟨none, 0, 0, [], _, _, h1, .inr (.inl ⟨hp, by omega, rfl, rfl, rfl⟩), Led.nil_, h2⟩
theorem add_any (A : Option Addr) (n c : Nat) (ss : List EnS) (s : EnS) (w : World) (hs : Led w A n ss) (he : s.Lies w) (hn : n ≤ 1470000000000) {ps : Addr} (hG : Sen w 0 ps) {pf : Addr} (hF : Sen w 4 pf) : Calls Tryd.prog 14 #[.slice A n c, .agg #[.int .i64 s.e.cl, .int .i64 s.e.nu, .int .i64 s.e.kd, .int .i64 s.e.id, .int .i64 s.e.sk, .int .i64 s.e.sq, .int .i64 s.e.st, .int .i64 s.e.pol, .slice s.A s.n s.c, .int .i64 s.e.at_]] w fun x w' => ∃ B m d uu p code v, x = .returned (.tuple #[.slice B m d, .int .i64 p, v]) ∧ AddR (ents ss) s.e (ents uu) p code ∧ OLed w' w.heap.size B m d uu ∧ Ext w w' ∧ Hid (code = 0 ∧ v = .nilIface ∨ code = 7 ∧ v = .iface 149 (.pointer (some pf))) := by
  have hl : (ents ss).length = n := by rw [ents_len]; exact hs.len
  cases hp : placeL (ents ss) s.e.cl s.e.nu with
  | succ p => exact (add_there A n c ss s w hs he hn p hp).mono fun x w' ⟨B, d, uu, h1, h2, h3, h4⟩ => ⟨B, n, d, uu, _, 0, _, h1, .inl ⟨p, hp, h2, rfl, rfl⟩, h3, h4, Lib.hid (.inl ⟨rfl, rfl⟩)⟩
  | zero =>
    rcases Nat.lt_or_ge n 64 with h64 | h64
    · exact (add_new A n c ss s w hs he hn hp h64 hG).mono fun x w' ⟨B, d, uu, h1, h2, h3, h4⟩ => ⟨B, n + 1, d, uu, _, 0, _, h1, .inr (.inr ⟨hp, by omega, h2, by rw [hl], rfl⟩), h3, h4, Lib.hid (.inl ⟨rfl, rfl⟩)⟩
    · exact (add_full A n c ss s w hs he hn hp h64 hG hF).mono fun x w' ⟨h1, h2⟩ => ⟨none, 0, 0, [], _, 7, _, h1, .inr (.inl ⟨hp, by omega, rfl, rfl, rfl⟩), OLed.nil_, h2, Lib.hid (.inr ⟨rfl, rfl⟩)⟩
end Go.Proofs.YteflnnlihblpgaaDoor
namespace Go.Proofs.YteflnnlihblpgaaDoor
set_option maxRecDepth 100000
open Go.RowKit
set_option linter.unusedVariables false
theorem stepL_other {g : Int → Option Int} {e : En} {y : Int} (h : y ≠ e.cl) : stepL g e y = g y := by
  unfold stepL
  rw [if_neg (fun q => h q.1)]
/-- What stands under an entry's own client behind it is no less than its number. -/
theorem stepL_self (g : Int → Option Int) (e : En) : ∃ n, stepL g e e.cl = some n ∧ e.nu ≤ n := by
  unfold stepL
  by_cases h : g e.cl = none ∨ ∃ n, g e.cl = some n ∧ n < e.nu
  · rw [if_pos ⟨rfl, h⟩]
    exact ⟨_, rfl, Int.le_refl _⟩
  · rw [if_neg (fun q => h q.2)]
    cases hg : g e.cl with
    | none => exact absurd (.inl hg) h
    | some n => exact ⟨n, rfl, by
        rcases Int.lt_or_le n e.nu with h2 | h2
        · exact absurd (.inr ⟨n, hg, h2⟩) h
        · exact h2⟩
theorem stepL_le {g : Int → Option Int} {e : En} {y n : Int} (h : g y = some n) : ∃ m, stepL g e y = some m ∧ n ≤ m := by
  by_cases hy : y = e.cl
  · subst hy
    unfold stepL
    by_cases h2 : n < e.nu
    · rw [if_pos ⟨rfl, .inr ⟨n, h, h2⟩⟩]
      exact ⟨_, rfl, by omega⟩
    · rw [if_neg (by rintro ⟨_, h3 | ⟨m, h3, h4⟩⟩ <;> rw [h] at h3 <;> simp at h3; omega)]
      exact ⟨n, h, Int.le_refl _⟩
  · rw [stepL_other hy]
    exact ⟨n, h, Int.le_refl _⟩
theorem foldL_le : ∀ (es : List En) {g : Int → Option Int} {y n : Int}, g y = some n → ∃ m, es.foldl stepL g y = some m ∧ n ≤ m
  | [], g, y, n, h => ⟨n, h, Int.le_refl _⟩
  | e :: es, g, y, n, h => by
    obtain ⟨m, h1, h2⟩ := stepL_le (e := e) h
    obtain ⟨k, h3, h4⟩ := foldL_le es h1
    exact ⟨k, h3, by omega⟩
theorem foldL_mem : ∀ (es : List En) {g : Int → Option Int} {e : En}, e ∈ es → ∃ m, es.foldl stepL g e.cl = some m ∧ e.nu ≤ m
  | d :: es, g, e, h => by
    rcases List.mem_cons.1 h with rfl | h
    · obtain ⟨m, h1, h2⟩ := stepL_self g e
      obtain ⟨k, h3, h4⟩ := foldL_le es h1
      exact ⟨k, h3, by omega⟩
    · exact foldL_mem es h
theorem lastF_mem {es : List En} {e : En} (h : e ∈ es) : ∃ m, lastF es e.cl = some m ∧ e.nu ≤ m := foldL_mem es h
/-- A last number is an entry's. -/
theorem foldL_from : ∀ (es : List En) {g : Int → Option Int} {y n : Int}, es.foldl stepL g y = some n → g y = some n ∨ ∃ e ∈ es, e.cl = y ∧ e.nu = n
  | [], g, y, n, h => .inl h
  | e :: es, g, y, n, h => by
    rcases foldL_from es h with h | ⟨d, hd, h1⟩
    · unfold stepL at h
      split at h
      · rename_i hc
        injection h with h
        exact .inr ⟨e, by simp, hc.1.symm, h⟩
      · exact .inl h
    · exact .inr ⟨d, by simp [hd], h1⟩
theorem lastF_from {es : List En} {y n : Int} (h : lastF es y = some n) : ∃ e ∈ es, e.cl = y ∧ e.nu = n := by
  rcases foldL_from es h with h | h
  · cases h
  · exact h
/-- A last number is found. -/
theorem lastF_place {es : List En} {y n : Int} (h : lastF es y = some n) : placeL es y n ≠ 0 := fun h0 => by
  obtain ⟨e, he, h1, h2⟩ := lastF_from h
  exact placeL_zero h0 e he ⟨h1, h2⟩
/-- What Add makes of a ledger begins with it. -/
theorem AddR.begins {es us : List En} {e : En} {p : Int} (h : AddR es e us p 0) : begB es us = true := by
  rcases h with ⟨q, _, rfl, _⟩ | ⟨_, _, _, _, h⟩ | ⟨_, _, rfl, _⟩
  · simp [begB]
  · cases h
  · simp [begB]
theorem place_any (A : Option Addr) (n c : Nat) (ss : List EnS) (w : World) (cl nu : Int) (hs : Led w A n ss) (hn : n ≤ 2000000000000) {pg : Addr} (hS : Sen w 0 pg) : Calls Tryd.prog 18 #[.slice A n c, .int .i64 cl, .int .i64 nu] w fun x w' => ∃ v, x = .returned (.tuple #[.int .i64 (placeL (ents ss) cl nu : Int), v]) ∧ Ext w w' ∧ Hid (placeL (ents ss) cl nu = 0 ∧ v = .iface 149 (.pointer (some pg)) ∨ placeL (ents ss) cl nu ≠ 0 ∧ v = .nilIface) := by
  cases hp : placeL (ents ss) cl nu with
  | zero => exact (place_no A n c ss w cl nu hs hn hp hS).mono fun x w' ⟨h1, h2⟩ => ⟨_, h1, h2, Lib.hid (.inl ⟨rfl, rfl⟩)⟩
  | succ p => exact (place_ok A n c ss w cl nu hs hn p hp).mono fun x w' ⟨h1, h2⟩ => ⟨_, h1, h2, Lib.hid (.inr ⟨by omega, rfl⟩)⟩
end Go.Proofs.YteflnnlihblpgaaDoor
namespace Go.Proofs.YteflnnlihblpgaaDoor
set_option maxRecDepth 100000
open Go.RowKit Go.Maps
set_option linter.unusedVariables false
/-- Block r walks the map in block b, that has f x under x; cnt entries are left. -/
def MapR (P : Program) (kt : TypeId) (w : World) (b r n : Nat) (f : Int → Option Value) (cnt : Nat) : Prop :=
  ∃ (D : DataW Value) (left : Lit → Bool), w.ranges P kt tok b r n D left cnt ∧ (∀ x : Int, has D (.int .i64 x) = (f x).isSome ∧ ∀ v, f x = some v → ∀ z, D.atKey (.int .i64 x) z = .held v) ∧ ∀ kl, left kl = true → has D kl = true
section
variable {P : Program} {kt et t : TypeId} {w : World} {b r n cnt : Nat} {f : Int → Option Value}
theorem MapR.ext {w' : World} (h : MapR P kt w b r n f cnt) (hx : Ext w w') : MapR P kt w' b r n f cnt := by
  obtain ⟨D, left, h1, h2⟩ := h
  exact ⟨D, left, h1.kept (row := none) ⟨hx.os, hx.tape, hx.output, hx.size, fun i hi _ => hx.block i hi⟩ (by simp) (by simp), h2⟩
theorem MapR.left_eq (h : MapR P kt w b r n f cnt) : w.rangeLeft b r = cnt := by
  obtain ⟨D, left, h1, _⟩ := h
  exact h1.left_eq
theorem MapI.range (h : MapI P kt w b n f) (ht : P.underlying t = some (.map kt et)) (hk : P.underlying kt = some (.int .i64)) :
    ∃ w' cnt, (Instr.range t (.map (some b))).run P w = .ok (.pointer (some ⟨w.heap.size, 0, none⟩)) w' ∧ MapR P kt w' b w.heap.size n f cnt ∧ Ext w w' := by
  obtain ⟨D, h1, _, h2⟩ := h
  obtain ⟨w', hrun, r1, r2, _⟩ := h1.range (int_keyed hk) ht
  exact ⟨w', _, hrun, ⟨D, _, r1, h2, fun kl h => h⟩, ⟨r2.os, r2.tape, r2.output, r2.size, fun k hk => r2.block k hk (by simp)⟩⟩
theorem MapR.next (h : MapR P kt w b r n f cnt) (hk : P.underlying kt = some (.int .i64)) (ty : TypeId) :
    ((Instr.next (.pointer (some ⟨r, 0, none⟩)) false ty).run P w = .ok (.tuple #[.bool false]) w) ∨
    ∃ (x : Int) (v : Value) (w' : World) (cnt' : Nat), f x = some v ∧ (Instr.next (.pointer (some ⟨r, 0, none⟩)) false ty).run P w = .ok (.tuple #[.bool true, .int .i64 x, v]) w' ∧ MapR P kt w' b r n f cnt' ∧ cnt' < cnt ∧ Fr w w' (· = r) ∧
      (Instr.entry (.pointer (some ⟨r, 0, none⟩))).run P w' = .ok (.tuple #[.int .i64 x, v]) w' ∧ -9223372036854775808 ≤ x ∧ x ≤ 9223372036854775807 := by
  obtain ⟨D, left, h1, h2, h3⟩ := h
  rcases h1.next (int_keyed hk) ty with ⟨_, _, hrun⟩ | ⟨key, v, kl, y, w', cnt', hkey, hlk, hv, hat, hrun, hrg, hlt, hgr, hsz, hen⟩
  · exact .inl hrun
  · refine .inr ?_
    obtain ⟨x, rfl, rfl, hwf⟩ := Maps.keyOf_int_inv hk hkey
    have hb : -9223372036854775808 ≤ x ∧ x ≤ 9223372036854775807 := by simp [Lit.wf, IntKind.signed, IntKind.bits, IntKind.min, IntKind.max] at hwf; omega
    obtain ⟨g1, g2⟩ := h2 x
    rw [h3 _ hlk] at g1
    cases hf : f x with
    | none => rw [hf] at g1; cases g1
    | some u =>
      have e1 := g2 u hf (.held v)
      rw [hat] at e1
      have e2 : y = (.held v, []) := by
        have h := hv
        simp only [tok, Option.some.injEq] at h
        exact h.symm
      rw [e2] at e1
      injection e1 with e1
      subst e1
      exact ⟨x, v, w', cnt', hf, hrun, ⟨D, _, hrg, h2, fun kl h => h3 kl (by simp at h; exact h.1)⟩, hlt, ⟨hgr.os, hgr.tape, hgr.output, hgr.size, fun k hk' hp => hgr.block k hk' (fun e => hp (by first | exact Option.some.inj e | exact (Option.some.inj e).symm))⟩, hen, by omega, by omega⟩
end
end Go.Proofs.YteflnnlihblpgaaDoor
namespace Go.Proofs.YteflnnlihblpgaaDoor
set_option maxRecDepth 100000
open Go.RowKit Go.Maps
set_option linter.unusedVariables false
/-- Two maps of ints with one function have one size. -/
theorem MapI.len2 {P : Program} {kt et t : TypeId} {w : World} {b c n m : Nat} {f : Int → Option Value} (h1 : MapI P kt w b n f) (h2 : MapI P kt w c m f) (ht : P.underlying t = some (.map kt et)) (hk : P.underlying kt = some (.int .i64)) :
    ∃ k : Nat, (∀ ty, (Builtin.len_ #[t] ty #[.map (some b)]).run P w = .ok (.int .i64 k) w) ∧ ∀ ty, (Builtin.len_ #[t] ty #[.map (some c)]).run P w = .ok (.int .i64 k) w := by
  obtain ⟨D, d1, d2, d3⟩ := h1
  obtain ⟨D', e1, e2, e3⟩ := h2
  have aux : ∀ {b n : Nat} {D : DataW Value}, w.ownsMap P kt tok b n D → ∀ k, has D k = true → ∃ x : Int, k = .int .i64 x := by
    intro b n D h k hk'
    obtain ⟨es, clock, _, F, _, rfl⟩ := h
    obtain ⟨p, hp, hpk⟩ := List.any_eq_true.1 hk'
    obtain ⟨x, hx, rfl⟩ := List.mem_map.1 (mem_sorted.1 hp)
    obtain ⟨y, hy⟩ := F.reads x hx
    have e := WideAt.sameKey_eq hpk
    rw [WideElems.rg_of hy] at e
    obtain ⟨z, _, hz, _⟩ := keyOf_int_inv hk (WideElems.rd_key hy)
    exact ⟨z, e.symm.trans hz⟩
  have he : D = D' := by
    refine Maps.ext (d1.canon (int_keyed hk)) (e1.canon (int_keyed hk)) (fun k => ?_) (fun k z hh => ?_)
    · cases g1 : has D k with
      | true =>
        obtain ⟨x, rfl⟩ := aux d1 k g1
        rw [(e3 x).1, ← (d3 x).1, g1]
      | false =>
        cases g2 : has D' k with
        | false => rfl
        | true =>
          obtain ⟨x, rfl⟩ := aux e1 k g2
          rw [(e3 x).1, ← (d3 x).1, g1] at g2
          cases g2
    · obtain ⟨x, rfl⟩ := aux d1 k hh
      rw [(d3 x).1] at hh
      cases hf : f x with
      | none => rw [hf] at hh; cases hh
      | some v => rw [(d3 x).2 v hf, (e3 x).2 v hf]
  subst he
  exact ⟨size D, fun ty => d1.len ht ty, fun ty => e1.len ht ty⟩
/-- A type of pairs of ints as keys. -/
structure PairKey (P : Program) (k e : TypeId) : Prop where
  hu : P.underlying k = some (.array 2 e)
  he : P.underlying e = some (.int .i64)
  ck : P.cellsOf k = 2
  ce : P.cellsOf e = 1
  kt : P.keyType k = true
  sz : ∃ m, P.types.size + 1 = m + 2
  K : Keyed P k
/-- The key of a pair. -/
def kb (x y : Int) : Lit := .string (keyBytes [.int .i64 x, .int .i64 y])
/-- A pair as a value. -/
def pv (x y : Int) : Value := .agg #[.int .i64 x, .int .i64 y]
section
variable {P : Program} {kt ke et t : TypeId} {w : World} {b r n cnt : Nat} {f : Int → Int → Option Value}
theorem one_key {e : TypeId} (he : P.underlying e = some (.int .i64)) {m : Nat} {c : Value} {ls : List Lit} (h : P.keyLits (m + 1) e [c] = some ls) : ∃ x : Int, c = .int .i64 x ∧ (Lit.int .i64 x).wf = true ∧ ls = [.int .i64 x] := by
  cases c with
  | int q x =>
    simp only [Program.keyLits, he] at h
    split at h
    · rename_i hq
      obtain ⟨rfl, hw⟩ := hq
      injection h with h
      exact ⟨x, rfl, hw, h.symm⟩
    · cases h
  | _ => simp [Program.keyLits, he] at h
theorem wf_64 {x : Int} (h : (Lit.int .i64 x).wf = true) : -9223372036854775808 ≤ x ∧ x ≤ 9223372036854775807 := by
  simp [Lit.wf, IntKind.signed, IntKind.bits, IntKind.min, IntKind.max] at h
  omega
theorem PairKey.mk_ (A : PairKey P kt ke) {x y : Int} (hx : -9223372036854775808 ≤ x ∧ x ≤ 9223372036854775807) (hy : -9223372036854775808 ≤ y ∧ y ≤ 9223372036854775807) : keyOf P kt (pv x y) = some (kb x y) := by
  obtain ⟨m, hm⟩ := A.sz
  have h1 := wf64 hx
  have h2 := wf64 hy
  have hm' : P.types.size = m + 1 := by omega
  simp [keyOf, pv, kb, A.hu, A.kt, hm', Program.keyLits, A.ck, A.ce, A.he, Value.formed, Value.cells, List.range_succ, h1, h2]
theorem PairKey.inv (A : PairKey P kt ke) {v : Value} {l : Lit} (h : keyOf P kt v = some l) : ∃ x y : Int, v = pv x y ∧ l = kb x y ∧ (-9223372036854775808 ≤ x ∧ x ≤ 9223372036854775807) ∧ -9223372036854775808 ≤ y ∧ y ≤ 9223372036854775807 := by
  obtain ⟨m, hm⟩ := A.sz
  cases v with
  | agg cs =>
    simp only [keyOf, A.hu, A.kt, hm, Bool.true_and] at h
    split at h
    · rename_i hf
      obtain ⟨ls, hls, rfl⟩ := Option.map_eq_some_iff.1 h
      simp only [Value.formed, A.hu, A.ck, beq_iff_eq] at hf
      obtain ⟨l⟩ := cs
      simp only [List.size_toArray] at hf
      match l, hf with
      | [c, d], _ =>
        rw [show m + 2 = (m + 1) + 1 from rfl] at hls
        simp only [Value.cells] at hls
        unfold Program.keyLits at hls
        simp only [A.hu, A.ck, A.ce] at hls
        simp [List.range_succ] at hls
        cases g1 : P.keyLits (m + 1) ke [c] with
        | none => simp [g1] at hls
        | some l1 =>
          cases g2 : P.keyLits (m + 1) ke [d] with
          | none => simp [g1, g2] at hls
          | some l2 =>
            obtain ⟨x, rfl, wx, rfl⟩ := one_key A.he g1
            obtain ⟨y, rfl, wy, rfl⟩ := one_key A.he g2
            simp [g1, g2] at hls
            subst hls
            exact ⟨x, y, rfl, rfl, wf_64 wx, wf_64 wy⟩
    · cases h
  | _ => simp [keyOf, A.hu, Value.formed] at h
/-- Block b is a map of at most n entries: under the pair x, y it has f x y. -/
def MapP (P : Program) (kt : TypeId) (w : World) (b n : Nat) (f : Int → Int → Option Value) : Prop :=
  ∃ D : DataW Value, w.ownsMap P kt tok b n D ∧ IsMap D ∧ ∀ x y : Int, (-9223372036854775808 ≤ x ∧ x ≤ 9223372036854775807) → (-9223372036854775808 ≤ y ∧ y ≤ 9223372036854775807) → has D (kb x y) = (f x y).isSome ∧ ∀ v, f x y = some v → ∀ z, D.atKey (kb x y) z = .held v
/-- Block r walks such a map. -/
def MapPR (P : Program) (kt : TypeId) (w : World) (b r n : Nat) (f : Int → Int → Option Value) (cnt : Nat) : Prop :=
  ∃ (D : DataW Value) (left : Lit → Bool), w.ranges P kt tok b r n D left cnt ∧ (∀ x y : Int, (-9223372036854775808 ≤ x ∧ x ≤ 9223372036854775807) → (-9223372036854775808 ≤ y ∧ y ≤ 9223372036854775807) → has D (kb x y) = (f x y).isSome ∧ ∀ v, f x y = some v → ∀ z, D.atKey (kb x y) z = .held v) ∧ ∀ kl, left kl = true → has D kl = true
theorem MapP.made (P : Program) (kt : TypeId) (w : World) : MapP P kt (w.alloc (.map #[] 0)) w.heap.size 0 (fun _ _ => none) :=
  ⟨.map [], World.ownsMap_made w P kt tok, isMap_empty, fun x y _ _ => ⟨rfl, fun v h => by cases h⟩⟩
theorem MapP.lt (h : MapP P kt w b n f) : b < w.heap.size := by obtain ⟨D, h1, _⟩ := h; exact h1.lt
theorem MapP.fr {w' : World} {Q : Nat → Prop} (h : MapP P kt w b n f) (hf : Fr w w' Q) (hb : ¬ Q b) : MapP P kt w' b n f := by
  have hlt := h.lt
  obtain ⟨D, ⟨es, cl, hh, rest⟩, h2⟩ := h
  exact ⟨D, ⟨es, cl, (hf.block b hlt hb).trans hh, rest⟩, h2⟩
theorem MapP.ext {w' : World} (h : MapP P kt w b n f) (hx : Ext w w') : MapP P kt w' b n f := h.fr (Fr.of_ext hx (fun _ => False)) (fun h => h)
theorem MapP.mono {n' : Nat} (h : MapP P kt w b n f) (hn : n ≤ n') : MapP P kt w b n' f := by obtain ⟨D, h1, h2⟩ := h; exact ⟨D, h1.mono hn, h2⟩
theorem MapI.mono {kt : TypeId} {g : Int → Option Value} {n' : Nat} (h : MapI P kt w b n g) (hn : n ≤ n') : MapI P kt w b n' g := by obtain ⟨D, h1, h2⟩ := h; exact ⟨D, h1.mono hn, h2⟩
theorem MapP.at_ok (h : MapP P kt w b n f) (A : PairKey P kt ke) (ht : P.underlying t = some (.map kt et)) {z : Value} (hz : (zeroValue et).run P w = .ok z w) {x y : Int} (hx : -9223372036854775808 ≤ x ∧ x ≤ 9223372036854775807) (hy : -9223372036854775808 ≤ y ∧ y ≤ 9223372036854775807) :
    (Instr.lookup t (.map (some b)) (.agg #[.int .i64 x, .int .i64 y]) true).run P w = .ok (.tuple #[(f x y).getD z, .bool (f x y).isSome]) w := by
  obtain ⟨D, h1, _, h2⟩ := h
  obtain ⟨v, ps, hrun, hv⟩ := h1.look_ok A.K ht hz (zd := .held z) rfl (A.mk_ hx hy)
  rw [show (Value.agg #[.int .i64 x, .int .i64 y]) = pv x y from rfl, hrun]
  obtain ⟨g1, g2⟩ := h2 x y hx hy
  rw [g1]
  simp only [tok, Option.some.injEq, Prod.mk.injEq] at hv
  obtain ⟨hv, _⟩ := hv
  have e : v = (f x y).getD z := by
    cases hf : f x y with
    | some u =>
      rw [g2 u hf] at hv
      injection hv with hv
    | none =>
      rw [hf] at g1
      rw [atKey_of_not_has g1] at hv
      injection hv with hv
  rw [e]
theorem kb_inj (A : PairKey P kt ke) {x y x' y' : Int} (hx : -9223372036854775808 ≤ x ∧ x ≤ 9223372036854775807) (hy : -9223372036854775808 ≤ y ∧ y ≤ 9223372036854775807) (hx' : -9223372036854775808 ≤ x' ∧ x' ≤ 9223372036854775807) (hy' : -9223372036854775808 ≤ y' ∧ y' ≤ 9223372036854775807) (h : kb x y = kb x' y') : x = x' ∧ y = y' := by
  have h1 := A.mk_ hx hy
  have h2 := A.mk_ hx' hy'
  rw [← h] at h2
  have e := A.K.inj h1 h2
  simp only [pv, Value.agg.injEq, Array.mk.injEq, List.cons.injEq, Value.int.injEq, true_and, and_true] at e
  exact e
theorem kb_key (x y : Int) : WideAt.IsKeyLit (kb x y) := by
  first
    | exact trivial
    | (unfold kb WideAt.IsKeyLit; exact trivial)
theorem MapP.store (h : MapP P kt w b n f) (A : PairKey P kt ke) (ht : P.underlying t = some (.map kt et)) (hn : n < 4611686018427387904) {x y : Int} (hx : -9223372036854775808 ≤ x ∧ x ≤ 9223372036854775807) (hy : -9223372036854775808 ≤ y ∧ y ≤ 9223372036854775807) (v : Value) :
    ∃ w', (Instr.mapUpdate t (.map (some b)) (.agg #[.int .i64 x, .int .i64 y]) v).run P w = .ok () w' ∧ MapP P kt w' b (n + 1) (fun p q => if p = x ∧ q = y then some v else f p q) ∧ Fr w w' (· = b) := by
  obtain ⟨D, h1, hi, h2⟩ := h
  obtain ⟨w', hrun, h3, h4⟩ := h1.store A.K ht (by unfold maxLen; omega) (A.mk_ hx hy) (val := v) (d := .held v) (ps := []) rfl
  have hg := h4.grown
  refine ⟨w', hrun, ⟨_, h3, hi.put _ _, fun p q hp hq => ?_⟩, ⟨hg.os, hg.tape, hg.output, hg.size, fun k hk hb => hg.block k hk (fun e => hb (by injection e))⟩⟩
  dsimp only
  by_cases e : p = x ∧ q = y
  · obtain ⟨rfl, rfl⟩ := e
    rw [if_pos ⟨rfl, rfl⟩]
    exact ⟨by rw [has_put_same hi (kb_key _ _)]; rfl, fun u hu z => by injection hu with hu; subst hu; exact atKey_put_same hi (kb_key _ _) _ _⟩
  · rw [if_neg e]
    have ne : kb p q ≠ kb x y := fun e2 => e (kb_inj A hp hq hx hy e2)
    obtain ⟨g1, g2⟩ := h2 p q hp hq
    exact ⟨by rw [has_put_other ne]; exact g1, fun u hu z => by rw [atKey_put_other ne]; exact g2 u hu z⟩
theorem MapPR.ext {w' : World} (h : MapPR P kt w b r n f cnt) (hx : Ext w w') : MapPR P kt w' b r n f cnt := by
  obtain ⟨D, left, h1, h2⟩ := h
  exact ⟨D, left, h1.kept (row := none) ⟨hx.os, hx.tape, hx.output, hx.size, fun i hi _ => hx.block i hi⟩ (by simp) (by simp), h2⟩
theorem MapPR.left_eq (h : MapPR P kt w b r n f cnt) : w.rangeLeft b r = cnt := by
  obtain ⟨D, left, h1, _⟩ := h
  exact h1.left_eq
theorem MapP.range (h : MapP P kt w b n f) (A : PairKey P kt ke) (ht : P.underlying t = some (.map kt et)) :
    ∃ w' cnt, (Instr.range t (.map (some b))).run P w = .ok (.pointer (some ⟨w.heap.size, 0, none⟩)) w' ∧ MapPR P kt w' b w.heap.size n f cnt ∧ Ext w w' := by
  obtain ⟨D, h1, _, h2⟩ := h
  obtain ⟨w', hrun, r1, r2, _⟩ := h1.range A.K ht
  exact ⟨w', _, hrun, ⟨D, _, r1, h2, fun kl h => h⟩, ⟨r2.os, r2.tape, r2.output, r2.size, fun k hk => r2.block k hk (by simp)⟩⟩
theorem MapPR.next (h : MapPR P kt w b r n f cnt) (A : PairKey P kt ke) (ty : TypeId) :
    ((Instr.next (.pointer (some ⟨r, 0, none⟩)) false ty).run P w = .ok (.tuple #[.bool false]) w) ∨
    ∃ (x y : Int) (v : Value) (w' : World) (cnt' : Nat), f x y = some v ∧ (Instr.next (.pointer (some ⟨r, 0, none⟩)) false ty).run P w = .ok (.tuple #[.bool true, .agg #[.int .i64 x, .int .i64 y], v]) w' ∧ MapPR P kt w' b r n f cnt' ∧ cnt' < cnt ∧ Fr w w' (· = r) ∧
      (Instr.entry (.pointer (some ⟨r, 0, none⟩))).run P w' = .ok (.tuple #[.agg #[.int .i64 x, .int .i64 y], v]) w' ∧ (-9223372036854775808 ≤ x ∧ x ≤ 9223372036854775807) ∧ -9223372036854775808 ≤ y ∧ y ≤ 9223372036854775807 := by
  obtain ⟨D, left, h1, h2, h3⟩ := h
  rcases h1.next A.K ty with ⟨_, _, hrun⟩ | ⟨key, v, kl, y, w', cnt', hkey, hlk, hv, hat, hrun, hrg, hlt, hgr, hsz, hen⟩
  · exact .inl hrun
  · refine .inr ?_
    obtain ⟨p, q, rfl, rfl, hp, hq⟩ := A.inv hkey
    obtain ⟨g1, g2⟩ := h2 p q hp hq
    rw [h3 _ hlk] at g1
    cases hf : f p q with
    | none => rw [hf] at g1; cases g1
    | some u =>
      have e1 := g2 u hf (.held v)
      rw [hat] at e1
      have e2 : y = (.held v, []) := by
        have h := hv
        simp only [tok, Option.some.injEq] at h
        exact h.symm
      rw [e2] at e1
      injection e1 with e1
      subst e1
      exact ⟨p, q, v, w', cnt', hf, hrun, ⟨D, _, hrg, h2, fun kl h => h3 kl (by simp at h; exact h.1)⟩, hlt, ⟨hgr.os, hgr.tape, hgr.output, hgr.size, fun k hk' hp => hgr.block k hk' (fun e => hp (by first | exact Option.some.inj e | exact (Option.some.inj e).symm))⟩, hen, hp, hq⟩
end
theorem pair_key : PairKey Tryd.prog 50 3 :=
  ⟨Tryd.underlying50, Tryd.underlying3, by kernel_rfl, by kernel_rfl, by kernel_rfl, ⟨Tryd.prog.types.size - 1, by kernel_rfl⟩, Keyed.of_law (deep_law_laid (by kernel_rfl) (m := 2) (by omega) (of_decide_eq_true (by kernel_rfl)) (by kernel_rfl) (by rw [Tryd.underlying50]))⟩
end Go.Proofs.YteflnnlihblpgaaDoor
namespace Go.Proofs.YteflnnlihblpgaaDoor
set_option maxRecDepth 100000
open Go.RowKit Go.Maps
set_option linter.unusedVariables false
/-- The places as a map's function. -/
def placeV (es : List En) (x y : Int) : Option Value := if placeL es x y = 0 then none else some (.int .i64 (placeL es x y : Int))
theorem placeV_nil : placeV [] = fun _ _ => none := by funext x y; rfl
theorem placeV_some {es : List En} {x y : Int} {v : Value} (h : placeV es x y = some v) : ∃ p, placeL es x y = p + 1 ∧ v = .int .i64 ((p + 1 : Nat) : Int) := by
  unfold placeV at h
  split at h
  · cases h
  · rename_i h0
    injection h with h
    exact ⟨placeL es x y - 1, by omega, by rw [← h]; congr 1; omega⟩
theorem placeV_there {es : List En} {x y : Int} {p : Nat} (h : placeL es x y = p + 1) : placeV es x y = some (.int .i64 ((p + 1 : Nat) : Int)) := by
  unfold placeV
  rw [if_neg (by omega), h]
theorem placeV_gone {es : List En} {x y : Int} (h : placeL es x y = 0) : placeV es x y = none := by
  unfold placeV
  rw [if_pos h]
theorem placeV_put_same {es : List En} {x y : Int} {v : Value} (h : placeV es x y = some v) : (fun p q => if p = x ∧ q = y then some v else placeV es p q) = placeV es := by
  funext p q
  by_cases e : p = x ∧ q = y
  · obtain ⟨rfl, rfl⟩ := e
    rw [if_pos ⟨rfl, rfl⟩, h]
  · rw [if_neg e]
theorem placeL_snoc : ∀ (es : List En) (e : En) (x y : Int), placeL (es ++ [e]) x y = if placeL es x y = 0 then (if Names e x y then es.length + 1 else 0) else placeL es x y
  | [], e, x, y => by simp [placeL]
  | d :: es, e, x, y => by
    rw [List.cons_append, placeL, placeL, placeL_snoc es e x y]
    by_cases h1 : Names d x y
    · simp [h1]
    · rw [if_neg h1, if_neg h1]
      by_cases h2 : placeL es x y = 0
      · rw [if_pos h2, if_pos h2]
        by_cases h3 : Names e x y
        · simp [h3]
        · simp [h3]
      · rw [if_neg h2, if_neg h2]
        simp [h2]
theorem placeV_new {es : List En} {e : En} (h : placeL es e.cl e.nu = 0) : (fun p q => if p = e.cl ∧ q = e.nu then some (.int .i64 ((es.length + 1 : Nat) : Int)) else placeV es p q) = placeV (es ++ [e]) := by
  funext p q
  unfold placeV
  rw [placeL_snoc]
  by_cases hn : p = e.cl ∧ q = e.nu
  · obtain ⟨rfl, rfl⟩ := hn
    rw [if_pos ⟨rfl, rfl⟩, if_pos h, if_pos (show Names e e.cl e.nu from ⟨rfl, rfl⟩), if_neg (by omega)]
  · rw [if_neg hn, if_neg (fun h2 : Names e p q => hn ⟨h2.1.symm, h2.2.symm⟩)]
    by_cases h0 : placeL es p q = 0
    · simp [h0]
    · simp [h0]
/-- The last number of an entry that is there. -/
theorem lastF_there {es : List En} {x y : Int} {p : Nat} (h : placeL es x y = p + 1) : ∃ m, lastF es x = some m ∧ y ≤ m := by
  obtain ⟨e, he, ⟨h1, h2⟩, _⟩ := placeL_pos (l := es) (c := x) (n := y) (by omega)
  obtain ⟨m, h3, h4⟩ := lastF_mem (List.mem_of_getElem? he)
  exact ⟨m, by rw [← h1]; exact h3, by rw [← h2]; exact h4⟩
theorem valF_put {es : List En} {e : En} (h : lastF es e.cl = none ∨ ∃ m, lastF es e.cl = some m ∧ m < e.nu) : (fun y => if y = e.cl then some (.int .i64 e.nu) else valF (lastF es) y) = valF (lastF (es ++ [e])) := by
  rw [lastF_snoc]
  funext y
  unfold valF stepL
  by_cases hy : y = e.cl
  · subst hy
    rw [if_pos rfl, if_pos ⟨rfl, h⟩]
    rfl
  · rw [if_neg hy, if_neg (fun h2 => hy h2.1)]
theorem valF_keep {es : List En} {e : En} {m : Int} (h : lastF es e.cl = some m) (hm : ¬ m < e.nu) : lastF (es ++ [e]) = lastF es := by
  rw [lastF_snoc]
  funext y
  unfold stepL
  rw [if_neg]
  rintro ⟨rfl, h2 | ⟨k, h2, h3⟩⟩ <;> rw [h] at h2 <;> simp at h2
  omega
theorem Own.away_m {w : World} {b n c z g : Nat} {e : TypeId} {A : Option Addr} {xs : List Value} {es : Array MapEntry} {cl : Nat} (h : Own w b e z A n c xs) (hg : w.heap[g]? = some (.map es cl)) : ∀ a, A = some a → a.block ≠ g := by
  intro a ha
  rcases h.2 with ⟨h1, _⟩ | ⟨q, cap, cur, h1, _, hq, _⟩
  · injection h1 with h1
    rw [ha] at h1
    cases h1
  · injection h1 with h1
    rw [ha] at h1
    injection h1 with h1
    subst h1
    intro e
    have e : q = g := e
    rw [e, hg] at hq
    cases hq
/-- A map is written. -/
theorem OLed.frm {w w' : World} {base m d q : Nat} {B : Option Addr} {ss : List EnS} (h : OLed w base B m d ss) (hf : Fr w w' (· = q)) {es : Array MapEntry} {cl : Nat} (hq : w.heap[q]? = some (.map es cl)) : OLed w' base B m d ss :=
  ⟨hf.own h.own (fun a ha e => h.own.away_m hq a ha e), fun s hs => by
    have h3 : Own w' base 47 4 s.A s.n s.c (trows s.e.ts).flatten := hf.own (h.all s hs).2 (fun a ha e => ((h.all s hs).2 : Own ..).away_m hq a ha e)
    exact ⟨⟨h3.rd, (h.all s hs).1.le, (h.all s hs).1.cap⟩, h3⟩⟩
theorem MapI.blk {P : Program} {kt : TypeId} {w : World} {b n : Nat} {f : Int → Option Value} (h : MapI P kt w b n f) : ∃ es cl, w.heap[b]? = some (.map es cl) := by obtain ⟨D, ⟨es, cl, hh, _⟩, _⟩ := h; exact ⟨es, cl, hh⟩
theorem MapP.blk {P : Program} {kt : TypeId} {w : World} {b n : Nat} {f : Int → Int → Option Value} (h : MapP P kt w b n f) : ∃ es cl, w.heap[b]? = some (.map es cl) := by obtain ⟨D, ⟨es, cl, hh, _⟩, _⟩ := h; exact ⟨es, cl, hh⟩
/-- The state of OrderAdds on its way: the ledger, its places, its last numbers g. V: the world at the beginning; k, j: how many entries have come into the maps. -/
structure AddsG (V w : World) (pb lb k j : Nat) (B : Option Addr) (m d : Nat) (uu : List EnS) (g : Int → Option Value) : Prop where
  led : OLed w V.heap.size B m d uu
  le : m ≤ 64
  i64 : ∀ s ∈ uu, I64 s.e.cl ∧ I64 s.e.nu
  pl : MapP Tryd.prog 50 w pb k (placeV (ents uu))
  la : MapI Tryd.prog 3 w lb j g
  ne : pb ≠ lb
  x : Ext V w
  hi : V.heap.size ≤ pb ∧ V.heap.size ≤ lb
section
variable {V w w' : World} {pb lb k j : Nat} {B B' : Option Addr} {m d d' : Nat} {uu vv : List EnS} {g : Int → Option Value}
theorem AddsG.ext (h : AddsG V w pb lb k j B m d uu g) (hx : Ext w w') : AddsG V w' pb lb k j B m d uu g := ⟨h.led.ext hx, h.le, h.i64, h.pl.ext hx, h.la.ext hx, h.ne, h.x.trans hx, h.hi⟩
theorem AddsG.elen (h : AddsG V w pb lb k j B m d uu g) : (ents uu).length = m := by rw [ents_len]; exact h.led.led.len
theorem AddsG.keep (h : AddsG V w pb lb k j B m d uu g) {i : Nat} (hi : j ≤ i) {f : Int → Option Value} (hf : f = g) : AddsG V w pb lb k i B m d uu f := ⟨h.led, h.le, h.i64, h.pl, by rw [hf]; exact h.la.mono hi, h.ne, h.x, h.hi⟩
theorem i64_same (h : ∀ s ∈ uu, I64 s.e.cl ∧ I64 s.e.nu) (hv : ents vv = ents uu) : ∀ s ∈ vv, I64 s.e.cl ∧ I64 s.e.nu := fun s hs => by
  have h1 : s.e ∈ ents uu := by rw [← hv]; exact List.mem_map.2 ⟨s, hs, rfl⟩
  obtain ⟨t, ht, e⟩ := List.mem_map.1 h1
  rw [← e]
  exact h t ht
/-- An entry that is there: a copy takes the ledger's place, the place is stored again. -/
theorem AddsG.there (h : AddsG V w pb lb k j B m d uu g) (hv : ents vv = ents uu) (o : OLed w V.heap.size B' m d' vv) {x y : Int} {v : Value} (hp : placeV (ents uu) x y = some v)
    (M : MapP Tryd.prog 50 w' pb (k + 1) (fun p q => if p = x ∧ q = y then some v else placeV (ents uu) p q)) (f : Fr w w' (· = pb)) : AddsG V w' pb lb (k + 1) j B' m d' vv g := by
  obtain ⟨es, cl, hb⟩ := h.pl.blk
  rw [placeV_put_same hp] at M
  exact ⟨o.frm f hb, h.le, i64_same h.i64 hv, by rw [hv]; exact M, h.la.fr f (fun e => h.ne e.symm), h.ne, f.ext h.x (fun i e => by rw [e]; exact h.hi.1), h.hi⟩
/-- A new entry. -/
theorem AddsG.new (h : AddsG V w pb lb k j B m d uu g) (hm : m < 64) {e : En} (he : I64 e.cl ∧ I64 e.nu) (hv : ents vv = ents uu ++ [e]) (o : OLed w V.heap.size B' (m + 1) d' vv) (h0 : placeL (ents uu) e.cl e.nu = 0)
    (M : MapP Tryd.prog 50 w' pb (k + 1) (fun p q => if p = e.cl ∧ q = e.nu then some (.int .i64 ((m + 1 : Nat) : Int)) else placeV (ents uu) p q)) (f : Fr w w' (· = pb)) : AddsG V w' pb lb (k + 1) j B' (m + 1) d' vv g := by
  obtain ⟨es, cl, hb⟩ := h.pl.blk
  have hl := h.elen
  rw [show ((m + 1 : Nat) : Int) = (((ents uu).length + 1 : Nat) : Int) by rw [hl], placeV_new h0, ← hv] at M
  refine ⟨o.frm f hb, by omega, fun s hs => ?_, M, h.la.fr f (fun e => h.ne e.symm), h.ne, f.ext h.x (fun i e => by rw [e]; exact h.hi.1), h.hi⟩
  have h1 : s.e ∈ ents vv := List.mem_map.2 ⟨s, hs, rfl⟩
  rw [hv] at h1
  rcases List.mem_append.1 h1 with h1 | h1
  · obtain ⟨t, ht, e⟩ := List.mem_map.1 h1
    rw [← e]
    exact h.i64 t ht
  · rw [List.mem_singleton.1 h1]
    exact he
/-- A last number is stored. -/
theorem AddsG.last (h : AddsG V w pb lb k j B m d uu g) {f : Int → Option Value} {i : Nat} (M : MapI Tryd.prog 3 w' lb i f) (hf : Fr w w' (· = lb)) : AddsG V w' pb lb k i B m d uu f := by
  obtain ⟨es, cl, hb⟩ := h.la.blk
  exact ⟨h.led.frm hf hb, h.le, h.i64, h.pl.fr hf h.ne, M, h.ne, hf.ext h.x (fun i e => by rw [e]; exact h.hi.2), h.hi⟩
end
end Go.Proofs.YteflnnlihblpgaaDoor
