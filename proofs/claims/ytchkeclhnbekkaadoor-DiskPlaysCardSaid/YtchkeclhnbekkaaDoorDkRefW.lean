/-
  The document's disk: Write, walked.
-/
import Derived.Test.YtchkeclhnbekkaaDoorDkRefA
namespace Go.Proofs.YtchkeclhnbekkaaDoor
set_option maxRecDepth 100000
open Go.RowKit Go.Maps
set_option linter.unusedVariables false
theorem eltIn : Elt Tryd.prog 51 3 1 8 (.int .i64 0) := ⟨Tryd.underlying51, by kernel_rfl, rfl, by omega⟩
section
variable {P : Program} {ops : Array Oper} {Q : Exit → Act → World → Prop} {md : Region.Mode} {S : World → Prop} {T : List Nat}
/-- d_take, where some of T have come up already. -/
theorem d_take2 {i : Nat} (D : List Nat) (dst : Option Nat) {oi : Oper} {v : Value} {fuel : Nat} {listed : Array Bool} {a : Act} {w : World} (hi : ops[i]? = some oi) (hdst : oi.dst = dst) (hns : Region.noSelect ops = true) (hf : Region.free md ops listed i = true) (hr : (Region.ready md ops listed).contains i = true)
    (hw : waits_ md ops i D = true) (hu : unlisted_ listed D = true) (hTD : (T.all fun t => D.contains t || listed.getD t false) = true)
    (hQ : ∀ c a w, Q (.panic c) (a.put oi.dst v) w → Q (.panic c) a w) (hy : YieldsIf P ops S oi v a) (hS : S w)
    (h : AnyD P md ops Q S T fuel (listed.setIfInBounds i true) (a.put dst v) w) : AnyD P md ops Q S T (fuel + 1) listed a w := by
  subst hdst
  have open_ : ∀ (l : Array Bool) t, l.getD t true = false → l.getD t false = true → False := fun l t a b => by
    rcases Nat.lt_or_ge t l.size with hlt | hge
    · simp [hlt] at a b
      rw [a] at b
      cases b
    · simp [Array.getElem?_eq_none hge] at b
  exact d_first (Inv := fun l => unlisted_ l D = true ∧ ∀ t, T.contains t = true → D.contains t = true ∨ l.getD t false = true) hi hns hQ
    (fun l j hl hr' hj hne => by
      have hd := not_waiting hw hl.1 hr' hj
      refine ⟨List.all_eq_true.2 fun t ht => ?_, fun t ht => ?_⟩
      · have ht' : D.contains t = true := by simpa using ht
        have hne2 : j ≠ t := fun e => by rw [e, ht'] at hd; cases hd
        rw [getD_set_ne true hne2]
        simpa using unlisted_at hl.1 ht'
      · rcases hl.2 t ht with h1 | h1
        · exact .inl h1
        · right
          by_cases e : j = t
          · subst e
            exact absurd h1 (fun h1 => open_ l j (mem_ready.1 hj).1 h1)
          · rw [getD_set_ne false e]; exact h1)
    (fun w hG _ => hG)
    (fun l j w' hl hr' hj hne hq => hq (by
      have hd := not_waiting hw hl.1 hr' hj
      cases hc : T.contains j with
      | false => rfl
      | true =>
        rcases hl.2 j hc with h1 | h1
        · rw [hd] at h1; cases h1
        · exact absurd h1 (fun h1 => open_ l j (mem_ready.1 hj).1 h1)))
    fuel listed a w (Region.free_spec hi hf) (by simpa using hr) hy hS ⟨hu, fun t ht => by
      have h1 := List.all_eq_true.1 hTD t (by simpa using ht)
      simpa using h1⟩ h
end
theorem wpList_copy {P : Program} {ops : Array Oper} {rest : List Oper} {Q : Exit → Act → World → Prop} {w w' : World} {o : Oper} {a : Act} {t1 t2 : TypeId} (hg : o.guard = none) (s x : Operand) {u v r : Value} (ho : o.op = .call { callee := .builtin .copy, args := #[s, x], argTypes := #[t1, t2] })
    (hs : a.eval s = u) (hx : a.eval x = v) (hrun : (Builtin.copy_ #[t1, t2] o.type #[u, v]).run P w = .ok r w') (hk : wpList P ops Q rest (a.put o.dst r) w') : wpList P ops Q (o :: rest) a w :=
  wpList_plain hg fun _ hK => oper_copy s x ho hs hx hrun (hK _ _ hk)
section
variable {w w' : World} {q sb nb ac dc S : Nat} {AA DA : Option Addr} {SF NW : Int → List Nat} {l : List WrV} {lb : List (Nat × Nat)} {wr : Int} {gone : Bool} {M : Nat → Prop}
/-- A sector of Now is written. -/
theorem RDm.now (h : RDm w q sb nb AA ac DA dc S SF NW l lb wr gone) {i : Nat} (hi : i < S) {s : List Nat} (hs : IsSec s) : RDm (w.setCells nb (64 * i) (u8s s)) q sb nb AA ac DA dc S SF (keepW NW ⟨i, s⟩ 64) l lb wr gone ∧ Fr w (w.setCells nb (64 * i) (u8s s)) (· = nb) := by
  have ff := Fr.setCells (g := nb) (u8s s) (64 * i) w
  have hl : (u8s s).length = 64 := by rw [u8s_len, hs.1]
  have o1 := own_setCells h.nw (p := 64 * i) (ds := u8s s) (by omega)
  have e1 := fl_write h.ss.2.1 (x := ⟨(i : Int), s⟩) hs.1 (Nat.le_refl 64) hi rfl
  rw [hl, ← u8s_take, ← u8s_drop, ← u8s_append, ← u8s_append] at o1
  have e2 : ((⟨(i : Int), s⟩ : WrV).s).take 64 = s := List.take_of_length_le (by show s.length ≤ 64; rw [hs.1]; exact Nat.le_refl _)
  rw [e2] at e1
  rw [e1] at o1
  exact ⟨⟨(ff.block q (block_lt h.blk) (fun e => h.d3.2.2 e.symm)).trans h.blk, ff.own h.sf (fun a ha => by injection ha with ha; subst ha; exact h.d3.1), o1, ff.own h.at_ (fun a ha => (h.dA a ha).2.2), ff.own h.da (fun a ha => (h.dD a ha).2.2.1), fun k x hx => by
    obtain ⟨p, hp, hr⟩ := h.el k x hx
    exact ⟨p, hp, ff.rd hr (fun a ha => by injection ha with ha; subst ha; exact (h.dE p (List.mem_of_getElem? hp)).2.2.1)⟩, ⟨h.ss.1, keepW_sec h.ss.2.1 hs (Nat.le_refl _), h.ss.2.2⟩, h.sr, h.d3, h.dA, h.dD, h.dE⟩, ff⟩
/-- What stands ahead of the appends. -/
structure PU (U : World) (q sb nb : Nat) (AA : Option Addr) (ac : Nat) (DA : Option Addr) (dc S : Nat) (SF NW : Int → List Nat) (l : List WrV) (lb : List (Nat × Nat)) (wr : Int) (s : List Nat) (i bb : Nat) (M0 : World × (Nat → Prop)) : Prop where
  m : RDm U q sb nb AA ac DA dc S SF NW l lb wr false
  rb : Rd U 1 (some ⟨bb, 0, none⟩) 64 (u8s s)
  sec : IsSec s
  rng : i < S
  in_ : M0.2 q ∧ M0.2 sb ∧ M0.2 nb ∧ (∀ a, AA = some a → M0.2 a.block) ∧ (∀ a, DA = some a → M0.2 a.block) ∧ (∀ p ∈ lb, M0.2 p.1) ∧ ¬ M0.2 bb ∧ ∀ b, M0.2 b → b < U.heap.size
  fr : Fr M0.1 U M0.2
structure P9 (U w9 : World) (q sb nb : Nat) (AA : Option Addr) (ac : Nat) (DA : Option Addr) (dc S : Nat) (SF NW : Int → List Nat) (l : List WrV) (lb : List (Nat × Nat)) (wr : Int) (s : List Nat) (i bb : Nat) (M0 : World × (Nat → Prop)) (A3 : Option Addr) (c3 eb : Nat) : Prop where
  pu : PU U q sb nb AA ac DA dc S SF NW l lb wr s i bb M0
  o3 : Own w9 0 3 1 A3 (l.length + 1) c3 (ints (l.map (·.i)) ++ ints [(i : Int)])
  fr : Fr U w9 (fun b => AA.map (·.block) = some b)
  hA : ∀ a, A3 = some a → AA.map (·.block) = some a.block ∨ U.heap.size ≤ a.block
  oe : Own w9 0 5 1 (some ⟨eb, 0, none⟩) 0 0 []
  el : eb < w9.heap.size
  eu : U.heap.size ≤ eb
  ne : ∀ a, A3 = some a → a.block ≠ eb
/-- Behind the copy of the sector: ed is its block. -/
structure P10 (U w : World) (q sb nb : Nat) (AA : Option Addr) (ac : Nat) (DA : Option Addr) (dc S : Nat) (SF NW : Int → List Nat) (l : List WrV) (lb : List (Nat × Nat)) (wr : Int) (s : List Nat) (i bb : Nat) (M0 : World × (Nat → Prop)) (A3 : Option Addr) (c3 ed : Nat) : Prop where
  pu : PU U q sb nb AA ac DA dc S SF NW l lb wr s i bb M0
  o3 : Own w 0 3 1 A3 (l.length + 1) c3 (ints (l.map (·.i)) ++ ints [(i : Int)])
  fr : Fr U w (fun b => AA.map (·.block) = some b)
  hA : ∀ a, A3 = some a → AA.map (·.block) = some a.block ∨ U.heap.size ≤ a.block
  rd : Rd w 1 (some ⟨ed, 0, none⟩) 64 (u8s s)
  eu : U.heap.size ≤ ed
  ne : ∀ a, A3 = some a → a.block ≠ ed
theorem app_from {U v : World} {A3 : Option Addr} (hx : Ext U v) (h : A3 = AA ∨ A3 = some ⟨v.heap.size, 0, none⟩) : ∀ a, A3 = some a → AA.map (·.block) = some a.block ∨ U.heap.size ≤ a.block := fun a ha => by
  rcases h with e | e
  · left; rw [← e, ha]; rfl
  · right
    rw [e] at ha
    injection ha with ha
    subst ha
    exact hx.size
end
section
variable {U w9 : World} {q sb nb ac dc S : Nat} {AA DA : Option Addr} {SF NW : Int → List Nat} {l : List WrV} {lb : List (Nat × Nat)} {wr : Int} {s : List Nat} {i bb : Nat} {M0 : World × (Nat → Prop)} {A3 : Option Addr} {c3 eb ed : Nat}
theorem app_not (h : PU U q sb nb AA ac DA dc S SF NW l lb wr s i bb M0) (he : U.heap.size ≤ eb) (e : AA.map (·.block) = some eb) : False := by
  obtain ⟨a, ha, rfl⟩ := Option.map_eq_some_iff.1 e
  have := h.m.at_.lt_at ha
  omega
theorem app_ne (h : PU U q sb nb AA ac DA dc S SF NW l lb wr s i bb M0) (he : U.heap.size ≤ eb) {v : World} (hA3 : A3 = AA ∨ A3 = some ⟨v.heap.size, 0, none⟩) {a : Addr} (ha : A3 = some a) (hv : eb < v.heap.size) (e : a.block = eb) : False := by
  rcases hA3 with e2 | e2
  · rw [e2] at ha
    have := h.m.at_.lt_at ha
    omega
  · rw [e2] at ha
    injection ha with ha
    subst ha
    have e : v.heap.size = eb := e
    omega
theorem RDm.qs {gone : Bool} {V : World} (h : RDm U q sb nb AA ac DA dc S SF NW l lb wr gone) (hf : Fr U V (fun b => AA.map (·.block) = some b)) : V.cell? ⟨q, 2, none⟩ = some (.slice AA l.length ac) ∧ V.cell? ⟨q, 3, none⟩ = some (.slice DA l.length dc) := by
  have b1 := (hf.block q (block_lt h.blk) (fun e => by
    obtain ⟨a, ha, hab⟩ := Option.map_eq_some_iff.1 e
    exact (h.dA a ha).1 hab)).trans h.blk
  exact ⟨block_cell b1 2, block_cell b1 3⟩
theorem P9.rb (h : P9 U w9 q sb nb AA ac DA dc S SF NW l lb wr s i bb M0 A3 c3 eb) : Rd w9 1 (some ⟨bb, 0, none⟩) 64 (u8s s) := h.fr.rd h.pu.rb (fun a ha e => by
  injection ha with ha
  subst ha
  obtain ⟨a', ha', hab⟩ := Option.map_eq_some_iff.1 e
  exact h.pu.in_.2.2.2.2.2.2.1 (by have e2 : a'.block = bb := hab; rw [← e2]; exact h.pu.in_.2.2.2.1 a' ha'))
theorem P9.to10 (h : P9 U w9 q sb nb AA ac DA dc S SF NW l lb wr s i bb M0 A3 c3 eb) {w10 : World} {ec : Nat} (o5 : Own w10 0 5 1 (some ⟨ed, 0, none⟩) 64 ec (u8s s)) (g : Grows w9 w10 (some ⟨eb, 0, none⟩)) (hE : some (⟨ed, 0, none⟩ : Addr) = some ⟨eb, 0, none⟩ ∨ some (⟨ed, 0, none⟩ : Addr) = some ⟨w9.heap.size, 0, none⟩) :
    P10 U w10 q sb nb AA ac DA dc S SF NW l lb wr s i bb M0 A3 c3 ed := by
  have fg := Fr.grows g
  have hz := h.fr.size
  have he : ed = eb ∨ ed = w9.heap.size := by
    rcases hE with e | e
    · left; injection e with e; injection e
    · right; injection e with e; injection e
  refine ⟨h.pu, fg.own h.o3 (fun a ha e => h.ne a ha (by injection e with e; exact e.symm)), h.fr.trans fg (fun b hb e => ?_), h.hA, o5.rd, ?_, fun a ha e => ?_⟩
  · injection e with e
    have := h.eu
    have e : eb = b := e
    omega
  · rcases he with e | e
    · rw [e]; exact h.eu
    · rw [e]; exact hz
  · rcases he with e2 | e2
    · exact h.ne a ha (e.trans e2)
    · have := h.o3.lt_at ha; omega
theorem P10.ext {w10 w11 : World} (h : P10 U w10 q sb nb AA ac DA dc S SF NW l lb wr s i bb M0 A3 c3 ed) (hx : Ext w10 w11) : P10 U w11 q sb nb AA ac DA dc S SF NW l lb wr s i bb M0 A3 c3 ed :=
  ⟨h.pu, h.o3.ext hx, h.fr.trans (Fr.of_ext hx _) (fun _ _ h => h), h.hA, h.rd.ext hx, h.eu, h.ne⟩
theorem P10.nA (h : P10 U w9 q sb nb AA ac DA dc S SF NW l lb wr s i bb M0 A3 c3 ed) {b : Nat} (hb : ∀ a, AA = some a → a.block ≠ b) : ¬ AA.map (·.block) = some b := fun e => by
  obtain ⟨a, ha, hab⟩ := Option.map_eq_some_iff.1 e
  exact hb a ha hab
theorem P10.da (h : P10 U w9 q sb nb AA ac DA dc S SF NW l lb wr s i bb M0 A3 c3 ed) : Own w9 0 32 1 DA l.length dc (dvals lb) := h.fr.own h.pu.m.da (fun a ha => h.nA (fun a' ha' => (h.pu.m.dD a ha).2.2.2 a' ha'))
theorem P10.qblk (h : P10 U w9 q sb nb AA ac DA dc S SF NW l lb wr s i bb M0 A3 c3 ed) {w12 : World} (g : Grows w9 w12 DA) : w12.heap[q]? = some (.cells #[.slice (some ⟨sb, 0, none⟩) (64 * S) (64 * S), .slice (some ⟨nb, 0, none⟩) (64 * S) (64 * S), .slice AA l.length ac, .slice DA l.length dc, .int .i64 wr, .bool false] 53 (0, 0)) := by
  have b1 := (h.fr.block q (block_lt h.pu.m.blk) (h.nA (fun a ha => (h.pu.m.dA a ha).1))).trans h.pu.m.blk
  refine ((Fr.grows g).block q (block_lt b1) (fun e => ?_)).trans b1
  obtain ⟨a, ha, hab⟩ := Option.map_eq_some_iff.1 e
  exact (h.pu.m.dD a ha).1 hab
theorem P10.fin (h : P10 U w9 q sb nb AA ac DA dc S SF NW l lb wr s i bb M0 A3 c3 ed) {w12 : World} {D3 : Option Addr} {d3 ec : Nat} (hec : 64 ≤ ec) (o7 : Own w12 0 32 1 D3 (l.length + 1) d3 (dvals lb ++ [.slice (some ⟨ed, 0, none⟩) 64 ec])) (g : Grows w9 w12 DA) (hD : D3 = DA ∨ D3 = some ⟨w9.heap.size, 0, none⟩) :
    RN M0.1 (((w12.setCell ⟨q, 2, none⟩ (.slice A3 (l.length + 1) c3)).setCell ⟨q, 3, none⟩ (.slice D3 (l.length + 1) d3)).setCell ⟨q, 4, none⟩ (.int .i64 (wr + 1))) q M0.2 S SF NW (l ++ [⟨(i : Int), s⟩]) (wr + 1) false := by
  have hm := h.pu.m
  have fg := Fr.grows g
  have hzU := h.fr.size
  have hz12 := fg.size
  have q12 := h.qblk g
  have nD : ∀ b, (∀ a, DA = some a → a.block ≠ b) → ¬ DA.map (·.block) = some b := fun b hb e => by
    obtain ⟨a, ha, hab⟩ := Option.map_eq_some_iff.1 e
    exact hb a ha hab
  have ltU : ∀ b, M0.2 b → b < U.heap.size := h.pu.in_.2.2.2.2.2.2.2
  have g2 := Fr.store w12 ⟨q, 2, none⟩ (.slice A3 (l.length + 1) c3)
  have g3 := Fr.store (w12.setCell ⟨q, 2, none⟩ (.slice A3 (l.length + 1) c3)) ⟨q, 3, none⟩ (.slice D3 (l.length + 1) d3)
  have g4 := Fr.store ((w12.setCell ⟨q, 2, none⟩ (.slice A3 (l.length + 1) c3)).setCell ⟨q, 3, none⟩ (.slice D3 (l.length + 1) d3)) ⟨q, 4, none⟩ (.int .i64 (wr + 1))
  have gg := (g2.trans g3 (fun _ _ h => h)).trans g4 (fun _ _ h => h)
  have k2 := heap_setCell_same w12 q 2 _ _ (.slice A3 (l.length + 1) c3) q12
  have k3 := heap_setCell_same _ q 3 _ _ (.slice D3 (l.length + 1) d3) k2
  have k4 := heap_setCell_same _ q 4 _ _ (.int .i64 (wr + 1)) k3
  have gsz := gg.size
  have hA3 : ∀ a, A3 = some a → a.block ≠ q ∧ a.block ≠ sb ∧ a.block ≠ nb ∧ (∀ p ∈ lb, a.block ≠ p.1) ∧ (∀ a', DA = some a' → a.block ≠ a'.block) := fun a ha => by
    rcases h.hA a ha with e | e
    · obtain ⟨a0, ha0, hab⟩ := Option.map_eq_some_iff.1 e
      rw [← hab]
      exact ⟨(hm.dA a0 ha0).1, (hm.dA a0 ha0).2.1, (hm.dA a0 ha0).2.2, fun p hp => (hm.dE p hp).2.2.2.1 a0 ha0, fun a' ha' => (hm.dD a' ha').2.2.2 a0 ha0⟩
    · have z1 := ltU q h.pu.in_.1
      have z2 := ltU sb h.pu.in_.2.1
      have z3 := ltU nb h.pu.in_.2.2.1
      exact ⟨by omega, by omega, by omega, fun p hp => by have := ltU _ (h.pu.in_.2.2.2.2.2.1 p hp); omega, fun a' ha' => by have := ltU _ (h.pu.in_.2.2.2.2.1 a' ha'); omega⟩
  have hD3 : ∀ a, D3 = some a → a.block ≠ q ∧ a.block ≠ sb ∧ a.block ≠ nb ∧ (∀ p ∈ lb, a.block ≠ p.1) ∧ a.block ≠ ed ∧ (∀ a', A3 = some a' → a'.block ≠ a.block) := fun a ha => by
    rcases hD with e | e
    · rw [e] at ha
      have z4 := ltU _ (h.pu.in_.2.2.2.2.1 a ha)
      have z5 := h.eu
      exact ⟨(hm.dD a ha).1, (hm.dD a ha).2.1, (hm.dD a ha).2.2.1, fun p hp => (hm.dE p hp).2.2.2.2.1 a ha, by omega, fun a' ha' => (hA3 a' ha').2.2.2.2 a ha⟩
    · rw [e] at ha
      injection ha with ha
      subst ha
      have z1 := ltU q h.pu.in_.1
      have z2 := ltU sb h.pu.in_.2.1
      have z3 := ltU nb h.pu.in_.2.2.1
      have z6 : ed < w9.heap.size := by
        obtain ⟨ad, e, hlt, _⟩ := h.rd.2 (by omega)
        injection e with e
        subst e
        exact hlt
      refine ⟨by show w9.heap.size ≠ q; omega, by show w9.heap.size ≠ sb; omega, by show w9.heap.size ≠ nb; omega, fun p hp => ?_, by show w9.heap.size ≠ ed; omega, fun a' ha' => ?_⟩
      · have := ltU _ (h.pu.in_.2.2.2.2.2.1 p hp)
        show w9.heap.size ≠ p.1
        omega
      · have := h.o3.lt_at ha'
        show a'.block ≠ w9.heap.size
        omega
  have edq : ed ≠ q ∧ ed ≠ sb ∧ ed ≠ nb := by
    have z1 := ltU q h.pu.in_.1
    have z2 := ltU sb h.pu.in_.2.1
    have z3 := ltU nb h.pu.in_.2.2.1
    have z5 := h.eu
    exact ⟨by omega, by omega, by omega⟩
  have fU : Fr U w12 (fun b => AA.map (·.block) = some b ∨ DA.map (·.block) = some b) := (h.fr.mono (fun _ _ h => .inl h)).trans fg (fun _ _ h => .inr h)
  have nAD : ∀ b, (∀ a, AA = some a → a.block ≠ b) → (∀ a, DA = some a → a.block ≠ b) → ¬ (AA.map (·.block) = some b ∨ DA.map (·.block) = some b) := fun b h1 h2 e => e.elim (h.nA h1) (nD b h2)
  have hlen : lb.length = l.length := by have h1 := hm.da.len; simp [dvals] at h1; exact h1
  have osf := gg.own (fU.own hm.sf (fun a ha => by injection ha with ha; subst ha; exact nAD sb (fun a ha => (hm.dA a ha).2.1) (fun a ha => (hm.dD a ha).2.1))) (fun a ha => by injection ha with ha; subst ha; exact hm.d3.2.1)
  have onw := gg.own (fU.own hm.nw (fun a ha => by injection ha with ha; subst ha; exact nAD nb (fun a ha => (hm.dA a ha).2.2) (fun a ha => (hm.dD a ha).2.2.1))) (fun a ha => by injection ha with ha; subst ha; exact hm.d3.2.2)
  have oat := gg.own (fg.own h.o3 (fun a ha => nD a.block (fun a' ha' e => (hA3 a ha).2.2.2.2 a' ha' e.symm))) (fun a ha => (hA3 a ha).1)
  have oda := gg.own o7 (fun a ha => (hD3 a ha).1)
  have red := gg.rd (fg.rd h.rd (fun a ha => by injection ha with ha; subst ha; exact nD ed (fun a' ha' e => by have := ltU _ (h.pu.in_.2.2.2.2.1 a' ha'); have := h.eu; omega))) (fun a ha => by injection ha with ha; subst ha; exact edq.1)
  refine ⟨⟨fun b => M0.2 b ∨ A3.map (·.block) = some b ∨ D3.map (·.block) = some b ∨ b = ed, ⟨⟨sb, nb, c3, d3, A3, D3, lb ++ [(ed, ec)], ⟨?_, osf, onw, ?_, ?_, fun k x hx => ?_, ⟨hm.ss.1, hm.ss.2.1, fun x hx => ?_, fun x hx => ?_⟩, hm.sr, hm.d3, fun a ha => ⟨(hA3 a ha).1, (hA3 a ha).2.1, (hA3 a ha).2.2.1⟩, fun a ha => ⟨(hD3 a ha).1, (hD3 a ha).2.1, (hD3 a ha).2.2.1, (hD3 a ha).2.2.2.2.2⟩, fun p hp => ?_⟩, .inl h.pu.in_.1, .inl h.pu.in_.2.1, .inl h.pu.in_.2.2.1, (fun a ha => .inr (.inl (by rw [ha]; rfl))), (fun a ha => .inr (.inr (.inl (by rw [ha]; rfl)))), fun p hp => ?_⟩, fun b hb => ?_⟩, fun b hb => ?_⟩, ?_⟩
  · rw [List.length_append]
    exact k4
  · rw [List.length_append, List.map_append]
    have e : ints (l.map (·.i) ++ [(i : Int)]) = ints (l.map (·.i)) ++ ints [(i : Int)] := by simp [ints]
    show Own _ 0 _ 1 A3 (l.length + 1) c3 (ints (l.map (·.i) ++ [(i : Int)]))
    rw [e]
    exact oat
  · rw [List.length_append]
    have e : dvals (lb ++ [(ed, ec)]) = dvals lb ++ [.slice (some ⟨ed, 0, none⟩) 64 ec] := by simp [dvals]
    rw [e]
    exact oda
  · rcases Nat.lt_or_ge k l.length with hk | hk
    · rw [List.getElem?_append_left hk] at hx
      obtain ⟨p, hp, hr⟩ := hm.el k x hx
      have hpm := List.mem_of_getElem? hp
      exact ⟨p, by rw [List.getElem?_append_left (by omega)]; exact hp, gg.rd (fU.rd hr (fun a ha => by injection ha with ha; subst ha; exact nAD p.1 (fun a ha => (hm.dE p hpm).2.2.2.1 a ha) (fun a ha => (hm.dE p hpm).2.2.2.2.1 a ha))) (fun a ha => by injection ha with ha; subst ha; exact (hm.dE p hpm).1)⟩
    · have hkl := (List.getElem?_eq_some_iff.1 hx).1
      rw [List.length_append] at hkl
      have hk2 : k = l.length := by simp at hkl; omega
      subst hk2
      rw [List.getElem?_append_right (Nat.le_refl _), Nat.sub_self] at hx
      simp at hx
      subst hx
      exact ⟨(ed, ec), by rw [← hlen, List.getElem?_append_right (Nat.le_refl _), Nat.sub_self]; rfl, red⟩
  · rcases List.mem_append.1 hx with hx | hx
    · exact hm.ss.2.2.1 x hx
    · simp at hx; subst hx; exact h.pu.sec
  · rcases List.mem_append.1 hx with hx | hx
    · exact hm.ss.2.2.2 x hx
    · simp at hx; subst hx; have := h.pu.rng; exact ⟨by show (0 : Int) ≤ (i : Int); omega, by show (i : Int) < (S : Int); omega⟩
  · rcases List.mem_append.1 hp with hp | hp
    · have h1 := hm.dE p hp
      exact ⟨h1.1, h1.2.1, h1.2.2.1, fun a ha => (hA3 a ha).2.2.2.1 p hp, fun a ha => (hD3 a ha).2.2.2.1 p hp, h1.2.2.2.2.2⟩
    · simp at hp
      subst hp
      exact ⟨edq.1, edq.2.1, edq.2.2, fun a ha => h.ne a ha, fun a ha => (hD3 a ha).2.2.2.2.1, hec⟩
  · rcases List.mem_append.1 hp with hp | hp
    · exact .inl (h.pu.in_.2.2.2.2.2.1 p hp)
    · simp at hp
      subst hp
      exact .inr (.inr (.inr rfl))
  · rcases hb with hb | hb | hb | hb
    · have := ltU b hb; omega
    · obtain ⟨a, ha, rfl⟩ := Option.map_eq_some_iff.1 hb
      have := oat.lt_at ha
      omega
    · obtain ⟨a, ha, rfl⟩ := Option.map_eq_some_iff.1 hb
      have := oda.lt_at ha
      omega
    · obtain ⟨ad, e, hlt, _⟩ := red.2 (by omega)
      injection e with e
      subst e
      rw [hb]
      exact hlt
  · have hzM := h.pu.fr.size
    rcases hb with hb | hb | hb | hb
    · exact .inl hb
    · obtain ⟨a, ha, rfl⟩ := Option.map_eq_some_iff.1 hb
      rcases h.hA a ha with e | e
      · obtain ⟨a0, ha0, hab⟩ := Option.map_eq_some_iff.1 e
        exact .inl (hab ▸ h.pu.in_.2.2.2.1 a0 ha0)
      · right; omega
    · obtain ⟨a, ha, rfl⟩ := Option.map_eq_some_iff.1 hb
      rcases hD with e | e
      · rw [e] at ha
        exact .inl (h.pu.in_.2.2.2.2.1 a ha)
      · rw [e] at ha
        injection ha with ha
        subst ha
        right
        show M0.1.heap.size ≤ w9.heap.size
        omega
    · right
      have := h.eu
      omega
  · exact (h.pu.fr.trans fU (fun b _ e => by
      rcases e with e | e
      · obtain ⟨a, ha, hab⟩ := Option.map_eq_some_iff.1 e
        exact hab ▸ h.pu.in_.2.2.2.1 a ha
      · obtain ⟨a, ha, hab⟩ := Option.map_eq_some_iff.1 e
        exact hab ▸ h.pu.in_.2.2.2.2.1 a ha)).trans gg (fun b _ e => by rw [e]; exact h.pu.in_.1)
end
section
variable {w w' : World} {q S : Nat} {SF NW : Int → List Nat} {l : List WrV} {wr : Int} {gone : Bool} {M : Nat → Prop}
set_option maxHeartbeats 6400000 in
theorem rwrite_ok (h : RL w q M S SF NW l wr false) {i : Nat} (hi : i < S) (bb cap : Nat) {s : List Nat} (hs : IsSec s) (hB : Rd w 1 (some ⟨bb, 0, none⟩) 64 (u8s s)) (hbb : ¬ M bb) (hwr : 0 ≤ wr ∧ wr < 4611686018427387904) (hl : l.length ≤ 2600000000000) :
    Calls Tryd.prog 24 #[.pointer (some ⟨q, 0, none⟩), .int .i64 (i : Int), .slice (some ⟨bb, 0, none⟩) 64 cap] w fun e w' => e = .returned (.int .i64 0) ∧ RN w w' q M S SF (keepW NW ⟨(i : Int), s⟩ 64) (l ++ [⟨(i : Int), s⟩]) (wr + 1) false := by
  obtain ⟨sb, nb, ac, dc, AA, DA, lb, h1, m1, m2, m3, m4, m5, m6⟩ := h.ex
  have C := Lib.hid (rcheck_any h1 (i : Int))
  rw [show chkN S (i : Int) false = 0 by simp [chkN]; omega] at C
  have HD := Lib.hid h1
  have HM := Lib.hid (And.intro m1 (And.intro m2 (And.intro m3 (And.intro m4 (And.intro m5 (And.intro m6 (And.intro hbb h.lt)))))))
  have HB := Lib.hid (And.intro hs (And.intro hB hi))
  have hsr := h1.sr
  obtain ⟨o, ho⟩ : ∃ o, 64 * i = o := ⟨_, rfl⟩
  have hoI : (64 : Int) * (i : Int) = (o : Int) := by omega
  obtain ⟨n64, hn64⟩ : ∃ n64, 64 * S = n64 := ⟨_, rfl⟩
  have hoS : o + 64 ≤ n64 := by omega
  have HN := Lib.hid hn64
  have HO := Lib.hid ho
  have hnb : n64 ≤ 65536 := by omega
  have h64 : o + 64 - o = 64 := by omega
  clear h h1 m1 m2 m3 m4 m5 m6 hbb hs hB hn64 ho hi
  go_enter Tryd.func24, Tryd.ntmps24
  go_wp2_with fail
  refine C.out.mono ?_
  rintro e w1 ⟨rfl, x1⟩
  have D1 := Lib.hid (HD.out.ex x1)
  obtain ⟨c0, c1, c2, c3, c4, c5⟩ := D1.out.cells
  rw [HN.out] at c1
  have X1 := Lib.hid x1
  have hus : (u8s s).length = 64 := by rw [u8s_len, HB.out.1.1]
  have HRB := Lib.hid (HB.out.2.1.ext x1)
  have RC := Lib.hid (run_copy_cells (P := Tryd.prog) w1 32 32 3 5 nb o 64 (n64 - o) ⟨bb, 0, none⟩ 64 cap (u8s s) Tryd.underlying32 (by kernel_rfl) (by rw [hus]; rfl)
    (fun j v hv => by
      obtain ⟨ad, e, _, hc⟩ := HRB.out.2 (by omega)
      injection e with e
      subst e
      exact hc j v hv)
    (fun j hj => by
      have h2 := D1.out.nw.len
      have h3 := HN.out
      rw [D1.out.nw.celln (List.getElem?_eq_getElem (show o + j < (u8s (fl NW S)).length from by omega))]
      rfl)
    (fun j hj => D1.out.nw.frozenAt _) (u8s_one _))
  have N1 := D1.out.now HB.out.2.2 HB.out.1
  rw [HO.out] at N1
  have HU0 := Lib.hid (show PU (w1.setCells nb o (u8s s)).drew q sb nb AA ac DA dc S SF (keepW NW ⟨(i : Int), s⟩ 64) l lb wr s i bb (w, M) from ⟨N1.1.ex (Ext.refl _).drew, (N1.2.rd HRB.out (fun a ha => by injection ha with ha; subst ha; exact fun e => HM.out.2.2.2.2.2.2.1 (by have e2 : bb = nb := e; rw [e2]; exact HM.out.2.2.1))).ext (Ext.refl _).drew, HB.out.1, HB.out.2.2, ⟨HM.out.1, HM.out.2.1, HM.out.2.2.1, HM.out.2.2.2.1, HM.out.2.2.2.2.1, HM.out.2.2.2.2.2.1, HM.out.2.2.2.2.2.2.1, fun b hb => by
    have z1 := HM.out.2.2.2.2.2.2.2 b hb
    have z2 := X1.out.size
    have z3 := N1.2.size
    exact Nat.lt_of_lt_of_le z1 (Nat.le_trans z2 z3)⟩, ((Fr.of_ext X1.out M).trans N1.2 (fun b _ e => by rw [e]; exact HM.out.2.2.1)).trans (Fr.of_ext (Ext.refl _).drew M) (fun _ _ h => h)⟩)
  clear C x1 hus N1 c0 c2 c3 c4 c5
  go_wp2_with fail
  rw [h64, RC.out]
  clear RC c1
  have hS1 := (HU0.out.m.cells)
  obtain ⟨_, _, c2, c3, _, _⟩ := hS1
  have HS1 : (w1.setCells nb o (u8s s)).drew.cell? ⟨q, 2, none⟩ = some (.slice AA l.length ac) ∧ (w1.setCells nb o (u8s s)).drew.cell? ⟨q, 3, none⟩ = some (.slice DA l.length dc) := ⟨c2, c3⟩
  clear c2 c3
  go_upto_region 6 with (fail)
  refine d_region (fun W : World => W.cell? ⟨q, 2, none⟩ = some (.slice AA l.length ac) ∧ W.cell? ⟨q, 3, none⟩ = some (.slice DA l.length dc)) [1, 20, 21, 22, 23] (by kernel_rfl) ?_
  refine d_pure (i := 1) (v := ?_) (some 33) rfl (by rfl) (by kernel_rfl) (by kernel_rfl) (by kernel_rfl) (by kernel_rfl) (fun _ _ _ h => h) (.inl ⟨by rfl, ?_⟩) ?_
  rotate_left 1
  · (intro W hW; go_simp; try with_reducible rfl)
  try simp only [Act.put, List.setIfInBounds_toArray, List.set_cons_zero, List.set_cons_succ]
  refine d_take2 (i := 0) (v := ?_) [18, 19, 20, 21, 22, 23] (some 32) rfl (by rfl) (by kernel_rfl) (by kernel_rfl) (by kernel_rfl) (by kernel_rfl) (by kernel_rfl) (by kernel_rfl) (fun _ _ _ h => h) (.inl ⟨by rfl, ?_⟩) HS1 ?_
  rotate_left 1
  · (intro W hW; (try dsimp only at hW); go_simp; try with_reducible rfl)
  try simp only [Act.put, List.setIfInBounds_toArray, List.set_cons_zero, List.set_cons_succ]
  refine d_take2 (i := 2) (v := ?_) [3, 4, 5, 8, 15, 16, 17, 18, 19, 20, 21, 22, 23] (some 34) rfl (by rfl) (by kernel_rfl) (by kernel_rfl) (by kernel_rfl) (by kernel_rfl) (by kernel_rfl) (by kernel_rfl) (fun _ _ _ h => h) (.inl ⟨by rfl, ?_⟩) HS1 ?_
  rotate_left 1
  · (intro W hW; (try dsimp only at hW); go_simp; try with_reducible rfl)
  try simp only [Act.put, List.setIfInBounds_toArray, List.set_cons_zero, List.set_cons_succ]
  refine d_take2 (i := 3) (v := ?_) [4, 5, 8, 15, 16, 17, 18, 19, 20, 21, 22, 23] (some 35) rfl (by rfl) (by kernel_rfl) (by kernel_rfl) (by kernel_rfl) (by kernel_rfl) (by kernel_rfl) (by kernel_rfl) (fun _ _ _ h => h) (.inl ⟨by rfl, ?_⟩) HS1 ?_
  rotate_left 1
  · (intro W hW; (try dsimp only at hW); go_simp; try with_reducible rfl)
  try simp only [Act.put, List.setIfInBounds_toArray, List.set_cons_zero, List.set_cons_succ]
  refine d_take2 (i := 4) (v := ?_) [5, 8, 15, 16, 17, 18, 19, 20, 21, 22, 23] (some 36) rfl (by rfl) (by kernel_rfl) (by kernel_rfl) (by kernel_rfl) (by kernel_rfl) (by kernel_rfl) (by kernel_rfl) (fun _ _ _ h => h) (.inl ⟨by rfl, ?_⟩) HS1 ?_
  rotate_left 1
  · (intro W hW; (try dsimp only at hW); go_simp; try with_reducible rfl)
  try simp only [Act.put, List.setIfInBounds_toArray, List.set_cons_zero, List.set_cons_succ]
  refine d_take2 (i := 5) (v := ?_) [8, 15, 16, 17, 18, 19, 20, 21, 22, 23] (some 37) rfl (by rfl) (by kernel_rfl) (by kernel_rfl) (by kernel_rfl) (by kernel_rfl) (by kernel_rfl) (by kernel_rfl) (fun _ _ _ h => h) (.inl ⟨by rfl, ?_⟩) HS1 ?_
  rotate_left 1
  · (intro W hW; (try dsimp only at hW); go_simp; try with_reducible rfl)
  try simp only [Act.put, List.setIfInBounds_toArray, List.set_cons_zero, List.set_cons_succ]
  refine d_take2 (i := 6) (v := ?_) [7, 8, 15, 16, 17, 18, 19, 20, 21, 22, 23] (some 38) rfl (by rfl) (by kernel_rfl) (by kernel_rfl) (by kernel_rfl) (by kernel_rfl) (by kernel_rfl) (by kernel_rfl) (fun _ _ _ h => h) (.inl ⟨by rfl, ?_⟩) HS1 ?_
  rotate_left 1
  · (intro W hW; (try dsimp only at hW); go_simp; try with_reducible rfl)
  try simp only [Act.put, List.setIfInBounds_toArray, List.set_cons_zero, List.set_cons_succ]
  refine d_take2 (i := 9) (v := ?_) [10, 11, 12, 17, 18, 19, 20, 21, 22, 23] (some 41) rfl (by rfl) (by kernel_rfl) (by kernel_rfl) (by kernel_rfl) (by kernel_rfl) (by kernel_rfl) (by kernel_rfl) (fun _ _ _ h => h) (.inl ⟨by rfl, ?_⟩) HS1 ?_
  rotate_left 1
  · (intro W hW; (try dsimp only at hW); go_simp; try with_reducible rfl)
  try simp only [Act.put, List.setIfInBounds_toArray, List.set_cons_zero, List.set_cons_succ]
  refine d_take2 (i := 10) (v := ?_) [11, 12, 17, 18, 19, 20, 21, 22, 23] (some 42) rfl (by rfl) (by kernel_rfl) (by kernel_rfl) (by kernel_rfl) (by kernel_rfl) (by kernel_rfl) (by kernel_rfl) (fun _ _ _ h => h) (.inl ⟨by rfl, ?_⟩) HS1 ?_
  rotate_left 1
  · (intro W hW; (try dsimp only at hW); go_simp; try with_reducible rfl)
  try simp only [Act.put, List.setIfInBounds_toArray, List.set_cons_zero, List.set_cons_succ]
  refine d_take2 (i := 11) (v := ?_) [12, 17, 18, 19, 20, 21, 22, 23] (some 43) rfl (by rfl) (by kernel_rfl) (by kernel_rfl) (by kernel_rfl) (by kernel_rfl) (by kernel_rfl) (by kernel_rfl) (fun _ _ _ h => h) (.inl ⟨by rfl, ?_⟩) HS1 ?_
  rotate_left 1
  · (intro W hW; (try dsimp only at hW); go_simp; try with_reducible rfl)
  try simp only [Act.put, List.setIfInBounds_toArray, List.set_cons_zero, List.set_cons_succ]
  refine d_take2 (i := 12) (v := ?_) [17, 18, 19, 20, 21, 22, 23] (some 44) rfl (by rfl) (by kernel_rfl) (by kernel_rfl) (by kernel_rfl) (by kernel_rfl) (by kernel_rfl) (by kernel_rfl) (fun _ _ _ h => h) (.inl ⟨by rfl, ?_⟩) HS1 ?_
  rotate_left 1
  · (intro W hW; (try dsimp only at hW); go_simp; try with_reducible rfl)
  try simp only [Act.put, List.setIfInBounds_toArray, List.set_cons_zero, List.set_cons_succ]
  refine d_take2 (i := 14) (v := ?_) [15, 16, 17, 18, 19, 20, 21, 22, 23] (some 46) rfl (by rfl) (by kernel_rfl) (by kernel_rfl) (by kernel_rfl) (by kernel_rfl) (by kernel_rfl) (by kernel_rfl) (fun _ _ _ h => h) (.inl ⟨by rfl, ?_⟩) HS1 ?_
  rotate_left 1
  · (intro W hW; (try dsimp only at hW); go_simp; try with_reducible rfl)
  try simp only [Act.put, List.setIfInBounds_toArray, List.set_cons_zero, List.set_cons_succ]
  have HU := HU0
  clear HU0 HS1
  generalize (w1.setCells nb o (u8s s)).drew = U at *
  refine d_two (i := 7) (j := 13) (by kernel_rfl) rfl rfl rfl rfl (fun K hK => ?_) (fun K hK => ?_)
  · simp only [List.getElem_toArray, List.getElem_cons_succ, List.getElem_cons_zero]
    go_simp
    have X7 := (Ext.refl U).alloc (.cells #[.int .i64 (i : Int)] 3)
    have RN : Rd (U.alloc (.cells #[.int .i64 (i : Int)] 3)) 1 (some ⟨U.heap.size, 0, none⟩) 1 (ints [(i : Int)]) := Rd.new U #[.int .i64 (i : Int)] 3 (0, 0)
    have HSN := HU.out.m.qs (Fr.of_ext (X7) (fun b => AA.map (·.block) = some b))
    refine hK.out _ _ (fun _ => HSN) ?_
    clear hK K HSN
    generalize U.alloc (.cells #[.int .i64 (i : Int)] 3) = w7 at *
    generalize U.heap.size = b7 at *
    try simp only [Act.put, List.setIfInBounds_toArray, List.set_cons_zero, List.set_cons_succ]
    refine d_two (i := 8) (j := 13) (by kernel_rfl) rfl rfl rfl rfl (fun K hK => ?_) (fun K hK => ?_)
    · simp only [List.getElem_toArray, List.getElem_cons_succ, List.getElem_cons_zero]
      refine oper_app (w := w7) (m := 1) (d := 1) (news := ints [(i : Int)]) eltIn (HU.out.m.ex X7).at_ RN (ints_one _) (by omega) (.inr ⟨by omega, by omega⟩) (Nat.zero_le _) (.tmp 37) (.tmp 39) rfl rfl rfl ?_
      intro A3 c3 w8 o3 g8 hA3 _
      have G8 := (Fr.of_ext (X7) (fun b => AA.map (·.block) = some b)).trans (Fr.grows g8) (fun _ _ h => h)
      have HSN := HU.out.m.qs (G8)
      refine hK.out _ _ (fun _ => HSN) ?_
      clear hK K HSN
      try simp only [Act.put, List.setIfInBounds_toArray, List.set_cons_zero, List.set_cons_succ]
      have o8 := o3
      have hA8 : ∀ a, A3 = some a → AA.map (·.block) = some a.block ∨ U.heap.size ≤ a.block := app_from X7 hA3
      clear g8 hA3 RN
      refine d_one (i := 13) (by kernel_rfl) rfl rfl (fun K hK => ?_)
      simp only [List.getElem_toArray, List.getElem_cons_succ, List.getElem_cons_zero]
      go_simp
      have X13 := (Ext.refl w8).alloc (.cells #[] 5)
      have OE : Own (w8.alloc (.cells #[] 5)) 0 5 1 (some ⟨w8.heap.size, 0, none⟩) 0 0 [] := World.ownsRow_lit (size := 1) w8 #[] 0 (Nat.zero_le _) (by simp [maxLen]) rfl
      have hz13 : w8.heap.size < (w8.alloc (.cells #[] 5)).heap.size := by simp
      have HSN := HU.out.m.qs (G8.trans (Fr.of_ext X13 _) (fun _ _ h => h))
      refine hK.out _ _ (fun _ => HSN) ?_
      clear hK K HSN
      have H9 := Lib.hid (show P9 U (w8.alloc (.cells #[] 5)) q sb nb AA ac DA dc S SF (keepW NW ⟨(i : Int), s⟩ 64) l lb wr s i bb (w, M) A3 c3 w8.heap.size from ⟨HU.out, o8.ext X13, G8.trans (Fr.of_ext X13 _) (fun _ _ h => h), hA8, OE, hz13, (by have := G8.size; exact this), (fun a ha e => by have := o8.lt_at ha; omega)⟩)
      clear o3 o8 G8 hA8 X13 OE hz13 X7
      generalize w8.alloc (.cells #[] 5) = w9 at *
      generalize heb : w8.heap.size = eb at *
      try simp only [Act.put, List.setIfInBounds_toArray, List.set_cons_zero, List.set_cons_succ]
      clear heb
      refine d_one (i := 15) (by kernel_rfl) rfl rfl (fun K hK => ?_)
      simp only [List.getElem_toArray, List.getElem_cons_succ, List.getElem_cons_zero]
      refine oper_app (w := w9) (m := 64) (d := cap) (news := u8s s) eltU8 H9.out.oe H9.out.rb (u8s_one _) (by omega) (.inr ⟨by omega, by omega⟩) (Nat.zero_le _) (.tmp 45) (.tmp 46) rfl rfl rfl ?_
      intro E5 ec w10 o5 g10 hE5 _
      rw [List.nil_append, Nat.zero_add] at o5
      rw [Nat.zero_add]
      obtain ⟨ed, rfl⟩ := o5.head (by omega)
      have HEC := Lib.hid o5.cap_le
      have H10 := Lib.hid (H9.out.to10 o5 g10 hE5)
      have HSN := HU.out.m.qs (H10.out.fr)
      refine hK.out _ _ (fun _ => HSN) ?_
      clear hK K HSN
      clear o5 g10 hE5
      try simp only [Act.put, List.setIfInBounds_toArray, List.set_cons_zero, List.set_cons_succ]
      refine d_one (i := 16) (by kernel_rfl) rfl rfl (fun K hK => ?_)
      simp only [List.getElem_toArray, List.getElem_cons_succ, List.getElem_cons_zero]
      go_simp
      have XC := (Ext.refl w10).alloc (.cells #[.slice (some ⟨ed, 0, none⟩) 64 ec] 32)
      have RN2 : Rd (w10.alloc (.cells #[.slice (some ⟨ed, 0, none⟩) 64 ec] 32)) 1 (some ⟨w10.heap.size, 0, none⟩) 1 [.slice (some ⟨ed, 0, none⟩) 64 ec] := Rd.new w10 #[.slice (some ⟨ed, 0, none⟩) 64 ec] 32 (0, 0)
      have H11 := Lib.hid (H10.out.ext XC)
      have HSN := HU.out.m.qs (H11.out.fr)
      refine hK.out _ _ (fun _ => HSN) ?_
      clear hK K HSN
      clear XC
      generalize w10.alloc (.cells #[.slice (some ⟨ed, 0, none⟩) 64 ec] 32) = w11 at *
      generalize w10.heap.size = cb at *
      try simp only [Act.put, List.setIfInBounds_toArray, List.set_cons_zero, List.set_cons_succ]
      refine d_one (i := 17) (by kernel_rfl) rfl rfl (fun K hK => ?_)
      simp only [List.getElem_toArray, List.getElem_cons_succ, List.getElem_cons_zero]
      refine oper_app (w := w11) (m := 1) (d := 1) (news := [.slice (some ⟨ed, 0, none⟩) 64 ec]) eltB H11.out.da RN2 (by simp [Value.oneCell']) (by omega) (.inr ⟨by omega, by omega⟩) (Nat.zero_le _) (.tmp 44) (.tmp 48) rfl rfl rfl ?_
      intro D3 d3 w12 o7 g12 hD3 _
      have H12 := Lib.hid (H11.out.fin (wr := wr) HEC.out o7 g12 hD3)
      have B12 := Lib.hid (H11.out.qblk g12)
      have HSN : w12.cell? ⟨q, 2, none⟩ = some (.slice AA l.length ac) ∧ w12.cell? ⟨q, 3, none⟩ = some (.slice DA l.length dc) := ⟨block_cell B12.out 2, block_cell B12.out 3⟩
      have HS1 := HSN
      refine hK.out _ _ (fun _ => HSN) ?_
      clear hK K HSN
      clear o7 g12 hD3 RN2
      try simp only [Act.put, List.setIfInBounds_toArray, List.set_cons_zero, List.set_cons_succ]
      refine d_take2 (i := 18) (v := ?_) [19, 20, 21, 22, 23] (some 50) rfl (by rfl) (by kernel_rfl) (by kernel_rfl) (by kernel_rfl) (by kernel_rfl) (by kernel_rfl) (by kernel_rfl) (fun _ _ _ h => h) (.inl ⟨by rfl, ?_⟩) HS1 ?_
      rotate_left 1
      · (intro W hW; (try dsimp only at hW); go_simp; try with_reducible rfl)
      try simp only [Act.put, List.setIfInBounds_toArray, List.set_cons_zero, List.set_cons_succ]
      refine d_take2 (i := 19) (v := ?_) [20, 21, 22, 23] (some 51) rfl (by rfl) (by kernel_rfl) (by kernel_rfl) (by kernel_rfl) (by kernel_rfl) (by kernel_rfl) (by kernel_rfl) (fun _ _ _ h => h) (.inl ⟨by rfl, ?_⟩) HS1 ?_
      rotate_left 1
      · (intro W hW; (try dsimp only at hW); go_simp; try with_reducible rfl)
      try simp only [Act.put, List.setIfInBounds_toArray, List.set_cons_zero, List.set_cons_succ]
      have e2 : w12.cell? ⟨q, 2, none⟩ = some (.slice AA l.length ac) := block_cell B12.out 2
      have f2 := block_fz B12.out 2
      refine d_one (i := 20) (by kernel_rfl) rfl rfl (fun K hK => ?_)
      simp only [List.getElem_toArray, List.getElem_cons_succ, List.getElem_cons_zero]
      go_simp
      refine hK.out _ _ (fun h => absurd h (by decide)) ?_
      clear hK K
      have B13 := heap_setCell_same w12 q 2 _ _ (.slice A3 (l.length + 1) c3) B12.out
      have HB13 := Lib.hid B13
      clear e2 f2 B13
      generalize w12.setCell ⟨q, 2, none⟩ (.slice A3 (l.length + 1) c3) = w13 at *
      try simp only [Act.put, List.setIfInBounds_toArray, List.set_cons_zero, List.set_cons_succ]
      refine d_pure (i := 21) (v := ?_) (some 52) rfl (by rfl) (by kernel_rfl) (by kernel_rfl) (by kernel_rfl) (by kernel_rfl) (fun _ _ _ h => h) (.inl ⟨by rfl, ?_⟩) ?_
      rotate_left 1
      · (intro W hW; go_simp; try with_reducible rfl)
      try simp only [Act.put, List.setIfInBounds_toArray, List.set_cons_zero, List.set_cons_succ]
      refine d_pure (i := 22) (v := ?_) (some 53) rfl (by rfl) (by kernel_rfl) (by kernel_rfl) (by kernel_rfl) (by kernel_rfl) (fun _ _ _ h => h) (.inl ⟨by rfl, ?_⟩) ?_
      rotate_left 1
      · (intro W hW; go_simp; try with_reducible rfl)
      try simp only [Act.put, List.setIfInBounds_toArray, List.set_cons_zero, List.set_cons_succ]
      have e3 : w13.cell? ⟨q, 3, none⟩ = some (.slice DA l.length dc) := block_cell HB13.out 3
      have f3 := block_fz HB13.out 3
      refine d_one (i := 23) (by kernel_rfl) rfl rfl (fun K hK => ?_)
      simp only [List.getElem_toArray, List.getElem_cons_succ, List.getElem_cons_zero]
      go_simp
      refine hK.out _ _ (fun h => absurd h (by decide)) ?_
      clear hK K
      have B14 := heap_setCell_same w13 q 3 _ _ (.slice D3 (l.length + 1) d3) HB13.out
      have HB14 := Lib.hid B14
      clear e3 f3 B14
      generalize w13.setCell ⟨q, 3, none⟩ (.slice D3 (l.length + 1) d3) = w14 at *
      try simp only [Act.put, List.setIfInBounds_toArray, List.set_cons_zero, List.set_cons_succ]
      refine d_done (by kernel_rfl) ?_ _
      clear HS1
      have e4 : w14.cell? ⟨q, 4, none⟩ = some (.int .i64 wr) := block_cell HB14.out 4
      have f4 := block_fz HB14.out 4
      have wq : IntKind.i64.wrap (wr + 1) = wr + 1 := by rw [IntKind.wrap_i64]; omega
      go_wp2_with fail
      go_returns
      exact ⟨rfl, H12.out⟩
    · simp only [List.getElem_toArray, List.getElem_cons_succ, List.getElem_cons_zero]
      go_simp
      have X13 := (Ext.refl w7).alloc (.cells #[] 5)
      have OE : Own (w7.alloc (.cells #[] 5)) 0 5 1 (some ⟨w7.heap.size, 0, none⟩) 0 0 [] := World.ownsRow_lit (size := 1) w7 #[] 0 (Nat.zero_le _) (by simp [maxLen]) rfl
      have hz13 : w7.heap.size < (w7.alloc (.cells #[] 5)).heap.size := by simp
      have HSN := HU.out.m.qs (Fr.of_ext (X7.trans X13) (fun b => AA.map (·.block) = some b))
      refine hK.out _ _ (fun _ => HSN) ?_
      clear hK K HSN
      generalize w7.alloc (.cells #[] 5) = w8e at *
      generalize heb : w7.heap.size = eb at *
      try simp only [Act.put, List.setIfInBounds_toArray, List.set_cons_zero, List.set_cons_succ]
      refine d_one (i := 8) (by kernel_rfl) rfl rfl (fun K hK => ?_)
      simp only [List.getElem_toArray, List.getElem_cons_succ, List.getElem_cons_zero]
      refine oper_app (w := w8e) (m := 1) (d := 1) (news := ints [(i : Int)]) eltIn ((HU.out.m.ex X7).ex X13).at_ (RN.ext X13) (ints_one _) (by omega) (.inr ⟨by omega, by omega⟩) (Nat.zero_le _) (.tmp 37) (.tmp 39) rfl rfl rfl ?_
      intro A3 c3 w8 o3 g8 hA3 _
      have G8 := (Fr.of_ext (X7.trans X13) (fun b => AA.map (·.block) = some b)).trans (Fr.grows g8) (fun _ _ h => h)
      have HSN := HU.out.m.qs (G8)
      refine hK.out _ _ (fun _ => HSN) ?_
      clear hK K HSN
      try simp only [Act.put, List.setIfInBounds_toArray, List.set_cons_zero, List.set_cons_succ]
      have hA8 : ∀ a, A3 = some a → AA.map (·.block) = some a.block ∨ U.heap.size ≤ a.block := app_from (X7.trans X13) hA3
      have hU7 : U.heap.size ≤ eb := by have := X7.size; omega
      have H9 := Lib.hid (show P9 U w8 q sb nb AA ac DA dc S SF (keepW NW ⟨(i : Int), s⟩ 64) l lb wr s i bb (w, M) A3 c3 eb from ⟨HU.out, o3, G8, hA8, (Fr.grows g8).own OE (fun a ha e => by injection ha with ha; subst ha; exact app_not HU.out hU7 e), (by have := g8.size; omega), hU7, (fun a ha e => app_ne HU.out hU7 hA3 ha (by omega) e)⟩)
      clear o3 g8 hA3 G8 hA8 X13 OE hz13 X7 heb hU7 RN
      generalize w8 = w9 at *
      refine d_one (i := 15) (by kernel_rfl) rfl rfl (fun K hK => ?_)
      simp only [List.getElem_toArray, List.getElem_cons_succ, List.getElem_cons_zero]
      refine oper_app (w := w9) (m := 64) (d := cap) (news := u8s s) eltU8 H9.out.oe H9.out.rb (u8s_one _) (by omega) (.inr ⟨by omega, by omega⟩) (Nat.zero_le _) (.tmp 45) (.tmp 46) rfl rfl rfl ?_
      intro E5 ec w10 o5 g10 hE5 _
      rw [List.nil_append, Nat.zero_add] at o5
      rw [Nat.zero_add]
      obtain ⟨ed, rfl⟩ := o5.head (by omega)
      have HEC := Lib.hid o5.cap_le
      have H10 := Lib.hid (H9.out.to10 o5 g10 hE5)
      have HSN := HU.out.m.qs (H10.out.fr)
      refine hK.out _ _ (fun _ => HSN) ?_
      clear hK K HSN
      clear o5 g10 hE5
      try simp only [Act.put, List.setIfInBounds_toArray, List.set_cons_zero, List.set_cons_succ]
      refine d_one (i := 16) (by kernel_rfl) rfl rfl (fun K hK => ?_)
      simp only [List.getElem_toArray, List.getElem_cons_succ, List.getElem_cons_zero]
      go_simp
      have XC := (Ext.refl w10).alloc (.cells #[.slice (some ⟨ed, 0, none⟩) 64 ec] 32)
      have RN2 : Rd (w10.alloc (.cells #[.slice (some ⟨ed, 0, none⟩) 64 ec] 32)) 1 (some ⟨w10.heap.size, 0, none⟩) 1 [.slice (some ⟨ed, 0, none⟩) 64 ec] := Rd.new w10 #[.slice (some ⟨ed, 0, none⟩) 64 ec] 32 (0, 0)
      have H11 := Lib.hid (H10.out.ext XC)
      have HSN := HU.out.m.qs (H11.out.fr)
      refine hK.out _ _ (fun _ => HSN) ?_
      clear hK K HSN
      clear XC
      generalize w10.alloc (.cells #[.slice (some ⟨ed, 0, none⟩) 64 ec] 32) = w11 at *
      generalize w10.heap.size = cb at *
      try simp only [Act.put, List.setIfInBounds_toArray, List.set_cons_zero, List.set_cons_succ]
      refine d_one (i := 17) (by kernel_rfl) rfl rfl (fun K hK => ?_)
      simp only [List.getElem_toArray, List.getElem_cons_succ, List.getElem_cons_zero]
      refine oper_app (w := w11) (m := 1) (d := 1) (news := [.slice (some ⟨ed, 0, none⟩) 64 ec]) eltB H11.out.da RN2 (by simp [Value.oneCell']) (by omega) (.inr ⟨by omega, by omega⟩) (Nat.zero_le _) (.tmp 44) (.tmp 48) rfl rfl rfl ?_
      intro D3 d3 w12 o7 g12 hD3 _
      have H12 := Lib.hid (H11.out.fin (wr := wr) HEC.out o7 g12 hD3)
      have B12 := Lib.hid (H11.out.qblk g12)
      have HSN : w12.cell? ⟨q, 2, none⟩ = some (.slice AA l.length ac) ∧ w12.cell? ⟨q, 3, none⟩ = some (.slice DA l.length dc) := ⟨block_cell B12.out 2, block_cell B12.out 3⟩
      have HS1 := HSN
      refine hK.out _ _ (fun _ => HSN) ?_
      clear hK K HSN
      clear o7 g12 hD3 RN2
      try simp only [Act.put, List.setIfInBounds_toArray, List.set_cons_zero, List.set_cons_succ]
      refine d_take2 (i := 18) (v := ?_) [19, 20, 21, 22, 23] (some 50) rfl (by rfl) (by kernel_rfl) (by kernel_rfl) (by kernel_rfl) (by kernel_rfl) (by kernel_rfl) (by kernel_rfl) (fun _ _ _ h => h) (.inl ⟨by rfl, ?_⟩) HS1 ?_
      rotate_left 1
      · (intro W hW; (try dsimp only at hW); go_simp; try with_reducible rfl)
      try simp only [Act.put, List.setIfInBounds_toArray, List.set_cons_zero, List.set_cons_succ]
      refine d_take2 (i := 19) (v := ?_) [20, 21, 22, 23] (some 51) rfl (by rfl) (by kernel_rfl) (by kernel_rfl) (by kernel_rfl) (by kernel_rfl) (by kernel_rfl) (by kernel_rfl) (fun _ _ _ h => h) (.inl ⟨by rfl, ?_⟩) HS1 ?_
      rotate_left 1
      · (intro W hW; (try dsimp only at hW); go_simp; try with_reducible rfl)
      try simp only [Act.put, List.setIfInBounds_toArray, List.set_cons_zero, List.set_cons_succ]
      have e2 : w12.cell? ⟨q, 2, none⟩ = some (.slice AA l.length ac) := block_cell B12.out 2
      have f2 := block_fz B12.out 2
      refine d_one (i := 20) (by kernel_rfl) rfl rfl (fun K hK => ?_)
      simp only [List.getElem_toArray, List.getElem_cons_succ, List.getElem_cons_zero]
      go_simp
      refine hK.out _ _ (fun h => absurd h (by decide)) ?_
      clear hK K
      have B13 := heap_setCell_same w12 q 2 _ _ (.slice A3 (l.length + 1) c3) B12.out
      have HB13 := Lib.hid B13
      clear e2 f2 B13
      generalize w12.setCell ⟨q, 2, none⟩ (.slice A3 (l.length + 1) c3) = w13 at *
      try simp only [Act.put, List.setIfInBounds_toArray, List.set_cons_zero, List.set_cons_succ]
      refine d_pure (i := 21) (v := ?_) (some 52) rfl (by rfl) (by kernel_rfl) (by kernel_rfl) (by kernel_rfl) (by kernel_rfl) (fun _ _ _ h => h) (.inl ⟨by rfl, ?_⟩) ?_
      rotate_left 1
      · (intro W hW; go_simp; try with_reducible rfl)
      try simp only [Act.put, List.setIfInBounds_toArray, List.set_cons_zero, List.set_cons_succ]
      refine d_pure (i := 22) (v := ?_) (some 53) rfl (by rfl) (by kernel_rfl) (by kernel_rfl) (by kernel_rfl) (by kernel_rfl) (fun _ _ _ h => h) (.inl ⟨by rfl, ?_⟩) ?_
      rotate_left 1
      · (intro W hW; go_simp; try with_reducible rfl)
      try simp only [Act.put, List.setIfInBounds_toArray, List.set_cons_zero, List.set_cons_succ]
      have e3 : w13.cell? ⟨q, 3, none⟩ = some (.slice DA l.length dc) := block_cell HB13.out 3
      have f3 := block_fz HB13.out 3
      refine d_one (i := 23) (by kernel_rfl) rfl rfl (fun K hK => ?_)
      simp only [List.getElem_toArray, List.getElem_cons_succ, List.getElem_cons_zero]
      go_simp
      refine hK.out _ _ (fun h => absurd h (by decide)) ?_
      clear hK K
      have B14 := heap_setCell_same w13 q 3 _ _ (.slice D3 (l.length + 1) d3) HB13.out
      have HB14 := Lib.hid B14
      clear e3 f3 B14
      generalize w13.setCell ⟨q, 3, none⟩ (.slice D3 (l.length + 1) d3) = w14 at *
      try simp only [Act.put, List.setIfInBounds_toArray, List.set_cons_zero, List.set_cons_succ]
      refine d_done (by kernel_rfl) ?_ _
      clear HS1
      have e4 : w14.cell? ⟨q, 4, none⟩ = some (.int .i64 wr) := block_cell HB14.out 4
      have f4 := block_fz HB14.out 4
      have wq : IntKind.i64.wrap (wr + 1) = wr + 1 := by rw [IntKind.wrap_i64]; omega
      go_wp2_with fail
      go_returns
      exact ⟨rfl, H12.out⟩
  · simp only [List.getElem_toArray, List.getElem_cons_succ, List.getElem_cons_zero]
    go_simp
    have X13 := (Ext.refl U).alloc (.cells #[] 5)
    have OE : Own (U.alloc (.cells #[] 5)) 0 5 1 (some ⟨U.heap.size, 0, none⟩) 0 0 [] := World.ownsRow_lit (size := 1) U #[] 0 (Nat.zero_le _) (by simp [maxLen]) rfl
    have hz13 : U.heap.size < (U.alloc (.cells #[] 5)).heap.size := by simp
    have HSN := HU.out.m.qs (Fr.of_ext (X13) (fun b => AA.map (·.block) = some b))
    refine hK.out _ _ (fun _ => HSN) ?_
    clear hK K HSN
    generalize U.alloc (.cells #[] 5) = w7 at *
    generalize heb : U.heap.size = eb at *
    try simp only [Act.put, List.setIfInBounds_toArray, List.set_cons_zero, List.set_cons_succ]
    refine d_one (i := 7) (by kernel_rfl) rfl rfl (fun K hK => ?_)
    simp only [List.getElem_toArray, List.getElem_cons_succ, List.getElem_cons_zero]
    go_simp
    have X7 := (Ext.refl w7).alloc (.cells #[.int .i64 (i : Int)] 3)
    have RN : Rd (w7.alloc (.cells #[.int .i64 (i : Int)] 3)) 1 (some ⟨w7.heap.size, 0, none⟩) 1 (ints [(i : Int)]) := Rd.new w7 #[.int .i64 (i : Int)] 3 (0, 0)
    have HSN := HU.out.m.qs (Fr.of_ext (X13.trans X7) (fun b => AA.map (·.block) = some b))
    refine hK.out _ _ (fun _ => HSN) ?_
    clear hK K HSN
    generalize w7.alloc (.cells #[.int .i64 (i : Int)] 3) = w8e at *
    try simp only [Act.put, List.setIfInBounds_toArray, List.set_cons_zero, List.set_cons_succ]
    refine d_one (i := 8) (by kernel_rfl) rfl rfl (fun K hK => ?_)
    simp only [List.getElem_toArray, List.getElem_cons_succ, List.getElem_cons_zero]
    refine oper_app (w := w8e) (m := 1) (d := 1) (news := ints [(i : Int)]) eltIn ((HU.out.m.ex X13).ex X7).at_ RN (ints_one _) (by omega) (.inr ⟨by omega, by omega⟩) (Nat.zero_le _) (.tmp 37) (.tmp 39) rfl rfl rfl ?_
    intro A3 c3 w8 o3 g8 hA3 _
    have G8 := (Fr.of_ext (X13.trans X7) (fun b => AA.map (·.block) = some b)).trans (Fr.grows g8) (fun _ _ h => h)
    have HSN := HU.out.m.qs (G8)
    refine hK.out _ _ (fun _ => HSN) ?_
    clear hK K HSN
    try simp only [Act.put, List.setIfInBounds_toArray, List.set_cons_zero, List.set_cons_succ]
    have hA8 : ∀ a, A3 = some a → AA.map (·.block) = some a.block ∨ U.heap.size ≤ a.block := app_from (X13.trans X7) hA3
    have hU7 : U.heap.size ≤ eb := by omega
    have H9 := Lib.hid (show P9 U w8 q sb nb AA ac DA dc S SF (keepW NW ⟨(i : Int), s⟩ 64) l lb wr s i bb (w, M) A3 c3 eb from ⟨HU.out, o3, G8, hA8, (Fr.grows g8).own (OE.ext X7) (fun a ha e => by injection ha with ha; subst ha; exact app_not HU.out hU7 e), (by have := g8.size; have := X7.size; omega), hU7, (fun a ha e => app_ne HU.out hU7 hA3 ha (by have := X7.size; omega) e)⟩)
    clear o3 g8 hA3 G8 hA8 X13 OE hz13 X7 heb hU7 RN
    generalize w8 = w9 at *
    refine d_one (i := 15) (by kernel_rfl) rfl rfl (fun K hK => ?_)
    simp only [List.getElem_toArray, List.getElem_cons_succ, List.getElem_cons_zero]
    refine oper_app (w := w9) (m := 64) (d := cap) (news := u8s s) eltU8 H9.out.oe H9.out.rb (u8s_one _) (by omega) (.inr ⟨by omega, by omega⟩) (Nat.zero_le _) (.tmp 45) (.tmp 46) rfl rfl rfl ?_
    intro E5 ec w10 o5 g10 hE5 _
    rw [List.nil_append, Nat.zero_add] at o5
    rw [Nat.zero_add]
    obtain ⟨ed, rfl⟩ := o5.head (by omega)
    have HEC := Lib.hid o5.cap_le
    have H10 := Lib.hid (H9.out.to10 o5 g10 hE5)
    have HSN := HU.out.m.qs (H10.out.fr)
    refine hK.out _ _ (fun _ => HSN) ?_
    clear hK K HSN
    clear o5 g10 hE5
    try simp only [Act.put, List.setIfInBounds_toArray, List.set_cons_zero, List.set_cons_succ]
    refine d_one (i := 16) (by kernel_rfl) rfl rfl (fun K hK => ?_)
    simp only [List.getElem_toArray, List.getElem_cons_succ, List.getElem_cons_zero]
    go_simp
    have XC := (Ext.refl w10).alloc (.cells #[.slice (some ⟨ed, 0, none⟩) 64 ec] 32)
    have RN2 : Rd (w10.alloc (.cells #[.slice (some ⟨ed, 0, none⟩) 64 ec] 32)) 1 (some ⟨w10.heap.size, 0, none⟩) 1 [.slice (some ⟨ed, 0, none⟩) 64 ec] := Rd.new w10 #[.slice (some ⟨ed, 0, none⟩) 64 ec] 32 (0, 0)
    have H11 := Lib.hid (H10.out.ext XC)
    have HSN := HU.out.m.qs (H11.out.fr)
    refine hK.out _ _ (fun _ => HSN) ?_
    clear hK K HSN
    clear XC
    generalize w10.alloc (.cells #[.slice (some ⟨ed, 0, none⟩) 64 ec] 32) = w11 at *
    generalize w10.heap.size = cb at *
    try simp only [Act.put, List.setIfInBounds_toArray, List.set_cons_zero, List.set_cons_succ]
    refine d_one (i := 17) (by kernel_rfl) rfl rfl (fun K hK => ?_)
    simp only [List.getElem_toArray, List.getElem_cons_succ, List.getElem_cons_zero]
    refine oper_app (w := w11) (m := 1) (d := 1) (news := [.slice (some ⟨ed, 0, none⟩) 64 ec]) eltB H11.out.da RN2 (by simp [Value.oneCell']) (by omega) (.inr ⟨by omega, by omega⟩) (Nat.zero_le _) (.tmp 44) (.tmp 48) rfl rfl rfl ?_
    intro D3 d3 w12 o7 g12 hD3 _
    have H12 := Lib.hid (H11.out.fin (wr := wr) HEC.out o7 g12 hD3)
    have B12 := Lib.hid (H11.out.qblk g12)
    have HSN : w12.cell? ⟨q, 2, none⟩ = some (.slice AA l.length ac) ∧ w12.cell? ⟨q, 3, none⟩ = some (.slice DA l.length dc) := ⟨block_cell B12.out 2, block_cell B12.out 3⟩
    have HS1 := HSN
    refine hK.out _ _ (fun _ => HSN) ?_
    clear hK K HSN
    clear o7 g12 hD3 RN2
    try simp only [Act.put, List.setIfInBounds_toArray, List.set_cons_zero, List.set_cons_succ]
    refine d_take2 (i := 18) (v := ?_) [19, 20, 21, 22, 23] (some 50) rfl (by rfl) (by kernel_rfl) (by kernel_rfl) (by kernel_rfl) (by kernel_rfl) (by kernel_rfl) (by kernel_rfl) (fun _ _ _ h => h) (.inl ⟨by rfl, ?_⟩) HS1 ?_
    rotate_left 1
    · (intro W hW; (try dsimp only at hW); go_simp; try with_reducible rfl)
    try simp only [Act.put, List.setIfInBounds_toArray, List.set_cons_zero, List.set_cons_succ]
    refine d_take2 (i := 19) (v := ?_) [20, 21, 22, 23] (some 51) rfl (by rfl) (by kernel_rfl) (by kernel_rfl) (by kernel_rfl) (by kernel_rfl) (by kernel_rfl) (by kernel_rfl) (fun _ _ _ h => h) (.inl ⟨by rfl, ?_⟩) HS1 ?_
    rotate_left 1
    · (intro W hW; (try dsimp only at hW); go_simp; try with_reducible rfl)
    try simp only [Act.put, List.setIfInBounds_toArray, List.set_cons_zero, List.set_cons_succ]
    have e2 : w12.cell? ⟨q, 2, none⟩ = some (.slice AA l.length ac) := block_cell B12.out 2
    have f2 := block_fz B12.out 2
    refine d_one (i := 20) (by kernel_rfl) rfl rfl (fun K hK => ?_)
    simp only [List.getElem_toArray, List.getElem_cons_succ, List.getElem_cons_zero]
    go_simp
    refine hK.out _ _ (fun h => absurd h (by decide)) ?_
    clear hK K
    have B13 := heap_setCell_same w12 q 2 _ _ (.slice A3 (l.length + 1) c3) B12.out
    have HB13 := Lib.hid B13
    clear e2 f2 B13
    generalize w12.setCell ⟨q, 2, none⟩ (.slice A3 (l.length + 1) c3) = w13 at *
    try simp only [Act.put, List.setIfInBounds_toArray, List.set_cons_zero, List.set_cons_succ]
    refine d_pure (i := 21) (v := ?_) (some 52) rfl (by rfl) (by kernel_rfl) (by kernel_rfl) (by kernel_rfl) (by kernel_rfl) (fun _ _ _ h => h) (.inl ⟨by rfl, ?_⟩) ?_
    rotate_left 1
    · (intro W hW; go_simp; try with_reducible rfl)
    try simp only [Act.put, List.setIfInBounds_toArray, List.set_cons_zero, List.set_cons_succ]
    refine d_pure (i := 22) (v := ?_) (some 53) rfl (by rfl) (by kernel_rfl) (by kernel_rfl) (by kernel_rfl) (by kernel_rfl) (fun _ _ _ h => h) (.inl ⟨by rfl, ?_⟩) ?_
    rotate_left 1
    · (intro W hW; go_simp; try with_reducible rfl)
    try simp only [Act.put, List.setIfInBounds_toArray, List.set_cons_zero, List.set_cons_succ]
    have e3 : w13.cell? ⟨q, 3, none⟩ = some (.slice DA l.length dc) := block_cell HB13.out 3
    have f3 := block_fz HB13.out 3
    refine d_one (i := 23) (by kernel_rfl) rfl rfl (fun K hK => ?_)
    simp only [List.getElem_toArray, List.getElem_cons_succ, List.getElem_cons_zero]
    go_simp
    refine hK.out _ _ (fun h => absurd h (by decide)) ?_
    clear hK K
    have B14 := heap_setCell_same w13 q 3 _ _ (.slice D3 (l.length + 1) d3) HB13.out
    have HB14 := Lib.hid B14
    clear e3 f3 B14
    generalize w13.setCell ⟨q, 3, none⟩ (.slice D3 (l.length + 1) d3) = w14 at *
    try simp only [Act.put, List.setIfInBounds_toArray, List.set_cons_zero, List.set_cons_succ]
    refine d_done (by kernel_rfl) ?_ _
    clear HS1
    have e4 : w14.cell? ⟨q, 4, none⟩ = some (.int .i64 wr) := block_cell HB14.out 4
    have f4 := block_fz HB14.out 4
    have wq : IntKind.i64.wrap (wr + 1) = wr + 1 := by rw [IntKind.wrap_i64]; omega
    go_wp2_with fail
    go_returns
    exact ⟨rfl, H12.out⟩
end
end Go.Proofs.YtchkeclhnbekkaaDoor
