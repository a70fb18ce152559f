/-
  The statement GuestRuns, walked.
-/
import Derived.Test.YtbpbmelfhgbogaaDoorGsRunsL
import Derived.BigRegion
import Derived.Lib.AppendZeros
namespace Go.Proofs.YtbpbmelfhgbogaaDoor
set_option maxRecDepth 100000
open Go.RowKit
set_option linter.unusedVariables false
/-- What a round keeps. -/
structure RS (w wr : World) (g : Nat) (F : Nat → Prop) (p : Int) (ts : List TaskV) (ks : List TkV) (js : List JobV) (xb wb rb : Nat) (Vs : List Value) (Rs : List Int) (LA : Option Addr) (M : Nat) (os : List O5) (A B : Option Addr) (n c m e : Nat) : Prop where
  gp : GP wr g F p ks js
  tk : tsk ks = ts
  ino : Inorder js
  lst : ∀ j ∈ js, ∀ x, ks[j.T]? = some x → x.was = true ∧ j.R ≤ x.last
  xbx : wr.heap[xb]? = some (.cells #[.int .i64 p, .slice A n c, .slice B m e] 25 (0, 0))
  ext : Ext w wr
  fw : ∀ b, F b → w.heap.size ≤ b
  fx : ¬ F xb
  ld : LD wr w.heap.size n wb rb Vs (wantL js) Rs
  rs : ∀ t, t < n → Rs[t]? = some (ranL js t)
  sep : ∀ b, LB wb rb Vs b → ¬ F b
  xsep : ¬ LB wb rb Vs xb
  mpos : 0 < M
  ops : Rd wr 5 LA M (o5rows os).flatten
  osep : ∀ a, LA = some a → ¬ F a.block ∧ ¬ LB wb rb Vs a.block
section
variable {w wr w' : World} {g : Nat} {F F' : Nat → Prop} {p : Int} {ts : List TaskV} {ks ks' : List TkV} {js js' : List JobV} {xb wb rb : Nat} {Vs : List Value} {Rs : List Int} {LA : Option Addr} {M : Nat} {os : List O5} {A B : Option Addr} {n c m e : Nat}
theorem RS.ex (h : RS w wr g F p ts ks js xb wb rb Vs Rs LA M os A B n c m e) (hx : Ext wr w') : RS w w' g F p ts ks js xb wb rb Vs Rs LA M os A B n c m e :=
  ⟨h.gp.ext hx, h.tk, h.ino, h.lst, (hx.block _ (block_lt h.xbx)).trans h.xbx, h.ext.trans hx, h.fw, h.fx, h.ld.ext hx, h.rs, h.sep, h.xsep, h.mpos, h.ops.ext hx, h.osep⟩
theorem RS.olt (h : RS w wr g F p ts ks js xb wb rb Vs Rs LA M os A B n c m e) {a : Addr} (ha : LA = some a) : a.block < wr.heap.size := by
  obtain ⟨ad, e, hlt, _⟩ := h.ops.2 h.mpos
  rw [ha] at e
  injection e with e
  subst e
  exact hlt
/-- The guest has turned, and the law's own memory. -/
theorem RS.step {w5 V w8 : World} {Vs' : List Value} {Rs' : List Int} (h : RS w wr g F p ts ks js xb wb rb Vs Rs LA M os A B n c m e) (hn : Next_ wr w5 g F F' p ks' js') (htk : tsk ks' = ts) (hino : Inorder js') (hlst : ∀ j ∈ js', ∀ x, ks'[j.T]? = some x → x.was = true ∧ j.R ≤ x.last)
    (hx : Ext w5 V) (hl : LD w8 w.heap.size n wb rb Vs' (wantL js') Rs') (hf : Fr V w8 (LB wb rb Vs)) (hb : ∀ b, LB wb rb Vs' b → LB wb rb Vs b ∨ V.heap.size ≤ b) (hrs : ∀ t, t < n → Rs'[t]? = some (ranL js' t)) :
    RS w w8 g F' p ts ks' js' xb wb rb Vs' Rs' LA M os A B n c m e := by
  have hX := next_ext h.ext hn h.fw
  have z5 := hn.fr.size
  have zV := hx.size
  have hnF : ∀ b, LB wb rb Vs b → ¬ F' b := fun b hb => hn.out (h.ld.lt hb).1 (h.sep b hb)
  have b1 := hn.blk h.xbx h.fx
  have b2 := (hx.block _ (block_lt b1)).trans b1
  have hxl := block_lt h.xbx
  refine ⟨(hn.gp.ext hx).fr hf (fun b hb1 hb2 => hnF b hb2 hb1), htk, hino, hlst, (hf.block _ (block_lt b2) h.xsep).trans b2, Fr.ext (hX.1.trans hx) hf (fun i hi => (h.ld.lt hi).2), hX.2, hn.out hxl h.fx, hl, hrs, fun b hb1 hb2 => ?_, fun hb1 => ?_, h.mpos, hf.rd ((hn.fr.rd h.ops (fun a ha => (h.osep a ha).1)).ext hx) (fun a ha => (h.osep a ha).2), fun a ha => ⟨hn.out (h.olt ha) (h.osep a ha).1, fun hb1 => ?_⟩⟩
  · rcases hb b hb1 with e | e
    · exact hnF b e hb2
    · have := hn.gp.lt b hb2; omega
  · rcases hb _ hb1 with e | e
    · exact h.xsep e
    · omega
  · rcases hb _ hb1 with e | e
    · exact (h.osep a ha).2 e
    · have := h.olt ha; omega
theorem RS.no (h : RS w wr g F p ts ks js xb wb rb Vs Rs LA M os A B n c m e) (hn : Next_ wr w' g F F' p ks js) : RS w w' g F' p ts ks js xb wb rb Vs Rs LA M os A B n c m e :=
  h.step hn h.tk h.ino h.lst (Ext.refl w') (h.ld.fr hn.fr h.sep) (Fr.refl w' _) (fun b hb => .inl hb) h.rs
theorem RS.yesP (h : RS w wr g F p ts ks js xb wb rb Vs Rs LA M os A B n c m e) {k : Nat} {x : TkV} {now ticks : Int} (hk : ks[k]? = some x) (hf : x.free now) (hp : 1 ≤ x.t.P) :
    Inorder (js ++ [newJ k now ticks x.t]) ∧ ∀ j ∈ js ++ [newJ k now ticks x.t], ∀ y, (ks.set k ⟨x.t, now, true⟩)[j.T]? = some y → y.was = true ∧ j.R ≤ y.last := by
  have hkl := (List.getElem?_eq_some_iff.1 hk).1
  have old : ∀ y ∈ js, y.T = k → y.R < now := fun y hy e => by
    obtain ⟨h1, h2⟩ := h.lst y hy x (by rw [e]; exact hk)
    rcases hf with e2 | e2
    · rw [e2] at h1; cases h1
    · omega
  refine ⟨h.ino.push rfl (fun y hy e => old y hy e), fun j hj y hy => ?_⟩
  rcases List.mem_append.1 hj with hj | hj
  · rcases set_at hy with ⟨e1, e2⟩ | ⟨e1, e2⟩
    · subst e2
      exact ⟨rfl, Int.le_of_lt (old j hj e1)⟩
    · exact h.lst j hj y e2
  · simp at hj
    subst hj
    have e1 : (ks.set k ⟨x.t, now, true⟩)[(newJ k now ticks x.t).T]? = some ⟨x.t, now, true⟩ := List.getElem?_set_self hkl
    rw [e1] at hy
    injection hy with hy
    subst hy
    exact ⟨rfl, Int.le_refl _⟩
theorem wantL_new (js : List JobV) (k : Nat) (now ticks : Int) (t : TaskV) : wantL (js ++ [newJ k now ticks t]) k = wantL js k ++ [newJ k now ticks t] ∧ ∀ s, s ≠ k → wantL (js ++ [newJ k now ticks t]) s = wantL js s := by
  refine ⟨?_, fun s hs => ?_⟩
  · rw [wantL_push _ _ rfl]
    have e : (newJ k now ticks t).T = k := rfl
    rw [if_pos e]
    congr 2
    unfold newJ JobV.orig
    simp
  · rw [wantL_push _ _ rfl, if_neg (show ¬ (newJ k now ticks t).T = s from fun e => hs e.symm), List.append_nil]
theorem lst_tick {i : Nat} (h : ∀ j ∈ js, ∀ x, ks[j.T]? = some x → x.was = true ∧ j.R ≤ x.last) (hi : i < js.length) : ∀ j ∈ ranJ js i, ∀ x, ks[j.T]? = some x → x.was = true ∧ j.R ≤ x.last := fun j hj x hx => by
  unfold ranJ at hj
  split at hj
  · exact h j (List.mem_of_mem_eraseIdx hj) x hx
  · rcases List.mem_or_eq_of_mem_set hj with hj | hj
    · exact h j hj x hx
    · subst hj
      exact h _ (List.mem_of_getElem? (at_of jz hi)) x hx
end
theorem lg_off {p : Int} {ts : List TaskV} (h : ¬ LG p ts) : IffB false (LG p ts) := ⟨(fun e => by cases e), fun e => absurd e h⟩
theorem eltLl : Elt Tryd.prog 43 36 1 24 (.slice none 0 0) := ⟨Tryd.underlying43, by kernel_rfl, rfl, by omega⟩
theorem eltIn : Elt Tryd.prog 44 3 1 8 (.int .i64 0) := ⟨Tryd.underlying44, by kernel_rfl, rfl, by omega⟩
theorem eltOp : Elt Tryd.prog 23 35 5 40 (.agg #[.int .i64 0, .int .i64 0, .int .i64 0, .int .i64 0, .int .i64 0]) := ⟨Tryd.underlying23, by kernel_rfl, rfl, by omega⟩
theorem o5_one (os : List O5) : ∀ u ∈ (o5rows os).flatten, u.oneCell' = true := fun u hu => by
  obtain ⟨r, hr, hu⟩ := List.mem_flatten.1 hu
  obtain ⟨o, _, rfl⟩ := List.mem_map.1 hr
  simp only [O5.cells, List.mem_cons, List.not_mem_nil, or_false] at hu
  rcases hu with rfl | rfl | rfl | rfl | rfl <;> rfl
def noOps : List O5 := List.replicate 400 ⟨0, 0, 0, 0, 0⟩
theorem zeros_ops (m : Nat) : (Builtin.zeroCells (Value.agg #[.int .i64 0, .int .i64 0, .int .i64 0, .int .i64 0, .int .i64 0]).cells m).toList = (o5rows (List.replicate m ⟨0, 0, 0, 0, 0⟩)).flatten := by
  have e1 : (Builtin.zeroCells (Value.agg #[.int .i64 0, .int .i64 0, .int .i64 0, .int .i64 0, .int .i64 0]).cells m).toList = List.replicate (m * 5) (.int .i64 0) := by
    refine List.eq_replicate_iff.2 ⟨by simp [Value.cells, size_zeroCells], fun b hb => ?_⟩
    simp only [Builtin.zeroCells, Array.toList_map, List.mem_map] at hb
    obtain ⟨i, _, rfl⟩ := hb
    have : i % 5 < 5 := Nat.mod_lt _ (by omega)
    show (#[.int .i64 0, .int .i64 0, .int .i64 0, .int .i64 0, .int .i64 0] : Array Value)[i % 5]! = _
    generalize i % 5 = k at *
    match k, this with
    | 0, _ => rfl
    | 1, _ => rfl
    | 2, _ => rfl
    | 3, _ => rfl
    | 4, _ => rfl
  rw [e1]
  symm
  refine List.eq_replicate_iff.2 ⟨by simp [o5rows, O5.cells, List.map_replicate, List.length_flatten], fun b hb => ?_⟩
  obtain ⟨r, hr, hu⟩ := List.mem_flatten.1 hb
  obtain ⟨o, ho, rfl⟩ := List.mem_map.1 hr
  rw [List.eq_of_mem_replicate ho] at hu
  simp only [O5.cells, List.mem_cons, List.not_mem_nil, or_false] at hu
  rcases hu with rfl | rfl | rfl | rfl | rfl <;> rfl
theorem nov {n t : Nat} {A : Option Addr} {l c : Nat} (h : (List.replicate n (Value.slice none 0 0))[t]? = some (.slice A l c)) : A = none := by
  rw [List.getElem?_replicate] at h
  split at h
  · injection h with h; injection h with h1 _ _; exact h1.symm
  · cases h
theorem LD.made {w : World} {base n wb rb : Nat} (h1 : Own w base 36 1 (some ⟨wb, 0, none⟩) n n (List.replicate n (.slice none 0 0))) (h2 : Own w base 3 1 (some ⟨rb, 0, none⟩) n n (List.replicate n (.int .i64 0))) (hne : wb ≠ rb) :
    LD w base n wb rb (List.replicate n (.slice none 0 0)) (wantL []) (List.replicate n 0) := by
  have e : ints (List.replicate n 0) = List.replicate n (.int .i64 0) := by simp [ints]
  refine ⟨h1, by rw [e]; exact h2, fun t ht => ⟨none, 0, 0, by rw [List.getElem?_replicate, if_pos ht], rfl, OwnA.nil_⟩, hne, fun t A l c a h3 h4 => ?_, fun t s A l c A' l' c' a a' _ h3 h4 _ _ => ?_⟩
  · rw [nov h3] at h4; cases h4
  · rw [nov h3] at h4; cases h4
theorem LB_made {n wb rb b : Nat} (h : LB wb rb (List.replicate n (.slice none 0 0)) b) : b = wb ∨ b = rb := by
  rcases h with h | h | ⟨t, A, l, c, a, h1, h2, rfl⟩
  · exact .inl h
  · exact .inr h
  · rw [nov h1] at h2; cases h2
set_option maxHeartbeats 24000000 in
theorem gruns_any (p : Int) (A B : Option Addr) (n c m e : Nat) (ts : List TaskV) (os0 : List O5) (w : World) (hn : n * 32 ≤ 140737488351232) (hr : Rd w 4 A n (trows ts).flatten) (hm : m * 40 ≤ 140737488351232) (hol : os0.length = m) (hro : Rd w 5 B m (o5rows os0).flatten)
    {pn pb pf pt ps : Addr} (hE : GErr w pn pb pf pt) (hS : Sen w 4 ps) :
    Calls Tryd.prog 4 #[.agg #[.int .i64 p, .slice A n c, .slice B m e]] w fun e w' => e = .returned (.bool true) ∧ Ext w w' := by
  have X0 := (Ext.refl w).alloc (.cells #[.int .i64 p, .slice A n c, .slice B m e] 25)
  have hb0 := heap_alloc_new w (.cells #[.int .i64 p, .slice A n c, .slice B m e] 25)
  have AL := Lib.hid (galive_any _ (hE.ext X0))
  have HW := Lib.hid (And.intro X0 (And.intro hb0 (And.intro hE hS)))
  have HR := Lib.hid (And.intro hr (And.intro hro (And.intro hol hr.len_t)))
  clear X0 hb0 hE hS hr hro hol
  go_enter Tryd.func4, Tryd.ntmps4
  go_wp2_with fail
  refine AL.out.mono ?_
  rintro e0 w1 ⟨rfl, x1⟩
  have X1 := HW.out.1.trans x1
  have b1 := (x1.block _ (block_lt HW.out.2.1)).trans HW.out.2.1
  have q0 : w1.cell? ⟨w.heap.size, 0, none⟩ = some (.int .i64 p) := block_cell b1 0
  have q1 : w1.cell? ⟨w.heap.size, 1, none⟩ = some (.slice A n c) := block_cell b1 1
  have H1 := Lib.hid (And.intro X1 b1)
  clear AL x1 X1 b1
  by_cases hL : LG p ts
  · have NW := Lib.hid (news_ok p A n c ts w1 (HR.out.1.ext H1.out.1) (HW.out.2.2.1.task.ext H1.out.1) hL)
    have HLG := Lib.hid hL
    clear hL
    go_wp2_with fail
    refine NW.out.mono ?_
    rintro e0 w2 ⟨g, F, rfl, h2, f2, x2⟩
    have X2 := H1.out.1.trans x2
    have b2 := (x2.block _ (block_lt H1.out.2)).trans H1.out.2
    have z1 := H1.out.1.size
    have zlt := block_lt H1.out.2
    have z2 := x2.size
    have hn8 : n ≤ 8 := by have := HLG.out.2.2.1; have := HR.out.2.2.2; omega
    have p0 : w2.cell? ⟨w.heap.size, 1, none⟩ = some (.slice A n c) := block_cell b2 1
    obtain ⟨w3, hm3, o3, x3, hs3⟩ := run_mkn (P := Tryd.prog) (w := w2) eltLl rfl w.heap.size .i64 .i64 (n : Int) (by omega) (by omega) (by omega) (by omega)
    rw [Int.toNat_natCast] at hm3 o3
    have b3 := (x3.block _ (block_lt b2)).trans b2
    have p1 : w3.cell? ⟨w.heap.size, 1, none⟩ = some (.slice A n c) := block_cell b3 1
    obtain ⟨w4, hm4, o4, x4, hs4⟩ := run_mkn (P := Tryd.prog) (w := w3) eltIn rfl w.heap.size .i64 .i64 (n : Int) (by omega) (by omega) (by omega) (by omega)
    rw [Int.toNat_natCast] at hm4 o4
    have b4 := (x4.block _ (block_lt b3)).trans b3
    have XL := (Ext.refl w4).alloc (.cells #[] 35)
    have p2 : (w4.alloc (.cells #[] 35)).cell? ⟨w.heap.size, 2, none⟩ = some (.slice B m e) := block_cell ((XL.block _ (block_lt b4)).trans b4) 2
    have X4 := Lib.hid (X2.trans (x3.trans x4))
    have XL := Lib.hid XL
    have HG := Lib.hid (And.intro h2 (And.intro f2 (And.intro x2 (And.intro o3 (And.intro x3 (And.intro hs3 (And.intro o4 (And.intro x4 hs4))))))))
    have HB4 := Lib.hid b4
    have z4 : w.heap.size ≤ w4.heap.size := X4.out.size
    clear NW h2 f2 x2 X2 b2 o3 x3 hs3 o4 x4 hs4 b3 b4 q0 q1
    go_upto_region 8 with (fail)
    go_wp2_with (at_builtin; refine held ?_)
    refine Held.go (wp_app (m := m) (news := (o5rows os0).flatten) eltOp (base := w4.heap.size) (n := 0) (c := 0) (xs := []) (World.ownsRow_lit (size := 5) _ #[] 0 (Nat.le_refl _) (by simp [maxLen]) rfl) (HR.out.2.1.ext (X4.out.trans XL.out)) (o5_one _) (by omega) (.inr ⟨by omega, by omega⟩) (by simp) _ _ rfl rfl rfl rfl ?_)
    intro A5 c5 w5 o5 g5 hA5 _
    rw [List.nil_append, Nat.zero_add] at o5
    rw [Nat.zero_add]
    have x5 : Ext w4 w5 := g5.ext ((Ext.refl w4).alloc _) (fun g hg => by injection hg with hg; rw [← hg]; exact Nat.le_refl _)
    obtain ⟨ga, rfl⟩ : ∃ ga, A5 = some ⟨ga, 0, none⟩ := by
      rcases hA5 with e | e
      · exact ⟨_, e⟩
      · exact ⟨_, e⟩
    obtain ⟨A6, c6, w6, hrun6, o6, g6, hA6⟩ := run_app_zeros (P := Tryd.prog) (w := w5) eltOp (tn := 3) (k := .i64) (kn := .i64) (by kernel_rfl) 23 o5 (m := 400) (by omega) (by rw [zeros_ops]; exact o5_one _) (by omega) ⟨by omega, by omega⟩ x5.size
    rw [zeros_ops] at o6
    have x6 := o5.fr_ext x5 (Nat.le_refl _) (Fr.grows g6)
    have e6 : (o5rows os0).flatten ++ (o5rows (List.replicate 400 ⟨0, 0, 0, 0, 0⟩)).flatten = (o5rows (os0 ++ List.replicate 400 ⟨0, 0, 0, 0, 0⟩)).flatten := by simp [o5rows]
    rw [e6] at o6
    have h6 : ∀ a, A6 = some a → w4.heap.size ≤ a.block := fun a ha => by
      subst ha
      rcases hA6 with e | e
      · injection e with e; subst e; exact o5.base_le _ rfl
      · injection e with e; subst e; exact x5.size
    obtain ⟨os, hos⟩ : ∃ os, os0 ++ List.replicate 400 ⟨0, 0, 0, 0, 0⟩ = os := ⟨_, rfl⟩
    have hol : os.length = m + 400 := by rw [← hos, List.length_append, List.length_replicate, HR.out.2.2.1]
    rw [hos] at o6
    have O6 := Lib.hid (And.intro o6.rd (And.intro h6 x6))
    have HRUN := Lib.hid hrun6
    have HOL := Lib.hid hol
    clear g5 x5 o6 g6 hA6 x6 e6 h6 hos hol hrun6 hm3 hm4 p0 p1 p2
    go_wp2_with (at_builtin; refine held ?_)
    refine Held.go (Lib.wpList_append_run _ rfl _ _ _ _ rfl _ _ rfl rfl _ _ HRUN.out ?_)
    clear HRUN o5 hA5
    obtain ⟨M, hM⟩ : ∃ M, m + 400 = M := ⟨_, rfl⟩
    rw [hM] at O6 HOL ⊢
    have J0 : RS w w6 g F p ts (fresh ts) [] w.heap.size w2.heap.size w3.heap.size (List.replicate n (.slice none 0 0)) (List.replicate n 0) A6 M os A B n c m e := by
      obtain ⟨h2, f2, x2, o3, x3, hs3, o4, x4, hs4⟩ := HG.out
      have x6 := O6.out.2.2
      have L4 := LD.made ((Fr.of_ext x4 (fun _ => False)).own o3 (fun _ _ h => h)) o4 (by omega)
      have hxl := block_lt HW.out.2.1
      have hw1 := H1.out.1.size
      have hxl1 := block_lt H1.out.2
      have hw2 := x2.size
      refine ⟨h2.ext (x3.trans (x4.trans x6)), fresh_tsk ts, Inorder.nil_, fun j hj => (by cases hj), (x6.block _ (block_lt HB4.out)).trans HB4.out, X4.out.trans x6, fun b hb => (by have := f2 b hb; omega), fun hb => (by have := f2 _ hb; omega), L4.ext x6, fun t ht => by rw [List.getElem?_replicate, if_pos ht]; rfl, fun b hb hF => ?_, fun hb => ?_, by omega, O6.out.1, fun a ha => ⟨fun hF => ?_, fun hb => ?_⟩⟩
      · have := h2.lt _ hF
        rcases LB_made hb with e | e <;> omega
      · rcases LB_made hb with e | e <;> omega
      · have := h2.lt _ hF
        have := O6.out.2.1 a ha
        omega
      · have := O6.out.2.1 a ha
        rcases LB_made hb with e | e <;> omega
    have HJ := Lib.hid J0
    clear J0 HG HB4 O6 XL X4
    go_wp2_with fail
    generalize w6 = U at *
    generalize w2.heap.size = wb at *
    generalize w3.heap.size = rb at *
    generalize w.heap.size = xb at *
    go_loopw [7, 8, 9, 10, 11, 12, 13, 50] (fun _ _ _ _ _ _ _ v50 wr => ∃ (i : Nat) (F : Nat → Prop) (ks : List TkV) (js : List JobV) (Vs : List Value) (Rs : List Int), v50 = .int .i64 (i : Int) ∧ i ≤ M ∧ Hid (RS w wr g F p ts ks js xb wb rb Vs Rs A6 M os A B n c m e)) (fun _ _ _ _ _ _ _ v50 _ => M - (intOf v50).toNat)
    case atStart => exact ⟨0, F, fresh ts, [], _, _, rfl, by omega, HJ.out⟩
    case round =>
      obtain ⟨i, F, ks, js, Vs, Rs, rfl, hi, HI⟩ := hrel
      obtain ⟨U2, hU2⟩ : ∃ U2, U2 = wr := ⟨_, rfl⟩
      subst hU2
      clear HJ
      by_cases hlt : i < M
      · obtain ⟨o, ho⟩ : ∃ o, os[i]? = some o := ⟨os[i]'(by rw [HOL.out]; exact hlt), List.getElem?_eq_getElem _⟩
        obtain ⟨i5, hi5⟩ : ∃ i5, i * 5 = i5 := ⟨_, rfl⟩
        have hrr := HI.out.ops
        obtain ⟨ad, rfl, _, _⟩ := hrr.2 (show 0 < M by omega)
        have k0 := hrr.rowAt (o5_even os) (o5_at ho) hi5 (i := 0) rfl
        have k1 := hrr.rowAt (o5_even os) (o5_at ho) hi5 (i := 1) rfl
        have k2 := hrr.rowAt (o5_even os) (o5_at ho) hi5 (i := 2) rfl
        have k3 := hrr.rowAt (o5_even os) (o5_at ho) hi5 (i := 3) rfl
        have k4 := hrr.rowAt (o5_even os) (o5_at ho) hi5 (i := 4) rfl
        rw [Nat.add_zero] at k0
        rw [← add_add', add_lit' _ (by omega)] at k1 k2 k3 k4
        have z0 : (0 : Int) ≤ i := by omega
        have z1 : (i : Int) < M := by omega
        have XV := (Ext.refl U2).alloc (.cells #[.int .i64 o.K, .int .i64 o.Q, .int .i64 o.T, .int .i64 o.W, .int .i64 o.X] 35)
        have hbo := heap_alloc_new U2 (.cells #[.int .i64 o.K, .int .i64 o.Q, .int .i64 o.T, .int .i64 o.W, .int .i64 o.X] 35)
        have hfo : ¬ F U2.heap.size := fun h => by have := HI.out.gp.lt _ h; omega
        have hlo : ¬ LB wb rb Vs U2.heap.size := fun h => by have := (HI.out.ld.lt h).1; omega
        have HV := Lib.hid (And.intro (HI.out.ex XV) (And.intro hbo (And.intro hfo hlo)))
        have HTB := Lib.hid (show ∀ b, LB wb rb Vs b → b < U2.heap.size from fun b hb => (HI.out.ld.lt hb).1)
        clear XV hbo hfo hlo hrr ho HI
        go_upto_region 11 with (fail)
        generalize U2.alloc (.cells #[.int .i64 o.K, .int .i64 o.Q, .int .i64 o.T, .int .i64 o.W, .int .i64 o.X] 35) = V at *
        generalize U2.heap.size = ob at *
        have J := Lib.hid HV.out.1
        have b1 : V.cell? ⟨ob, 0, none⟩ = some (.int .i64 o.K) := block_cell HV.out.2.1 0
        have b3 : V.cell? ⟨ob, 2, none⟩ = some (.int .i64 o.T) := block_cell HV.out.2.1 2
        have b4 : V.cell? ⟨ob, 3, none⟩ = some (.int .i64 o.W) := block_cell HV.out.2.1 3
        have b5 : V.cell? ⟨ob, 4, none⟩ = some (.int .i64 o.X) := block_cell HV.out.2.1 4
        clear k0 k1 k2 k3 k4 hi5
        by_cases h15 : (1500 : Int) < (i : Int)
        · go_wp2_with fail
          go_returns
          exact ⟨rfl, J.out.ext⟩
        · by_cases hK : o.K = 1
          · have RL := Lib.hid (release_any J.out.gp o.T o.W o.X (HW.out.2.2.1.rel.ext J.out.ext))
            have hKb : (o.K == 1) = true := by simp [hK]
            go_wp2_with fail
            refine RL.out.mono ?_
            rintro e0 w5 ⟨v, F', ks', js', rfl, n5, hv⟩
            clear RL b1 b3 b4 b5
            rcases hv with ⟨rfl, hT⟩ | ⟨qa, rfl, _, rfl, rfl⟩
            · as_aux_lemma =>
                obtain ⟨k, x, hk, hx, h0, h1, hfr, hl64, hks, hjs⟩ := hT
                have hkt : ts[k]? = some x.t := by rw [← J.out.tk]; unfold tsk; rw [List.getElem?_map, hx]; rfl
                have hkn : k < n := by have := HR.out.2.2.2; have := (List.getElem?_eq_some_iff.1 hkt).1; omega
                have hleg := J.out.gp.gi.leg x.t (List.mem_map.2 ⟨x, List.mem_of_getElem? hx, rfl⟩)
                obtain ⟨g1, g2, g3, g4, _, _⟩ := hleg
                obtain ⟨ta, rfl, _, _⟩ := HR.out.1.2 (show 0 < n by omega)
                obtain ⟨T4, hT4⟩ : ∃ T4, k * 4 = T4 := ⟨_, rfl⟩
                have X5 := (next_ext J.out.ext n5 J.out.fw).1
                have hrr := (HR.out.1.ext X5)
                have m0 := hrr.rowAt (trows_even ts) (trows_at hkt) hT4 (i := 0) rfl
                have m1 := hrr.rowAt (trows_even ts) (trows_at hkt) hT4 (i := 1) rfl
                have m2 := hrr.rowAt (trows_even ts) (trows_at hkt) hT4 (i := 2) rfl
                have m3 := hrr.rowAt (trows_even ts) (trows_at hkt) hT4 (i := 3) rfl
                rw [Nat.add_zero] at m0
                rw [← add_add', add_lit' _ (by omega)] at m1 m2 m3
                have hb5 := n5.blk HV.out.2.1 HV.out.2.2.1
                have hx5 := n5.blk J.out.xbx J.out.fx
                have c1 := block_cell hx5 1
                have e2 : w5.cell? ⟨ob, 2, none⟩ = some (.int .i64 (k : Int)) := by rw [← hk]; exact block_cell hb5 2
                have eK : w5.cell? ⟨ob, 0, none⟩ = some (.int .i64 1) := by rw [← hK]; exact block_cell hb5 0
                have L5 := J.out.ld.fr n5.fr J.out.sep
                have y0 : (0 : Int) ≤ (k : Int) := by omega
                have y1 : (k : Int) < n := by omega
                obtain ⟨M', hM⟩ : ∃ M', max o.X 1 = M' := ⟨_, rfl⟩
                obtain ⟨L, hL⟩ : ∃ L, min M' x.t.C = L := ⟨_, rfl⟩
                have HJ := Lib.hid (show newJ k o.W o.X x.t = ⟨k, o.W, o.W + x.t.D, L, 0⟩ by unfold newJ cutT; rw [hM, hL])
                have hmax : ∀ w, (Builtin.max_ #[3, 3] 3 #[.int .i64 o.X, .int .i64 1]).run Tryd.prog w = .ok (.int .i64 M') w := fun w => by
                  rw [run_max_int2, ← hM]
                  congr 2
                  split <;> omega
                have hmin : ∀ w, (Builtin.min_ #[3, 3] 3 #[.int .i64 M', .int .i64 x.t.C]).run Tryd.prog w = .ok (.int .i64 L) w := fun w => by
                  rw [run_min_int2, ← hL]
                  congr 2
                  split <;> omega
                have HYP := Lib.hid (J.out.yesP hx hfr (ticks := o.X) (by omega))
                have HT := Lib.hid (And.intro hx (And.intro hks hjs))
                have HTK := Lib.hid (tsk_set hx o.W true)
                have XT := (Ext.refl w5).alloc (.cells #[.int .i64 x.t.C, .int .i64 x.t.P, .int .i64 x.t.D, .int .i64 x.t.S] 41)
                have hbt := heap_alloc_new w5 (.cells #[.int .i64 x.t.C, .int .i64 x.t.P, .int .i64 x.t.D, .int .i64 x.t.S] 41)
                obtain ⟨xt, xl, xw⟩ := x
                dsimp only at *
                have h6 := (XT.block ob (block_lt hb5)).trans hb5
                have HTZ := Lib.hid n5.fr.size
                have H6 := Lib.hid (And.intro (L5.ext XT) (And.intro h6 (And.intro hbt (And.intro n5 XT))))
                clear hrr hkt hx hfr hks hjs hM hL hb5 hx5 L5 XT hbt h6 X5
                go_upto_region 14 with (fail)
                clear m0 m1 m2 m3 c1 e2 eK hT4
                generalize w5.alloc (.cells #[.int .i64 xt.C, .int .i64 xt.P, .int .i64 xt.D, .int .i64 xt.S] 41) = V at *
                generalize w5.heap.size = tb at *
                obtain ⟨wA, wl_, wc_, hV, hwl, hoA⟩ := H6.out.1.wsl k hkn
                have c0 : V.cell? ⟨wb, k, none⟩ = some (.slice wA wl_ wc_) := H6.out.1.wow.cellAt hkn hV
                have b2 : V.cell? ⟨ob, 2, none⟩ = some (.int .i64 (k : Int)) := by rw [← hk]; exact block_cell H6.out.2.1 2
                have b3 : V.cell? ⟨ob, 3, none⟩ = some (.int .i64 o.W) := block_cell H6.out.2.1 3
                have b4 : V.cell? ⟨ob, 4, none⟩ = some (.int .i64 o.X) := block_cell H6.out.2.1 4
                have t0 : V.cell? ⟨tb, 0, none⟩ = some (.int .i64 xt.C) := block_cell H6.out.2.2.1 0
                have t2 : V.cell? ⟨tb, 2, none⟩ = some (.int .i64 xt.D) := block_cell H6.out.2.2.1 2
                have hwlen : wl_ ≤ 64 := by
                  rw [hwl]
                  unfold wantL ofT
                  rw [List.length_map]
                  exact Nat.le_trans (List.length_filter_le _ _) (by omega)
                have XA : Ext V (V.alloc (.cells #[.int .i64 (k : Int), .int .i64 o.W, .int .i64 (o.W + xt.D), .int .i64 L, .int .i64 0] 46)) := (Ext.refl V).alloc _
                have RN : Rd (V.alloc (.cells #[.int .i64 (k : Int), .int .i64 o.W, .int .i64 (o.W + xt.D), .int .i64 L, .int .i64 0] 46)) 5 (some ⟨V.heap.size, 0, none⟩) 1 (JobV.mk k o.W (o.W + xt.D) L 0).cells :=
                  ⟨rfl, fun _ => ⟨_, rfl, by rw [World.size_alloc]; exact Nat.lt_succ_self _, World.news_of_block (heap_alloc_new V _)⟩⟩
                have hnz : ∀ u ∈ (JobV.mk k o.W (o.W + xt.D) L 0).cells, u.oneCell' = true := fun u hu => by
                  simp only [JobV.cells, List.mem_cons, List.not_mem_nil, or_false] at hu
                  rcases hu with rfl | rfl | rfl | rfl | rfl <;> rfl
                have OX := Lib.hid (hoA.ext XA)
                have XD := XA.drew
                have hzV := J.out.ext.size
                have HB := Lib.hid (show wl_ = (wantL js k).length ∧ Vs[k]? = some (Value.slice wA wl_ wc_) from And.intro hwl hV)
                have hzq : w.heap.size ≤ (V.alloc (.cells #[.int .i64 (k : Int), .int .i64 o.W, .int .i64 (o.W + xt.D), .int .i64 L, .int .i64 0] 46)).drew.heap.size := by
                  have := (H6.out.1.lt (b := wb) (.inl rfl))
                  simp
                  omega
                have HFS := Lib.hid (fun (w' : World) (hf : ∀ b, b = ob ∨ b = tb ∨ b = wb → w'.heap[b]? = V.heap[b]?) => (show w'.cell? ⟨ob, 2, none⟩ = some (.int .i64 (k : Int)) ∧ w'.cell? ⟨ob, 3, none⟩ = some (.int .i64 o.W) ∧ w'.cell? ⟨ob, 4, none⟩ = some (.int .i64 o.X) ∧ w'.cell? ⟨tb, 0, none⟩ = some (.int .i64 xt.C) ∧ w'.cell? ⟨tb, 2, none⟩ = some (.int .i64 xt.D) ∧ w'.cell? ⟨wb, k, none⟩ = some (.slice wA wl_ wc_) from
                  ⟨(World.cell?_of_block (a := ⟨ob, 2, none⟩) (hf ob (.inl rfl))).trans b2, (World.cell?_of_block (a := ⟨ob, 3, none⟩) (hf ob (.inl rfl))).trans b3, (World.cell?_of_block (a := ⟨ob, 4, none⟩) (hf ob (.inl rfl))).trans b4, (World.cell?_of_block (a := ⟨tb, 0, none⟩) (hf tb (.inr (.inl rfl)))).trans t0, (World.cell?_of_block (a := ⟨tb, 2, none⟩) (hf tb (.inr (.inl rfl)))).trans t2, (World.cell?_of_block (a := ⟨wb, k, none⟩) (hf wb (.inr (.inr rfl)))).trans c0⟩))
                have hlo := block_lt H6.out.2.1
                have hlt' := block_lt H6.out.2.2.1
                have hlw := (H6.out.1.lt (b := wb) (.inl rfl)).1
                have HS : V.drew.cell? ⟨ob, 2, none⟩ = some (.int .i64 (k : Int)) ∧ V.drew.cell? ⟨ob, 3, none⟩ = some (.int .i64 o.W) ∧ V.drew.cell? ⟨ob, 4, none⟩ = some (.int .i64 o.X) ∧ V.drew.cell? ⟨tb, 0, none⟩ = some (.int .i64 xt.C) ∧ V.drew.cell? ⟨tb, 2, none⟩ = some (.int .i64 xt.D) ∧ V.drew.cell? ⟨wb, k, none⟩ = some (.slice wA wl_ wc_) := ⟨b2, b3, b4, t0, t2, c0⟩
                have HS2 : (V.alloc (.cells #[.int .i64 (k : Int), .int .i64 o.W, .int .i64 (o.W + xt.D), .int .i64 L, .int .i64 0] 46)).drew.cell? ⟨ob, 2, none⟩ = some (.int .i64 (k : Int)) ∧ (V.alloc (.cells #[.int .i64 (k : Int), .int .i64 o.W, .int .i64 (o.W + xt.D), .int .i64 L, .int .i64 0] 46)).drew.cell? ⟨ob, 3, none⟩ = some (.int .i64 o.W) ∧ (V.alloc (.cells #[.int .i64 (k : Int), .int .i64 o.W, .int .i64 (o.W + xt.D), .int .i64 L, .int .i64 0] 46)).drew.cell? ⟨ob, 4, none⟩ = some (.int .i64 o.X) ∧ (V.alloc (.cells #[.int .i64 (k : Int), .int .i64 o.W, .int .i64 (o.W + xt.D), .int .i64 L, .int .i64 0] 46)).drew.cell? ⟨tb, 0, none⟩ = some (.int .i64 xt.C) ∧ (V.alloc (.cells #[.int .i64 (k : Int), .int .i64 o.W, .int .i64 (o.W + xt.D), .int .i64 L, .int .i64 0] 46)).drew.cell? ⟨tb, 2, none⟩ = some (.int .i64 xt.D) ∧ (V.alloc (.cells #[.int .i64 (k : Int), .int .i64 o.W, .int .i64 (o.W + xt.D), .int .i64 L, .int .i64 0] 46)).drew.cell? ⟨wb, k, none⟩ = some (.slice wA wl_ wc_) := HFS.out _ (fun b hb => XD.block b (by rcases hb with rfl | rfl | rfl <;> assumption))
                have hne : ∀ a, wA = some a → a.block ≠ ob ∧ a.block ≠ tb ∧ a.block ≠ wb := fun a ha => by
                  have h1 := H6.out.1.apart k wA wl_ wc_ a hV ha
                  have h2 : LB wb rb Vs a.block := .inr (.inr ⟨k, wA, wl_, wc_, a, hV, ha, rfl⟩)
                  have h3 := (J.out.ld.lt h2).1
                  exact ⟨fun e => HV.out.2.2.2 (by rw [← e]; exact h2), fun e => by have := HTZ.out; omega, h1.1⟩
                have HNE := Lib.hid hne
                have U1 := Lib.hid (show wl_ + 1 ≤ 9223372036854775807 ∧ ∀ c, (wl_ + 1 ≤ c ∨ (wl_ + 1) * 40 ≤ 225000000000000 ∧ 40 ≤ 100000) from ⟨by omega, fun _ => .inr ⟨by omega, by omega⟩⟩)
                have HKN := Lib.hid hkn
                have q2 : (k : Int) < (n : Int) := by omega
                have fz : V.frozen? ⟨wb, k, none⟩ = false := H6.out.1.wow.frozenAt k
                have wr1 : IntKind.i64.wrap (o.W + xt.D) = o.W + xt.D := by rw [IntKind.wrap_i64]; omega
                clear hne hlo hlt' hV hwl
                refine d_region (fun w' : World => w'.cell? ⟨ob, 2, none⟩ = some (.int .i64 (k : Int)) ∧ w'.cell? ⟨ob, 3, none⟩ = some (.int .i64 o.W) ∧ w'.cell? ⟨ob, 4, none⟩ = some (.int .i64 o.X) ∧ w'.cell? ⟨tb, 0, none⟩ = some (.int .i64 xt.C) ∧ w'.cell? ⟨tb, 2, none⟩ = some (.int .i64 xt.D) ∧ w'.cell? ⟨wb, k, none⟩ = some (.slice wA wl_ wc_)) [26, 27] (by kernel_rfl) ?_
                refine d_take (i := 0) (v := ?_) [26, 27] (some 77) rfl (by rfl) (by kernel_rfl) (by kernel_rfl) (by kernel_rfl) (by kernel_rfl) (by kernel_rfl) (by kernel_rfl) (fun _ _ _ h => h) (.inl ⟨by rfl, ?_⟩) HS ?_
                rotate_left 1
                · (intro W hW; (try dsimp only at hW); go_simp; try with_reducible rfl)
                try simp only [Act.put, List.setIfInBounds_toArray, List.set_cons_zero, List.set_cons_succ]
                refine d_take (i := 1) (v := ?_) [2, 26, 27] (some 78) rfl (by rfl) (by kernel_rfl) (by kernel_rfl) (by kernel_rfl) (by kernel_rfl) (by kernel_rfl) (by kernel_rfl) (fun _ _ _ h => h) (.inl ⟨by rfl, ?_⟩) HS ?_
                rotate_left 1
                · (intro W hW; (try dsimp only at hW); go_simp; try with_reducible rfl)
                try simp only [Act.put, List.setIfInBounds_toArray, List.set_cons_zero, List.set_cons_succ]
                refine d_take (i := 2) (v := ?_) [26, 27] (some 79) rfl (by rfl) (by kernel_rfl) (by kernel_rfl) (by kernel_rfl) (by kernel_rfl) (by kernel_rfl) (by kernel_rfl) (fun _ _ _ h => h) (.inl ⟨by rfl, ?_⟩) HS ?_
                rotate_left 1
                · (intro W hW; (try dsimp only at hW); go_simp; try with_reducible rfl)
                try simp only [Act.put, List.setIfInBounds_toArray, List.set_cons_zero, List.set_cons_succ]
                refine d_take (i := 3) (v := ?_) [6, 7, 25, 26, 27] (some 80) rfl (by rfl) (by kernel_rfl) (by kernel_rfl) (by kernel_rfl) (by kernel_rfl) (by kernel_rfl) (by kernel_rfl) (fun _ _ _ h => h) (.inl ⟨by rfl, ?_⟩) HS ?_
                rotate_left 1
                · (intro W hW; (try dsimp only at hW); go_simp; try with_reducible rfl)
                try simp only [Act.put, List.setIfInBounds_toArray, List.set_cons_zero, List.set_cons_succ]
                refine d_take (i := 4) (v := ?_) [5, 6, 7, 25, 26, 27] (some 81) rfl (by rfl) (by kernel_rfl) (by kernel_rfl) (by kernel_rfl) (by kernel_rfl) (by kernel_rfl) (by kernel_rfl) (fun _ _ _ h => h) (.inl ⟨by rfl, ?_⟩) HS ?_
                rotate_left 1
                · (intro W hW; (try dsimp only at hW); go_simp; try with_reducible rfl)
                try simp only [Act.put, List.setIfInBounds_toArray, List.set_cons_zero, List.set_cons_succ]
                refine d_take (i := 5) (v := ?_) [6, 7, 25, 26, 27] (some 82) rfl (by rfl) (by kernel_rfl) (by kernel_rfl) (by kernel_rfl) (by kernel_rfl) (by kernel_rfl) (by kernel_rfl) (fun _ _ _ h => h) (.inl ⟨by rfl, ?_⟩) HS ?_
                rotate_left 1
                · (intro W hW; (try dsimp only at hW); go_simp; try with_reducible rfl)
                try simp only [Act.put, List.setIfInBounds_toArray, List.set_cons_zero, List.set_cons_succ]
                refine d_take (i := 6) (v := ?_) [7, 25, 26, 27] (some 83) rfl (by rfl) (by kernel_rfl) (by kernel_rfl) (by kernel_rfl) (by kernel_rfl) (by kernel_rfl) (by kernel_rfl) (fun _ _ _ h => h) (.inl ⟨by rfl, ?_⟩) HS ?_
                rotate_left 1
                · (intro W hW; (try dsimp only at hW); go_simp; try with_reducible rfl)
                try simp only [Act.put, List.setIfInBounds_toArray, List.set_cons_zero, List.set_cons_succ]
                refine d_take (i := 7) (v := ?_) [25, 26, 27] (some 84) rfl (by rfl) (by kernel_rfl) (by kernel_rfl) (by kernel_rfl) (by kernel_rfl) (by kernel_rfl) (by kernel_rfl) (fun _ _ _ h => h) (.inl ⟨by rfl, ?_⟩) HS ?_
                rotate_left 1
                · (intro W hW; (try dsimp only at hW); go_simp; try with_reducible rfl)
                try simp only [Act.put, List.setIfInBounds_toArray, List.set_cons_zero, List.set_cons_succ]
                refine d_take (i := 8) (v := ?_) [9, 23, 24, 25, 26, 27] (some 85) rfl (by rfl) (by kernel_rfl) (by kernel_rfl) (by kernel_rfl) (by kernel_rfl) (by kernel_rfl) (by kernel_rfl) (fun _ _ _ h => h) (.inl ⟨by rfl, ?_⟩) HS ?_
                rotate_left 1
                · (intro W hW; (try dsimp only at hW); go_simp; try with_reducible rfl)
                try simp only [Act.put, List.setIfInBounds_toArray, List.set_cons_zero, List.set_cons_succ]
                refine d_take (i := 9) (v := ?_) [23, 24, 25, 26, 27] (some 86) rfl (by rfl) (by kernel_rfl) (by kernel_rfl) (by kernel_rfl) (by kernel_rfl) (by kernel_rfl) (by kernel_rfl) (fun _ _ _ h => h) (.inl ⟨by rfl, ?_⟩) HS ?_
                rotate_left 1
                · (intro W hW; (try dsimp only at hW); go_simp; try with_reducible rfl)
                try simp only [Act.put, List.setIfInBounds_toArray, List.set_cons_zero, List.set_cons_succ]
                refine d_take (i := 10) (v := ?_) [11, 23, 24, 25, 26, 27] (some 87) rfl (by rfl) (by kernel_rfl) (by kernel_rfl) (by kernel_rfl) (by kernel_rfl) (by kernel_rfl) (by kernel_rfl) (fun _ _ _ h => h) (.inl ⟨by rfl, ?_⟩) HS ?_
                rotate_left 1
                · (intro W hW; (try dsimp only at hW); go_simp; try with_reducible rfl)
                try simp only [Act.put, List.setIfInBounds_toArray, List.set_cons_zero, List.set_cons_succ]
                refine d_take (i := 11) (v := ?_) [23, 24, 25, 26, 27] (some 88) rfl (by rfl) (by kernel_rfl) (by kernel_rfl) (by kernel_rfl) (by kernel_rfl) (by kernel_rfl) (by kernel_rfl) (fun _ _ _ h => h) (.inl ⟨by rfl, ?_⟩) HS ?_
                rotate_left 1
                · (intro W hW; (try dsimp only at hW); go_simp; try with_reducible rfl)
                try simp only [Act.put, List.setIfInBounds_toArray, List.set_cons_zero, List.set_cons_succ]
                refine d_take (i := 12) (v := ?_) [13, 16, 23, 24, 25, 26, 27] (some 89) rfl (by rfl) (by kernel_rfl) (by kernel_rfl) (by kernel_rfl) (by kernel_rfl) (by kernel_rfl) (by kernel_rfl) (fun _ _ _ h => h) (.inl ⟨by rfl, ?_⟩) HS ?_
                rotate_left 1
                · (intro W hW; (try dsimp only at hW); go_simp; try with_reducible rfl)
                try simp only [Act.put, List.setIfInBounds_toArray, List.set_cons_zero, List.set_cons_succ]
                refine d_take (i := 13) (v := ?_) [16, 23, 24, 25, 26, 27] (some 90) rfl (by rfl) (by kernel_rfl) (by kernel_rfl) (by kernel_rfl) (by kernel_rfl) (by kernel_rfl) (by kernel_rfl) (fun _ _ _ h => h) (.inl ⟨by rfl, ?_⟩) HS ?_
                rotate_left 1
                · (intro W hW; (try dsimp only at hW); go_simp; try with_reducible rfl)
                try simp only [Act.put, List.setIfInBounds_toArray, List.set_cons_zero, List.set_cons_succ]
                refine d_take (i := 14) (v := ?_) [15, 16, 23, 24, 25, 26, 27] (some 91) rfl (by rfl) (by kernel_rfl) (by kernel_rfl) (by kernel_rfl) (by kernel_rfl) (by kernel_rfl) (by kernel_rfl) (fun _ _ _ h => h) (.inl ⟨by rfl, ?_⟩) HS ?_
                rotate_left 1
                · (intro W hW; (try dsimp only at hW); go_simp; try with_reducible rfl)
                try simp only [Act.put, List.setIfInBounds_toArray, List.set_cons_zero, List.set_cons_succ]
                refine d_take (i := 15) (v := ?_) [16, 23, 24, 25, 26, 27] (some 92) rfl (by rfl) (by kernel_rfl) (by kernel_rfl) (by kernel_rfl) (by kernel_rfl) (by kernel_rfl) (by kernel_rfl) (fun _ _ _ h => h) (.inl ⟨by rfl, ?_⟩) HS ?_
                rotate_left 1
                · (intro W hW; (try dsimp only at hW); go_simp; try with_reducible rfl)
                try simp only [Act.put, List.setIfInBounds_toArray, List.set_cons_zero, List.set_cons_succ]
                refine d_take (i := 16) (v := ?_) [23, 24, 25, 26, 27] (some 93) rfl (by rfl) (by kernel_rfl) (by kernel_rfl) (by kernel_rfl) (by kernel_rfl) (by kernel_rfl) (by kernel_rfl) (fun _ _ _ h => h) (.inl ⟨by rfl, ?_⟩) HS ?_
                rotate_left 1
                · (intro W hW; (try dsimp only at hW); go_simp; try with_reducible rfl)
                try simp only [Act.put, List.setIfInBounds_toArray, List.set_cons_zero, List.set_cons_succ]
                refine d_take (i := 17) (v := ?_) [18, 19, 22, 23, 24, 25, 26, 27] (some 94) rfl (by rfl) (by kernel_rfl) (by kernel_rfl) (by kernel_rfl) (by kernel_rfl) (by kernel_rfl) (by kernel_rfl) (fun _ _ _ h => h) (.inl ⟨by rfl, ?_⟩) HS ?_
                rotate_left 1
                · (intro W hW; (try dsimp only at hW); go_simp; try with_reducible rfl)
                try simp only [Act.put, List.setIfInBounds_toArray, List.set_cons_zero, List.set_cons_succ]
                refine d_take (i := 18) (v := ?_) [19, 22, 23, 24, 25, 26, 27] (some 95) rfl (by rfl) (by kernel_rfl) (by kernel_rfl) (by kernel_rfl) (by kernel_rfl) (by kernel_rfl) (by kernel_rfl) (fun _ _ _ h => h) (.inl ⟨by rfl, ?_⟩) HS ?_
                rotate_left 1
                · (intro W hW; (try dsimp only at hW); go_simp; try with_reducible rfl)
                try simp only [Act.put, List.setIfInBounds_toArray, List.set_cons_zero, List.set_cons_succ]
                refine d_take (i := 19) (v := ?_) [22, 23, 24, 25, 26, 27] (some 96) rfl (by rfl) (by kernel_rfl) (by kernel_rfl) (by kernel_rfl) (by kernel_rfl) (by kernel_rfl) (by kernel_rfl) (fun _ _ _ h => h) (.inl ⟨by rfl, ?_⟩) HS ?_
                rotate_left 1
                · (intro W hW; (try dsimp only at hW); go_simp; try with_reducible rfl)
                try simp only [Act.put, List.setIfInBounds_toArray, List.set_cons_zero, List.set_cons_succ]
                refine d_take (i := 20) (v := ?_) [21, 22, 23, 24, 25, 26, 27] (some 97) rfl (by rfl) (by kernel_rfl) (by kernel_rfl) (by kernel_rfl) (by kernel_rfl) (by kernel_rfl) (by kernel_rfl) (fun _ _ _ h => h) (.inl ⟨by rfl, ?_⟩) HS ?_
                rotate_left 1
                · (intro W hW; (try dsimp only at hW); go_simp; try with_reducible rfl)
                try simp only [Act.put, List.setIfInBounds_toArray, List.set_cons_zero, List.set_cons_succ]
                refine d_take (i := 21) (v := ?_) [22, 23, 24, 25, 26, 27] (some 98) rfl (by rfl) (by kernel_rfl) (by kernel_rfl) (by kernel_rfl) (by kernel_rfl) (by kernel_rfl) (by kernel_rfl) (fun _ _ _ h => h) (.inl ⟨by rfl, ?_⟩) HS ?_
                rotate_left 1
                · (intro W hW; (try dsimp only at hW); go_simp; try with_reducible rfl)
                try simp only [Act.put, List.setIfInBounds_toArray, List.set_cons_zero, List.set_cons_succ]
                refine d_take (i := 22) (v := ?_) [23, 24, 25, 26, 27] (some 99) rfl (by rfl) (by kernel_rfl) (by kernel_rfl) (by kernel_rfl) (by kernel_rfl) (by kernel_rfl) (by kernel_rfl) (fun _ _ _ h => h) (.inl ⟨by rfl, ?_⟩) HS ?_
                rotate_left 1
                · (intro W hW; (try dsimp only at hW); go_simp; try with_reducible rfl)
                try simp only [Act.put, List.setIfInBounds_toArray, List.set_cons_zero, List.set_cons_succ]
                refine d_take (i := 23) (v := ?_) [24, 25, 26, 27] (some 100) rfl (by rfl) (by kernel_rfl) (by kernel_rfl) (by kernel_rfl) (by kernel_rfl) (by kernel_rfl) (by kernel_rfl) (fun _ _ _ h => h) (.inl ⟨by rfl, ?_⟩) HS ?_
                rotate_left 1
                · (intro W hW; (try dsimp only at hW); go_simp; try with_reducible rfl)
                try simp only [Act.put, List.setIfInBounds_toArray, List.set_cons_zero, List.set_cons_succ]
                refine d_one (i := 24) (by kernel_rfl) rfl rfl (fun K hK => ?_)
                simp only [List.getElem_toArray, List.getElem_cons_succ, List.getElem_cons_zero]
                go_simp
                refine hK.out _ _ (fun _ => HS2) ?_
                clear hK K
                try simp only [Act.put, List.setIfInBounds_toArray, List.set_cons_zero, List.set_cons_succ]
                refine d_one (i := 25) (by kernel_rfl) rfl rfl (fun K hK => ?_)
                simp only [List.getElem_toArray, List.getElem_cons_succ, List.getElem_cons_zero]
                refine oper_appA (w := (V.alloc (.cells #[.int .i64 (k : Int), .int .i64 o.W, .int .i64 (o.W + xt.D), .int .i64 L, .int .i64 0] 46)).drew) (m := 1) (d := 1) (news := (JobV.mk k o.W (o.W + xt.D) L 0).cells) eltJob OX.out RN hnz (by omega) U1.out.1 (U1.out.2 _) hzq (.tmp 84) (.tmp 101) rfl rfl rfl ?_
                intro A3 c3 w3 o3 g3' hA3
                have HS3 : w3.cell? ⟨ob, 2, none⟩ = some (.int .i64 (k : Int)) ∧ w3.cell? ⟨ob, 3, none⟩ = some (.int .i64 o.W) ∧ w3.cell? ⟨ob, 4, none⟩ = some (.int .i64 o.X) ∧ w3.cell? ⟨tb, 0, none⟩ = some (.int .i64 xt.C) ∧ w3.cell? ⟨tb, 2, none⟩ = some (.int .i64 xt.D) ∧ w3.cell? ⟨wb, k, none⟩ = some (.slice wA wl_ wc_) := HFS.out _ (fun b hb => (g3'.block b (Nat.lt_of_lt_of_le (by rcases hb with rfl | rfl | rfl <;> first | exact block_lt H6.out.2.1 | exact block_lt H6.out.2.2.1 | exact hlw) XD.size) (fun e => by
                  obtain ⟨a, ha, hab⟩ := Option.map_eq_some_iff.1 e.symm
                  have h3 := HNE.out a ha
                  rcases hb with rfl | rfl | rfl
                  · exact h3.1 hab
                  · exact h3.2.1 hab
                  · exact h3.2.2 hab)).trans (XD.block b (by rcases hb with rfl | rfl | rfl <;> first | exact block_lt H6.out.2.1 | exact block_lt H6.out.2.2.1 | exact hlw)))
                refine hK.out _ _ (fun _ => HS3) ?_
                clear hK K
                try simp only [Act.put, List.setIfInBounds_toArray, List.set_cons_zero, List.set_cons_succ]
                refine d_pure (i := 26) (v := ?_) (some 103) rfl (by rfl) (by kernel_rfl) (by kernel_rfl) (by kernel_rfl) (by kernel_rfl) (fun _ _ _ h => h) (.inl ⟨by rfl, ?_⟩) ?_
                rotate_left 1
                · (intro W hW; go_simp; try with_reducible rfl)
                try simp only [Act.put, List.setIfInBounds_toArray, List.set_cons_zero, List.set_cons_succ]
                refine d_one (i := 27) (by kernel_rfl) rfl rfl (fun K hK => ?_)
                have fw3 : w3.frozen? ⟨wb, k, none⟩ = false := by
                  have hbw := (g3'.block wb (Nat.lt_of_lt_of_le hlw XD.size) (fun e => by
                    obtain ⟨a, ha, hab⟩ := Option.map_eq_some_iff.1 e.symm
                    exact (HNE.out a ha).2.2 hab)).trans (XD.block wb hlw)
                  rw [← fz]
                  simp only [World.frozen?, hbw]
                simp only [List.getElem_toArray, List.getElem_cons_succ, List.getElem_cons_zero]
                go_simp
                refine hK.out _ _ (fun h => absurd h (by decide)) ?_
                clear hK K
                try simp only [Act.put, List.setIfInBounds_toArray, List.set_cons_zero, List.set_cons_succ]
                refine d_done (by kernel_rfl) ?_ _
                clear wr1 hmax hmin
                have P := H6.out.1.push HKN.out HB.out.2 XD o3 g3' hA3 (wl' := wantL js') (by rw [HT.out.2.2, HJ.out.symm]; exact (wantL_new js k o.W o.X xt).1) (by rw [HT.out.2.2]; exact (wantL_new js k o.W o.X xt).2)
                have J8 := Lib.hid (J.out.step H6.out.2.2.2.1 (by rw [HT.out.2.1]; exact HTK.out.trans J.out.tk) (by rw [HT.out.2.2]; exact HYP.out.1) (by rw [HT.out.2.1, HT.out.2.2]; exact HYP.out.2) H6.out.2.2.2.2 P.1 P.2.1 P.2.2 (fun s hs => by rw [HT.out.2.2, ranL_push _ _ rfl]; exact J.out.rs s hs))
                have eK : (w3.setCell ⟨wb, k, none⟩ (.slice A3 (wl_ + 1) c3)).cell? ⟨ob, 0, none⟩ = some (.int .i64 1) := by
                  have hb8 := (P.2.1.block ob (block_lt H6.out.2.1) HV.out.2.2.2).trans H6.out.2.1
                  rw [← hK]
                  exact block_cell hb8 0
                clear P o3 g3' hA3 HS HS2 HS3 fw3 fz b2 b3 b4 t0 t2 c0
                go_wp2_with fail
                go_roundw
                case rel => exact ⟨i + 1, F', ks', js', _, _, by go_num, by omega, J8.out⟩
                case measure => simp [intOf]; omega
            · as_aux_lemma =>
                have b1 : w5.cell? ⟨ob, 0, none⟩ = some (.int .i64 o.K) := block_cell (n5.blk HV.out.2.1 HV.out.2.2.1) 0
                have J5 := Lib.hid (J.out.no n5)
                clear n5
                go_wp2_with fail
                go_roundw
                case rel => exact ⟨i + 1, F', ks', js', Vs, Rs, by go_num, by omega, J5.out⟩
                case measure => simp [intOf]; omega
          · have hKb : (o.K == 1) = false := by simp [hK]
            have htk := Lib.hid J.out.tk
            by_cases hjs : js = []
            · have RN := Lib.hid (show Calls Tryd.prog 13 #[.pointer (some ⟨g, 0, none⟩)] V _ from runs_none (by have := J.out.gp; rw [hjs] at this; exact this) (HW.out.2.2.2.ext J.out.ext))
              clear b3 b4 b5 hjs
              go_wp2_with fail
              refine RN.out.mono ?_
              rintro e0 w5 ⟨rfl, x5⟩
              have J5 := Lib.hid (J.out.ex (x5.alloc (.cells #[.int .i64 0, .int .i64 0, .int .i64 0, .int .i64 0, .int .i64 0] 46)))
              clear RN x5 b1
              go_wp2_with fail
              go_roundw
              case rel => exact ⟨i + 1, F, ks, js, Vs, Rs, by go_num, by omega, J5.out⟩
              case measure => simp [intOf]; omega
            · as_aux_lemma =>
                have hl : 0 < js.length := by rcases Nat.eq_zero_or_pos js.length with h | h; exact absurd (List.eq_nil_of_length_eq_zero h) hjs; exact h
                obtain ⟨x, hx⟩ : ∃ x, js[nextI p ts js]? = some x := ⟨_, at_of jz (nextI_lt hl)⟩
                have hxm := List.mem_of_getElem? hx
                obtain ⟨g1, g2, g3, g4, _, _⟩ := J.out.gp.gi.bound hxm
                have hxT := (J.out.gp.gi.ok x hxm).1
                rw [htk.out] at hxT
                have hnT : x.T < n := by have := HR.out.2.2.2; omega
                have RU := runs_any J.out.gp (by rw [htk.out]; exact hx)
                have hgi := J.out.gp.gi
                rw [htk.out] at RU hgi
                obtain ⟨r, r1, r2, r3, r4, r5⟩ := runs_next J.out.ino hgi hx
                have NX := Lib.hid (And.intro r1 (And.intro r2 (And.intro r3 (And.intro r4 r5))))
                have NI := Lib.hid (And.intro (J.out.ino.tick (p := p) hgi) (lst_tick (i := nextI p ts js) J.out.lst (nextI_lt hl)))
                obtain ⟨d, hdd⟩ : ∃ d, decide (x.L = 1) = d := ⟨_, rfl⟩
                rw [hdd] at RU
                have RU := Lib.hid RU
                unfold JobV.val JobV.tick at RU
                have HD := Lib.hid hdd
                have HX := Lib.hid hx
                clear hdd b3 b4 b5 hjs hl hxm hx hgi r1 r2 r3 r4 r5
                dsimp only at RU
                go_wp2_with fail
                refine RU.out.mono ?_
                rintro e0 w5 ⟨rfl, n5⟩
                have XB := (Ext.refl w5).alloc (.cells #[.int .i64 (x.T : Int), .int .i64 x.R, .int .i64 x.D, .int .i64 (x.L - 1), .int .i64 (x.N + 1)] 46)
                have hbj := heap_alloc_new w5 (.cells #[.int .i64 (x.T : Int), .int .i64 x.R, .int .i64 x.D, .int .i64 (x.L - 1), .int .i64 (x.N + 1)] 46)
                have L5 := (J.out.ld.fr n5.fr J.out.sep).ext XB
                have hjl : ∀ b, LB wb rb Vs b → b < w5.heap.size := fun b hb => by have := (J.out.ld.lt hb).1; have := n5.fr.size; omega
                have H5 := Lib.hid (And.intro n5 (And.intro XB (And.intro hbj (And.intro L5 hjl))))
                clear RU n5 XB hbj L5 hjl b1
                go_upto_region 17 with (fail)
                generalize w5.alloc (.cells #[.int .i64 (x.T : Int), .int .i64 x.R, .int .i64 x.D, .int .i64 (x.L - 1), .int .i64 (x.N + 1)] 46) = V6 at *
                generalize w5.heap.size = jb at *
                have hnw : wb ≠ jb := fun e => by have := H5.out.2.2.2.2 wb (.inl rfl); omega
                have hnr : rb ≠ jb := fun e => by have := H5.out.2.2.2.2 rb (.inr (.inl rfl)); omega
                obtain ⟨wA, wl_, wc_, hV, hwl, hoA⟩ := H5.out.2.2.2.1.wsl x.T hnT
                have hwl1 : wl_ = r.length + 1 := by rw [hwl, NX.out.1]; rfl
                have c5 : V6.cell? ⟨wb, x.T, none⟩ = some (.slice wA wl_ wc_) := H5.out.2.2.2.1.wow.cellAt hnT hV
                have hRs : Rs[x.T]? = some x.N := by rw [J.out.rs x.T hnT, NX.out.2.1]
                have c6 : V6.cell? ⟨rb, x.T, none⟩ = some (.int .i64 x.N) := H5.out.2.2.2.1.row.cellAt hnT (by simp [ints, hRs])
                have f6 : V6.frozen? ⟨rb, x.T, none⟩ = false := H5.out.2.2.2.1.row.frozenAt x.T
                have r0 : V6.cell? ⟨jb, 0, none⟩ = some (.int .i64 (x.T : Int)) := block_cell H5.out.2.2.1 0
                have y0 : (0 : Int) ≤ (x.T : Int) := by omega
                have y1 : (x.T : Int) < n := by omega
                have y2 : decide ((x.T : Int) < 0) = false := by rw [decide_eq_false_iff_not]; omega
                have y3 : decide ((n : Int) ≤ (x.T : Int)) = false := by rw [decide_eq_false_iff_not]; omega
                have y4 : decide (n ≤ x.T) = false := by rw [decide_eq_false_iff_not]; omega
                have y5 : ((wl_ : Int) == 0) = false := by rw [beq_eq_false_iff_ne]; omega
                have wr1 : IntKind.i64.wrap (x.N + 1) = x.N + 1 := by rw [IntKind.wrap_i64]; omega
                have HVO := Lib.hid (And.intro hV (And.intro hwl (And.intro hoA (And.intro hwl1 hRs))))
                clear hV hwl hoA hwl1 hRs
                go_upto_region 21 with (fail)
                have L7 := H5.out.2.2.2.1.ran (t := x.T) (x.N + 1)
                have f7 := Fr.store V6 ⟨rb, x.T, none⟩ (.int .i64 (x.N + 1))
                have h7 : (V6.setCell ⟨rb, x.T, none⟩ (.int .i64 (x.N + 1))).heap[jb]? = _ := (f7.block jb (block_lt H5.out.2.2.1) (fun e => hnr e.symm)).trans H5.out.2.2.1
                have hrl : (Rs.set x.T (x.N + 1))[x.T]? = some (x.N + 1) := List.getElem?_set_self (List.getElem?_eq_some_iff.1 HVO.out.2.2.2.2).1
                have o7 := HVO.out.2.2.1.fr f7 (fun a ha => (H5.out.2.2.2.1.apart x.T wA wl_ wc_ a HVO.out.1 ha).2)
                have H7 := Lib.hid (And.intro L7 (And.intro f7 (And.intro h7 (And.intro hrl o7))))
                clear L7 f7 h7 hrl o7 c5 c6 f6 r0
                generalize V6.setCell ⟨rb, x.T, none⟩ (.int .i64 (x.N + 1)) = V7 at *
                have r0 : V7.cell? ⟨jb, 0, none⟩ = some (.int .i64 (x.T : Int)) := block_cell H7.out.2.2.1 0
                have c5 : V7.cell? ⟨wb, x.T, none⟩ = some (.slice wA wl_ wc_) := H7.out.1.wow.cellAt hnT HVO.out.1
                have rd7 := H7.out.2.2.2.2.rd
                have hw7 : (wantL js x.T)[0]? = some x.orig := by rw [NX.out.1]; rfl
                obtain ⟨wa, rfl, _, _⟩ := rd7.2 (by have := HVO.out.2.2.2.1; omega)
                have k0 := rd7.rowAt (jrows_even _) (jrows_at hw7) (Nat.zero_mul 5) (i := 0) rfl
                have k1 := rd7.rowAt (jrows_even _) (jrows_at hw7) (Nat.zero_mul 5) (i := 1) rfl
                have k2 := rd7.rowAt (jrows_even _) (jrows_at hw7) (Nat.zero_mul 5) (i := 2) rfl
                have k3 := rd7.rowAt (jrows_even _) (jrows_at hw7) (Nat.zero_mul 5) (i := 3) rfl
                have k4 := rd7.rowAt (jrows_even _) (jrows_at hw7) (Nat.zero_mul 5) (i := 4) rfl
                rw [Nat.zero_add] at k0 k1 k2 k3 k4
                rw [add_lit' _ (by omega)] at k1 k2 k3 k4
                have hz1 : (0 : Int) < (wl_ : Int) := by have := HVO.out.2.2.2.1; omega
                have e0 : wa.add 0 = wa := by unfold Addr.add; rw [if_pos rfl]
                rw [e0] at k0
                clear rd7 hw7 e0
                go_upto_region 22 with (fail)
                unfold JobV.orig
                dsimp only
                have X8 := (Ext.refl V7).alloc (.cells #[.int .i64 (x.T : Int), .int .i64 x.R, .int .i64 x.D, .int .i64 (x.L + x.N), .int .i64 0] 46)
                have hf8 := heap_alloc_new V7 (.cells #[.int .i64 (x.T : Int), .int .i64 x.R, .int .i64 x.D, .int .i64 (x.L + x.N), .int .i64 0] 46)
                have hj8 := (X8.block _ (block_lt H7.out.2.2.1)).trans H7.out.2.2.1
                have L8 := H7.out.1.ext X8
                have H8 := Lib.hid (And.intro X8 (And.intro hf8 (And.intro hj8 L8)))
                clear X8 hf8 hj8 L8 r0 c5 k0 k1 k2 k3 k4 hz1
                generalize V7.alloc (.cells #[.int .i64 (x.T : Int), .int .i64 x.R, .int .i64 x.D, .int .i64 (x.L + x.N), .int .i64 0] 46) = V8 at *
                generalize V7.heap.size = fb at *
                have r0 : V8.cell? ⟨jb, 0, none⟩ = some (.int .i64 (x.T : Int)) := block_cell H8.out.2.2.1 0
                have r1 : V8.cell? ⟨jb, 1, none⟩ = some (.int .i64 x.R) := block_cell H8.out.2.2.1 1
                have r2 : V8.cell? ⟨jb, 2, none⟩ = some (.int .i64 x.D) := block_cell H8.out.2.2.1 2
                have r3 : V8.cell? ⟨jb, 3, none⟩ = some (.int .i64 (x.L - 1)) := block_cell H8.out.2.2.1 3
                have r4 : V8.cell? ⟨jb, 4, none⟩ = some (.int .i64 (x.N + 1)) := block_cell H8.out.2.2.1 4
                have t1 : V8.cell? ⟨fb, 1, none⟩ = some (.int .i64 x.R) := block_cell H8.out.2.1 1
                have t2 : V8.cell? ⟨fb, 2, none⟩ = some (.int .i64 x.D) := block_cell H8.out.2.1 2
                have t3 : V8.cell? ⟨fb, 3, none⟩ = some (.int .i64 (x.L + x.N)) := block_cell H8.out.2.1 3
                have c6 : V8.cell? ⟨rb, x.T, none⟩ = some (.int .i64 (x.N + 1)) := H8.out.2.2.2.row.cellAt hnT (by simp only [ints, List.getElem?_map, H7.out.2.2.2.1, Option.map_some])
                have hd0 : (x.L - 1 == 0) = d := by rw [← HD.out, Bool.eq_iff_iff, beq_iff_eq, decide_eq_true_eq]; omega
                have wr2 : IntKind.i64.wrap (x.N + 1 + (x.L - 1)) = x.L + x.N := by rw [IntKind.wrap_i64]; omega
                go_quiet (fail)
                have X9 : Ext V8 (V8.drewN nq) := (Ext.refl V8).drewN nq
                have F9 : Fr V6 (V8.drewN nq) (LB wb rb Vs) := (H7.out.2.1.mono (fun i _ e => .inr (.inl e))).trans (Fr.of_ext (H8.out.1.trans X9) (LB wb rb Vs)) (fun _ _ h => h)
                have L9 := H8.out.2.2.2.ext X9
                have hj9 := (X9.block _ (block_lt H8.out.2.2.1)).trans H8.out.2.2.1
                have H9 := Lib.hid (And.intro F9 (And.intro L9 hj9))
                clear X9 F9 L9 hj9 r0 r1 r2 r3 r4 t1 t2 t3 c6 hd0 wr2 wr1
                generalize V8.drewN nq = V9 at *
                cases d with
                | false =>
                  have hL : ¬ x.L = 1 := by simpa using HD.out
                  have ew : wantL (ranJ js (nextI p ts js)) = wantL js := funext fun t => by
                    by_cases e : t = x.T
                    · rw [e, NX.out.2.2.1, if_neg hL, NX.out.1]
                    · exact (NX.out.2.2.2.2 t e).1
                  have J9 := Lib.hid (J.out.step H5.out.1 J.out.tk NI.out.1 NI.out.2 H5.out.2.1 (by rw [ew]; exact H9.out.2.1) H9.out.1 (fun b hb => .inl hb) (fun t ht => by
                    by_cases e : t = x.T
                    · rw [e, NX.out.2.2.2.1, if_neg hL]; exact H7.out.2.2.2.1
                    · rw [List.getElem?_set_ne (fun h => e h.symm), (NX.out.2.2.2.2 t e).2]; exact J.out.rs t ht))
                  go_wp2_with fail
                  go_roundw
                  case rel => exact ⟨i + 1, F, ks, _, _, _, by go_num, by omega, J9.out⟩
                  case measure => simp [intOf]; omega
                | true =>
                  have hL : x.L = 1 := by simpa using HD.out
                  have L9 := H9.out.2.1
                  obtain ⟨X, hX⟩ : ∃ X, (if wc_ = 1 then some wa else (some wa).map (·.add 5)) = X := ⟨_, rfl⟩
                  have hsl : ∀ w, (Instr.slice 36 (.slice (some wa) wl_ wc_) (some (.int .i64 1)) none none).run Tryd.prog w = .ok (.slice X (wl_ - 1) (wc_ - 1)) w := fun w => run_slice_at (P := Tryd.prog) eltJob (some wa) wl_ wc_ .i64 1 (by have := HVO.out.2.2.2.1; omega) (by rw [Nat.one_mul]; exact hX) w
                  have P := L9.pop hnT HVO.out.1 hX (wl' := wantL (ranJ js (nextI p ts js))) NX.out.1 (by rw [NX.out.2.2.1, if_pos hL]) (fun s hs => (NX.out.2.2.2.2 s hs).1)
                  have J9 := Lib.hid (J.out.step H5.out.1 J.out.tk NI.out.1 NI.out.2 H5.out.2.1 (P.1.ran (t := x.T) 0) ((H9.out.1.trans (Fr.store V9 ⟨wb, x.T, none⟩ (.slice X (wl_ - 1) (wc_ - 1))) (fun _ _ e => .inl e)).trans (Fr.store _ ⟨rb, x.T, none⟩ (.int .i64 0)) (fun _ _ e => .inr (.inl e))) (fun b hb => .inl (P.2 b hb)) (fun t ht => by
                    by_cases e : t = x.T
                    · rw [e, NX.out.2.2.2.1, if_pos hL]; exact List.getElem?_set_self (List.getElem?_eq_some_iff.1 H7.out.2.2.2.1).1
                    · rw [List.getElem?_set_ne (fun h => e h.symm), List.getElem?_set_ne (fun h => e h.symm), (NX.out.2.2.2.2 t e).2]; exact J.out.rs t ht))
                  have cw : V9.cell? ⟨wb, x.T, none⟩ = some (.slice (some wa) wl_ wc_) := L9.wow.cellAt hnT HVO.out.1
                  have fw9 : V9.frozen? ⟨wb, x.T, none⟩ = false := L9.wow.frozenAt x.T
                  have fr9 : (V9.setCell ⟨wb, x.T, none⟩ (.slice X (wl_ - 1) (wc_ - 1))).frozen? ⟨rb, x.T, none⟩ = false := P.1.row.frozenAt x.T
                  have cr9 : (V9.setCell ⟨wb, x.T, none⟩ (.slice X (wl_ - 1) (wc_ - 1))).cell? ⟨rb, x.T, none⟩ = some (.int .i64 (x.N + 1)) := P.1.row.cellAt hnT (by simp only [ints, List.getElem?_map, H7.out.2.2.2.1, Option.map_some])
                  have HS : V9.cell? ⟨jb, 0, none⟩ = some (.int .i64 (x.T : Int)) := block_cell H9.out.2.2 0
                  have HS2 : (V9.setCell ⟨wb, x.T, none⟩ (.slice X (wl_ - 1) (wc_ - 1))).cell? ⟨jb, 0, none⟩ = some (.int .i64 (x.T : Int)) := block_cell (((Fr.store V9 ⟨wb, x.T, none⟩ (.slice X (wl_ - 1) (wc_ - 1))).block jb (block_lt H9.out.2.2) (fun e => hnw e.symm)).trans H9.out.2.2) 0
                  clear P L9 hX
                  go_upto_region 25 with (fail)
                  refine d_region (fun w' : World => w'.cell? ⟨jb, 0, none⟩ = some (.int .i64 (x.T : Int))) [14, 15] (by kernel_rfl) ?_
                  refine d_take (i := 0) (v := ?_) [12, 13, 14, 15] (some 188) rfl (by rfl) (by kernel_rfl) (by kernel_rfl) (by kernel_rfl) (by kernel_rfl) (by kernel_rfl) (by kernel_rfl) (fun _ _ _ h => h) (.inl ⟨by rfl, ?_⟩) HS ?_
                  rotate_left 1
                  · (intro W hW; (try dsimp only at hW); go_simp; try with_reducible rfl)
                  try simp only [Act.put, List.setIfInBounds_toArray, List.set_cons_zero, List.set_cons_succ]
                  refine d_take (i := 1) (v := ?_) [2, 12, 13, 14, 15] (some 189) rfl (by rfl) (by kernel_rfl) (by kernel_rfl) (by kernel_rfl) (by kernel_rfl) (by kernel_rfl) (by kernel_rfl) (fun _ _ _ h => h) (.inl ⟨by rfl, ?_⟩) HS ?_
                  rotate_left 1
                  · (intro W hW; (try dsimp only at hW); go_simp; try with_reducible rfl)
                  try simp only [Act.put, List.setIfInBounds_toArray, List.set_cons_zero, List.set_cons_succ]
                  refine d_take (i := 2) (v := ?_) [12, 13, 14, 15] (some 190) rfl (by rfl) (by kernel_rfl) (by kernel_rfl) (by kernel_rfl) (by kernel_rfl) (by kernel_rfl) (by kernel_rfl) (fun _ _ _ h => h) (.inl ⟨by rfl, ?_⟩) HS ?_
                  rotate_left 1
                  · (intro W hW; (try dsimp only at hW); go_simp; try with_reducible rfl)
                  try simp only [Act.put, List.setIfInBounds_toArray, List.set_cons_zero, List.set_cons_succ]
                  refine d_take (i := 3) (v := ?_) [14, 15] (some 191) rfl (by rfl) (by kernel_rfl) (by kernel_rfl) (by kernel_rfl) (by kernel_rfl) (by kernel_rfl) (by kernel_rfl) (fun _ _ _ h => h) (.inl ⟨by rfl, ?_⟩) HS ?_
                  rotate_left 1
                  · (intro W hW; (try dsimp only at hW); go_simp; try with_reducible rfl)
                  try simp only [Act.put, List.setIfInBounds_toArray, List.set_cons_zero, List.set_cons_succ]
                  refine d_take (i := 4) (v := ?_) [5, 14, 15] (some 192) rfl (by rfl) (by kernel_rfl) (by kernel_rfl) (by kernel_rfl) (by kernel_rfl) (by kernel_rfl) (by kernel_rfl) (fun _ _ _ h => h) (.inl ⟨by rfl, ?_⟩) HS ?_
                  rotate_left 1
                  · (intro W hW; (try dsimp only at hW); go_simp; try with_reducible rfl)
                  try simp only [Act.put, List.setIfInBounds_toArray, List.set_cons_zero, List.set_cons_succ]
                  refine d_take (i := 5) (v := ?_) [14, 15] (some 193) rfl (by rfl) (by kernel_rfl) (by kernel_rfl) (by kernel_rfl) (by kernel_rfl) (by kernel_rfl) (by kernel_rfl) (fun _ _ _ h => h) (.inl ⟨by rfl, ?_⟩) HS ?_
                  rotate_left 1
                  · (intro W hW; (try dsimp only at hW); go_simp; try with_reducible rfl)
                  try simp only [Act.put, List.setIfInBounds_toArray, List.set_cons_zero, List.set_cons_succ]
                  refine d_take (i := 6) (v := ?_) [9, 10, 11, 12, 13, 14, 15] (some 194) rfl (by rfl) (by kernel_rfl) (by kernel_rfl) (by kernel_rfl) (by kernel_rfl) (by kernel_rfl) (by kernel_rfl) (fun _ _ _ h => h) (.inl ⟨by rfl, ?_⟩) HS ?_
                  rotate_left 1
                  · (intro W hW; (try dsimp only at hW); go_simp; try with_reducible rfl)
                  try simp only [Act.put, List.setIfInBounds_toArray, List.set_cons_zero, List.set_cons_succ]
                  refine d_take (i := 7) (v := ?_) [8, 9, 10, 11, 12, 13, 14, 15] (some 195) rfl (by rfl) (by kernel_rfl) (by kernel_rfl) (by kernel_rfl) (by kernel_rfl) (by kernel_rfl) (by kernel_rfl) (fun _ _ _ h => h) (.inl ⟨by rfl, ?_⟩) HS ?_
                  rotate_left 1
                  · (intro W hW; (try dsimp only at hW); go_simp; try with_reducible rfl)
                  try simp only [Act.put, List.setIfInBounds_toArray, List.set_cons_zero, List.set_cons_succ]
                  refine d_take (i := 8) (v := ?_) [9, 10, 11, 12, 13, 14, 15] (some 196) rfl (by rfl) (by kernel_rfl) (by kernel_rfl) (by kernel_rfl) (by kernel_rfl) (by kernel_rfl) (by kernel_rfl) (fun _ _ _ h => h) (.inl ⟨by rfl, ?_⟩) HS ?_
                  rotate_left 1
                  · (intro W hW; (try dsimp only at hW); go_simp; try with_reducible rfl)
                  try simp only [Act.put, List.setIfInBounds_toArray, List.set_cons_zero, List.set_cons_succ]
                  refine d_one (i := 9) (by kernel_rfl) rfl rfl (fun K hK => ?_)
                  simp only [List.getElem_toArray, List.getElem_cons_succ, List.getElem_cons_zero]
                  go_simp
                  refine hK.out _ _ (fun _ => HS) ?_
                  clear hK K
                  try simp only [Act.put, List.setIfInBounds_toArray, List.set_cons_zero, List.set_cons_succ]
                  refine d_one (i := 10) (by kernel_rfl) rfl rfl (fun K hK => ?_)
                  simp only [List.getElem_toArray, List.getElem_cons_succ, List.getElem_cons_zero]
                  go_simp
                  refine hK.out _ _ (fun _ => HS) ?_
                  clear hK K
                  try simp only [Act.put, List.setIfInBounds_toArray, List.set_cons_zero, List.set_cons_succ]
                  refine d_one (i := 11) (by kernel_rfl) rfl rfl (fun K hK => ?_)
                  simp only [List.getElem_toArray, List.getElem_cons_succ, List.getElem_cons_zero]
                  go_simp
                  refine hK.out _ _ (fun _ => HS) ?_
                  clear hK K
                  try simp only [Act.put, List.setIfInBounds_toArray, List.set_cons_zero, List.set_cons_succ]
                  refine d_one (i := 12) (by kernel_rfl) rfl rfl (fun K hK => ?_)
                  simp only [List.getElem_toArray, List.getElem_cons_succ, List.getElem_cons_zero]
                  go_simp
                  refine hK.out _ _ (fun _ => HS) ?_
                  clear hK K
                  try simp only [Act.put, List.setIfInBounds_toArray, List.set_cons_zero, List.set_cons_succ]
                  refine d_one (i := 13) (by kernel_rfl) rfl rfl (fun K hK => ?_)
                  simp only [List.getElem_toArray, List.getElem_cons_succ, List.getElem_cons_zero]
                  go_simp
                  refine hK.out _ _ (fun _ => HS2) ?_
                  clear hK K
                  try simp only [Act.put, List.setIfInBounds_toArray, List.set_cons_zero, List.set_cons_succ]
                  refine d_one (i := 14) (by kernel_rfl) rfl rfl (fun K hK => ?_)
                  simp only [List.getElem_toArray, List.getElem_cons_succ, List.getElem_cons_zero]
                  go_simp
                  refine hK.out _ _ (fun h => absurd h (by decide)) ?_
                  clear hK K
                  try simp only [Act.put, List.setIfInBounds_toArray, List.set_cons_zero, List.set_cons_succ]
                  refine d_one (i := 15) (by kernel_rfl) rfl rfl (fun K hK => ?_)
                  simp only [List.getElem_toArray, List.getElem_cons_succ, List.getElem_cons_zero]
                  go_simp
                  refine hK.out _ _ (fun h => absurd h (by decide)) ?_
                  clear hK K
                  try simp only [Act.put, List.setIfInBounds_toArray, List.set_cons_zero, List.set_cons_succ]
                  refine d_done (by kernel_rfl) ?_ _
                  clear cw fw9 fr9 cr9 HS HS2 hsl
                  go_wp2_with fail
                  go_roundw
                  case rel => exact ⟨i + 1, F, ks, _, _, _, by go_num, by omega, J9.out.ex (Ext.refl _).drew⟩
                  case measure => simp [intOf]; omega
      · obtain rfl : i = M := by omega
        go_wp2_with fail
        go_returns
        exact ⟨rfl, HI.out.ext⟩
  · have NW := Lib.hid (new_no p A n c ts w1 (HR.out.1.ext H1.out.1) (by omega) (HW.out.2.2.1.task.ext H1.out.1) hL)
    have LGR := Lib.hid (fun w' (hx : Ext w w') => rguest_loop A n c p ts w' (HR.out.1.ext hx) (by omega) false (Lib.hid (lg_off hL)))
    clear hL
    go_wp2_with fail
    refine NW.out.mono ?_
    rintro e0 w2 ⟨rfl, x2⟩
    have b2 := (x2.block _ (block_lt H1.out.2)).trans H1.out.2
    have q0' : w2.cell? ⟨w.heap.size, 0, none⟩ = some (.int .i64 p) := block_cell b2 0
    have q1' : w2.cell? ⟨w.heap.size, 1, none⟩ = some (.slice A n c) := block_cell b2 1
    have X2 := Lib.hid (H1.out.1.trans x2)
    clear NW x2 b2 q0 q1
    go_wp2_with fail
    refine (LGR.out _ X2.out).mono ?_
    rintro e0 w3 ⟨rfl, x3⟩
    have X3 := Lib.hid (X2.out.trans x3)
    clear x3 LGR q0' q1'
    go_wp2_with fail
    go_returns
    exact ⟨rfl, X3.out⟩
end Go.Proofs.YtbpbmelfhgbogaaDoor
