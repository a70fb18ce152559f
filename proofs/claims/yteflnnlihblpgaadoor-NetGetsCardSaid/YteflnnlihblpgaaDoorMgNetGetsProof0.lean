/-
  The document's Get of an entry, walked.
-/
import Derived.Test.YteflnnlihblpgaaDoorMgNetPutsProof20
namespace Go.Proofs.YteflnnlihblpgaaDoor
set_option maxRecDepth 100000
open Go.RowKit
set_option linter.unusedVariables false
theorem ten_more {l : List Int} (h : 10 ≤ l.length) : ∃ a0 a1 a2 a3 a4 a5 a6 a7 a8 a9 m, l = a0 :: a1 :: a2 :: a3 :: a4 :: a5 :: a6 :: a7 :: a8 :: a9 :: m := by
  obtain ⟨a0, l, rfl⟩ := List.exists_cons_of_length_pos (l := l) (by omega)
  obtain ⟨a1, l, rfl⟩ := List.exists_cons_of_length_pos (l := l) (by simp only [List.length_cons] at h; omega)
  obtain ⟨a2, l, rfl⟩ := List.exists_cons_of_length_pos (l := l) (by simp only [List.length_cons] at h; omega)
  obtain ⟨a3, l, rfl⟩ := List.exists_cons_of_length_pos (l := l) (by simp only [List.length_cons] at h; omega)
  obtain ⟨a4, l, rfl⟩ := List.exists_cons_of_length_pos (l := l) (by simp only [List.length_cons] at h; omega)
  obtain ⟨a5, l, rfl⟩ := List.exists_cons_of_length_pos (l := l) (by simp only [List.length_cons] at h; omega)
  obtain ⟨a6, l, rfl⟩ := List.exists_cons_of_length_pos (l := l) (by simp only [List.length_cons] at h; omega)
  obtain ⟨a7, l, rfl⟩ := List.exists_cons_of_length_pos (l := l) (by simp only [List.length_cons] at h; omega)
  obtain ⟨a8, l, rfl⟩ := List.exists_cons_of_length_pos (l := l) (by simp only [List.length_cons] at h; omega)
  obtain ⟨a9, m, rfl⟩ := List.exists_cons_of_length_pos (l := l) (by simp only [List.length_cons] at h; omega)
  exact ⟨a0, a1, a2, a3, a4, a5, a6, a7, a8, a9, m, rfl⟩
theorem four_at {ms : List Int} {k : Nat} (h : k + 4 ≤ ms.length) : ∃ q0 q1 q2 q3, ms[k]? = some q0 ∧ ms[k + 1]? = some q1 ∧ ms[k + 2]? = some q2 ∧ ms[k + 3]? = some q3 ∧ ms.take (k + 4) = ms.take k ++ [q0, q1, q2, q3] := by
  obtain ⟨q0, h0⟩ : ∃ q, ms[k]? = some q := ⟨_, List.getElem?_eq_getElem (by omega)⟩
  obtain ⟨q1, h1⟩ : ∃ q, ms[k + 1]? = some q := ⟨_, List.getElem?_eq_getElem (by omega)⟩
  obtain ⟨q2, h2⟩ : ∃ q, ms[k + 2]? = some q := ⟨_, List.getElem?_eq_getElem (by omega)⟩
  obtain ⟨q3, h3⟩ : ∃ q, ms[k + 3]? = some q := ⟨_, List.getElem?_eq_getElem (by omega)⟩
  refine ⟨_, _, _, _, h0, h1, h2, h3, ?_⟩
  have e0 := take_succ' h0
  have e1 := take_succ' h1
  have e2 := take_succ' h2
  have e3 := take_succ' h3
  rw [show k + 4 = k + 3 + 1 from rfl, e3, show k + 3 = k + 2 + 1 from rfl, e2, show k + 2 = k + 1 + 1 from rfl, e1, e0]
  simp
/-- The entry that grows, the numbers, the result's place. -/
structure RGe (w wr : World) (eb rb gB L d : Nat) (ns : List Int) (a0 a1 a2 a3 a4 a5 a6 a7 a8 : Int) (T : Option Addr) (j dT : Nat) (ts : List Tk) : Prop where
  ent : wr.heap[eb]? = some (.cells #[.int .i64 a0, .int .i64 a1, .int .i64 a2, .int .i64 a4, .int .i64 a5, .int .i64 a6, .int .i64 a7, .int .i64 a8, .slice T j dT, .int .i64 a3] 29 (0, 0))
  own : Own wr w.heap.size 47 4 T j dT (trows ts).flatten
  lst : Own wr w.heap.size 3 1 (some ⟨gB, 0, none⟩) L d (ints ns)
  res : wr.heap[rb]? = some (.cells #[.int .i64 0, .int .i64 0, .int .i64 0, .int .i64 0, .int .i64 0, .int .i64 0, .int .i64 0, .int .i64 0, .slice none 0 0, .int .i64 0] 29 (0, 0))
  x : Ext w wr
  lt : w.heap.size ≤ eb ∧ w.heap.size ≤ rb ∧ eb ≠ rb
theorem RGe.ext {w wr w' : World} {eb rb gB L d : Nat} {ns : List Int} {a0 a1 a2 a3 a4 a5 a6 a7 a8 : Int} {T : Option Addr} {j dT : Nat} {ts : List Tk} (h : RGe w wr eb rb gB L d ns a0 a1 a2 a3 a4 a5 a6 a7 a8 T j dT ts) (hx : Ext wr w') : RGe w w' eb rb gB L d ns a0 a1 a2 a3 a4 a5 a6 a7 a8 T j dT ts :=
  ⟨(hx.block _ (block_lt h.ent)).trans h.ent, h.own.ext hx, h.lst.ext hx, (hx.block _ (block_lt h.res)).trans h.res, h.x.trans hx, h.lt⟩
theorem RGe.app {w wr w' : World} {eb rb gB L d : Nat} {ns : List Int} {a0 a1 a2 a3 a4 a5 a6 a7 a8 : Int} {T : Option Addr} {j dT : Nat} {ts : List Tk} (h : RGe w wr eb rb gB L d ns a0 a1 a2 a3 a4 a5 a6 a7 a8 T j dT ts) (hg : Grows wr w' T) {T' : Option Addr} {d' : Nat} {tk : Tk} (ho : Own w' w.heap.size 47 4 T' (j + 1) d' ((trows ts).flatten ++ trow tk)) : RGe w (w'.setCell ⟨eb, 8, none⟩ (.slice T' (j + 1) d')) eb rb gB L d ns a0 a1 a2 a3 a4 a5 a6 a7 a8 T' (j + 1) d' (ts ++ [tk]) := by
  have f1 := Fr.grows hg
  have f2 := Fr.store w' ⟨eb, 8, none⟩ (.slice T' (j + 1) d')
  obtain ⟨l1, l2, l3⟩ := h.lt
  have nof : ∀ {q : Nat}, (∀ b, T = some b → b.block ≠ q) → ¬ T.map (·.block) = some q := fun hq e => by
    cases T with
    | none => cases e
    | some b => exact hq b rfl (by simpa using e)
  have hent := (f1.block _ (block_lt h.ent) (nof (h.own.away_t h.ent (by decide)))).trans h.ent
  have hres := (f1.block _ (block_lt h.res) (nof (h.own.away_t h.res (by decide)))).trans h.res
  have hlst := f1.own h.lst (fun a ha e => h.own.other h.lst (by decide) a ha e)
  have hx : Ext w w' := hg.ext h.x (fun q hq => h.own.base_le q hq)
  refine ⟨heap_setCell_same w' eb 8 _ _ _ hent, ?_, f2.own hlst (fun a ha e => hlst.away_t hent (by decide) a ha e), (f2.block _ (block_lt hres) (fun e => l3 e.symm)).trans hres, Fr.ext hx f2 (fun i e => by have e : i = eb := e; omega), h.lt⟩
  rw [show (trows (ts ++ [tk])).flatten = (trows ts).flatten ++ trow tk by simp [trows]]
  exact f2.own ho (fun a ha e => ho.away_t hent (by decide) a ha e)
/-- A slice's length. -/
def slen : Value → Nat
  | .slice _ n _ => n
  | _ => 0
theorem putN_split2 : ∀ (l m : List Int) (r s : List Nat), OkN l → OkN m → l.length ≤ m.length → putN m ++ s = putN l ++ r → m.take l.length = l ∧ r = putN (m.drop l.length) ++ s
  | [], m, r, s, _, _, _, h => ⟨rfl, h.symm⟩
  | x :: l, [], r, s, _, _, hl, _ => by simp at hl
  | x :: l, y :: m, r, s, h1, h2, hl, h => by
    have b1 := h1 x (by simp)
    have b2 := h2 y (by simp)
    rw [putN_cons, putN_cons, List.append_assoc, List.append_assoc] at h
    have e1 := Wr.rd_num y.toNat (putN m ++ s) (by omega)
    rw [h, Wr.rd_num x.toNat (putN l ++ r) (by omega)] at e1
    simp only [Option.some.injEq, Prod.mk.injEq] at e1
    obtain rfl : x = y := by omega
    have h := List.append_cancel_left h
    obtain ⟨q1, q2⟩ := putN_split2 l m r s h1.tail h2.tail (by simpa using hl) h
    exact ⟨by rw [List.length_cons, List.take_succ_cons, q1], by rw [List.length_cons, List.drop_succ_cons]; exact q2⟩
theorem putN_nil {l : List Int} (h : putN l = []) : l = [] := by
  cases l with
  | nil => rfl
  | cons x l =>
    rw [putN_cons] at h
    have := Wr.num_pos x.toNat
    have h2 := congrArg List.length h
    simp only [List.length_append, List.length_nil] at h2
    omega
section
variable {l : List Nat} {at_ : Nat} {ns : List Int} {e : En}
theorem Part.more (h : Part l at_ ns) (hlt : at_ < l.length) (he : e.form = true) (hle : l = e.put) : ns.length < e.nums.length := by
  rcases Nat.lt_or_ge ns.length e.nums.length with h1 | h1
  · exact h1
  · exfalso
    have h2 := putN_split2 e.nums ns [] (l.drop at_) (nums_ok he) h.okN h1 (by rw [List.append_nil, ← h.eq]; exact hle)
    have h3 := congrArg List.length h2.2
    rw [List.length_append, List.length_drop, List.length_nil] at h3
    omega
theorem Part.whole (h : Part l at_ ns) (hat : l.length ≤ at_) (he : e.form = true) (hle : l = e.put) : e.nums = ns := by
  have h0 := h.eq
  rw [List.drop_eq_nil_of_le hat, List.append_nil] at h0
  rcases Nat.le_total ns.length e.nums.length with h1 | h1
  · obtain ⟨h2, h3⟩ := putN_split ns e.nums [] h.okN (nums_ok he) h1 (by rw [List.append_nil, ← h0, hle]; rfl)
    have h4 := putN_nil h3.symm
    rw [List.drop_eq_nil_iff] at h4
    rw [List.take_of_length_le h4] at h2
    exact h2
  · obtain ⟨h2, h3⟩ := putN_split e.nums ns [] (nums_ok he) h.okN h1 (by rw [List.append_nil, ← h0, hle]; rfl)
    have h4 := putN_nil h3.symm
    rw [List.drop_eq_nil_iff] at h4
    rw [List.take_of_length_le h4] at h2
    exact h2.symm
end
/-- The reader on its way, the numbers, the result's place. -/
structure RGt (w wr : World) (g rb : Nat) (A : Option Addr) (n c at_ : Nat) (l : List Nat) (B : Option Addr) (L d : Nat) (ns : List Int) : Prop where
  rs : RmS wr g A n c at_ l
  own : Own wr w.heap.size 3 1 B L d (ints ns)
  res : wr.heap[rb]? = some (.cells #[.int .i64 0, .int .i64 0, .int .i64 0, .int .i64 0, .int .i64 0, .int .i64 0, .int .i64 0, .int .i64 0, .slice none 0 0, .int .i64 0] 29 (0, 0))
  x : Ext w wr
  lt : w.heap.size ≤ g ∧ w.heap.size ≤ rb ∧ g ≠ rb
  oA : 0 < n → ∀ a, A = some a → a.block < w.heap.size
  p : Part l at_ ns
section
variable {w wr w' : World} {g rb n c at_ L d : Nat} {A B : Option Addr} {l : List Nat} {ns : List Int}
theorem RGt.ext (h : RGt w wr g rb A n c at_ l B L d ns) (hx : Ext wr w') : RGt w w' g rb A n c at_ l B L d ns :=
  ⟨h.rs.ext hx, h.own.ext hx, (hx.block _ (block_lt h.res)).trans h.res, h.x.trans hx, h.lt, h.oA, h.p⟩
theorem RGt.app (h : RGt w wr g rb A n c at_ l B L d ns) {x k : Nat} {w1 : World} (hr : Wr.rd (l.drop at_) = some (x, k)) (hx : x ≤ 1099511627776) (h1 : RmS w1 g A n c (at_ + k) l) (hf : Fr wr w1 (· = g)) (hg : Grows (w1.alloc (.cells #[.int .i64 (x : Int)] 3)) w' B) {B' : Option Addr} {d' : Nat} (ho : Own w' w.heap.size 3 1 B' (L + 1) d' (ints ns ++ ints [(x : Int)])) : RGt w w' g rb A n c (at_ + k) l B' (L + 1) d' (ns ++ [(x : Int)]) := by
  obtain ⟨l1, l2, l3⟩ := h.lt
  have f1 : Fr wr (w1.alloc (.cells #[.int .i64 (x : Int)] 3)) (· = g) := hf.trans (Fr.of_ext ((Ext.refl w1).alloc _) (fun _ => False)) (fun _ _ e => e.elim)
  have h2 : RmS (w1.alloc (.cells #[.int .i64 (x : Int)] 3)) g A n c (at_ + k) l := h1.ext ((Ext.refl w1).alloc _)
  have o1 := f1.own h.own (fun a ha e => h.own.away_t h.rs.blk (by decide) a ha e)
  have r1 := (f1.block rb (block_lt h.res) (fun e => l3 e.symm)).trans h.res
  have x1 : Ext w (w1.alloc (.cells #[.int .i64 (x : Int)] 3)) := Fr.ext h.x f1 (fun i e => by have e : i = g := e; omega)
  have f2 := Fr.grows hg
  have nof : ∀ {q : Nat}, (∀ b, B = some b → b.block ≠ q) → ¬ B.map (·.block) = some q := fun hq e => by
    cases B with
    | none => cases e
    | some b => exact hq b rfl (by simpa using e)
  refine ⟨h2.frm f2 (nof (o1.away_t h2.blk (by decide))) (fun h0 a ha => nof (fun b hb e => by
    have q1 := h.oA h0 a ha
    have q2 := o1.base_le b.block (by rw [hb]; rfl)
    omega)), by rw [ints_app']; exact ho, (f2.block rb (block_lt r1) (nof (o1.away_t r1 (by decide)))).trans r1, hg.ext x1 (fun q hq => o1.base_le q hq), h.lt, h.oA, h.p.next h.rs.byte hr hx⟩
end
set_option maxHeartbeats 6400000 in
theorem rget_any (A : Option Addr) (n c : Nat) (l : List Nat) (w : World) (hr : Rd w 1 A n (u8s l)) (hl : ∀ x ∈ l, x < 256) (hn : n ≤ 140737488351232) (hnc : n ≤ c) : Calls Tryd.prog 31 #[.slice A n c] w fun x w' => GetOut l w.heap.size (.bool false) (.bool true) x w' ∧ Ext w w' := by
  have hnl := hr.len
  rw [u8s_len] at hnl
  have HRD := Lib.hid (And.intro hr (And.intro hl hn))
  have X0 := (Ext.refl w).alloc (.cells #[.int .i64 0, .int .i64 0, .int .i64 0, .int .i64 0, .int .i64 0, .int .i64 0, .int .i64 0, .int .i64 0, .slice none 0 0, .int .i64 0] 29)
  have b0 := heap_alloc_new w (.cells #[.int .i64 0, .int .i64 0, .int .i64 0, .int .i64 0, .int .i64 0, .int .i64 0, .int .i64 0, .int .i64 0, .slice none 0 0, .int .i64 0] 29)
  have X1 := X0.alloc (.cells #[.slice A n c, .int .i64 0] 115)
  have b1 := heap_alloc_new (w.alloc (.cells #[.int .i64 0, .int .i64 0, .int .i64 0, .int .i64 0, .int .i64 0, .int .i64 0, .int .i64 0, .int .i64 0, .slice none 0 0, .int .i64 0] 29)) (.cells #[.slice A n c, .int .i64 0] 115)
  have X2 := X1.alloc (.cells #[] 3)
  have XX2 := (Ext.refl ((w.alloc (.cells #[.int .i64 0, .int .i64 0, .int .i64 0, .int .i64 0, .int .i64 0, .int .i64 0, .int .i64 0, .int .i64 0, .slice none 0 0, .int .i64 0] 29)).alloc (.cells #[.slice A n c, .int .i64 0] 115))).alloc (.cells #[] 3)
  have XX1 := ((Ext.refl (w.alloc (.cells #[.int .i64 0, .int .i64 0, .int .i64 0, .int .i64 0, .int .i64 0, .int .i64 0, .int .i64 0, .int .i64 0, .slice none 0 0, .int .i64 0] 29))).alloc (.cells #[.slice A n c, .int .i64 0] 115)).alloc (.cells #[] 3)
  rw [World.size_alloc] at b1
  have o2 : Own (((w.alloc (.cells #[.int .i64 0, .int .i64 0, .int .i64 0, .int .i64 0, .int .i64 0, .int .i64 0, .int .i64 0, .int .i64 0, .slice none 0 0, .int .i64 0] 29)).alloc (.cells #[.slice A n c, .int .i64 0] 115)).alloc (.cells #[] 3)) w.heap.size 3 1 (some ⟨w.heap.size + 1 + 1, 0, none⟩) 0 0 (ints []) := (by
    have h := World.ownsRow_lit (base := w.heap.size) (e := 3) (size := 1) ((w.alloc (.cells #[.int .i64 0, .int .i64 0, .int .i64 0, .int .i64 0, .int .i64 0, .int .i64 0, .int .i64 0, .int .i64 0, .slice none 0 0, .int .i64 0] 29)).alloc (.cells #[.slice A n c, .int .i64 0] 115)) #[] 0 X1.size (by simp [maxLen]) rfl
    simp only [World.size_alloc] at h
    exact h)
  have HG : Hid (RGt w (((w.alloc (.cells #[.int .i64 0, .int .i64 0, .int .i64 0, .int .i64 0, .int .i64 0, .int .i64 0, .int .i64 0, .int .i64 0, .slice none 0 0, .int .i64 0] 29)).alloc (.cells #[.slice A n c, .int .i64 0] 115)).alloc (.cells #[] 3)) (w.heap.size + 1) w.heap.size A n c 0 l (some ⟨w.heap.size + 1 + 1, 0, none⟩) 0 0 []) := Lib.hid (by
    have b1' := (XX2.block _ (block_lt b1)).trans b1
    refine ⟨⟨b1', hr.ext X2, hnc, fun h0 a ha e => ?_, by omega, hl, hn⟩, o2, (XX1.block _ (block_lt b0)).trans b0, X2, ⟨by omega, by omega, by omega⟩, fun h0 a ha => ?_, Part.nil⟩
    · obtain ⟨a', ha', hlt, _⟩ := hr.2 h0
      rw [ha] at ha'
      injection ha' with ha'
      rw [ha'] at e
      omega
    · obtain ⟨a', ha', hlt, _⟩ := hr.2 h0
      rw [ha] at ha'
      injection ha' with ha'
      rw [ha']
      exact hlt)
  clear X0 b0 X1 b1 X2 XX1 XX2 o2 hr hl
  go_enter Tryd.func31, Tryd.ntmps31
  go_upto_region 3 with (fail)
  generalize ((w.alloc (.cells #[.int .i64 0, .int .i64 0, .int .i64 0, .int .i64 0, .int .i64 0, .int .i64 0, .int .i64 0, .int .i64 0, .slice none 0 0, .int .i64 0] 29)).alloc (.cells #[.slice A n c, .int .i64 0] 115)).alloc (.cells #[] 3) = W0 at *
  generalize hrb : w.heap.size = rb at *
  have HRB := Lib.hid hrb
  clear hrb
  go_loopw [5, 6, 7] (fun v5 _ _ wr => ∃ (at_ L d : Nat) (B : Option Addr) (ns : List Int), v5 = .slice B L d ∧ L ≤ 43 ∧ Hid (ns.length = L ∧ RGt w wr (rb + 1) rb A n c at_ l B L d ns)) (fun v5 _ _ _ => 43 - slen v5)
  case atStart => exact ⟨0, 0, 0, _, [], rfl, by omega, rfl, HG.out⟩
  case round =>
    obtain ⟨at_, L, d, B, ns, rfl, hL, HI⟩ := hrel
    clear HG
    have c1 : wr.cell? ⟨rb + 1, 1, none⟩ = some (.int .i64 (at_ : Int)) := block_cell HI.out.2.rs.blk 1
    have hatn := HI.out.2.rs.le
    by_cases hlt : at_ < n
    · have hlt' : (at_ : Int) < (n : Int) := by omega
      by_cases hL2 : L ≤ 42
      · have hL3 : (L : Int) ≤ 42 := by omega
        by_cases hok : ∃ x k', Wr.rd (l.drop at_) = some (x, k') ∧ x ≤ 1099511627776
        · obtain ⟨x, k', hrd, hx⟩ := hok
          have CN := Lib.hid (mnum_ok HI.out.2.rs hrd 1099511627776 (by omega))
          have HRR := Lib.hid hrd
          clear hrd
          go_upto_region 7 with (go_at_call 61; refine CN.out.mono ?_; rintro e w4 ⟨rfl, s4, f4⟩)
          have X4 := (Ext.refl w4).alloc (.cells #[.int .i64 (x : Int)] 3)
          have o4 : Own (w4.alloc (.cells #[.int .i64 (x : Int)] 3)) w.heap.size 3 1 B L d (ints ns) := (f4.own HI.out.2.own (fun a ha e => HI.out.2.own.away_t HI.out.2.rs.blk (by decide) a ha e)).ext X4
          have RN : Rd (w4.alloc (.cells #[.int .i64 (x : Int)] 3)) 1 (some ⟨w4.heap.size, 0, none⟩) 1 (ints [(x : Int)]) := Rd.new w4 #[.int .i64 (x : Int)] 3 (0, 0)
          have hsz : w.heap.size ≤ (w4.alloc (.cells #[.int .i64 (x : Int)] 3)).heap.size := by have h1 := HI.out.2.x.size; have h2 := f4.size; rw [World.size_alloc]; omega
          have H4 := Lib.hid (And.intro s4 f4)
          clear s4 f4 X4 CN c1
          go_wp2_with (at_builtin; refine held ?_)
          refine Held.go (wp_app (m := 1) (news := ints [(x : Int)]) eltIn o4 RN (ints_one' _) (by omega) (.inr ⟨by omega, by omega⟩) hsz _ _ rfl rfl rfl rfl ?_)
          intro A3 c3 w3 o3 g3 _ _
          have HN := Lib.hid (HI.out.2.app HRR.out hx H4.out.1 H4.out.2 g3 o3)
          have HLN := Lib.hid HI.out.1
          clear o3 g3 o4 RN hsz HI H4 HRR
          go_wp2_with fail
          go_roundw
          case rel => exact ⟨at_ + k', L + 1, c3, A3, ns ++ [(x : Int)], rfl, by omega, by rw [List.length_append, HLN.out]; rfl, HN.out⟩
          case measure => simp [slen]; omega
        · have hno : ∀ x k', Wr.rd (l.drop at_) = some (x, k') → (1099511627776 : Int) < (x : Int) := fun x k' hr => by
            rcases Nat.lt_or_ge 1099511627776 x with h | h
            · omega
            · exact absurd ⟨x, k', hr, h⟩ hok
          have CN := Lib.hid (mnum_no HI.out.2.rs 1099511627776 hno)
          have HNO := Lib.hid (fun (e : En) (he : e.form = true) (hle : l = e.put) => HI.out.2.p.no_next hno he (HI.out.2.p.more (by rw [hnl]; exact hlt) he hle) hle)
          clear hok hno
          go_upto_region 6 with (go_at_call 61; refine CN.out.mono ?_; rintro e w4 ⟨rfl, x4⟩)
          have HRS := Lib.hid (And.intro ((x4.block _ (block_lt HI.out.2.res)).trans HI.out.2.res) (HI.out.2.x.trans x4))
          clear CN HI x4 c1
          have r0 : w4.cell? ⟨rb, 0, none⟩ = some (.int .i64 0) := block_cell (HRS.out.1) 0
          have r1 : w4.cell? ⟨rb, 1, none⟩ = some (.int .i64 0) := block_cell (HRS.out.1) 1
          have r2 : w4.cell? ⟨rb, 2, none⟩ = some (.int .i64 0) := block_cell (HRS.out.1) 2
          have r3 : w4.cell? ⟨rb, 3, none⟩ = some (.int .i64 0) := block_cell (HRS.out.1) 3
          have r4 : w4.cell? ⟨rb, 4, none⟩ = some (.int .i64 0) := block_cell (HRS.out.1) 4
          have r5 : w4.cell? ⟨rb, 5, none⟩ = some (.int .i64 0) := block_cell (HRS.out.1) 5
          have r6 : w4.cell? ⟨rb, 6, none⟩ = some (.int .i64 0) := block_cell (HRS.out.1) 6
          have r7 : w4.cell? ⟨rb, 7, none⟩ = some (.int .i64 0) := block_cell (HRS.out.1) 7
          have r8 : w4.cell? ⟨rb, 8, none⟩ = some (.slice none 0 0) := block_cell (HRS.out.1) 8
          have r9 : w4.cell? ⟨rb, 9, none⟩ = some (.int .i64 0) := block_cell (HRS.out.1) 9
          have q0 := block_fz (HRS.out.1) 0
          have q1 := block_fz (HRS.out.1) 1
          have q2 := block_fz (HRS.out.1) 2
          have q3 := block_fz (HRS.out.1) 3
          have q4 := block_fz (HRS.out.1) 4
          have q5 := block_fz (HRS.out.1) 5
          have q6 := block_fz (HRS.out.1) 6
          have q7 := block_fz (HRS.out.1) 7
          have q8 := block_fz (HRS.out.1) 8
          have q9 := block_fz (HRS.out.1) 9
          go_wp2_with fail
          have hz := st10 (W := w4) (HRS.out.1) (.int .i64 0) (.int .i64 0) (.int .i64 0) (.int .i64 0) (.int .i64 0) (.int .i64 0) (.int .i64 0) (.int .i64 0) (.slice none 0 0) (.int .i64 0)
          have HZ := Lib.hid (And.intro hz.1 (Fr.ext (HRS.out.2) hz.2 (fun i e => by have e : i = rb := e; have := HRB.out; omega)))
          clear hz r0 q0 r1 q1 r2 q2 r3 q3 r4 q4 r5 q5 r6 q6 r7 q7 r8 q8 r9 q9
          generalize ((((((((((w4.setCell ⟨rb, 0, none⟩ (.int .i64 0)).setCell ⟨rb, 1, none⟩ (.int .i64 0)).setCell ⟨rb, 2, none⟩ (.int .i64 0)).setCell ⟨rb, 3, none⟩ (.int .i64 0)).setCell ⟨rb, 4, none⟩ (.int .i64 0)).setCell ⟨rb, 5, none⟩ (.int .i64 0)).setCell ⟨rb, 6, none⟩ (.int .i64 0)).setCell ⟨rb, 7, none⟩ (.int .i64 0)).setCell ⟨rb, 8, none⟩ (.slice none 0 0)).setCell ⟨rb, 9, none⟩ (.int .i64 0)) = Z at *
          have z0 : Z.cell? ⟨rb, 0, none⟩ = some (.int .i64 0) := block_cell (HZ.out.1) 0
          have z1 : Z.cell? ⟨rb, 1, none⟩ = some (.int .i64 0) := block_cell (HZ.out.1) 1
          have z2 : Z.cell? ⟨rb, 2, none⟩ = some (.int .i64 0) := block_cell (HZ.out.1) 2
          have z3 : Z.cell? ⟨rb, 3, none⟩ = some (.int .i64 0) := block_cell (HZ.out.1) 3
          have z4 : Z.cell? ⟨rb, 4, none⟩ = some (.int .i64 0) := block_cell (HZ.out.1) 4
          have z5 : Z.cell? ⟨rb, 5, none⟩ = some (.int .i64 0) := block_cell (HZ.out.1) 5
          have z6 : Z.cell? ⟨rb, 6, none⟩ = some (.int .i64 0) := block_cell (HZ.out.1) 6
          have z7 : Z.cell? ⟨rb, 7, none⟩ = some (.int .i64 0) := block_cell (HZ.out.1) 7
          have z8 : Z.cell? ⟨rb, 8, none⟩ = some (.slice none 0 0) := block_cell (HZ.out.1) 8
          have z9 : Z.cell? ⟨rb, 9, none⟩ = some (.int .i64 0) := block_cell (HZ.out.1) 9
          refine bodyPost_ret (v := .tuple #[.agg #[.int .i64 0, .int .i64 0, .int .i64 0, .int .i64 0, .int .i64 0, .int .i64 0, .int .i64 0, .int .i64 0, .slice none 0 0, .int .i64 0], .bool false]) (by simp [results, Tryd.results31, go_sem, z0, z1, z2, z3, z4, z5, z6, z7, z8, z9]) rfl ?_
          exact ⟨.inr ⟨HNO.out, rfl⟩, HZ.out.2⟩
      · have hL3 : ¬ (L : Int) ≤ 42 := by omega
        have hne : ((at_ : Int) != (n : Int)) = true := by simp; omega
        have HNO := Lib.hid (fun (e : En) (he : e.form = true) (hle : l = e.put) => (by
          have h1 := HI.out.2.p.more (by rw [hnl]; exact hlt) he hle
          have h2 := nums_len e
          have h3 := (form_fits he).2
          have h4 := HI.out.1
          omega : False))
        go_upto_region 9 with (fail)
        have HRS := Lib.hid (And.intro HI.out.2.res HI.out.2.x)
        clear HI c1
        have r0 : wr.cell? ⟨rb, 0, none⟩ = some (.int .i64 0) := block_cell (HRS.out.1) 0
        have r1 : wr.cell? ⟨rb, 1, none⟩ = some (.int .i64 0) := block_cell (HRS.out.1) 1
        have r2 : wr.cell? ⟨rb, 2, none⟩ = some (.int .i64 0) := block_cell (HRS.out.1) 2
        have r3 : wr.cell? ⟨rb, 3, none⟩ = some (.int .i64 0) := block_cell (HRS.out.1) 3
        have r4 : wr.cell? ⟨rb, 4, none⟩ = some (.int .i64 0) := block_cell (HRS.out.1) 4
        have r5 : wr.cell? ⟨rb, 5, none⟩ = some (.int .i64 0) := block_cell (HRS.out.1) 5
        have r6 : wr.cell? ⟨rb, 6, none⟩ = some (.int .i64 0) := block_cell (HRS.out.1) 6
        have r7 : wr.cell? ⟨rb, 7, none⟩ = some (.int .i64 0) := block_cell (HRS.out.1) 7
        have r8 : wr.cell? ⟨rb, 8, none⟩ = some (.slice none 0 0) := block_cell (HRS.out.1) 8
        have r9 : wr.cell? ⟨rb, 9, none⟩ = some (.int .i64 0) := block_cell (HRS.out.1) 9
        have q0 := block_fz (HRS.out.1) 0
        have q1 := block_fz (HRS.out.1) 1
        have q2 := block_fz (HRS.out.1) 2
        have q3 := block_fz (HRS.out.1) 3
        have q4 := block_fz (HRS.out.1) 4
        have q5 := block_fz (HRS.out.1) 5
        have q6 := block_fz (HRS.out.1) 6
        have q7 := block_fz (HRS.out.1) 7
        have q8 := block_fz (HRS.out.1) 8
        have q9 := block_fz (HRS.out.1) 9
        go_wp2_with fail
        have hz := st10 (W := wr) (HRS.out.1) (.int .i64 0) (.int .i64 0) (.int .i64 0) (.int .i64 0) (.int .i64 0) (.int .i64 0) (.int .i64 0) (.int .i64 0) (.slice none 0 0) (.int .i64 0)
        have HZ := Lib.hid (And.intro hz.1 (Fr.ext (HRS.out.2) hz.2 (fun i e => by have e : i = rb := e; have := HRB.out; omega)))
        clear hz r0 q0 r1 q1 r2 q2 r3 q3 r4 q4 r5 q5 r6 q6 r7 q7 r8 q8 r9 q9
        generalize ((((((((((wr.setCell ⟨rb, 0, none⟩ (.int .i64 0)).setCell ⟨rb, 1, none⟩ (.int .i64 0)).setCell ⟨rb, 2, none⟩ (.int .i64 0)).setCell ⟨rb, 3, none⟩ (.int .i64 0)).setCell ⟨rb, 4, none⟩ (.int .i64 0)).setCell ⟨rb, 5, none⟩ (.int .i64 0)).setCell ⟨rb, 6, none⟩ (.int .i64 0)).setCell ⟨rb, 7, none⟩ (.int .i64 0)).setCell ⟨rb, 8, none⟩ (.slice none 0 0)).setCell ⟨rb, 9, none⟩ (.int .i64 0)) = Z at *
        have z0 : Z.cell? ⟨rb, 0, none⟩ = some (.int .i64 0) := block_cell (HZ.out.1) 0
        have z1 : Z.cell? ⟨rb, 1, none⟩ = some (.int .i64 0) := block_cell (HZ.out.1) 1
        have z2 : Z.cell? ⟨rb, 2, none⟩ = some (.int .i64 0) := block_cell (HZ.out.1) 2
        have z3 : Z.cell? ⟨rb, 3, none⟩ = some (.int .i64 0) := block_cell (HZ.out.1) 3
        have z4 : Z.cell? ⟨rb, 4, none⟩ = some (.int .i64 0) := block_cell (HZ.out.1) 4
        have z5 : Z.cell? ⟨rb, 5, none⟩ = some (.int .i64 0) := block_cell (HZ.out.1) 5
        have z6 : Z.cell? ⟨rb, 6, none⟩ = some (.int .i64 0) := block_cell (HZ.out.1) 6
        have z7 : Z.cell? ⟨rb, 7, none⟩ = some (.int .i64 0) := block_cell (HZ.out.1) 7
        have z8 : Z.cell? ⟨rb, 8, none⟩ = some (.slice none 0 0) := block_cell (HZ.out.1) 8
        have z9 : Z.cell? ⟨rb, 9, none⟩ = some (.int .i64 0) := block_cell (HZ.out.1) 9
        refine bodyPost_ret (v := .tuple #[.agg #[.int .i64 0, .int .i64 0, .int .i64 0, .int .i64 0, .int .i64 0, .int .i64 0, .int .i64 0, .int .i64 0, .slice none 0 0, .int .i64 0], .bool false]) (by simp [results, Tryd.results31, go_sem, z0, z1, z2, z3, z4, z5, z6, z7, z8, z9]) rfl ?_
        exact ⟨.inr ⟨HNO.out, rfl⟩, HZ.out.2⟩
    · obtain rfl : n = at_ := by omega
      have hne : ((n : Int) != (n : Int)) = false := by simp
      by_cases h10 : L < 10
      · have HNO := Lib.hid (fun (e : En) (he : e.form = true) (hle : l = e.put) => (by
          have h1 := HI.out.2.p.whole (by omega) he hle
          have h2 := nums_len e
          have h4 := HI.out.1
          rw [h1] at h2
          omega : False))
        go_upto_region 9 with (fail)
        have HRS := Lib.hid (And.intro HI.out.2.res HI.out.2.x)
        clear HI c1
        have r0 : wr.cell? ⟨rb, 0, none⟩ = some (.int .i64 0) := block_cell (HRS.out.1) 0
        have r1 : wr.cell? ⟨rb, 1, none⟩ = some (.int .i64 0) := block_cell (HRS.out.1) 1
        have r2 : wr.cell? ⟨rb, 2, none⟩ = some (.int .i64 0) := block_cell (HRS.out.1) 2
        have r3 : wr.cell? ⟨rb, 3, none⟩ = some (.int .i64 0) := block_cell (HRS.out.1) 3
        have r4 : wr.cell? ⟨rb, 4, none⟩ = some (.int .i64 0) := block_cell (HRS.out.1) 4
        have r5 : wr.cell? ⟨rb, 5, none⟩ = some (.int .i64 0) := block_cell (HRS.out.1) 5
        have r6 : wr.cell? ⟨rb, 6, none⟩ = some (.int .i64 0) := block_cell (HRS.out.1) 6
        have r7 : wr.cell? ⟨rb, 7, none⟩ = some (.int .i64 0) := block_cell (HRS.out.1) 7
        have r8 : wr.cell? ⟨rb, 8, none⟩ = some (.slice none 0 0) := block_cell (HRS.out.1) 8
        have r9 : wr.cell? ⟨rb, 9, none⟩ = some (.int .i64 0) := block_cell (HRS.out.1) 9
        have q0 := block_fz (HRS.out.1) 0
        have q1 := block_fz (HRS.out.1) 1
        have q2 := block_fz (HRS.out.1) 2
        have q3 := block_fz (HRS.out.1) 3
        have q4 := block_fz (HRS.out.1) 4
        have q5 := block_fz (HRS.out.1) 5
        have q6 := block_fz (HRS.out.1) 6
        have q7 := block_fz (HRS.out.1) 7
        have q8 := block_fz (HRS.out.1) 8
        have q9 := block_fz (HRS.out.1) 9
        go_wp2_with fail
        have hz := st10 (W := wr) (HRS.out.1) (.int .i64 0) (.int .i64 0) (.int .i64 0) (.int .i64 0) (.int .i64 0) (.int .i64 0) (.int .i64 0) (.int .i64 0) (.slice none 0 0) (.int .i64 0)
        have HZ := Lib.hid (And.intro hz.1 (Fr.ext (HRS.out.2) hz.2 (fun i e => by have e : i = rb := e; have := HRB.out; omega)))
        clear hz r0 q0 r1 q1 r2 q2 r3 q3 r4 q4 r5 q5 r6 q6 r7 q7 r8 q8 r9 q9
        generalize ((((((((((wr.setCell ⟨rb, 0, none⟩ (.int .i64 0)).setCell ⟨rb, 1, none⟩ (.int .i64 0)).setCell ⟨rb, 2, none⟩ (.int .i64 0)).setCell ⟨rb, 3, none⟩ (.int .i64 0)).setCell ⟨rb, 4, none⟩ (.int .i64 0)).setCell ⟨rb, 5, none⟩ (.int .i64 0)).setCell ⟨rb, 6, none⟩ (.int .i64 0)).setCell ⟨rb, 7, none⟩ (.int .i64 0)).setCell ⟨rb, 8, none⟩ (.slice none 0 0)).setCell ⟨rb, 9, none⟩ (.int .i64 0)) = Z at *
        have z0 : Z.cell? ⟨rb, 0, none⟩ = some (.int .i64 0) := block_cell (HZ.out.1) 0
        have z1 : Z.cell? ⟨rb, 1, none⟩ = some (.int .i64 0) := block_cell (HZ.out.1) 1
        have z2 : Z.cell? ⟨rb, 2, none⟩ = some (.int .i64 0) := block_cell (HZ.out.1) 2
        have z3 : Z.cell? ⟨rb, 3, none⟩ = some (.int .i64 0) := block_cell (HZ.out.1) 3
        have z4 : Z.cell? ⟨rb, 4, none⟩ = some (.int .i64 0) := block_cell (HZ.out.1) 4
        have z5 : Z.cell? ⟨rb, 5, none⟩ = some (.int .i64 0) := block_cell (HZ.out.1) 5
        have z6 : Z.cell? ⟨rb, 6, none⟩ = some (.int .i64 0) := block_cell (HZ.out.1) 6
        have z7 : Z.cell? ⟨rb, 7, none⟩ = some (.int .i64 0) := block_cell (HZ.out.1) 7
        have z8 : Z.cell? ⟨rb, 8, none⟩ = some (.slice none 0 0) := block_cell (HZ.out.1) 8
        have z9 : Z.cell? ⟨rb, 9, none⟩ = some (.int .i64 0) := block_cell (HZ.out.1) 9
        refine bodyPost_ret (v := .tuple #[.agg #[.int .i64 0, .int .i64 0, .int .i64 0, .int .i64 0, .int .i64 0, .int .i64 0, .int .i64 0, .int .i64 0, .slice none 0 0, .int .i64 0], .bool false]) (by simp [results, Tryd.results31, go_sem, z0, z1, z2, z3, z4, z5, z6, z7, z8, z9]) rfl ?_
        exact ⟨.inr ⟨HNO.out, rfl⟩, HZ.out.2⟩
      · obtain ⟨gB, rfl⟩ := HI.out.2.own.head (by omega)
        obtain ⟨a0, a1, a2, a3, a4, a5, a6, a7, a8, a9, ms, rfl⟩ := ten_more (show 10 ≤ ns.length by have := HI.out.1; omega)
        have hml : ms.length = L - 10 := by have := HI.out.1; simp only [List.length_cons] at this; omega
        have HCL := Lib.hid (fun (i : Nat) (v : Int) (hv : (a0 :: a1 :: a2 :: a3 :: a4 :: a5 :: a6 :: a7 :: a8 :: a9 :: ms)[i]? = some v) W (hx : Ext wr W) => (HI.out.2.own.ext hx).celln (ints_at' hv))
        have y9 : wr.cell? ⟨gB, 9, none⟩ = some (.int .i64 a9) := HCL.out 9 a9 rfl wr (Ext.refl wr)
        have i9 : (9 : Int) < (L : Int) := by omega
        have h10' : ¬ (L : Int) < 10 := by omega
        have hp9 := HI.out.2.p.ok a9 (by simp)
        by_cases h8 : 8 < a9
        · have HNO := Lib.hid (fun (e : En) (he : e.form = true) => HI.out.2.p.no_big (by have := HI.out.1; omega) h8 he)
          go_upto_region 9 with (fail)
          have HRS := Lib.hid (And.intro HI.out.2.res HI.out.2.x)
          clear HI c1 y9
          have r0 : wr.cell? ⟨rb, 0, none⟩ = some (.int .i64 0) := block_cell (HRS.out.1) 0
          have r1 : wr.cell? ⟨rb, 1, none⟩ = some (.int .i64 0) := block_cell (HRS.out.1) 1
          have r2 : wr.cell? ⟨rb, 2, none⟩ = some (.int .i64 0) := block_cell (HRS.out.1) 2
          have r3 : wr.cell? ⟨rb, 3, none⟩ = some (.int .i64 0) := block_cell (HRS.out.1) 3
          have r4 : wr.cell? ⟨rb, 4, none⟩ = some (.int .i64 0) := block_cell (HRS.out.1) 4
          have r5 : wr.cell? ⟨rb, 5, none⟩ = some (.int .i64 0) := block_cell (HRS.out.1) 5
          have r6 : wr.cell? ⟨rb, 6, none⟩ = some (.int .i64 0) := block_cell (HRS.out.1) 6
          have r7 : wr.cell? ⟨rb, 7, none⟩ = some (.int .i64 0) := block_cell (HRS.out.1) 7
          have r8 : wr.cell? ⟨rb, 8, none⟩ = some (.slice none 0 0) := block_cell (HRS.out.1) 8
          have r9 : wr.cell? ⟨rb, 9, none⟩ = some (.int .i64 0) := block_cell (HRS.out.1) 9
          have q0 := block_fz (HRS.out.1) 0
          have q1 := block_fz (HRS.out.1) 1
          have q2 := block_fz (HRS.out.1) 2
          have q3 := block_fz (HRS.out.1) 3
          have q4 := block_fz (HRS.out.1) 4
          have q5 := block_fz (HRS.out.1) 5
          have q6 := block_fz (HRS.out.1) 6
          have q7 := block_fz (HRS.out.1) 7
          have q8 := block_fz (HRS.out.1) 8
          have q9 := block_fz (HRS.out.1) 9
          go_wp2_with fail
          have hz := st10 (W := wr) (HRS.out.1) (.int .i64 0) (.int .i64 0) (.int .i64 0) (.int .i64 0) (.int .i64 0) (.int .i64 0) (.int .i64 0) (.int .i64 0) (.slice none 0 0) (.int .i64 0)
          have HZ := Lib.hid (And.intro hz.1 (Fr.ext (HRS.out.2) hz.2 (fun i e => by have e : i = rb := e; have := HRB.out; omega)))
          clear hz r0 q0 r1 q1 r2 q2 r3 q3 r4 q4 r5 q5 r6 q6 r7 q7 r8 q8 r9 q9
          generalize ((((((((((wr.setCell ⟨rb, 0, none⟩ (.int .i64 0)).setCell ⟨rb, 1, none⟩ (.int .i64 0)).setCell ⟨rb, 2, none⟩ (.int .i64 0)).setCell ⟨rb, 3, none⟩ (.int .i64 0)).setCell ⟨rb, 4, none⟩ (.int .i64 0)).setCell ⟨rb, 5, none⟩ (.int .i64 0)).setCell ⟨rb, 6, none⟩ (.int .i64 0)).setCell ⟨rb, 7, none⟩ (.int .i64 0)).setCell ⟨rb, 8, none⟩ (.slice none 0 0)).setCell ⟨rb, 9, none⟩ (.int .i64 0)) = Z at *
          have z0 : Z.cell? ⟨rb, 0, none⟩ = some (.int .i64 0) := block_cell (HZ.out.1) 0
          have z1 : Z.cell? ⟨rb, 1, none⟩ = some (.int .i64 0) := block_cell (HZ.out.1) 1
          have z2 : Z.cell? ⟨rb, 2, none⟩ = some (.int .i64 0) := block_cell (HZ.out.1) 2
          have z3 : Z.cell? ⟨rb, 3, none⟩ = some (.int .i64 0) := block_cell (HZ.out.1) 3
          have z4 : Z.cell? ⟨rb, 4, none⟩ = some (.int .i64 0) := block_cell (HZ.out.1) 4
          have z5 : Z.cell? ⟨rb, 5, none⟩ = some (.int .i64 0) := block_cell (HZ.out.1) 5
          have z6 : Z.cell? ⟨rb, 6, none⟩ = some (.int .i64 0) := block_cell (HZ.out.1) 6
          have z7 : Z.cell? ⟨rb, 7, none⟩ = some (.int .i64 0) := block_cell (HZ.out.1) 7
          have z8 : Z.cell? ⟨rb, 8, none⟩ = some (.slice none 0 0) := block_cell (HZ.out.1) 8
          have z9 : Z.cell? ⟨rb, 9, none⟩ = some (.int .i64 0) := block_cell (HZ.out.1) 9
          refine bodyPost_ret (v := .tuple #[.agg #[.int .i64 0, .int .i64 0, .int .i64 0, .int .i64 0, .int .i64 0, .int .i64 0, .int .i64 0, .int .i64 0, .slice none 0 0, .int .i64 0], .bool false]) (by simp [results, Tryd.results31, go_sem, z0, z1, z2, z3, z4, z5, z6, z7, z8, z9]) rfl ?_
          exact ⟨.inr ⟨HNO.out, rfl⟩, HZ.out.2⟩
        · obtain ⟨m, rfl⟩ : ∃ m : Nat, a9 = (m : Int) := ⟨a9.toNat, by omega⟩
          have hm8 : m ≤ 8 := by omega
          by_cases hL4 : L = 10 + 4 * m
          rotate_left 1
          · have n4 : ((L : Int) != 10 + 4 * (m : Int)) = true := by simp; omega
            have HNO := Lib.hid (fun (e : En) (he : e.form = true) (hle : l = e.put) => (by
              have h1 := HI.out.2.p.whole (by omega) he hle
              have h2 := nums_len e
              have h3 := nums_nine e
              rw [h1] at h2 h3
              have h4 := HI.out.1
              have h5 : (m : Int) = (e.ts.length : Int) := h3
              omega : False))
            go_upto_region 9 with (fail)
            have HRS := Lib.hid (And.intro HI.out.2.res HI.out.2.x)
            clear HI c1 y9
            have r0 : wr.cell? ⟨rb, 0, none⟩ = some (.int .i64 0) := block_cell (HRS.out.1) 0
            have r1 : wr.cell? ⟨rb, 1, none⟩ = some (.int .i64 0) := block_cell (HRS.out.1) 1
            have r2 : wr.cell? ⟨rb, 2, none⟩ = some (.int .i64 0) := block_cell (HRS.out.1) 2
            have r3 : wr.cell? ⟨rb, 3, none⟩ = some (.int .i64 0) := block_cell (HRS.out.1) 3
            have r4 : wr.cell? ⟨rb, 4, none⟩ = some (.int .i64 0) := block_cell (HRS.out.1) 4
            have r5 : wr.cell? ⟨rb, 5, none⟩ = some (.int .i64 0) := block_cell (HRS.out.1) 5
            have r6 : wr.cell? ⟨rb, 6, none⟩ = some (.int .i64 0) := block_cell (HRS.out.1) 6
            have r7 : wr.cell? ⟨rb, 7, none⟩ = some (.int .i64 0) := block_cell (HRS.out.1) 7
            have r8 : wr.cell? ⟨rb, 8, none⟩ = some (.slice none 0 0) := block_cell (HRS.out.1) 8
            have r9 : wr.cell? ⟨rb, 9, none⟩ = some (.int .i64 0) := block_cell (HRS.out.1) 9
            have q0 := block_fz (HRS.out.1) 0
            have q1 := block_fz (HRS.out.1) 1
            have q2 := block_fz (HRS.out.1) 2
            have q3 := block_fz (HRS.out.1) 3
            have q4 := block_fz (HRS.out.1) 4
            have q5 := block_fz (HRS.out.1) 5
            have q6 := block_fz (HRS.out.1) 6
            have q7 := block_fz (HRS.out.1) 7
            have q8 := block_fz (HRS.out.1) 8
            have q9 := block_fz (HRS.out.1) 9
            go_wp2_with fail
            have hz := st10 (W := wr) (HRS.out.1) (.int .i64 0) (.int .i64 0) (.int .i64 0) (.int .i64 0) (.int .i64 0) (.int .i64 0) (.int .i64 0) (.int .i64 0) (.slice none 0 0) (.int .i64 0)
            have HZ := Lib.hid (And.intro hz.1 (Fr.ext (HRS.out.2) hz.2 (fun i e => by have e : i = rb := e; have := HRB.out; omega)))
            clear hz r0 q0 r1 q1 r2 q2 r3 q3 r4 q4 r5 q5 r6 q6 r7 q7 r8 q8 r9 q9
            generalize ((((((((((wr.setCell ⟨rb, 0, none⟩ (.int .i64 0)).setCell ⟨rb, 1, none⟩ (.int .i64 0)).setCell ⟨rb, 2, none⟩ (.int .i64 0)).setCell ⟨rb, 3, none⟩ (.int .i64 0)).setCell ⟨rb, 4, none⟩ (.int .i64 0)).setCell ⟨rb, 5, none⟩ (.int .i64 0)).setCell ⟨rb, 6, none⟩ (.int .i64 0)).setCell ⟨rb, 7, none⟩ (.int .i64 0)).setCell ⟨rb, 8, none⟩ (.slice none 0 0)).setCell ⟨rb, 9, none⟩ (.int .i64 0)) = Z at *
            have z0 : Z.cell? ⟨rb, 0, none⟩ = some (.int .i64 0) := block_cell (HZ.out.1) 0
            have z1 : Z.cell? ⟨rb, 1, none⟩ = some (.int .i64 0) := block_cell (HZ.out.1) 1
            have z2 : Z.cell? ⟨rb, 2, none⟩ = some (.int .i64 0) := block_cell (HZ.out.1) 2
            have z3 : Z.cell? ⟨rb, 3, none⟩ = some (.int .i64 0) := block_cell (HZ.out.1) 3
            have z4 : Z.cell? ⟨rb, 4, none⟩ = some (.int .i64 0) := block_cell (HZ.out.1) 4
            have z5 : Z.cell? ⟨rb, 5, none⟩ = some (.int .i64 0) := block_cell (HZ.out.1) 5
            have z6 : Z.cell? ⟨rb, 6, none⟩ = some (.int .i64 0) := block_cell (HZ.out.1) 6
            have z7 : Z.cell? ⟨rb, 7, none⟩ = some (.int .i64 0) := block_cell (HZ.out.1) 7
            have z8 : Z.cell? ⟨rb, 8, none⟩ = some (.slice none 0 0) := block_cell (HZ.out.1) 8
            have z9 : Z.cell? ⟨rb, 9, none⟩ = some (.int .i64 0) := block_cell (HZ.out.1) 9
            refine bodyPost_ret (v := .tuple #[.agg #[.int .i64 0, .int .i64 0, .int .i64 0, .int .i64 0, .int .i64 0, .int .i64 0, .int .i64 0, .int .i64 0, .slice none 0 0, .int .i64 0], .bool false]) (by simp [results, Tryd.results31, go_sem, z0, z1, z2, z3, z4, z5, z6, z7, z8, z9]) rfl ?_
            exact ⟨.inr ⟨HNO.out, rfl⟩, HZ.out.2⟩
          have n4 : ((L : Int) != 10 + 4 * (m : Int)) = false := by simp; omega
          have i0 : 0 < L := by omega
          have i1 : (1 : Int) < (L : Int) := by omega
          have i2 : (2 : Int) < (L : Int) := by omega
          have i3 : (3 : Int) < (L : Int) := by omega
          have i4 : (4 : Int) < (L : Int) := by omega
          have i5 : (5 : Int) < (L : Int) := by omega
          have i6 : (6 : Int) < (L : Int) := by omega
          have i7 : (7 : Int) < (L : Int) := by omega
          have i8 : (8 : Int) < (L : Int) := by omega
          have y0 := HCL.out 0 a0 rfl
          have y1 := HCL.out 1 a1 rfl
          have y2 := HCL.out 2 a2 rfl
          have y3 := HCL.out 3 a3 rfl
          have y4 := HCL.out 4 a4 rfl
          have y5 := HCL.out 5 a5 rfl
          have y6 := HCL.out 6 a6 rfl
          have y7 := HCL.out 7 a7 rfl
          have y8 := HCL.out 8 a8 rfl
          have HL4 := Lib.hid (And.intro hL4 (And.intro hml i9))
          clear hL4 hml
          go_upto_region 10 with (fail)
          clear y9 c1 n4
          have HY : Ext wr wr.drew := (Ext.refl wr).drew
          refine d_region (fun W => Ext wr W) [] (by kernel_rfl) ?_
          refine d_take (i := 0) (v := ?_) [] (some 67) rfl (by rfl) (by kernel_rfl) (by kernel_rfl) (by kernel_rfl) (by kernel_rfl) (by kernel_rfl) (by kernel_rfl) (fun _ _ _ h => h) (.inl ⟨by rfl, ?_⟩) HY ?_
          rotate_left 1
          · (intro W hW; (try dsimp only at hW); go_simp; try with_reducible rfl)
          try simp only [Act.put, List.setIfInBounds_toArray, List.set_cons_zero, List.set_cons_succ]
          refine d_take (i := 1) (v := ?_) [] (some 68) rfl (by rfl) (by kernel_rfl) (by kernel_rfl) (by kernel_rfl) (by kernel_rfl) (by kernel_rfl) (by kernel_rfl) (fun _ _ _ h => h) (.inl ⟨by rfl, ?_⟩) HY ?_
          rotate_left 1
          · (intro W hW; (try dsimp only at hW); go_simp; try with_reducible rfl)
          try simp only [Act.put, List.setIfInBounds_toArray, List.set_cons_zero, List.set_cons_succ]
          refine d_take (i := 2) (v := ?_) [] (some 69) rfl (by rfl) (by kernel_rfl) (by kernel_rfl) (by kernel_rfl) (by kernel_rfl) (by kernel_rfl) (by kernel_rfl) (fun _ _ _ h => h) (.inl ⟨by rfl, ?_⟩) HY ?_
          rotate_left 1
          · (intro W hW; (try dsimp only at hW); go_simp; try with_reducible rfl)
          try simp only [Act.put, List.setIfInBounds_toArray, List.set_cons_zero, List.set_cons_succ]
          refine d_take (i := 3) (v := ?_) [] (some 70) rfl (by rfl) (by kernel_rfl) (by kernel_rfl) (by kernel_rfl) (by kernel_rfl) (by kernel_rfl) (by kernel_rfl) (fun _ _ _ h => h) (.inl ⟨by rfl, ?_⟩) HY ?_
          rotate_left 1
          · (intro W hW; (try dsimp only at hW); go_simp; try with_reducible rfl)
          try simp only [Act.put, List.setIfInBounds_toArray, List.set_cons_zero, List.set_cons_succ]
          refine d_take (i := 4) (v := ?_) [] (some 71) rfl (by rfl) (by kernel_rfl) (by kernel_rfl) (by kernel_rfl) (by kernel_rfl) (by kernel_rfl) (by kernel_rfl) (fun _ _ _ h => h) (.inl ⟨by rfl, ?_⟩) HY ?_
          rotate_left 1
          · (intro W hW; (try dsimp only at hW); go_simp; try with_reducible rfl)
          try simp only [Act.put, List.setIfInBounds_toArray, List.set_cons_zero, List.set_cons_succ]
          refine d_take (i := 5) (v := ?_) [] (some 72) rfl (by rfl) (by kernel_rfl) (by kernel_rfl) (by kernel_rfl) (by kernel_rfl) (by kernel_rfl) (by kernel_rfl) (fun _ _ _ h => h) (.inl ⟨by rfl, ?_⟩) HY ?_
          rotate_left 1
          · (intro W hW; (try dsimp only at hW); go_simp; try with_reducible rfl)
          try simp only [Act.put, List.setIfInBounds_toArray, List.set_cons_zero, List.set_cons_succ]
          refine d_take (i := 6) (v := ?_) [] (some 73) rfl (by rfl) (by kernel_rfl) (by kernel_rfl) (by kernel_rfl) (by kernel_rfl) (by kernel_rfl) (by kernel_rfl) (fun _ _ _ h => h) (.inl ⟨by rfl, ?_⟩) HY ?_
          rotate_left 1
          · (intro W hW; (try dsimp only at hW); go_simp; try with_reducible rfl)
          try simp only [Act.put, List.setIfInBounds_toArray, List.set_cons_zero, List.set_cons_succ]
          refine d_take (i := 7) (v := ?_) [] (some 74) rfl (by rfl) (by kernel_rfl) (by kernel_rfl) (by kernel_rfl) (by kernel_rfl) (by kernel_rfl) (by kernel_rfl) (fun _ _ _ h => h) (.inl ⟨by rfl, ?_⟩) HY ?_
          rotate_left 1
          · (intro W hW; (try dsimp only at hW); go_simp; try with_reducible rfl)
          try simp only [Act.put, List.setIfInBounds_toArray, List.set_cons_zero, List.set_cons_succ]
          refine d_take (i := 8) (v := ?_) [] (some 75) rfl (by rfl) (by kernel_rfl) (by kernel_rfl) (by kernel_rfl) (by kernel_rfl) (by kernel_rfl) (by kernel_rfl) (fun _ _ _ h => h) (.inl ⟨by rfl, ?_⟩) HY ?_
          rotate_left 1
          · (intro W hW; (try dsimp only at hW); go_simp; try with_reducible rfl)
          try simp only [Act.put, List.setIfInBounds_toArray, List.set_cons_zero, List.set_cons_succ]
          refine d_take (i := 9) (v := ?_) [] (some 76) rfl (by rfl) (by kernel_rfl) (by kernel_rfl) (by kernel_rfl) (by kernel_rfl) (by kernel_rfl) (by kernel_rfl) (fun _ _ _ h => h) (.inl ⟨by rfl, ?_⟩) HY ?_
          rotate_left 1
          · (intro W hW; (try dsimp only at hW); go_simp; try with_reducible rfl)
          try simp only [Act.put, List.setIfInBounds_toArray, List.set_cons_zero, List.set_cons_succ]
          refine d_take (i := 10) (v := ?_) [] (some 77) rfl (by rfl) (by kernel_rfl) (by kernel_rfl) (by kernel_rfl) (by kernel_rfl) (by kernel_rfl) (by kernel_rfl) (fun _ _ _ h => h) (.inl ⟨by rfl, ?_⟩) HY ?_
          rotate_left 1
          · (intro W hW; (try dsimp only at hW); go_simp; try with_reducible rfl)
          try simp only [Act.put, List.setIfInBounds_toArray, List.set_cons_zero, List.set_cons_succ]
          refine d_take (i := 11) (v := ?_) [] (some 78) rfl (by rfl) (by kernel_rfl) (by kernel_rfl) (by kernel_rfl) (by kernel_rfl) (by kernel_rfl) (by kernel_rfl) (fun _ _ _ h => h) (.inl ⟨by rfl, ?_⟩) HY ?_
          rotate_left 1
          · (intro W hW; (try dsimp only at hW); go_simp; try with_reducible rfl)
          try simp only [Act.put, List.setIfInBounds_toArray, List.set_cons_zero, List.set_cons_succ]
          refine d_take (i := 12) (v := ?_) [] (some 79) rfl (by rfl) (by kernel_rfl) (by kernel_rfl) (by kernel_rfl) (by kernel_rfl) (by kernel_rfl) (by kernel_rfl) (fun _ _ _ h => h) (.inl ⟨by rfl, ?_⟩) HY ?_
          rotate_left 1
          · (intro W hW; (try dsimp only at hW); go_simp; try with_reducible rfl)
          try simp only [Act.put, List.setIfInBounds_toArray, List.set_cons_zero, List.set_cons_succ]
          refine d_take (i := 13) (v := ?_) [] (some 80) rfl (by rfl) (by kernel_rfl) (by kernel_rfl) (by kernel_rfl) (by kernel_rfl) (by kernel_rfl) (by kernel_rfl) (fun _ _ _ h => h) (.inl ⟨by rfl, ?_⟩) HY ?_
          rotate_left 1
          · (intro W hW; (try dsimp only at hW); go_simp; try with_reducible rfl)
          try simp only [Act.put, List.setIfInBounds_toArray, List.set_cons_zero, List.set_cons_succ]
          refine d_take (i := 14) (v := ?_) [] (some 81) rfl (by rfl) (by kernel_rfl) (by kernel_rfl) (by kernel_rfl) (by kernel_rfl) (by kernel_rfl) (by kernel_rfl) (fun _ _ _ h => h) (.inl ⟨by rfl, ?_⟩) HY ?_
          rotate_left 1
          · (intro W hW; (try dsimp only at hW); go_simp; try with_reducible rfl)
          try simp only [Act.put, List.setIfInBounds_toArray, List.set_cons_zero, List.set_cons_succ]
          refine d_take (i := 15) (v := ?_) [] (some 82) rfl (by rfl) (by kernel_rfl) (by kernel_rfl) (by kernel_rfl) (by kernel_rfl) (by kernel_rfl) (by kernel_rfl) (fun _ _ _ h => h) (.inl ⟨by rfl, ?_⟩) HY ?_
          rotate_left 1
          · (intro W hW; (try dsimp only at hW); go_simp; try with_reducible rfl)
          try simp only [Act.put, List.setIfInBounds_toArray, List.set_cons_zero, List.set_cons_succ]
          refine d_take (i := 16) (v := ?_) [] (some 83) rfl (by rfl) (by kernel_rfl) (by kernel_rfl) (by kernel_rfl) (by kernel_rfl) (by kernel_rfl) (by kernel_rfl) (fun _ _ _ h => h) (.inl ⟨by rfl, ?_⟩) HY ?_
          rotate_left 1
          · (intro W hW; (try dsimp only at hW); go_simp; try with_reducible rfl)
          try simp only [Act.put, List.setIfInBounds_toArray, List.set_cons_zero, List.set_cons_succ]
          refine d_take (i := 17) (v := ?_) [] (some 84) rfl (by rfl) (by kernel_rfl) (by kernel_rfl) (by kernel_rfl) (by kernel_rfl) (by kernel_rfl) (by kernel_rfl) (fun _ _ _ h => h) (.inl ⟨by rfl, ?_⟩) HY ?_
          rotate_left 1
          · (intro W hW; (try dsimp only at hW); go_simp; try with_reducible rfl)
          try simp only [Act.put, List.setIfInBounds_toArray, List.set_cons_zero, List.set_cons_succ]
          refine d_take (i := 18) (v := ?_) [] (some 85) rfl (by rfl) (by kernel_rfl) (by kernel_rfl) (by kernel_rfl) (by kernel_rfl) (by kernel_rfl) (by kernel_rfl) (fun _ _ _ h => h) (.inl ⟨by rfl, ?_⟩) HY ?_
          rotate_left 1
          · (intro W hW; (try dsimp only at hW); go_simp; try with_reducible rfl)
          try simp only [Act.put, List.setIfInBounds_toArray, List.set_cons_zero, List.set_cons_succ]
          refine d_take (i := 19) (v := ?_) [] (some 86) rfl (by rfl) (by kernel_rfl) (by kernel_rfl) (by kernel_rfl) (by kernel_rfl) (by kernel_rfl) (by kernel_rfl) (fun _ _ _ h => h) (.inl ⟨by rfl, ?_⟩) HY ?_
          rotate_left 1
          · (intro W hW; (try dsimp only at hW); go_simp; try with_reducible rfl)
          try simp only [Act.put, List.setIfInBounds_toArray, List.set_cons_zero, List.set_cons_succ]
          refine d_take (i := 20) (v := ?_) [] (some 87) rfl (by rfl) (by kernel_rfl) (by kernel_rfl) (by kernel_rfl) (by kernel_rfl) (by kernel_rfl) (by kernel_rfl) (fun _ _ _ h => h) (.inl ⟨by rfl, ?_⟩) HY ?_
          rotate_left 1
          · (intro W hW; (try dsimp only at hW); go_simp; try with_reducible rfl)
          try simp only [Act.put, List.setIfInBounds_toArray, List.set_cons_zero, List.set_cons_succ]
          refine d_take (i := 21) (v := ?_) [] (some 88) rfl (by rfl) (by kernel_rfl) (by kernel_rfl) (by kernel_rfl) (by kernel_rfl) (by kernel_rfl) (by kernel_rfl) (fun _ _ _ h => h) (.inl ⟨by rfl, ?_⟩) HY ?_
          rotate_left 1
          · (intro W hW; (try dsimp only at hW); go_simp; try with_reducible rfl)
          try simp only [Act.put, List.setIfInBounds_toArray, List.set_cons_zero, List.set_cons_succ]
          refine d_take (i := 22) (v := ?_) [] (some 89) rfl (by rfl) (by kernel_rfl) (by kernel_rfl) (by kernel_rfl) (by kernel_rfl) (by kernel_rfl) (by kernel_rfl) (fun _ _ _ h => h) (.inl ⟨by rfl, ?_⟩) HY ?_
          rotate_left 1
          · (intro W hW; (try dsimp only at hW); go_simp; try with_reducible rfl)
          try simp only [Act.put, List.setIfInBounds_toArray, List.set_cons_zero, List.set_cons_succ]
          refine d_take (i := 23) (v := ?_) [] (some 90) rfl (by rfl) (by kernel_rfl) (by kernel_rfl) (by kernel_rfl) (by kernel_rfl) (by kernel_rfl) (by kernel_rfl) (fun _ _ _ h => h) (.inl ⟨by rfl, ?_⟩) HY ?_
          rotate_left 1
          · (intro W hW; (try dsimp only at hW); go_simp; try with_reducible rfl)
          try simp only [Act.put, List.setIfInBounds_toArray, List.set_cons_zero, List.set_cons_succ]
          refine d_take (i := 24) (v := ?_) [] (some 91) rfl (by rfl) (by kernel_rfl) (by kernel_rfl) (by kernel_rfl) (by kernel_rfl) (by kernel_rfl) (by kernel_rfl) (fun _ _ _ h => h) (.inl ⟨by rfl, ?_⟩) HY ?_
          rotate_left 1
          · (intro W hW; (try dsimp only at hW); go_simp; try with_reducible rfl)
          try simp only [Act.put, List.setIfInBounds_toArray, List.set_cons_zero, List.set_cons_succ]
          refine d_take (i := 25) (v := ?_) [] (some 92) rfl (by rfl) (by kernel_rfl) (by kernel_rfl) (by kernel_rfl) (by kernel_rfl) (by kernel_rfl) (by kernel_rfl) (fun _ _ _ h => h) (.inl ⟨by rfl, ?_⟩) HY ?_
          rotate_left 1
          · (intro W hW; (try dsimp only at hW); go_simp; try with_reducible rfl)
          try simp only [Act.put, List.setIfInBounds_toArray, List.set_cons_zero, List.set_cons_succ]
          refine d_take (i := 26) (v := ?_) [] (some 93) rfl (by rfl) (by kernel_rfl) (by kernel_rfl) (by kernel_rfl) (by kernel_rfl) (by kernel_rfl) (by kernel_rfl) (fun _ _ _ h => h) (.inl ⟨by rfl, ?_⟩) HY ?_
          rotate_left 1
          · (intro W hW; (try dsimp only at hW); go_simp; try with_reducible rfl)
          try simp only [Act.put, List.setIfInBounds_toArray, List.set_cons_zero, List.set_cons_succ]
          refine d_take (i := 27) (v := ?_) [] (some 94) rfl (by rfl) (by kernel_rfl) (by kernel_rfl) (by kernel_rfl) (by kernel_rfl) (by kernel_rfl) (by kernel_rfl) (fun _ _ _ h => h) (.inl ⟨by rfl, ?_⟩) HY ?_
          rotate_left 1
          · (intro W hW; (try dsimp only at hW); go_simp; try with_reducible rfl)
          try simp only [Act.put, List.setIfInBounds_toArray, List.set_cons_zero, List.set_cons_succ]
          refine d_take (i := 28) (v := ?_) [] (some 95) rfl (by rfl) (by kernel_rfl) (by kernel_rfl) (by kernel_rfl) (by kernel_rfl) (by kernel_rfl) (by kernel_rfl) (fun _ _ _ h => h) (.inl ⟨by rfl, ?_⟩) HY ?_
          rotate_left 1
          · (intro W hW; (try dsimp only at hW); go_simp; try with_reducible rfl)
          try simp only [Act.put, List.setIfInBounds_toArray, List.set_cons_zero, List.set_cons_succ]
          refine d_take (i := 29) (v := ?_) [] (some 96) rfl (by rfl) (by kernel_rfl) (by kernel_rfl) (by kernel_rfl) (by kernel_rfl) (by kernel_rfl) (by kernel_rfl) (fun _ _ _ h => h) (.inl ⟨by rfl, ?_⟩) HY ?_
          rotate_left 1
          · (intro W hW; (try dsimp only at hW); go_simp; try with_reducible rfl)
          try simp only [Act.put, List.setIfInBounds_toArray, List.set_cons_zero, List.set_cons_succ]
          refine d_one (i := 30) (by kernel_rfl) rfl rfl (fun K hK => ?_)
          simp only [List.getElem_toArray, List.getElem_cons_succ, List.getElem_cons_zero]
          go_simp
          refine hK.out _ _ (fun _ => HY.trans ((Ext.refl _).alloc _)) ?_
          clear hK K 
          try simp only [Act.put, List.setIfInBounds_toArray, List.set_cons_zero, List.set_cons_succ]
          refine d_one (i := 31) (by kernel_rfl) rfl rfl (fun K hK => ?_)
          simp only [List.getElem_toArray, List.getElem_cons_succ, List.getElem_cons_zero]
          go_simp
          refine hK.out _ _ (fun _ => HY.trans ((Ext.refl _).alloc _)) ?_
          clear hK K 
          try simp only [Act.put, List.setIfInBounds_toArray, List.set_cons_zero, List.set_cons_succ]
          refine d_done (by kernel_rfl) ?_ _
          clear y0 y1 y2 y3 y4 y5 y6 y7 y8 i0 i1 i2 i3 i4 i5 i6 i7 i8 HCL HY
          have X1 : Ext wr (wr.alloc (.cells #[.int .i64 a0, .int .i64 a1, .int .i64 a2, .int .i64 a4, .int .i64 a5, .int .i64 a6, .int .i64 a7, .int .i64 a8, .slice none 0 0, .int .i64 a3] 29)).drew := ((Ext.refl wr).alloc _).drew
          have HE : Hid (RGe w (wr.alloc (.cells #[.int .i64 a0, .int .i64 a1, .int .i64 a2, .int .i64 a4, .int .i64 a5, .int .i64 a6, .int .i64 a7, .int .i64 a8, .slice none 0 0, .int .i64 a3] 29)).drew wr.heap.size rb gB L d (a0 :: a1 :: a2 :: a3 :: a4 :: a5 :: a6 :: a7 :: a8 :: (m : Int) :: ms) a0 a1 a2 a3 a4 a5 a6 a7 a8 none 0 0 []) := Lib.hid ⟨heap_drew (heap_alloc_new wr _), Own.nil_, HI.out.2.own.ext X1, (X1.block _ (block_lt HI.out.2.res)).trans HI.out.2.res, HI.out.2.x.trans X1, ⟨HI.out.2.x.size, HI.out.2.lt.2.1, by have := block_lt HI.out.2.res; omega⟩⟩
          have HPT := Lib.hid (And.intro HI.out.1 HI.out.2.p)
          clear X1 HI
          generalize (wr.alloc (.cells #[.int .i64 a0, .int .i64 a1, .int .i64 a2, .int .i64 a4, .int .i64 a5, .int .i64 a6, .int .i64 a7, .int .i64 a8, .slice none 0 0, .int .i64 a3] 29)).drew = V1 at *
          generalize wr.heap.size = eb at *
          go_upto_region 12 with (fail)
          go_loopw [9] (fun v9 wr => ∃ (j i dT : Nat) (T : Option Addr), v9 = .int .i64 (i : Int) ∧ i ≤ L ∧ Hid (i = 10 + 4 * j ∧ RGe w wr eb rb gB L d (a0 :: a1 :: a2 :: a3 :: a4 :: a5 :: a6 :: a7 :: a8 :: (m : Int) :: ms) a0 a1 a2 a3 a4 a5 a6 a7 a8 T j dT (tksOf (ms.take (4 * j))))) (fun v9 _ => L - (intOf v9).toNat)
          case atStart => exact ⟨0, 10, 0, none, rfl, by omega, rfl, HE.out⟩
          case round =>
            obtain ⟨j, i, dT, T, rfl, hi, HJ⟩ := hrel
            clear HE
            by_cases hlti : i < L
            · have hij := HJ.out.1
              have hLm := HL4.out.1
              have hmsl := HL4.out.2.1
              obtain ⟨q0, q1, q2, q3, hq0, hq1, hq2, hq3, hq4⟩ := four_at (ms := ms) (k := 4 * j) (by omega)
              have HQ := Lib.hid hq4
              have HCL := fun (i' : Nat) (v : Int) (hv : (a0 :: a1 :: a2 :: a3 :: a4 :: a5 :: a6 :: a7 :: a8 :: (m : Int) :: ms)[i']? = some v) W (hx : Ext wr W) => (HJ.out.2.lst.ext hx).celln (ints_at' hv)
              have hns : ∀ k, (a0 :: a1 :: a2 :: a3 :: a4 :: a5 :: a6 :: a7 :: a8 :: (m : Int) :: ms)[10 + k]? = ms[k]? := fun k => by rw [show 10 + k = k + 10 by omega]; rfl
              have g0 := HCL (10 + 4 * j) q0 (by rw [hns]; exact hq0)
              have g1 := HCL (10 + (4 * j + 1)) q1 (by rw [hns]; exact hq1)
              have g2 := HCL (10 + (4 * j + 2)) q2 (by rw [hns]; exact hq2)
              have g3 := HCL (10 + (4 * j + 3)) q3 (by rw [hns]; exact hq3)
              clear HCL hns hq0 hq1 hq2 hq3 hq4
              obtain ⟨i1, hi1⟩ : ∃ i1, i + 1 = i1 := ⟨_, rfl⟩
              obtain ⟨i2, hi2⟩ : ∃ i2, i + 2 = i2 := ⟨_, rfl⟩
              obtain ⟨i3, hi3⟩ : ∃ i3, i + 3 = i3 := ⟨_, rfl⟩
              rw [show 10 + 4 * j = i by omega] at g0
              rw [show 10 + (4 * j + 1) = i1 by omega] at g1
              rw [show 10 + (4 * j + 2) = i2 by omega] at g2
              rw [show 10 + (4 * j + 3) = i3 by omega] at g3
              have v1 : IntKind.i64.wrap ((i : Int) + 1) = (i1 : Int) := by rw [IntKind.wrap_i64]; omega
              have v2 : IntKind.i64.wrap ((i : Int) + 2) = (i2 : Int) := by rw [IntKind.wrap_i64]; omega
              have v3 : IntKind.i64.wrap ((i : Int) + 3) = (i3 : Int) := by rw [IntKind.wrap_i64]; omega
              have u0 : (0 : Int) ≤ (i : Int) := by omega
              have u1 : (0 : Int) ≤ (i1 : Int) := by omega
              have u2 : (0 : Int) ≤ (i2 : Int) := by omega
              have u3 : (0 : Int) ≤ (i3 : Int) := by omega
              have x0 : (i : Int) < (L : Int) := by omega
              have x1 : (i1 : Int) < (L : Int) := by omega
              have x2 : (i2 : Int) < (L : Int) := by omega
              have x3 : (i3 : Int) < (L : Int) := by omega
              have hj8 : j ≤ 8 := by omega
              have HIJ := Lib.hid (And.intro hij (And.intro hi1 (And.intro hi2 (And.intro hi3 hmsl))))
              have e8 := fun W (hx : Ext wr W) => block_cell ((hx.block _ (block_lt HJ.out.2.ent)).trans HJ.out.2.ent) 8
              have e8 : ∀ W, Ext wr W → W.cell? ⟨eb, 8, none⟩ = some (.slice T j dT) := e8
              clear hij hLm hmsl hi1 hi2 hi3
              go_upto_region 14 with (fail)
              have HY2 : Ext wr wr.drew := (Ext.refl wr).drew
              refine d_region (fun W => Ext wr W) [24, 25, 26, 27] (by kernel_rfl) ?_
              refine d_take (i := 0) (v := ?_) [1, 2, 24, 25, 26, 27] (some 103) rfl (by rfl) (by kernel_rfl) (by kernel_rfl) (by kernel_rfl) (by kernel_rfl) (by kernel_rfl) (by kernel_rfl) (fun _ _ _ h => h) (.inl ⟨by rfl, ?_⟩) HY2 ?_
              rotate_left 1
              · (intro W hW; (try dsimp only at hW); go_simp; try with_reducible rfl)
              try simp only [Act.put, List.setIfInBounds_toArray, List.set_cons_zero, List.set_cons_succ]
              refine d_take (i := 1) (v := ?_) [2, 24, 25, 26, 27] (some 104) rfl (by rfl) (by kernel_rfl) (by kernel_rfl) (by kernel_rfl) (by kernel_rfl) (by kernel_rfl) (by kernel_rfl) (fun _ _ _ h => h) (.inl ⟨by rfl, ?_⟩) HY2 ?_
              rotate_left 1
              · (intro W hW; (try dsimp only at hW); go_simp; try with_reducible rfl)
              try simp only [Act.put, List.setIfInBounds_toArray, List.set_cons_zero, List.set_cons_succ]
              refine d_take (i := 2) (v := ?_) [24, 25, 26, 27] (some 105) rfl (by rfl) (by kernel_rfl) (by kernel_rfl) (by kernel_rfl) (by kernel_rfl) (by kernel_rfl) (by kernel_rfl) (fun _ _ _ h => h) (.inl ⟨by rfl, ?_⟩) HY2 ?_
              rotate_left 1
              · (intro W hW; (try dsimp only at hW); go_simp; try with_reducible rfl)
              try simp only [Act.put, List.setIfInBounds_toArray, List.set_cons_zero, List.set_cons_succ]
              refine d_take (i := 3) (v := ?_) [5, 6, 22, 23, 24, 25, 26, 27] (some 106) rfl (by rfl) (by kernel_rfl) (by kernel_rfl) (by kernel_rfl) (by kernel_rfl) (by kernel_rfl) (by kernel_rfl) (fun _ _ _ h => h) (.inl ⟨by rfl, ?_⟩) HY2 ?_
              rotate_left 1
              · (intro W hW; (try dsimp only at hW); go_simp; try with_reducible rfl)
              try simp only [Act.put, List.setIfInBounds_toArray, List.set_cons_zero, List.set_cons_succ]
              refine d_take (i := 4) (v := ?_) [5, 6, 22, 23, 24, 25, 26, 27] (some 107) rfl (by rfl) (by kernel_rfl) (by kernel_rfl) (by kernel_rfl) (by kernel_rfl) (by kernel_rfl) (by kernel_rfl) (fun _ _ _ h => h) (.inl ⟨by rfl, ?_⟩) HY2 ?_
              rotate_left 1
              · (intro W hW; (try dsimp only at hW); go_simp; try with_reducible rfl)
              try simp only [Act.put, List.setIfInBounds_toArray, List.set_cons_zero, List.set_cons_succ]
              refine d_take (i := 5) (v := ?_) [6, 22, 23, 24, 25, 26, 27] (some 108) rfl (by rfl) (by kernel_rfl) (by kernel_rfl) (by kernel_rfl) (by kernel_rfl) (by kernel_rfl) (by kernel_rfl) (fun _ _ _ h => h) (.inl ⟨by rfl, ?_⟩) HY2 ?_
              rotate_left 1
              · (intro W hW; (try dsimp only at hW); go_simp; try with_reducible rfl)
              try simp only [Act.put, List.setIfInBounds_toArray, List.set_cons_zero, List.set_cons_succ]
              refine d_take (i := 6) (v := ?_) [22, 23, 24, 25, 26, 27] (some 109) rfl (by rfl) (by kernel_rfl) (by kernel_rfl) (by kernel_rfl) (by kernel_rfl) (by kernel_rfl) (by kernel_rfl) (fun _ _ _ h => h) (.inl ⟨by rfl, ?_⟩) HY2 ?_
              rotate_left 1
              · (intro W hW; (try dsimp only at hW); go_simp; try with_reducible rfl)
              try simp only [Act.put, List.setIfInBounds_toArray, List.set_cons_zero, List.set_cons_succ]
              refine d_take (i := 7) (v := ?_) [10, 11, 22, 23, 24, 25, 26, 27] (some 110) rfl (by rfl) (by kernel_rfl) (by kernel_rfl) (by kernel_rfl) (by kernel_rfl) (by kernel_rfl) (by kernel_rfl) (fun _ _ _ h => h) (.inl ⟨by rfl, ?_⟩) HY2 ?_
              rotate_left 1
              · (intro W hW; (try dsimp only at hW); go_simp; try with_reducible rfl)
              try simp only [Act.put, List.setIfInBounds_toArray, List.set_cons_zero, List.set_cons_succ]
              refine d_take (i := 8) (v := ?_) [9, 10, 11, 22, 23, 24, 25, 26, 27] (some 111) rfl (by rfl) (by kernel_rfl) (by kernel_rfl) (by kernel_rfl) (by kernel_rfl) (by kernel_rfl) (by kernel_rfl) (fun _ _ _ h => h) (.inl ⟨by rfl, ?_⟩) HY2 ?_
              rotate_left 1
              · (intro W hW; (try dsimp only at hW); go_simp; try with_reducible rfl)
              try simp only [Act.put, List.setIfInBounds_toArray, List.set_cons_zero, List.set_cons_succ]
              refine d_take (i := 9) (v := ?_) [10, 11, 22, 23, 24, 25, 26, 27] (some 112) rfl (by rfl) (by kernel_rfl) (by kernel_rfl) (by kernel_rfl) (by kernel_rfl) (by kernel_rfl) (by kernel_rfl) (fun _ _ _ h => h) (.inl ⟨by rfl, ?_⟩) HY2 ?_
              rotate_left 1
              · (intro W hW; (try dsimp only at hW); go_simp; try with_reducible rfl)
              try simp only [Act.put, List.setIfInBounds_toArray, List.set_cons_zero, List.set_cons_succ]
              refine d_take (i := 10) (v := ?_) [11, 22, 23, 24, 25, 26, 27] (some 113) rfl (by rfl) (by kernel_rfl) (by kernel_rfl) (by kernel_rfl) (by kernel_rfl) (by kernel_rfl) (by kernel_rfl) (fun _ _ _ h => h) (.inl ⟨by rfl, ?_⟩) HY2 ?_
              rotate_left 1
              · (intro W hW; (try dsimp only at hW); go_simp; try with_reducible rfl)
              try simp only [Act.put, List.setIfInBounds_toArray, List.set_cons_zero, List.set_cons_succ]
              refine d_take (i := 11) (v := ?_) [22, 23, 24, 25, 26, 27] (some 114) rfl (by rfl) (by kernel_rfl) (by kernel_rfl) (by kernel_rfl) (by kernel_rfl) (by kernel_rfl) (by kernel_rfl) (fun _ _ _ h => h) (.inl ⟨by rfl, ?_⟩) HY2 ?_
              rotate_left 1
              · (intro W hW; (try dsimp only at hW); go_simp; try with_reducible rfl)
              try simp only [Act.put, List.setIfInBounds_toArray, List.set_cons_zero, List.set_cons_succ]
              refine d_take (i := 12) (v := ?_) [15, 16, 22, 23, 24, 25, 26, 27] (some 115) rfl (by rfl) (by kernel_rfl) (by kernel_rfl) (by kernel_rfl) (by kernel_rfl) (by kernel_rfl) (by kernel_rfl) (fun _ _ _ h => h) (.inl ⟨by rfl, ?_⟩) HY2 ?_
              rotate_left 1
              · (intro W hW; (try dsimp only at hW); go_simp; try with_reducible rfl)
              try simp only [Act.put, List.setIfInBounds_toArray, List.set_cons_zero, List.set_cons_succ]
              refine d_take (i := 13) (v := ?_) [14, 15, 16, 22, 23, 24, 25, 26, 27] (some 116) rfl (by rfl) (by kernel_rfl) (by kernel_rfl) (by kernel_rfl) (by kernel_rfl) (by kernel_rfl) (by kernel_rfl) (fun _ _ _ h => h) (.inl ⟨by rfl, ?_⟩) HY2 ?_
              rotate_left 1
              · (intro W hW; (try dsimp only at hW); go_simp; try with_reducible rfl)
              try simp only [Act.put, List.setIfInBounds_toArray, List.set_cons_zero, List.set_cons_succ]
              refine d_take (i := 14) (v := ?_) [15, 16, 22, 23, 24, 25, 26, 27] (some 117) rfl (by rfl) (by kernel_rfl) (by kernel_rfl) (by kernel_rfl) (by kernel_rfl) (by kernel_rfl) (by kernel_rfl) (fun _ _ _ h => h) (.inl ⟨by rfl, ?_⟩) HY2 ?_
              rotate_left 1
              · (intro W hW; (try dsimp only at hW); go_simp; try with_reducible rfl)
              try simp only [Act.put, List.setIfInBounds_toArray, List.set_cons_zero, List.set_cons_succ]
              refine d_take (i := 15) (v := ?_) [16, 22, 23, 24, 25, 26, 27] (some 118) rfl (by rfl) (by kernel_rfl) (by kernel_rfl) (by kernel_rfl) (by kernel_rfl) (by kernel_rfl) (by kernel_rfl) (fun _ _ _ h => h) (.inl ⟨by rfl, ?_⟩) HY2 ?_
              rotate_left 1
              · (intro W hW; (try dsimp only at hW); go_simp; try with_reducible rfl)
              try simp only [Act.put, List.setIfInBounds_toArray, List.set_cons_zero, List.set_cons_succ]
              refine d_take (i := 16) (v := ?_) [22, 23, 24, 25, 26, 27] (some 119) rfl (by rfl) (by kernel_rfl) (by kernel_rfl) (by kernel_rfl) (by kernel_rfl) (by kernel_rfl) (by kernel_rfl) (fun _ _ _ h => h) (.inl ⟨by rfl, ?_⟩) HY2 ?_
              rotate_left 1
              · (intro W hW; (try dsimp only at hW); go_simp; try with_reducible rfl)
              try simp only [Act.put, List.setIfInBounds_toArray, List.set_cons_zero, List.set_cons_succ]
              refine d_take (i := 17) (v := ?_) [20, 21, 22, 23, 24, 25, 26, 27] (some 120) rfl (by rfl) (by kernel_rfl) (by kernel_rfl) (by kernel_rfl) (by kernel_rfl) (by kernel_rfl) (by kernel_rfl) (fun _ _ _ h => h) (.inl ⟨by rfl, ?_⟩) HY2 ?_
              rotate_left 1
              · (intro W hW; (try dsimp only at hW); go_simp; try with_reducible rfl)
              try simp only [Act.put, List.setIfInBounds_toArray, List.set_cons_zero, List.set_cons_succ]
              refine d_take (i := 18) (v := ?_) [19, 20, 21, 22, 23, 24, 25, 26, 27] (some 121) rfl (by rfl) (by kernel_rfl) (by kernel_rfl) (by kernel_rfl) (by kernel_rfl) (by kernel_rfl) (by kernel_rfl) (fun _ _ _ h => h) (.inl ⟨by rfl, ?_⟩) HY2 ?_
              rotate_left 1
              · (intro W hW; (try dsimp only at hW); go_simp; try with_reducible rfl)
              try simp only [Act.put, List.setIfInBounds_toArray, List.set_cons_zero, List.set_cons_succ]
              refine d_take (i := 19) (v := ?_) [20, 21, 22, 23, 24, 25, 26, 27] (some 122) rfl (by rfl) (by kernel_rfl) (by kernel_rfl) (by kernel_rfl) (by kernel_rfl) (by kernel_rfl) (by kernel_rfl) (fun _ _ _ h => h) (.inl ⟨by rfl, ?_⟩) HY2 ?_
              rotate_left 1
              · (intro W hW; (try dsimp only at hW); go_simp; try with_reducible rfl)
              try simp only [Act.put, List.setIfInBounds_toArray, List.set_cons_zero, List.set_cons_succ]
              refine d_take (i := 20) (v := ?_) [21, 22, 23, 24, 25, 26, 27] (some 123) rfl (by rfl) (by kernel_rfl) (by kernel_rfl) (by kernel_rfl) (by kernel_rfl) (by kernel_rfl) (by kernel_rfl) (fun _ _ _ h => h) (.inl ⟨by rfl, ?_⟩) HY2 ?_
              rotate_left 1
              · (intro W hW; (try dsimp only at hW); go_simp; try with_reducible rfl)
              try simp only [Act.put, List.setIfInBounds_toArray, List.set_cons_zero, List.set_cons_succ]
              refine d_take (i := 21) (v := ?_) [22, 23, 24, 25, 26, 27] (some 124) rfl (by rfl) (by kernel_rfl) (by kernel_rfl) (by kernel_rfl) (by kernel_rfl) (by kernel_rfl) (by kernel_rfl) (fun _ _ _ h => h) (.inl ⟨by rfl, ?_⟩) HY2 ?_
              rotate_left 1
              · (intro W hW; (try dsimp only at hW); go_simp; try with_reducible rfl)
              try simp only [Act.put, List.setIfInBounds_toArray, List.set_cons_zero, List.set_cons_succ]
              refine d_take (i := 22) (v := ?_) [23, 24, 25, 26, 27] (some 125) rfl (by rfl) (by kernel_rfl) (by kernel_rfl) (by kernel_rfl) (by kernel_rfl) (by kernel_rfl) (by kernel_rfl) (fun _ _ _ h => h) (.inl ⟨by rfl, ?_⟩) HY2 ?_
              rotate_left 1
              · (intro W hW; (try dsimp only at hW); go_simp; try with_reducible rfl)
              try simp only [Act.put, List.setIfInBounds_toArray, List.set_cons_zero, List.set_cons_succ]
              have b2 := ((Ext.refl wr).drew.alloc (.cells #[.int .i64 q0, .int .i64 q1, .int .i64 q2, .int .i64 q3] 47))
              refine d_one (i := 23) (by kernel_rfl) rfl rfl (fun K hK => ?_)
              simp only [List.getElem_toArray, List.getElem_cons_succ, List.getElem_cons_zero]
              go_simp
              refine hK.out _ _ (fun _ => b2) ?_
              clear hK K
              try simp only [Act.put, List.setIfInBounds_toArray, List.set_cons_zero, List.set_cons_succ]
              have XA : Ext wr (wr.alloc (.cells #[.int .i64 q0, .int .i64 q1, .int .i64 q2, .int .i64 q3] 47)).drew := ((Ext.refl wr).alloc _).drew
              have HGA := Lib.hid (HJ.out.2.ext XA)
              have RT : Rd (wr.alloc (.cells #[.int .i64 q0, .int .i64 q1, .int .i64 q2, .int .i64 q3] 47)).drew 4 (some ⟨wr.heap.size, 0, none⟩) 1 (trow ⟨q0, q1, q2, q3⟩) := (rd_task ⟨q0, q1, q2, q3⟩ wr).ext ((Ext.refl _).drew)
              refine d_one (i := 24) (by kernel_rfl) rfl rfl (fun K hK => ?_)
              simp only [List.getElem_toArray, List.getElem_cons_succ, List.getElem_cons_zero]
              refine oper_app (w := (wr.alloc (.cells #[.int .i64 q0, .int .i64 q1, .int .i64 q2, .int .i64 q3] 47)).drew) (m := 1) (d := 1) (news := trow ⟨q0, q1, q2, q3⟩) eltTk HGA.out.own RT (trow_one _) (by omega) (.inr ⟨by omega, by omega⟩) HGA.out.x.size (.tmp 105) (.tmp 126) rfl rfl rfl ?_
              intro A3 c3 w3 o3 g3 hA3 _
              have HN := Lib.hid (HGA.out.app g3 o3)
              refine hK.out _ _ (fun h => absurd h (by decide)) ?_
              clear hK K
              try simp only [Act.put, List.setIfInBounds_toArray, List.set_cons_zero, List.set_cons_succ]
              have b3 : w3.heap[eb]? = some (.cells #[.int .i64 a0, .int .i64 a1, .int .i64 a2, .int .i64 a4, .int .i64 a5, .int .i64 a6, .int .i64 a7, .int .i64 a8, .slice T j dT, .int .i64 a3] 29 (0, 0)) := ((Fr.grows g3).block _ (block_lt HGA.out.ent) (fun e => by
                cases T with
                | none => cases e
                | some b => exact HGA.out.own.away_t HGA.out.ent (by decide) b rfl (by simpa using e))).trans HGA.out.ent
              have y8 : w3.cell? ⟨eb, 8, none⟩ = some (.slice T j dT) := block_cell b3 8
              have f8 := block_fz b3 8
              clear b3 o3 g3 hA3 RT
              refine d_one (i := 25) (by kernel_rfl) rfl rfl (fun K hK => ?_)
              simp only [List.getElem_toArray, List.getElem_cons_succ, List.getElem_cons_zero]
              go_simp
              refine hK.out _ _ (fun h => absurd h (by decide)) ?_
              clear hK K
              try simp only [Act.put, List.setIfInBounds_toArray, List.set_cons_zero, List.set_cons_succ]
              refine d_one (i := 26) (by kernel_rfl) rfl rfl (fun K hK => ?_)
              simp only [List.getElem_toArray, List.getElem_cons_succ, List.getElem_cons_zero]
              go_simp
              refine hK.out _ _ (fun h => absurd h (by decide)) ?_
              clear hK K
              try simp only [Act.put, List.setIfInBounds_toArray, List.set_cons_zero, List.set_cons_succ]
              refine d_one (i := 27) (by kernel_rfl) rfl rfl (fun K hK => ?_)
              simp only [List.getElem_toArray, List.getElem_cons_succ, List.getElem_cons_zero]
              go_simp
              refine hK.out _ _ (fun h => absurd h (by decide)) ?_
              clear hK K
              try simp only [Act.put, List.setIfInBounds_toArray, List.set_cons_zero, List.set_cons_succ]
              refine d_done (by kernel_rfl) ?_ _
              clear y8 f8 g0 g1 g2 g3 e8 v1 v2 v3 u0 u1 u2 u3 x0 x1 x2 x3 HGA XA b2 HY2 HJ
              go_wp2_with fail
              go_roundw
              case rel => exact ⟨j + 1, i + 4, c3, A3, by go_num, by have := HIJ.out.1; have := HL4.out.1; omega, by have := HIJ.out.1; omega, by rw [show 4 * (j + 1) = 4 * j + 4 by omega, HQ.out, tksOf_snoc j _ q0 q1 q2 q3 (by rw [List.length_take]; have := HIJ.out.1; have := HL4.out.1; have := HL4.out.2.1; omega)]; exact HN.out⟩
              case measure => simp [intOf]; omega
            · have hij := HJ.out.1
              have hLm := HL4.out.1
              have hmsl := HL4.out.2.1
              have hjm : j = m := by omega
              subst hjm
              have HTS : Hid (tksOf (ms.take (4 * j)) = tksOf ms) := Lib.hid (by rw [List.take_of_length_le (by omega)])
              rw [HTS.out] at HJ
              obtain ⟨en, hen⟩ : ∃ en, enOf (a0 :: a1 :: a2 :: a3 :: a4 :: a5 :: a6 :: a7 :: a8 :: (j : Int) :: ms) = en := ⟨_, rfl⟩
              have HMK := (fun (q : En) (h : q = enOf (a0 :: a1 :: a2 :: a3 :: a4 :: a5 :: a6 :: a7 :: a8 :: (j : Int) :: ms)) => (show q.cl = a0 ∧ q.nu = a1 ∧ q.kd = a2 ∧ q.at_ = a3 ∧ q.id = a4 ∧ q.sk = a5 ∧ q.sq = a6 ∧ q.st = a7 ∧ q.pol = a8 ∧ q.ts = tksOf ms by subst h; exact ⟨rfl, rfl, rfl, rfl, rfl, rfl, rfl, rfl, rfl, rfl⟩)) en hen.symm
              have HEN := Lib.hid hen
              obtain ⟨f0, f1, f2, f3, f4, f5, f6, f7, f8, f9⟩ := HMK
              have HF9 := Lib.hid f9
              have hnl9 : (a0 :: a1 :: a2 :: a3 :: a4 :: a5 :: a6 :: a7 :: a8 :: (j : Int) :: ms).length = 10 + 4 * j := by rw [HPT.out.1]; exact hLm
              have HNL := Lib.hid hnl9
              have HDN := Lib.hid (HPT.out.2.done hnl9 rfl (by omega))
              rw [hen] at HDN
              clear f9 hen hij hLm hmsl hnl9
              subst f0 f1 f2 f3 f4 f5 f6 f7 f8
              have HLI : Hid (EnS.Lies ⟨en, T, j, dT⟩ wr) := Lib.hid ⟨by have h := HJ.out.2.own.rd; rw [← HF9.out] at h; exact h, by show j ≤ _; omega, HJ.out.2.own.cap_le⟩
              have e0 : wr.cell? ⟨eb, 0, none⟩ = some (.int .i64 en.cl) := block_cell (HJ.out.2.ent) 0
              have e1 : wr.cell? ⟨eb, 1, none⟩ = some (.int .i64 en.nu) := block_cell (HJ.out.2.ent) 1
              have e2 : wr.cell? ⟨eb, 2, none⟩ = some (.int .i64 en.kd) := block_cell (HJ.out.2.ent) 2
              have e3 : wr.cell? ⟨eb, 3, none⟩ = some (.int .i64 en.id) := block_cell (HJ.out.2.ent) 3
              have e4 : wr.cell? ⟨eb, 4, none⟩ = some (.int .i64 en.sk) := block_cell (HJ.out.2.ent) 4
              have e5 : wr.cell? ⟨eb, 5, none⟩ = some (.int .i64 en.sq) := block_cell (HJ.out.2.ent) 5
              have e6 : wr.cell? ⟨eb, 6, none⟩ = some (.int .i64 en.st) := block_cell (HJ.out.2.ent) 6
              have e7 : wr.cell? ⟨eb, 7, none⟩ = some (.int .i64 en.pol) := block_cell (HJ.out.2.ent) 7
              have e8 : wr.cell? ⟨eb, 8, none⟩ = some (.slice T j dT) := block_cell (HJ.out.2.ent) 8
              have e9 : wr.cell? ⟨eb, 9, none⟩ = some (.int .i64 en.at_) := block_cell (HJ.out.2.ent) 9
              by_cases hf : en.form = true
              · have CF := Lib.hid (rform_any en T j dT wr HLI.out true (Lib.hid hf))
                have HF := Lib.hid hf
                clear hf
                go_upto_region 17 with (go_at_call 27; refine CF.out.mono ?_; rintro e w5 ⟨rfl, x5⟩)
                have HG5 := Lib.hid (HJ.out.2.ext x5)
                clear CF HJ x5 e0 e1 e2 e3 e4 e5 e6 e7 e8 e9
                have e0 : w5.cell? ⟨eb, 0, none⟩ = some (.int .i64 en.cl) := block_cell (HG5.out.ent) 0
                have e1 : w5.cell? ⟨eb, 1, none⟩ = some (.int .i64 en.nu) := block_cell (HG5.out.ent) 1
                have e2 : w5.cell? ⟨eb, 2, none⟩ = some (.int .i64 en.kd) := block_cell (HG5.out.ent) 2
                have e3 : w5.cell? ⟨eb, 3, none⟩ = some (.int .i64 en.id) := block_cell (HG5.out.ent) 3
                have e4 : w5.cell? ⟨eb, 4, none⟩ = some (.int .i64 en.sk) := block_cell (HG5.out.ent) 4
                have e5 : w5.cell? ⟨eb, 5, none⟩ = some (.int .i64 en.sq) := block_cell (HG5.out.ent) 5
                have e6 : w5.cell? ⟨eb, 6, none⟩ = some (.int .i64 en.st) := block_cell (HG5.out.ent) 6
                have e7 : w5.cell? ⟨eb, 7, none⟩ = some (.int .i64 en.pol) := block_cell (HG5.out.ent) 7
                have e8 : w5.cell? ⟨eb, 8, none⟩ = some (.slice T j dT) := block_cell (HG5.out.ent) 8
                have e9 : w5.cell? ⟨eb, 9, none⟩ = some (.int .i64 en.at_) := block_cell (HG5.out.ent) 9
                have r0 : w5.cell? ⟨rb, 0, none⟩ = some (.int .i64 0) := block_cell (HG5.out.res) 0
                have r1 : w5.cell? ⟨rb, 1, none⟩ = some (.int .i64 0) := block_cell (HG5.out.res) 1
                have r2 : w5.cell? ⟨rb, 2, none⟩ = some (.int .i64 0) := block_cell (HG5.out.res) 2
                have r3 : w5.cell? ⟨rb, 3, none⟩ = some (.int .i64 0) := block_cell (HG5.out.res) 3
                have r4 : w5.cell? ⟨rb, 4, none⟩ = some (.int .i64 0) := block_cell (HG5.out.res) 4
                have r5 : w5.cell? ⟨rb, 5, none⟩ = some (.int .i64 0) := block_cell (HG5.out.res) 5
                have r6 : w5.cell? ⟨rb, 6, none⟩ = some (.int .i64 0) := block_cell (HG5.out.res) 6
                have r7 : w5.cell? ⟨rb, 7, none⟩ = some (.int .i64 0) := block_cell (HG5.out.res) 7
                have r8 : w5.cell? ⟨rb, 8, none⟩ = some (.slice none 0 0) := block_cell (HG5.out.res) 8
                have r9 : w5.cell? ⟨rb, 9, none⟩ = some (.int .i64 0) := block_cell (HG5.out.res) 9
                have q0 := block_fz (HG5.out.res) 0
                have q1 := block_fz (HG5.out.res) 1
                have q2 := block_fz (HG5.out.res) 2
                have q3 := block_fz (HG5.out.res) 3
                have q4 := block_fz (HG5.out.res) 4
                have q5 := block_fz (HG5.out.res) 5
                have q6 := block_fz (HG5.out.res) 6
                have q7 := block_fz (HG5.out.res) 7
                have q8 := block_fz (HG5.out.res) 8
                have q9 := block_fz (HG5.out.res) 9
                go_wp2_with fail
                have hz0 := st10 (W := w5) (HG5.out.res) (.int .i64 en.cl) (.int .i64 en.nu) (.int .i64 en.kd) (.int .i64 en.id) (.int .i64 en.sk) (.int .i64 en.sq) (.int .i64 en.st) (.int .i64 en.pol) (.slice T j dT) (.int .i64 en.at_)
                have HO := Lib.hid (hz0.2.own HG5.out.own (fun a ha e => HG5.out.own.away_t HG5.out.res (by decide) a ha e))
                clear hz0
                have hz := st10 (W := w5) (HG5.out.res) (.int .i64 en.cl) (.int .i64 en.nu) (.int .i64 en.kd) (.int .i64 en.id) (.int .i64 en.sk) (.int .i64 en.sq) (.int .i64 en.st) (.int .i64 en.pol) (.slice T j dT) (.int .i64 en.at_)
                have HZ := Lib.hid (And.intro hz.1 (Fr.ext (HG5.out.x) hz.2 (fun i e => by have e : i = rb := e; have := HRB.out; omega)))
                clear hz r0 q0 r1 q1 r2 q2 r3 q3 r4 q4 r5 q5 r6 q6 r7 q7 r8 q8 r9 q9
                generalize ((((((((((w5.setCell ⟨rb, 0, none⟩ (.int .i64 en.cl)).setCell ⟨rb, 1, none⟩ (.int .i64 en.nu)).setCell ⟨rb, 2, none⟩ (.int .i64 en.kd)).setCell ⟨rb, 3, none⟩ (.int .i64 en.id)).setCell ⟨rb, 4, none⟩ (.int .i64 en.sk)).setCell ⟨rb, 5, none⟩ (.int .i64 en.sq)).setCell ⟨rb, 6, none⟩ (.int .i64 en.st)).setCell ⟨rb, 7, none⟩ (.int .i64 en.pol)).setCell ⟨rb, 8, none⟩ (.slice T j dT)).setCell ⟨rb, 9, none⟩ (.int .i64 en.at_)) = Z at *
                have z0 : Z.cell? ⟨rb, 0, none⟩ = some (.int .i64 en.cl) := block_cell (HZ.out.1) 0
                have z1 : Z.cell? ⟨rb, 1, none⟩ = some (.int .i64 en.nu) := block_cell (HZ.out.1) 1
                have z2 : Z.cell? ⟨rb, 2, none⟩ = some (.int .i64 en.kd) := block_cell (HZ.out.1) 2
                have z3 : Z.cell? ⟨rb, 3, none⟩ = some (.int .i64 en.id) := block_cell (HZ.out.1) 3
                have z4 : Z.cell? ⟨rb, 4, none⟩ = some (.int .i64 en.sk) := block_cell (HZ.out.1) 4
                have z5 : Z.cell? ⟨rb, 5, none⟩ = some (.int .i64 en.sq) := block_cell (HZ.out.1) 5
                have z6 : Z.cell? ⟨rb, 6, none⟩ = some (.int .i64 en.st) := block_cell (HZ.out.1) 6
                have z7 : Z.cell? ⟨rb, 7, none⟩ = some (.int .i64 en.pol) := block_cell (HZ.out.1) 7
                have z8 : Z.cell? ⟨rb, 8, none⟩ = some (.slice T j dT) := block_cell (HZ.out.1) 8
                have z9 : Z.cell? ⟨rb, 9, none⟩ = some (.int .i64 en.at_) := block_cell (HZ.out.1) 9
                refine bodyPost_ret (v := .tuple #[.agg #[.int .i64 en.cl, .int .i64 en.nu, .int .i64 en.kd, .int .i64 en.id, .int .i64 en.sk, .int .i64 en.sq, .int .i64 en.st, .int .i64 en.pol, .slice T j dT, .int .i64 en.at_], .bool true]) (by simp [results, Tryd.results31, go_sem, z0, z1, z2, z3, z4, z5, z6, z7, z8, z9]) rfl ?_
                refine ⟨.inl ⟨⟨en, T, j, dT⟩, HF.out, HDN.out, rfl, ⟨?_, ?_, HO.out.cap_le⟩, ?_⟩, HZ.out.2⟩
                · have h := HO.out.rd
                  rw [← HF9.out] at h
                  exact h
                · show j ≤ _
                  omega
                · have h := HO.out
                  rw [← HF9.out] at h
                  exact h
              · have hf2 : en.form = false := by simpa using hf
                have CF := Lib.hid (rform_any en T j dT wr HLI.out false (Lib.hid hf2))
                have HNO := Lib.hid (fun (e : En) (he : e.form = true) => HPT.out.2.none_of HNL.out rfl (.inr (by rw [HEN.out]; exact hf2)) he)
                clear hf hf2
                go_upto_region 16 with (go_at_call 27; refine CF.out.mono ?_; rintro e w5 ⟨rfl, x5⟩)
                have HRS := Lib.hid (And.intro ((HJ.out.2.ext x5).res) ((HJ.out.2.ext x5).x))
                clear CF HJ x5 e0 e1 e2 e3 e4 e5 e6 e7 e8 e9 HLI
                have r0 : w5.cell? ⟨rb, 0, none⟩ = some (.int .i64 0) := block_cell (HRS.out.1) 0
                have r1 : w5.cell? ⟨rb, 1, none⟩ = some (.int .i64 0) := block_cell (HRS.out.1) 1
                have r2 : w5.cell? ⟨rb, 2, none⟩ = some (.int .i64 0) := block_cell (HRS.out.1) 2
                have r3 : w5.cell? ⟨rb, 3, none⟩ = some (.int .i64 0) := block_cell (HRS.out.1) 3
                have r4 : w5.cell? ⟨rb, 4, none⟩ = some (.int .i64 0) := block_cell (HRS.out.1) 4
                have r5 : w5.cell? ⟨rb, 5, none⟩ = some (.int .i64 0) := block_cell (HRS.out.1) 5
                have r6 : w5.cell? ⟨rb, 6, none⟩ = some (.int .i64 0) := block_cell (HRS.out.1) 6
                have r7 : w5.cell? ⟨rb, 7, none⟩ = some (.int .i64 0) := block_cell (HRS.out.1) 7
                have r8 : w5.cell? ⟨rb, 8, none⟩ = some (.slice none 0 0) := block_cell (HRS.out.1) 8
                have r9 : w5.cell? ⟨rb, 9, none⟩ = some (.int .i64 0) := block_cell (HRS.out.1) 9
                have q0 := block_fz (HRS.out.1) 0
                have q1 := block_fz (HRS.out.1) 1
                have q2 := block_fz (HRS.out.1) 2
                have q3 := block_fz (HRS.out.1) 3
                have q4 := block_fz (HRS.out.1) 4
                have q5 := block_fz (HRS.out.1) 5
                have q6 := block_fz (HRS.out.1) 6
                have q7 := block_fz (HRS.out.1) 7
                have q8 := block_fz (HRS.out.1) 8
                have q9 := block_fz (HRS.out.1) 9
                go_wp2_with fail
                have hz := st10 (W := w5) (HRS.out.1) (.int .i64 0) (.int .i64 0) (.int .i64 0) (.int .i64 0) (.int .i64 0) (.int .i64 0) (.int .i64 0) (.int .i64 0) (.slice none 0 0) (.int .i64 0)
                have HZ := Lib.hid (And.intro hz.1 (Fr.ext (HRS.out.2) hz.2 (fun i e => by have e : i = rb := e; have := HRB.out; omega)))
                clear hz r0 q0 r1 q1 r2 q2 r3 q3 r4 q4 r5 q5 r6 q6 r7 q7 r8 q8 r9 q9
                generalize ((((((((((w5.setCell ⟨rb, 0, none⟩ (.int .i64 0)).setCell ⟨rb, 1, none⟩ (.int .i64 0)).setCell ⟨rb, 2, none⟩ (.int .i64 0)).setCell ⟨rb, 3, none⟩ (.int .i64 0)).setCell ⟨rb, 4, none⟩ (.int .i64 0)).setCell ⟨rb, 5, none⟩ (.int .i64 0)).setCell ⟨rb, 6, none⟩ (.int .i64 0)).setCell ⟨rb, 7, none⟩ (.int .i64 0)).setCell ⟨rb, 8, none⟩ (.slice none 0 0)).setCell ⟨rb, 9, none⟩ (.int .i64 0)) = Z at *
                have z0 : Z.cell? ⟨rb, 0, none⟩ = some (.int .i64 0) := block_cell (HZ.out.1) 0
                have z1 : Z.cell? ⟨rb, 1, none⟩ = some (.int .i64 0) := block_cell (HZ.out.1) 1
                have z2 : Z.cell? ⟨rb, 2, none⟩ = some (.int .i64 0) := block_cell (HZ.out.1) 2
                have z3 : Z.cell? ⟨rb, 3, none⟩ = some (.int .i64 0) := block_cell (HZ.out.1) 3
                have z4 : Z.cell? ⟨rb, 4, none⟩ = some (.int .i64 0) := block_cell (HZ.out.1) 4
                have z5 : Z.cell? ⟨rb, 5, none⟩ = some (.int .i64 0) := block_cell (HZ.out.1) 5
                have z6 : Z.cell? ⟨rb, 6, none⟩ = some (.int .i64 0) := block_cell (HZ.out.1) 6
                have z7 : Z.cell? ⟨rb, 7, none⟩ = some (.int .i64 0) := block_cell (HZ.out.1) 7
                have z8 : Z.cell? ⟨rb, 8, none⟩ = some (.slice none 0 0) := block_cell (HZ.out.1) 8
                have z9 : Z.cell? ⟨rb, 9, none⟩ = some (.int .i64 0) := block_cell (HZ.out.1) 9
                refine bodyPost_ret (v := .tuple #[.agg #[.int .i64 0, .int .i64 0, .int .i64 0, .int .i64 0, .int .i64 0, .int .i64 0, .int .i64 0, .int .i64 0, .slice none 0 0, .int .i64 0], .bool false]) (by simp [results, Tryd.results31, go_sem, z0, z1, z2, z3, z4, z5, z6, z7, z8, z9]) rfl ?_
                exact ⟨.inr ⟨HNO.out, rfl⟩, HZ.out.2⟩
end Go.Proofs.YteflnnlihblpgaaDoor
