/-
  Package net: put, walked.
-/
import Derived.Test.YteaainepnelehaaDoorNtState
import Derived.Deep.Cut
namespace Go.Proofs.YteaainepnelehaaDoor
set_option maxRecDepth 100000
open Go.RowKit
set_option linter.unusedVariables false
theorem eltLet : Elt Tryd.prog 49 46 4 48 (.agg #[.int .i64 0, .int .i64 0, .int .i64 0, .slice none 0 0]) := ⟨Tryd.underlying49, by kernel_rfl, rfl, by omega⟩
theorem lrows_one (ls : List LetV) : ∀ u ∈ (lrows ls).flatten, u.oneCell' = true := by
  intro u hu
  obtain ⟨r, hr, hu⟩ := List.mem_flatten.1 hu
  obtain ⟨x, _, rfl⟩ := List.mem_map.1 hr
  simp only [LetV.cells, List.mem_cons, List.not_mem_nil, or_false] at hu
  rcases hu with rfl | rfl | rfl | rfl <;> rfl
theorem block_cell {w : World} {b : Nat} {cs : Array Value} {t : TypeId} (h : w.heap[b]? = some (.cells cs t (0, 0))) (k : Nat) : w.cell? ⟨b, k, none⟩ = cs[k]? := cell_of_row _ _ _ _ _ _ h
theorem block_fz {w : World} {b : Nat} {cs : Array Value} {t : TypeId} (h : w.heap[b]? = some (.cells cs t (0, 0))) (k : Nat) : w.frozen? ⟨b, k, none⟩ = false := by simp only [World.frozen?, h]; simp
theorem block_lt {w : World} {b : Nat} {o : Obj} (h : w.heap[b]? = some o) : b < w.heap.size := (Array.getElem?_eq_some_iff.1 h).1
theorem put_mid {V w2 : World} {bx n cr : Nat} {Ar B : Option Addr} {d : Nat} {N L F T : Int} {l : List Nat} (b2 : w2.heap[bx]? = some (.cells #[.int .i64 N, .int .i64 F, .int .i64 T, .slice B n d] 46 (0, 0))) (hb : bx < V.heap.size)
    (ho : Own w2 V.heap.size 5 1 Ar n cr (u8s l)) (hx : Ext V w2) :
    ∃ A' c', ((w2.setCell ⟨bx, 0, none⟩ (.int .i64 L)).setCell ⟨bx, 3, none⟩ (.slice Ar n cr)).heap[bx]? = some (.cells #[.int .i64 L, .int .i64 F, .int .i64 T, .slice A' n c'] 46 (0, 0)) ∧ Own ((w2.setCell ⟨bx, 0, none⟩ (.int .i64 L)).setCell ⟨bx, 3, none⟩ (.slice Ar n cr)) V.heap.size 5 1 A' n c' (u8s l) ∧
      Fr V ((w2.setCell ⟨bx, 0, none⟩ (.int .i64 L)).setCell ⟨bx, 3, none⟩ (.slice Ar n cr)) (· = bx) := by
  have f1 := Fr.store w2 ⟨bx, 0, none⟩ (.int .i64 L)
  have f2 := Fr.store (w2.setCell ⟨bx, 0, none⟩ (.int .i64 L)) ⟨bx, 3, none⟩ (.slice Ar n cr)
  have s1 : (w2.setCell ⟨bx, 0, none⟩ (.int .i64 L)).heap[bx]? = some (.cells #[.int .i64 L, .int .i64 F, .int .i64 T, .slice B n d] 46 (0, 0)) := heap_setCell_same w2 bx 0 _ _ _ b2
  have s2 : ((w2.setCell ⟨bx, 0, none⟩ (.int .i64 L)).setCell ⟨bx, 3, none⟩ (.slice Ar n cr)).heap[bx]? = some (.cells #[.int .i64 L, .int .i64 F, .int .i64 T, .slice Ar n cr] 46 (0, 0)) := heap_setCell_same _ bx 3 _ _ _ s1
  have hne : ∀ a, Ar = some a → ¬ a.block = bx := fun a ha e => by
    have := ho.base_le a.block (by rw [ha]; rfl)
    omega
  exact ⟨Ar, cr, s2, f2.own (f1.own ho hne) hne, ((Fr.of_ext hx (· = bx)).trans f1 (fun _ _ h => h)).trans f2 (fun _ _ h => h)⟩
theorem Own.lt_at {w : World} {base n c : Nat} {e : TypeId} {size : Nat} {A : Option Addr} {xs : List Value} (h : Own w base e size A n c xs) {a : Addr} (ha : A = some a) : a.block < w.heap.size := by
  rcases h.2 with ⟨hn, _⟩ | ⟨g, cap, cur, h1, hb, hgg, rest⟩
  · injection hn with hn
    rw [ha] at hn
    cases hn
  · injection h1 with h1
    rw [ha] at h1
    injection h1 with h1
    subst h1
    exact (Array.getElem?_eq_some_iff.1 hgg).1
/-- A row of bytes at the beginning of block S that can be written. -/
def U8B (w : World) (S n : Nat) : Prop := ∃ cur, w.heap[S]? = some (.cells cur 5 (0, 0)) ∧ ∀ j, j < n → ∃ y : Int, cur[j]? = some (.int .u8 y)
theorem U8B.fr {w w' : World} {S n : Nat} (h : U8B w S n) {P : Nat → Prop} (hf : Fr w w' P) (hP : ¬ P S) : U8B w' S n := by
  obtain ⟨cur, h1, h2⟩ := h
  exact ⟨cur, (hf.block S (block_lt h1) hP).trans h1, h2⟩
theorem U8B.lt {w : World} {S n : Nat} (h : U8B w S n) : S < w.heap.size := by obtain ⟨cur, h1, _⟩ := h; exact block_lt h1
theorem U8B.ext {w w' : World} {S n : Nat} (h : U8B w S n) (hx : Ext w w') : U8B w' S n := h.fr (Fr.of_ext hx (fun _ => False)) (fun h => h)
theorem U8B.cell {w : World} {S n : Nat} (h : U8B w S n) {j : Nat} (hj : j < n) : ∃ y : Int, w.cell? ⟨S, j, none⟩ = some (.int .u8 y) := by
  obtain ⟨cur, h1, h2⟩ := h
  obtain ⟨y, hy⟩ := h2 j hj
  exact ⟨y, (block_cell h1 j).trans hy⟩
theorem U8B.fz {w : World} {S n : Nat} (h : U8B w S n) (j : Nat) : w.frozen? ⟨S, j, none⟩ = false := by
  obtain ⟨cur, h1, _⟩ := h
  exact block_fz h1 j
theorem U8B.set {w : World} {S n : Nat} (h : U8B w S n) (k : Nat) (y : Int) : U8B (w.setCell ⟨S, k, none⟩ (.int .u8 y)) S n := by
  obtain ⟨cur, h1, h2⟩ := h
  refine ⟨_, heap_setCell_same w S k _ _ _ h1, fun j hj => ?_⟩
  rcases Nat.decEq k j with e | e
  · rw [Array.getElem?_setIfInBounds_ne e]
    exact h2 j hj
  · subst e
    obtain ⟨z, hz⟩ := h2 k hj
    rw [Array.getElem?_setIfInBounds_self_of_lt (Array.getElem?_eq_some_iff.1 hz).1]
    exact ⟨y, rfl⟩
theorem Own.u8b {w : World} {base n c : Nat} {A : Option Addr} {l : List Nat} (h : Own w base 5 1 A n c (u8s l)) (h0 : 0 < n) : ∃ S, A = some ⟨S, 0, none⟩ ∧ U8B w S n := by
  have hl := h.len
  obtain ⟨S, rfl⟩ := h.head h0
  refine ⟨S, rfl, ?_⟩
  obtain ⟨cur, hg, _, _⟩ := h.capd
  refine ⟨cur, hg, fun j hj => ?_⟩
  have hlj : j < l.length := by rw [u8s_len] at hl; omega
  have hy : (u8s l)[j]? = some (.int .u8 ((l[j] : Nat) : Int)) := by simp [u8s, hlj]
  have h7 : w.cell? ((⟨S, 0, none⟩ : Addr).add j) = some (.int .u8 ((l[j] : Nat) : Int)) := World.ownsRow.cells (g := S) h rfl j _ hy
  have e1 : (⟨S, 0, none⟩ : Addr).add j = ⟨S, j, none⟩ := by unfold Addr.add; split <;> simp_all
  rw [e1, block_cell hg] at h7
  exact ⟨_, h7⟩
/-- What put leaves. -/
structure PutS (w w' : World) (g : Nat) (A : Option Addr) (m last : Nat) (ls : List LetV) (F T : Int) (n : Nat) (l : List Nat) : Prop where
  ex : ∃ A' c' x, NetS w' g A' (m + 1) c' (ls ++ [x]) (last + 1) ∧ x.N = last + 1 ∧ x.F = F ∧ x.T = T ∧ x.n = n ∧ x.l = l ∧ (∀ a, A' = some a → A.map (·.block) = some a.block ∨ w.heap.size ≤ a.block) ∧ (∀ a, x.A = some a → w.heap.size ≤ a.block) ∧ (0 < x.n → ∀ a, x.A = some a → ∃ S, a = ⟨S, 0, none⟩ ∧ U8B w' S x.n)
  fr : Fr w w' (fun b => b = g ∨ A.map (·.block) = some b)
theorem net_push {w wc wq w3 : World} {g m c last c3 n c' b0 : Nat} {A A3 A' : Option Addr} {ls : List LetV} {F T : Int} {l : List Nat} (h : NetS w g A m c ls last) (hm : m < 4096) (hlast : last < 4611686018427387904) (hg : g < w.heap.size) (F5 : Fr w wc (· = g))
    (bg : wc.heap[g]? = some (.cells #[.slice A m c, .int .i64 ((last + 1 : Nat) : Int)] 51 (0, 0))) (ho : Own wc b0 5 1 A' n c' (u8s l)) (hb0 : w.heap.size ≤ b0) (hl : ∀ y ∈ l, y < 256) (hn : n ≤ 140737488351232) (xq : Ext wc wq)
    (o3 : Own w3 (g + 1) 46 4 A3 (m + 1) c3 ((lrows ls).flatten ++ (LetV.mk (last + 1) F T A' n c' l).cells)) (g3 : Grows wq w3 A) (hA3 : A3 = A ∨ A3 = some ⟨wq.heap.size, 0, none⟩) :
    PutS w (w3.setCell ⟨g, 0, none⟩ (.slice A3 (m + 1) c3)) g A m last ls F T n l := by
  have z5 := F5.size
  have zq := xq.size
  have hal : ∀ a, A = some a → a.block < w.heap.size := fun a ha => h.own.lt_at ha
  have hag := h.ag
  have f3 : Fr wc w3 (fun b => A.map (·.block) = some b) := (Fr.of_ext xq _).trans (Fr.grows g3) (fun _ _ h => h)
  have hgA : ¬ A.map (·.block) = some g := fun e => by
    obtain ⟨a, ha, hab⟩ := Option.map_eq_some_iff.1 e
    exact hag a ha hab
  have bg3 := (f3.block g (block_lt bg) hgA).trans bg
  have bs : (w3.setCell ⟨g, 0, none⟩ (.slice A3 (m + 1) c3)).heap[g]? = some (.cells #[.slice A3 (m + 1) c3, .int .i64 ((last + 1 : Nat) : Int)] 51 (0, 0)) := heap_setCell_same w3 g 0 _ _ _ bg3
  have fs := Fr.store w3 ⟨g, 0, none⟩ (.slice A3 (m + 1) c3)
  have FW : Fr w (w3.setCell ⟨g, 0, none⟩ (.slice A3 (m + 1) c3)) (fun b => b = g ∨ A.map (·.block) = some b) := ((F5.mono (fun i _ h => .inl h)).trans f3 (fun i _ h => .inr h)).trans fs (fun i _ h => .inl h)
  have h3g : ∀ a, A3 = some a → ¬ a.block = g := fun a ha e => by
    have := o3.base_le a.block (by rw [ha]; rfl)
    omega
  have h3o : ∀ a, A3 = some a → A.map (·.block) = some a.block ∨ w.heap.size ≤ a.block := fun a ha => by
    rcases hA3 with e | e
    · left; rw [← e, ha]; rfl
    · right
      rw [ha] at e
      injection e with e
      rw [e]
      show w.heap.size ≤ wq.heap.size
      omega
  have far3 : ∀ b : Nat, b < wq.heap.size → A.map (·.block) ≠ some b → A3.map (·.block) ≠ some b := fun b hb hne e => by
    rcases hA3 with e2 | e2
    · rw [e2] at e; exact hne e
    · rw [e2] at e
      injection e with e
      have e : wq.heap.size = b := e
      omega
  have ho3 : ∀ a, A' = some a → a.block < wc.heap.size ∧ w.heap.size ≤ a.block := fun a ha => ⟨ho.lt_at ha, Nat.le_trans hb0 (ho.base_le a.block (by rw [ha]; rfl))⟩
  have hcat : (lrows ls).flatten ++ (LetV.mk (last + 1) F T A' n c' l).cells = (lrows (ls ++ [LetV.mk (last + 1) F T A' n c' l])).flatten := by simp [lrows]
  refine ⟨⟨A3, c3, LetV.mk (last + 1) F T A' n c' l, ⟨bs, by rw [← hcat]; exact fs.own o3 h3g, fun i j x y hij hx hy => ?_, fun x hx => ?_, fun x hx => ?_, by omega, by omega⟩, rfl, rfl, rfl, rfl, rfl, h3o, fun a ha => (ho3 a ha).2, fun h0 a ha => ?_⟩, FW⟩
  · rcases Nat.lt_or_ge j ls.length with hj | hj
    · rw [List.getElem?_append_left hj] at hy
      rw [List.getElem?_append_left (by omega)] at hx
      exact h.ris i j x y hij hx hy
    · rw [List.getElem?_append_right hj] at hy
      have hj2 : j - ls.length = 0 := by
        have := (List.getElem?_eq_some_iff.1 hy).1
        simp at this
        omega
      rw [hj2] at hy
      simp at hy
      subst hy
      rw [List.getElem?_append_left (by omega)] at hx
      have := (h.top x (List.mem_of_getElem? hx)).2
      show x.N < last + 1
      omega
  · rcases List.mem_append.1 hx with hx | hx
    · have := h.top x hx; omega
    · simp at hx; subst hx; show 1 ≤ last + 1 ∧ last + 1 ≤ last + 1; omega
  · rcases List.mem_append.1 hx with hx | hx
    · obtain ⟨q1, q2, q3, q4⟩ := h.byt x hx
      refine ⟨rd0 FW q1 (fun h0 a ha e => ?_), q2, q3, fun h0 a ha => ⟨(q4 h0 a ha).1, ?_⟩⟩
      · rcases e with e | e
        · exact (q4 h0 a ha).1 e
        · exact (q4 h0 a ha).2 e
      · obtain ⟨ad, e, hlt, _⟩ := q1.2 h0
        rw [ha] at e
        injection e with e
        subst e
        exact far3 _ (by omega) (q4 h0 a ha).2
    · simp at hx
      subst hx
      refine ⟨?_, hl, hn, fun h0 a ha => ⟨by have := (ho3 a ha).2; omega, far3 _ (by have := (ho3 a ha).1; omega) (fun e => ?_)⟩⟩
      · refine rd0 (fs.mono (fun _ _ h => h)) (rd0 f3 ho.rd (fun h0 a ha e => ?_)) (fun h0 a ha e => ?_)
        · obtain ⟨b, hb, hab⟩ := Option.map_eq_some_iff.1 e
          have := hal b hb
          have := (ho3 a ha).2
          omega
        · have := (ho3 a ha).2
          have e : a.block = g := e
          omega
      · obtain ⟨b, hb, hab⟩ := Option.map_eq_some_iff.1 e
        have := hal b hb
        have := (ho3 a ha).2
        omega
  · obtain ⟨S, e, hU⟩ := ho.u8b h0
    have ha2 : A' = some a := ha
    have hS := ho3 a ha2
    rw [ha2] at e
    injection e with e
    subst e
    refine ⟨S, rfl, (hU.fr f3 (fun e => ?_)).fr fs (fun e => ?_)⟩
    · obtain ⟨b, hb, hab⟩ := Option.map_eq_some_iff.1 e
      have h1 := hal b hb
      have h2 : w.heap.size ≤ S := hS.2
      omega
    · have h2 : w.heap.size ≤ S := hS.2
      have e : S = g := e
      omega
set_option maxHeartbeats 1600000 in
theorem put_full {w : World} {g m c last : Nat} {A : Option Addr} {ls : List LetV} (h : NetS w g A m c ls last) (hm : m = 4096) (N F T : Int) (B : Option Addr) (n d : Nat) {p : Addr} (hS : Sen w 6 p) :
    Calls Tryd.prog 24 #[.pointer (some ⟨g, 0, none⟩), .agg #[.int .i64 N, .int .i64 F, .int .i64 T, .slice B n d]] w fun e w' => e = .returned (.tuple #[.int .i64 0, errE p]) ∧ Ext w w' := by
  subst hm
  have X0 := (Ext.refl w).alloc (.cells #[.int .i64 N, .int .i64 F, .int .i64 T, .slice B n d] 46)
  have c0 := (h.ex X0).c0
  have c3 := (hS.ext X0).2.1
  have HX := Lib.hid X0
  clear h hS X0
  go_enter Tryd.func24, Tryd.ntmps24
  go_wp2_with fail
  go_quiet (fail)
  go_wp2_with fail
  go_returns
  exact ⟨rfl, HX.out.drewN _⟩
set_option maxHeartbeats 3200000 in
theorem put_ok {w : World} {g m c last : Nat} {A : Option Addr} {ls : List LetV} (h : NetS w g A m c ls last) (hm : m < 4096) (hlast : last < 4611686018427387904) (N F T : Int) (B : Option Addr) (n d : Nat) (l : List Nat) (hr : Rd w 1 B n (u8s l)) (hl : ∀ y ∈ l, y < 256) (hn : n ≤ 140737488351232)
    (hB : 0 < n → ∀ b, B = some b → b.block ≠ g) :
    Calls Tryd.prog 24 #[.pointer (some ⟨g, 0, none⟩), .agg #[.int .i64 N, .int .i64 F, .int .i64 T, .slice B n d]] w fun e w' => e = .returned (.tuple #[.int .i64 ((last : Int) + 1), .nilIface]) ∧ PutS w w' g A m last ls F T n l := by
  obtain ⟨L, hL⟩ : ∃ L, last + 1 = L := ⟨_, rfl⟩
  have hLi : (last : Int) + 1 = (L : Int) := by omega
  have X0 := (Ext.refl w).alloc (.cells #[.int .i64 N, .int .i64 F, .int .i64 T, .slice B n d] 46)
  have hbox := heap_alloc_new w (.cells #[.int .i64 N, .int .i64 F, .int .i64 T, .slice B n d] 46)
  have h0 := h.ex X0
  have c0 := h0.c0
  have c1 := h0.c1
  have f1 := h0.fz 1
  have hm' : ¬ (4096 : Int) ≤ (m : Int) := by omega
  have hlb : last ≤ 4611686018427387904 := by omega
  have H0 := Lib.hid (And.intro h (And.intro h0 (And.intro X0 (And.intro hbox (And.intro hr (And.intro hl (And.intro hB hL)))))))
  clear h h0 X0 hbox hr hl hB hL
  rw [hLi]
  go_enter Tryd.func24, Tryd.ntmps24
  go_upto_region 4 with (fail)
  have hglt := H0.out.2.1.lt
  have hgw := H0.out.1.lt
  generalize hU : w.alloc (.cells #[.int .i64 N, .int .i64 F, .int .i64 T, .slice B n d] 46) = U at *
  have f0 : Fr U (U.setCell ⟨g, 1, none⟩ (.int .i64 (L : Int))) (· = g) := Fr.store U ⟨g, 1, none⟩ _
  have b1 : (U.setCell ⟨g, 1, none⟩ (.int .i64 (L : Int))).heap[g]? = some (.cells #[.slice A m c, .int .i64 (L : Int)] 51 (0, 0)) := heap_setCell_same U g 1 _ _ _ H0.out.2.1.blk
  have bb : (U.setCell ⟨g, 1, none⟩ (.int .i64 (L : Int))).heap[w.heap.size]? = some (.cells #[.int .i64 N, .int .i64 F, .int .i64 T, .slice B n d] 46 (0, 0)) := (f0.block _ (block_lt H0.out.2.2.2.1) (by omega)).trans H0.out.2.2.2.1
  have ow : Own (U.setCell ⟨g, 1, none⟩ (.int .i64 (L : Int))) (g + 1) 46 4 A m c (lrows ls).flatten := f0.own H0.out.2.1.own (fun a ha => H0.out.2.1.ag a ha)
  have rB : Rd (U.setCell ⟨g, 1, none⟩ (.int .i64 (L : Int))) 1 B n (u8s l) := rd0 f0 (H0.out.2.2.2.2.1.ext H0.out.2.2.1) (fun h0 b hb => H0.out.2.2.2.2.2.2.1 h0 b hb)
  have F1 : Fr w (U.setCell ⟨g, 1, none⟩ (.int .i64 (L : Int))) (· = g) := (Fr.of_ext H0.out.2.2.1 (· = g)).trans f0 (fun _ _ h => h)
  generalize U.setCell ⟨g, 1, none⟩ (.int .i64 (L : Int)) = V at *
  have CL := Lib.hid (fun w' (hx : Ext V w') => clone_any B n d l w' (rB.ext hx) hn)
  have HV := Lib.hid (And.intro b1 (And.intro bb (And.intro ow F1)))
  clear b1 bb ow rB F1 f0 hU c0 c1 f1
  generalize hbx : w.heap.size = bx at *
  have HBX := Lib.hid hbx
  clear hbx
  have d1 : V.cell? ⟨g, 1, none⟩ = some (.int .i64 (L : Int)) := by rw [block_cell HV.out.1]; rfl
  have d3 : V.cell? ⟨bx, 3, none⟩ = some (.slice B n d) := by rw [block_cell HV.out.2.1]; rfl
  go_cut [] from 20 (fun wx => ∃ A' c', wx.heap[bx]? = some (.cells #[.int .i64 (L : Int), .int .i64 F, .int .i64 T, .slice A' n c'] 46 (0, 0)) ∧ Own wx V.heap.size 5 1 A' n c' (u8s l) ∧ Fr V wx (· = bx))
  case first =>
    have VX : Ext V V.drew := (Ext.refl V).drew
    go_region_law
      (first
        | (go_simp; go_at_call 31; (with_reducible refine (CL.out _ (by with_reducible assumption)).mono ?_); rintro e w2 ⟨Ar, cr, rfl, orr, xr⟩; have x2 : Ext V w2 := Ext.trans VX xr; have b2 := (x2.block bx (block_lt HV.out.2.1)).trans HV.out.2.1; have e0 := block_cell b2 0; have e3 := block_cell b2 3; have z0 := block_fz b2 0; have z3 := block_fz b2 3; have e1 := (x2.cell (p := ⟨g, 1, none⟩) (by with_reducible exact block_lt HV.out.1)).trans d1))
    all_goals
      go_wp2_with fail
      go_meet
      case rel => exact put_mid b2 (block_lt HV.out.2.1) (orr.base_mono (by show V.heap.size ≤ V.heap.size; omega)) x2
  case rest =>
    obtain ⟨A', c', hb5, ho5, hf5⟩ := hcut
    have hbx := HBX.out
    have bg : wc.heap[g]? = some (.cells #[.slice A m c, .int .i64 (L : Int)] 51 (0, 0)) := (hf5.block g (block_lt HV.out.1) (by omega)).trans HV.out.1
    have hAb : ∀ a, A = some a → ¬ a.block = bx := fun a ha e => by
      have h1 := H0.out.1.own.lt_at ha
      omega
    have ow : Own wc (g + 1) 46 4 A m c (lrows ls).flatten := hf5.own HV.out.2.2.1 hAb
    have F5 : Fr w wc (· = g) := HV.out.2.2.2.trans hf5 (fun i hi e => by omega)
    have hVs := HV.out.2.2.2.size
    have d0 : wc.cell? ⟨g, 0, none⟩ = some (.slice A m c) := by rw [block_cell bg]; rfl
    have e0 : wc.cell? ⟨bx, 0, none⟩ = some (.int .i64 (L : Int)) := by rw [block_cell hb5]; rfl
    have e1 : wc.cell? ⟨bx, 1, none⟩ = some (.int .i64 F) := by rw [block_cell hb5]; rfl
    have e2 : wc.cell? ⟨bx, 2, none⟩ = some (.int .i64 T) := by rw [block_cell hb5]; rfl
    have e3 : wc.cell? ⟨bx, 3, none⟩ = some (.slice A' n c') := by rw [block_cell hb5]; rfl
    have H5 := Lib.hid (And.intro bg (And.intro ow (And.intro F5 (And.intro ho5 (And.intro hVs hAb)))))
    clear bg ow F5 ho5 hVs hAb hbx hf5 hb5
    have XW : Ext wc (wc.alloc (.cells #[.int .i64 (L : Int), .int .i64 F, .int .i64 T, .slice A' n c'] 46)) := (Ext.refl wc).alloc _
    have RN : Rd (wc.alloc (.cells #[.int .i64 (L : Int), .int .i64 F, .int .i64 T, .slice A' n c'] 46)) 4 (some ⟨wc.heap.size, 0, none⟩) 1 (LetV.mk L F T A' n c' l).cells :=
      ⟨rfl, fun _ => ⟨_, rfl, by rw [World.size_alloc]; exact Nat.lt_succ_self _, World.news_of_block (heap_alloc_new wc _)⟩⟩
    have q0 := (XW.cell (p := ⟨g, 0, none⟩) (block_lt H5.out.1)).trans d0
    have hnz : ∀ u ∈ (LetV.mk L F T A' n c' l).cells, u.oneCell' = true := fun u hu => by
      simp only [LetV.cells, List.mem_cons, List.not_mem_nil, or_false] at hu
      rcases hu with rfl | rfl | rfl | rfl <;> rfl
    have OX := Lib.hid (H5.out.2.1.ext XW)
    have XD := XW.drew
    go_wp2_with fail
    have hzq : g + 1 ≤ (wc.alloc (.cells #[.int .i64 (L : Int), .int .i64 F, .int .i64 T, .slice A' n c'] 46)).drew.heap.size := by have := block_lt H5.out.1; simp; omega
    go_region_law
      (first
        | (refine step_app (w := (wc.alloc (.cells #[.int .i64 (L : Int), .int .i64 F, .int .i64 T, .slice A' n c'] 46)).drew) (m := 1) (news := (LetV.mk L F T A' n c' l).cells) eltLet OX.out RN hnz (by omega) (.inr ⟨by omega, by omega⟩) hzq _ _ rfl rfl rfl rfl ?_
           intro A3 c3 w3 o3 g3 hA3 _
           have b3 := (g3.block g hzq (fun e => by
             obtain ⟨a, ha, hab⟩ := Option.map_eq_some_iff.1 e.symm
             exact H0.out.1.ag a ha hab)).trans ((XD.block g (block_lt H5.out.1)).trans H5.out.1)
           have s0 : w3.cell? ⟨g, 0, none⟩ = some (.slice A m c) := by rw [block_cell b3]; rfl
           have s1 := block_fz b3 0))
    all_goals
      have P := Lib.hid (net_push (F := F) (T := T) H0.out.1 hm hlast (by rw [HBX.out]; exact hgw) H5.out.2.2.1 (by rw [H0.out.2.2.2.2.2.2.2]; exact H5.out.1) H5.out.2.2.2.1 H5.out.2.2.2.2.1 H0.out.2.2.2.2.2.1 hn XW.drew (by rw [H0.out.2.2.2.2.2.2.2]; exact o3) g3 hA3)
      have t1 : (w3.setCell ⟨g, 0, none⟩ (.slice A3 (m + 1) c3)).cell? ⟨g, 1, none⟩ = some (.int .i64 (L : Int)) := by
        rw [block_cell (heap_setCell_same w3 g 0 _ _ _ b3)]
        rfl
      clear o3 g3 hA3 b3 s0 s1 d0 e0 e1 e2 e3 q0
      go_wp2_with fail
      go_returns
      exact ⟨rfl, P.out⟩
end Go.Proofs.YteaainepnelehaaDoor
