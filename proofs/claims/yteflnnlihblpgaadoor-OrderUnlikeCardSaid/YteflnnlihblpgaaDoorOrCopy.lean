/-
  Copies of ledgers: the document's Copy, slices.Clone of tasks, order.copied; walked.
-/
import Derived.Test.YteflnnlihblpgaaDoorOrRows
import Derived.Handy
import Derived.Deep.Cut
namespace Go.Proofs.YteflnnlihblpgaaDoor
set_option maxRecDepth 100000
open Go.RowKit
set_option linter.unusedVariables false
theorem Own.other {w : World} {b1 b2 n c m d z1 z2 : Nat} {e1 e2 : TypeId} {A B : Option Addr} {xs ys : List Value} (h : Own w b1 e1 z1 A n c xs) (k : Own w b2 e2 z2 B m d ys) (hne : e1 ≠ e2) : ∀ a, B = some a → A.map (·.block) ≠ some a.block := by
  intro a ha hA
  rcases h.2 with ⟨h1, _⟩ | ⟨g, cap, cur, h1, _, hg, _⟩
  · injection h1 with h1
    subst h1
    cases hA
  · injection h1 with h1
    subst h1
    rcases k.2 with ⟨k1, _⟩ | ⟨g', cap', cur', k1, _, kg, _⟩
    · injection k1 with k1
      rw [ha] at k1
      cases k1
    · injection k1 with k1
      rw [ha] at k1
      injection k1 with k1
      subst k1
      simp only [Option.map_some, Option.some.injEq] at hA
      subst hA
      rw [hg] at kg
      simp only [Option.some.injEq, Obj.cells.injEq] at kg
      exact hne kg.2.1
section
variable {w w' : World} {base m d : Nat} {B : Option Addr} {ss : List EnS}
/-- Behind an append to a ledger's row each entry's tasks lie as they lay. -/
theorem OLed.grown (h : OLed w base B m d ss) (hg : Grows w w' B) : ∀ s ∈ ss, s.Lies w' ∧ s.Mine base w' := fun s hs => by
  obtain ⟨h1, h2⟩ := h.all s hs
  have h3 : Own w' base 47 4 s.A s.n s.c (trows s.e.ts).flatten := (Fr.grows hg).own h2 (fun a ha e => h.own.other h2 (by decide) a ha e)
  exact ⟨⟨h3.rd, h1.le, h1.cap⟩, h3⟩
/-- An entry more. -/
theorem OLed.snoc (h : OLed w base B m d ss) (hg : Grows w w' B) {x : EnS} (hx : x.Lies w) (hm : x.Mine base w) {B' : Option Addr} {d' : Nat} (ho : Own w' base 29 10 B' (m + 1) d' ((erows ss).flatten ++ x.vals)) : OLed w' base B' (m + 1) d' (ss ++ [x]) := by
  refine ⟨by rw [erows_app]; simpa [erows] using ho, fun s hs => ?_⟩
  rcases List.mem_append.1 hs with hs | hs
  · exact h.grown hg s hs
  · obtain rfl := List.mem_singleton.1 hs
    have h3 : Own w' base 47 4 s.A s.n s.c (trows s.e.ts).flatten := (Fr.grows hg).own hm (fun a ha e => h.own.other hm (by decide) a ha e)
    exact ⟨⟨h3.rd, hx.le, hx.cap⟩, h3⟩
end
/-- A ledger's entries more. -/
theorem OLed.app {w w' : World} {base m d k : Nat} {B : Option Addr} {ss tt : List EnS} (h : OLed w base B m d ss) (hg : Grows w w' B) (h2 : ∀ x ∈ tt, x.Lies w ∧ x.Mine base w) {B' : Option Addr} {d' : Nat} (ho : Own w' base 29 10 B' (m + k) d' ((erows ss).flatten ++ (erows tt).flatten)) : OLed w' base B' (m + k) d' (ss ++ tt) := by
  refine ⟨by rw [erows_app]; exact ho, fun s hs => ?_⟩
  rcases List.mem_append.1 hs with hs | hs
  · exact h.grown hg s hs
  · obtain ⟨h3, h4⟩ := h2 s hs
    have h5 : Own w' base 47 4 s.A s.n s.c (trows s.e.ts).flatten := (Fr.grows hg).own h4 (fun a ha e => h.own.other h4 (by decide) a ha e)
    exact ⟨⟨h5.rd, h3.le, h3.cap⟩, h5⟩
/-- An entry laid into a block of its own. -/
theorem rd_entry (x : EnS) (w : World) : Rd (w.alloc (.cells #[.int .i64 x.e.cl, .int .i64 x.e.nu, .int .i64 x.e.kd, .int .i64 x.e.id, .int .i64 x.e.sk, .int .i64 x.e.sq, .int .i64 x.e.st, .int .i64 x.e.pol, .slice x.A x.n x.c, .int .i64 x.e.at_] 29)) 10 (some ⟨w.heap.size, 0, none⟩) 1 x.vals :=
  ⟨rfl, fun _ => ⟨_, rfl, by rw [World.size_alloc]; exact Nat.lt_succ_self _, World.news_of_block (heap_alloc_new w _)⟩⟩
set_option maxHeartbeats 800000 in
theorem clonet_any (s : EnS) (w : World) (hs : s.Lies w) : Calls Tryd.prog 76 #[.slice s.A s.n s.c] w fun e w' => ∃ A' c', e = .returned (.slice A' s.n c') ∧ Own w' w.heap.size 47 4 A' s.n c' (trows s.e.ts).flatten ∧ Ext w w' := by
  have hr := hs.rd
  have hle := hs.le
  obtain ⟨e, A, n, c⟩ := s
  dsimp only at hr hle ⊢
  have HR := Lib.hid hr
  cases A with
  | none =>
    obtain rfl : n = 0 := by
      rcases Nat.eq_zero_or_pos n with h | h
      · exact h
      · obtain ⟨_, h, _⟩ := hr.2 h; cases h
    have hx : (trows e.ts).flatten = [] := List.eq_nil_of_length_eq_zero (by have := hr.1; omega)
    have HX := Lib.hid hx
    have hq := fun (w : World) (a : Option Addr) (n c : Nat) => Lib.run_eql_slice_nil (P := Tryd.prog) w 25 47 a n c 0 0 Tryd.underlying25
    clear hr hx hs
    go_enter Tryd.func76, Tryd.ntmps76
    go_wp2_with fail
    go_returns
    exact ⟨none, 0, rfl, by rw [HX.out]; exact Own.nil_, Ext.refl w⟩
  | some ad =>
    have hq := fun (w : World) (a : Option Addr) (n c : Nat) => Lib.run_eql_slice_nil (P := Tryd.prog) w 25 47 a n c 0 0 Tryd.underlying25
    have o0 : Own (w.alloc (.cells #[] 47)) w.heap.size 47 4 (some ⟨w.heap.size, 0, none⟩) 0 0 [] := World.ownsRow_lit (size := 4) _ #[] 0 (Nat.le_refl _) (by simp [maxLen]) rfl
    have x0 := (Ext.refl w).alloc (.cells #[] 47)
    clear hr hs
    go_enter Tryd.func76, Tryd.ntmps76
    go_wp2_with (at_builtin; refine held ?_)
    refine Held.go (wp_app (m := n) (news := (trows e.ts).flatten) eltTk o0 (HR.out.ext x0) (trows_one _) (by omega) (.inr ⟨by omega, by omega⟩) x0.size _ _ rfl rfl rfl rfl ?_)
    intro A2 c2 w2 o2 g2 _ _
    have x2 := o0.fr_ext x0 (Nat.le_refl _) (Fr.grows g2)
    rw [List.nil_append, Nat.zero_add] at o2
    have HF := Lib.hid (And.intro o2 x2)
    clear o2 g2 x2 o0 x0
    go_wp2_with fail
    go_returns
    exact ⟨A2, c2, rfl, HF.out.1, HF.out.2⟩
set_option maxHeartbeats 3200000 in
theorem rcopy_any (A : Option Addr) (n c : Nat) (ss : List EnS) (w : World) (hs : Led w A n ss) (hn : n ≤ 1500000000000) : Calls Tryd.prog 13 #[.slice A n c] w fun e w' => ∃ B d tt, e = .returned (.slice B n d) ∧ ents tt = ents ss ∧ OLed w' w.heap.size B n d tt ∧ Ext w w' := by
  have hsl := hs.len
  have HR := Lib.hid hs
  clear hs
  have o0 : OLed (w.alloc (.cells #[] 29)) w.heap.size (some ⟨w.heap.size, 0, none⟩) 0 0 [] := ⟨World.ownsRow_lit (size := 10) _ #[] 0 (Nat.le_refl _) (by simp [maxLen]) rfl, by simp⟩
  have x0 := (Ext.refl w).alloc (.cells #[] 29)
  have H0 := Lib.hid (And.intro o0 x0)
  clear o0 x0
  go_enter Tryd.func13, Tryd.ntmps13
  go_upto_region 3 with (fail)
  go_loopw [3, 9] (fun v3 v9 wr => ∃ (k : Nat) (B : Option Addr) (d : Nat), v9 = .int .i64 (k : Int) ∧ v3 = .slice B k d ∧ k ≤ n ∧ Hid (∃ tt, ents tt = (ents ss).take k ∧ OLed wr w.heap.size B k d tt ∧ Ext w wr)) (fun _ v9 _ => n - (intOf v9).toNat)
  case atStart => exact ⟨0, _, 0, rfl, rfl, by omega, [], rfl, H0.out.1, H0.out.2⟩
  case round =>
    obtain ⟨k, B, d, rfl, rfl, hk, HI⟩ := hrel
    obtain ⟨tt, ht, ho, hx⟩ := HI.out
    have HO := Lib.hid (And.intro ht (And.intro ho hx))
    clear ht ho hx HI
    by_cases hlt : k < n
    · obtain ⟨x, hx⟩ : ∃ x, ss[k]? = some x := ⟨ss[k]'(by omega), List.getElem?_eq_getElem _⟩
      obtain ⟨k10, hk10⟩ : ∃ k10, k * 10 = k10 := ⟨_, rfl⟩
      obtain ⟨ad, rfl, y0, y1, y2, y3, y4, y5, y6, y7, y8, y9⟩ := (HR.out.ext HO.out.2.2).entry hx hk10
      have k0 : (0 : Int) ≤ k := by omega
      have k1 : (k : Int) < n := by omega
      have HX := Lib.hid hx
      have X5 := (Ext.refl wr).alloc (.cells #[.int .i64 x.e.cl, .int .i64 x.e.nu, .int .i64 x.e.kd, .int .i64 x.e.id, .int .i64 x.e.sk, .int .i64 x.e.sq, .int .i64 x.e.st, .int .i64 x.e.pol, .slice x.A x.n x.c, .int .i64 x.e.at_] 29)
      have H5 := Lib.hid (And.intro (heap_alloc_new wr (.cells #[.int .i64 x.e.cl, .int .i64 x.e.nu, .int .i64 x.e.kd, .int .i64 x.e.id, .int .i64 x.e.sk, .int .i64 x.e.sq, .int .i64 x.e.st, .int .i64 x.e.pol, .slice x.A x.n x.c, .int .i64 x.e.at_] 29)) (And.intro X5 (And.intro (HO.out.2.2.trans X5) HO.out.2.2.size)))
      have HL := Lib.hid ((HR.out.all x (List.mem_of_getElem? hx)).ext (HO.out.2.2.trans X5))
      have HOW := Lib.hid (HO.out.2.1.ext X5)
      clear hx X5
      go_upto_region 5 with (fail)
      generalize wr.alloc (.cells #[.int .i64 x.e.cl, .int .i64 x.e.nu, .int .i64 x.e.kd, .int .i64 x.e.id, .int .i64 x.e.sk, .int .i64 x.e.sq, .int .i64 x.e.st, .int .i64 x.e.pol, .slice x.A x.n x.c, .int .i64 x.e.at_] 29) = V5 at *
      generalize htbe : wr.heap.size = tb at *
      have HTB := Lib.hid htbe
      clear htbe
      clear y0 y1 y2 y3 y4 y5 y6 y7 y8 y9
      have c8 : V5.cell? ⟨tb, 8, none⟩ = some (.slice x.A x.n x.c) := block_cell H5.out.1 8
      have hle := HL.out.le
      have hcap := HL.out.cap
      have o1 : Own (V5.alloc (.cells #[] 47)) V5.heap.size 47 4 (some ⟨V5.heap.size, 0, none⟩) 0 0 [] := World.ownsRow_lit (size := 4) _ #[] 0 (Nat.le_refl _) (by simp [maxLen]) rfl
      have x1 := (Ext.refl V5).alloc (.cells #[] 47)
      have c8' := (x1.cell (p := ⟨tb, 8, none⟩) (block_lt H5.out.1)).trans c8
      have hne : V5.heap.size ≠ tb := by have := block_lt H5.out.1; omega
      go_wp2_with (at_builtin; refine held ?_)
      refine Held.go (wp_app (m := x.n) (news := (trows x.e.ts).flatten) eltTk o1 (HL.out.rd.ext x1) (trows_one _) (by omega) (.inr ⟨by omega, by omega⟩) x1.size _ _ rfl rfl rfl rfl ?_)
      intro A2 c2 w2 o2 g2 _ _
      have x2 := o1.fr_ext x1 (Nat.le_refl _) (Fr.grows g2)
      rw [List.nil_append] at o2
      have hN : 0 + x.n = x.n := Nat.zero_add _
      rw [hN] at o2
      rw [hN]
      clear hN c8' hne
      have b2 := (x2.block tb (block_lt H5.out.1)).trans H5.out.1
      have f8 : w2.frozen? ⟨tb, 8, none⟩ = false := block_fz b2 8
      have d8 : w2.cell? ⟨tb, 8, none⟩ = some (.slice x.A x.n x.c) := block_cell b2 8
      have hcc := o2.cap_le
      have htb : tb < V5.heap.size := block_lt H5.out.1
      have F8 := Fr.store w2 ⟨tb, 8, none⟩ (.slice A2 x.n c2)
      have b8 : (w2.setCell ⟨tb, 8, none⟩ (.slice A2 x.n c2)).heap[tb]? = some (.cells #[.int .i64 x.e.cl, .int .i64 x.e.nu, .int .i64 x.e.kd, .int .i64 x.e.id, .int .i64 x.e.sk, .int .i64 x.e.sq, .int .i64 x.e.st, .int .i64 x.e.pol, .slice A2 x.n c2, .int .i64 x.e.at_] 29 (0, 0)) := heap_setCell_same w2 tb 8 _ _ _ b2
      have o8 : Own (w2.setCell ⟨tb, 8, none⟩ (.slice A2 x.n c2)) w.heap.size 47 4 A2 x.n c2 (trows x.e.ts).flatten := (F8.own o2 (fun a ha e => by
        have h1 := o2.base_le a.block (by rw [ha]; rfl)
        have h2 : a.block = tb := e
        omega)).base_mono (by have := H5.out.2.2.1.size; omega)
      have x8 : Ext w (w2.setCell ⟨tb, 8, none⟩ (.slice A2 x.n c2)) := Fr.ext (H5.out.2.2.1.trans x2) F8 (fun i e => by have := H5.out.2.2.2; have e : i = tb := e; omega)
      have w8 : OLed (w2.setCell ⟨tb, 8, none⟩ (.slice A2 x.n c2)) w.heap.size B k d tt := (HO.out.2.1).ext (Fr.ext (H5.out.2.1.trans x2) F8 (fun i e => by have e : i = tb := e; have := HTB.out; omega))
      have H8 := Lib.hid (And.intro b8 (And.intro o8 (And.intro x8 w8)))
      clear b8 o8 x8 w8 F8 o2 x2 c8 b2 o1 x1 g2
      go_upto_region 6 with (fail)
      clear f8 d8
      generalize w2.setCell ⟨tb, 8, none⟩ (.slice A2 x.n c2) = V8 at *
      have e0 : V8.cell? ⟨tb, 0, none⟩ = some (.int .i64 x.e.cl) := block_cell (H8.out.1) 0
      have e1 : V8.cell? ⟨tb, 1, none⟩ = some (.int .i64 x.e.nu) := block_cell (H8.out.1) 1
      have e2 : V8.cell? ⟨tb, 2, none⟩ = some (.int .i64 x.e.kd) := block_cell (H8.out.1) 2
      have e3 : V8.cell? ⟨tb, 3, none⟩ = some (.int .i64 x.e.id) := block_cell (H8.out.1) 3
      have e4 : V8.cell? ⟨tb, 4, none⟩ = some (.int .i64 x.e.sk) := block_cell (H8.out.1) 4
      have e5 : V8.cell? ⟨tb, 5, none⟩ = some (.int .i64 x.e.sq) := block_cell (H8.out.1) 5
      have e6 : V8.cell? ⟨tb, 6, none⟩ = some (.int .i64 x.e.st) := block_cell (H8.out.1) 6
      have e7 : V8.cell? ⟨tb, 7, none⟩ = some (.int .i64 x.e.pol) := block_cell (H8.out.1) 7
      have e8 : V8.cell? ⟨tb, 8, none⟩ = some (.slice A2 x.n c2) := block_cell (H8.out.1) 8
      have e9 : V8.cell? ⟨tb, 9, none⟩ = some (.int .i64 x.e.at_) := block_cell (H8.out.1) 9
      have X9 := (Ext.refl V8).alloc (.cells #[.int .i64 x.e.cl, .int .i64 x.e.nu, .int .i64 x.e.kd, .int .i64 x.e.id, .int .i64 x.e.sk, .int .i64 x.e.sq, .int .i64 x.e.st, .int .i64 x.e.pol, .slice A2 x.n c2, .int .i64 x.e.at_] 29)
      have RN := rd_entry ⟨x.e, A2, x.n, c2⟩ V8
      go_wp2_with (at_builtin; refine held ?_)
      refine Held.go (wp_app (m := 1) (news := (EnS.mk x.e A2 x.n c2).vals) eltEn (H8.out.2.2.2.ext X9).own RN (vals_one _) (by omega) (.inr ⟨by omega, by omega⟩) (by have := (H8.out.2.2.1.trans X9).size; exact this) _ _ rfl rfl rfl rfl ?_)
      intro A3 c3 w3 o3 g3 _ _
      have xm : EnS.Lies ⟨x.e, A2, x.n, c2⟩ (V8.alloc (.cells #[.int .i64 x.e.cl, .int .i64 x.e.nu, .int .i64 x.e.kd, .int .i64 x.e.id, .int .i64 x.e.sk, .int .i64 x.e.sq, .int .i64 x.e.st, .int .i64 x.e.pol, .slice A2 x.n c2, .int .i64 x.e.at_] 29)) := ⟨H8.out.2.1.rd.ext X9, hle, hcc⟩
      have o4 := (H8.out.2.2.2.ext X9).snoc g3 xm (H8.out.2.1.ext X9) o3
      have x4 : Ext w w3 := g3.ext (H8.out.2.2.1.trans X9) (fun g hg => (H8.out.2.2.2.own).base_le g hg)
      have H9 := Lib.hid (And.intro o4 x4)
      clear o3 g3 o4 x4 xm RN X9 e0 e1 e2 e3 e4 e5 e6 e7 e8 e9
      go_wp2_with fail
      go_roundw
      case rel =>
        refine ⟨k + 1, A3, c3, by go_num, rfl, by omega, Lib.hid ⟨tt ++ [⟨x.e, A2, x.n, c2⟩], ?_, H9.out.1, H9.out.2⟩⟩
        rw [take_succ' (ents_at HX.out), ← HO.out.1]
        simp [ents]
      case measure => simp [intOf]; omega
    · obtain rfl : n = k := by omega
      go_wp2_with fail
      go_returns
      refine ⟨B, d, tt, rfl, ?_, HO.out.2.1, HO.out.2.2⟩
      rw [HO.out.1]
      exact List.take_of_length_le (by rw [ents_len]; omega)
set_option maxHeartbeats 3200000 in
theorem copied_any (A : Option Addr) (n c : Nat) (ss : List EnS) (w : World) (hs : Led w A n ss) (hn : n ≤ 1500000000000) : Calls Tryd.prog 45 #[.slice A n c] w fun e w' => ∃ B d tt, e = .returned (.slice B n d) ∧ ents tt = ents ss ∧ OLed w' w.heap.size B n d tt ∧ Ext w w' := by
  have hsl := hs.len
  have HR := Lib.hid hs
  clear hs
  have o0 : OLed w w.heap.size none 0 0 [] := OLed.nil_
  have x0 := Ext.refl w
  have H0 := Lib.hid (And.intro o0 x0)
  clear o0 x0
  go_enter Tryd.func45, Tryd.ntmps45
  go_upto_region 3 with (fail)
  go_loopw [3, 8] (fun v3 v9 wr => ∃ (k : Nat) (B : Option Addr) (d : Nat), v9 = .int .i64 (k : Int) ∧ v3 = .slice B k d ∧ k ≤ n ∧ Hid (∃ tt, ents tt = (ents ss).take k ∧ OLed wr w.heap.size B k d tt ∧ Ext w wr)) (fun _ v9 _ => n - (intOf v9).toNat)
  case atStart => exact ⟨0, _, 0, rfl, rfl, by omega, [], rfl, H0.out.1, H0.out.2⟩
  case round =>
    obtain ⟨k, B, d, rfl, rfl, hk, HI⟩ := hrel
    obtain ⟨tt, ht, ho, hx⟩ := HI.out
    have HO := Lib.hid (And.intro ht (And.intro ho hx))
    clear ht ho hx HI
    by_cases hlt : k < n
    · obtain ⟨x, hx⟩ : ∃ x, ss[k]? = some x := ⟨ss[k]'(by omega), List.getElem?_eq_getElem _⟩
      obtain ⟨k10, hk10⟩ : ∃ k10, k * 10 = k10 := ⟨_, rfl⟩
      obtain ⟨ad, rfl, y0, y1, y2, y3, y4, y5, y6, y7, y8, y9⟩ := (HR.out.ext HO.out.2.2).entry hx hk10
      have k0 : (0 : Int) ≤ k := by omega
      have k1 : (k : Int) < n := by omega
      have HX := Lib.hid hx
      have X5 := (Ext.refl wr).alloc (.cells #[.int .i64 x.e.cl, .int .i64 x.e.nu, .int .i64 x.e.kd, .int .i64 x.e.id, .int .i64 x.e.sk, .int .i64 x.e.sq, .int .i64 x.e.st, .int .i64 x.e.pol, .slice x.A x.n x.c, .int .i64 x.e.at_] 29)
      have H5 := Lib.hid (And.intro (heap_alloc_new wr (.cells #[.int .i64 x.e.cl, .int .i64 x.e.nu, .int .i64 x.e.kd, .int .i64 x.e.id, .int .i64 x.e.sk, .int .i64 x.e.sq, .int .i64 x.e.st, .int .i64 x.e.pol, .slice x.A x.n x.c, .int .i64 x.e.at_] 29)) (And.intro X5 (And.intro (HO.out.2.2.trans X5) HO.out.2.2.size)))
      have HL := Lib.hid ((HR.out.all x (List.mem_of_getElem? hx)).ext (HO.out.2.2.trans X5))
      have HOW := Lib.hid (HO.out.2.1.ext X5)
      clear hx X5
      go_upto_region 5 with (fail)
      generalize wr.alloc (.cells #[.int .i64 x.e.cl, .int .i64 x.e.nu, .int .i64 x.e.kd, .int .i64 x.e.id, .int .i64 x.e.sk, .int .i64 x.e.sq, .int .i64 x.e.st, .int .i64 x.e.pol, .slice x.A x.n x.c, .int .i64 x.e.at_] 29) = V5 at *
      generalize htbe : wr.heap.size = tb at *
      have HTB := Lib.hid htbe
      clear htbe
      clear y0 y1 y2 y3 y4 y5 y6 y7 y8 y9
      have c8 : V5.cell? ⟨tb, 8, none⟩ = some (.slice x.A x.n x.c) := block_cell H5.out.1 8
      have hle := HL.out.le
      have hcap := HL.out.cap
      have CC := Lib.hid (clonet_any x V5 HL.out)
      go_wp2_with (go_at_call 76; refine held ?_)
      refine Held.go (CC.out.mono ?_)
      rintro e w2 ⟨A2, c2, rfl, o2, x2⟩
      have b2 := (x2.block tb (block_lt H5.out.1)).trans H5.out.1
      have f8 : w2.frozen? ⟨tb, 8, none⟩ = false := block_fz b2 8
      have d8 : w2.cell? ⟨tb, 8, none⟩ = some (.slice x.A x.n x.c) := block_cell b2 8
      have hcc := o2.cap_le
      have htb : tb < V5.heap.size := block_lt H5.out.1
      have F8 := Fr.store w2 ⟨tb, 8, none⟩ (.slice A2 x.n c2)
      have b8 : (w2.setCell ⟨tb, 8, none⟩ (.slice A2 x.n c2)).heap[tb]? = some (.cells #[.int .i64 x.e.cl, .int .i64 x.e.nu, .int .i64 x.e.kd, .int .i64 x.e.id, .int .i64 x.e.sk, .int .i64 x.e.sq, .int .i64 x.e.st, .int .i64 x.e.pol, .slice A2 x.n c2, .int .i64 x.e.at_] 29 (0, 0)) := heap_setCell_same w2 tb 8 _ _ _ b2
      have o8 : Own (w2.setCell ⟨tb, 8, none⟩ (.slice A2 x.n c2)) w.heap.size 47 4 A2 x.n c2 (trows x.e.ts).flatten := (F8.own o2 (fun a ha e => by
        have h1 := o2.base_le a.block (by rw [ha]; rfl)
        have h2 : a.block = tb := e
        omega)).base_mono (by have := H5.out.2.2.1.size; omega)
      have x8 : Ext w (w2.setCell ⟨tb, 8, none⟩ (.slice A2 x.n c2)) := Fr.ext (H5.out.2.2.1.trans x2) F8 (fun i e => by have := H5.out.2.2.2; have e : i = tb := e; omega)
      have w8 : OLed (w2.setCell ⟨tb, 8, none⟩ (.slice A2 x.n c2)) w.heap.size B k d tt := (HO.out.2.1).ext (Fr.ext (H5.out.2.1.trans x2) F8 (fun i e => by have e : i = tb := e; have := HTB.out; omega))
      have H8 := Lib.hid (And.intro b8 (And.intro o8 (And.intro x8 w8)))
      clear b8 o8 x8 w8 F8 o2 x2 c8 b2 CC
      go_upto_region 6 with (fail)
      clear f8 d8
      generalize w2.setCell ⟨tb, 8, none⟩ (.slice A2 x.n c2) = V8 at *
      have e0 : V8.cell? ⟨tb, 0, none⟩ = some (.int .i64 x.e.cl) := block_cell (H8.out.1) 0
      have e1 : V8.cell? ⟨tb, 1, none⟩ = some (.int .i64 x.e.nu) := block_cell (H8.out.1) 1
      have e2 : V8.cell? ⟨tb, 2, none⟩ = some (.int .i64 x.e.kd) := block_cell (H8.out.1) 2
      have e3 : V8.cell? ⟨tb, 3, none⟩ = some (.int .i64 x.e.id) := block_cell (H8.out.1) 3
      have e4 : V8.cell? ⟨tb, 4, none⟩ = some (.int .i64 x.e.sk) := block_cell (H8.out.1) 4
      have e5 : V8.cell? ⟨tb, 5, none⟩ = some (.int .i64 x.e.sq) := block_cell (H8.out.1) 5
      have e6 : V8.cell? ⟨tb, 6, none⟩ = some (.int .i64 x.e.st) := block_cell (H8.out.1) 6
      have e7 : V8.cell? ⟨tb, 7, none⟩ = some (.int .i64 x.e.pol) := block_cell (H8.out.1) 7
      have e8 : V8.cell? ⟨tb, 8, none⟩ = some (.slice A2 x.n c2) := block_cell (H8.out.1) 8
      have e9 : V8.cell? ⟨tb, 9, none⟩ = some (.int .i64 x.e.at_) := block_cell (H8.out.1) 9
      have X9 := (Ext.refl V8).alloc (.cells #[.int .i64 x.e.cl, .int .i64 x.e.nu, .int .i64 x.e.kd, .int .i64 x.e.id, .int .i64 x.e.sk, .int .i64 x.e.sq, .int .i64 x.e.st, .int .i64 x.e.pol, .slice A2 x.n c2, .int .i64 x.e.at_] 29)
      have RN := rd_entry ⟨x.e, A2, x.n, c2⟩ V8
      go_wp2_with (at_builtin; refine held ?_)
      refine Held.go (wp_app (m := 1) (news := (EnS.mk x.e A2 x.n c2).vals) eltEn (H8.out.2.2.2.ext X9).own RN (vals_one _) (by omega) (.inr ⟨by omega, by omega⟩) (by have := (H8.out.2.2.1.trans X9).size; exact this) _ _ rfl rfl rfl rfl ?_)
      intro A3 c3 w3 o3 g3 _ _
      have xm : EnS.Lies ⟨x.e, A2, x.n, c2⟩ (V8.alloc (.cells #[.int .i64 x.e.cl, .int .i64 x.e.nu, .int .i64 x.e.kd, .int .i64 x.e.id, .int .i64 x.e.sk, .int .i64 x.e.sq, .int .i64 x.e.st, .int .i64 x.e.pol, .slice A2 x.n c2, .int .i64 x.e.at_] 29)) := ⟨H8.out.2.1.rd.ext X9, hle, hcc⟩
      have o4 := (H8.out.2.2.2.ext X9).snoc g3 xm (H8.out.2.1.ext X9) o3
      have x4 : Ext w w3 := g3.ext (H8.out.2.2.1.trans X9) (fun g hg => (H8.out.2.2.2.own).base_le g hg)
      have H9 := Lib.hid (And.intro o4 x4)
      clear o3 g3 o4 x4 xm RN X9 e0 e1 e2 e3 e4 e5 e6 e7 e8 e9
      go_wp2_with fail
      go_roundw
      case rel =>
        refine ⟨k + 1, A3, c3, by go_num, rfl, by omega, Lib.hid ⟨tt ++ [⟨x.e, A2, x.n, c2⟩], ?_, H9.out.1, H9.out.2⟩⟩
        rw [take_succ' (ents_at HX.out), ← HO.out.1]
        simp [ents]
      case measure => simp [intOf]; omega
    · obtain rfl : n = k := by omega
      go_wp2_with fail
      go_returns
      refine ⟨B, d, tt, rfl, ?_, HO.out.2.1, HO.out.2.2⟩
      rw [HO.out.1]
      exact List.take_of_length_le (by rw [ents_len]; omega)
end Go.Proofs.YteflnnlihblpgaaDoor
