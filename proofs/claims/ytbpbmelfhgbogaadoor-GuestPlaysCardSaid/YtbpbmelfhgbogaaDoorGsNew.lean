/-
  Package guest: New, walked.
-/
import Derived.Test.YtbpbmelfhgbogaaDoorGsRel2
import Derived.Laws.EntriesVeiled
namespace Go.Proofs.YtbpbmelfhgbogaaDoor
set_option maxRecDepth 100000
open Go.RowKit
set_option linter.unusedVariables false
theorem eltTask : Elt Tryd.prog 62 66 6 48 (.agg #[.int .i64 0, .int .i64 0, .int .i64 0, .int .i64 0, .int .i64 0, .bool false]) := ⟨Tryd.underlying62, by kernel_rfl, rfl, by omega⟩
/-- Tasks without releases. -/
def fresh (ts : List TaskV) : List TkV := ts.map fun t => ⟨t, 0, false⟩
theorem fresh_tsk (ts : List TaskV) : tsk (fresh ts) = ts := by
  unfold fresh tsk
  rw [List.map_map]
  exact List.map_id _
theorem fresh_succ {ts : List TaskV} {k : Nat} {t : TaskV} (h : ts[k]? = some t) : fresh (ts.take (k + 1)) = fresh (ts.take k) ++ [⟨t, 0, false⟩] := by
  rw [take_succ' h]
  simp [fresh]
section
variable {w w' : World} {g tn tc : Nat} {TA : Option Addr} {p : Int} {ks : List TkV}
theorem new_push {V wq w3 : World} {c3 : Nat} {A3 : Option Addr} {t : TaskV} (h : GS V g TA tn tc none 0 0 p ks []) (hl : t.legal) (hn : tn < 8) (xq : Ext V wq)
    (o3 : Own w3 (g + 1) 66 6 A3 (tn + 1) c3 ((krows ks).flatten ++ (TkV.mk t 0 false).cells)) (g3 : Grows wq w3 TA) :
    GS (w3.setCell ⟨g, 0, none⟩ (.slice A3 (tn + 1) c3)) g A3 (tn + 1) c3 none 0 0 p (ks ++ [⟨t, 0, false⟩]) [] ∧ Fr V (w3.setCell ⟨g, 0, none⟩ (.slice A3 (tn + 1) c3)) (fun b => g ≤ b) := by
  have f3 : Fr V w3 (fun b => TA.map (·.block) = some b) := (Fr.of_ext xq _).trans (Fr.grows g3) (fun _ _ h => h)
  have hgA : ¬ TA.map (·.block) = some g := fun e => by
    obtain ⟨a, ha, hab⟩ := Option.map_eq_some_iff.1 e
    exact h.tg a ha hab
  have bg3 := (f3.block g h.lt hgA).trans h.blk
  have fs := Fr.store w3 ⟨g, 0, none⟩ (.slice A3 (tn + 1) c3)
  have o4 : Own w3 (g + 1) 66 6 A3 (tn + 1) c3 (krows (ks ++ [⟨t, 0, false⟩])).flatten := by
    have e : (krows (ks ++ [⟨t, 0, false⟩])).flatten = (krows ks).flatten ++ (TkV.mk t 0 false).cells := by simp [krows]
    rw [e]
    exact o3
  refine ⟨⟨heap_setCell_same w3 g 0 _ _ _ bg3, fs.own o4 (fun a ha e => ?_), Own.nil_, (fun a b _ hb => by cases hb), ⟨by simp, fun x hx => ?_, (fun j hj => by simp at hj)⟩, h.pol, by omega, fun x hx => ?_⟩, (f3.mono (fun i _ e => ?_)).trans fs (fun i _ e => ?_)⟩
  · have := o3.base_le a.block (by rw [ha]; rfl)
    have e : a.block = g := e
    omega
  · rw [tsk, List.map_append] at hx
    rcases List.mem_append.1 hx with hx | hx
    · exact h.gi.leg x hx
    · simp at hx; subst hx; exact hl
  · rcases List.mem_append.1 hx with hx | hx
    · exact h.low x hx
    · simp at hx; subst hx; exact ⟨by show (0 : Int) ≤ 0; omega, by show (0 : Int) ≤ 1099511627776; omega⟩
  · obtain ⟨a, ha, rfl⟩ := Option.map_eq_some_iff.1 e
    have := h.tow.base_le a.block (by rw [ha]; rfl)
    omega
  · have e : i = g := e
    omega
end
set_option maxHeartbeats 1600000 in
theorem new_no (p : Int) (A : Option Addr) (n c : Nat) (ts : List TaskV) (w : World) (hr : Rd w 4 A n (trows ts).flatten) (hn : n ≤ 4611686018427387904) {q : Addr} (hS : Sen w 3 q) (h : ¬ LG p ts) :
    Calls Tryd.prog 9 #[.int .i64 p, .slice A n c] w fun e w' => e = .returned (.tuple #[.pointer none, errE q]) ∧ Ext w w' := by
  have C := Lib.hid (cguest_any p A n c ts w hr hn hS (errE q) (Lib.hid ⟨fun h1 => absurd h1 h, fun _ => rfl⟩))
  clear hr hS h
  go_enter Tryd.func9, Tryd.ntmps9
  go_wp2_with fail
  refine C.out.mono ?_
  rintro e w1 ⟨rfl, x1⟩
  have X1 := Lib.hid x1
  clear x1 C
  go_wp2_with fail
  go_returns
  exact ⟨rfl, X1.out⟩
set_option maxHeartbeats 3200000 in
theorem new_ok (p : Int) (A : Option Addr) (n c : Nat) (ts : List TaskV) (w : World) (hr : Rd w 4 A n (trows ts).flatten) {q : Addr} (hS : Sen w 3 q) (h : LG p ts) :
    Calls Tryd.prog 9 #[.int .i64 p, .slice A n c] w fun e w' => ∃ g TA tc, e = .returned (.tuple #[.pointer (some ⟨g, 0, none⟩), .nilIface]) ∧ w.heap.size ≤ g ∧ GS w' g TA n tc none 0 0 p (fresh ts) [] ∧ Ext w w' := by
  have hl := hr.len_t
  have hn8 : n ≤ 8 := by have := h.2.2.1; omega
  have C := Lib.hid (cguest_any p A n c ts w hr (by omega) hS .nilIface (Lib.hid ⟨fun _ => rfl, fun h1 => absurd h h1⟩))
  have HO := Lib.hid (And.intro hr hl)
  have HL := Lib.hid h.2.2.2
  have HP := Lib.hid h.1
  have hpp := h.1
  clear hr hS h hl
  rcases hpp with rfl | rfl
  · go_enter Tryd.func9, Tryd.ntmps9
    go_wp2_with fail
    refine C.out.mono ?_
    rintro e w1 ⟨rfl, x1⟩
    have hg0 := x1.size
    have X1 := Lib.hid x1
    clear x1 C
    go_wp2_with fail
    have hb0 : (w1.alloc (.cells #[.slice none 0 0, .slice none 0 0, .func (.func 21) #[] #[]] 64)).heap[w1.heap.size]? = some (.cells #[.slice none 0 0, .slice none 0 0, cmpF 1] 64 (0, 0)) := by rw [cmpF_one]; exact heap_alloc_new w1 (.cells #[.slice none 0 0, .slice none 0 0, .func (.func 21) #[] #[]] 64)
    have XG := X1.out.trans ((Ext.refl w1).alloc (.cells #[.slice none 0 0, .slice none 0 0, .func (.func 21) #[] #[]] 64))
    generalize w1.alloc (.cells #[.slice none 0 0, .slice none 0 0, .func (.func 21) #[] #[]] 64) = W0 at *
    have G0 : GS W0 w1.heap.size none 0 0 none 0 0 1 (fresh (ts.take 0)) [] := ⟨hb0, Own.nil_, Own.nil_, (fun a b ha => by cases ha), ⟨by simp, (fun t ht => by simp [fresh, tsk] at ht), (fun j hj => by simp at hj)⟩, .inl rfl, by omega, (fun x hx => by simp [fresh] at hx)⟩
    have HG0 := Lib.hid (And.intro G0 XG)
    clear G0 XG hb0
    generalize w1.heap.size = g at *
    go_loopw [9, 25] (fun _ v25 wr => ∃ (k : Nat) (TA : Option Addr) (tc : Nat), v25 = .int .i64 (k : Int) ∧ k ≤ n ∧ Hid (GS wr g TA k tc none 0 0 1 (fresh (ts.take k)) [] ∧ Ext w wr)) (fun _ v25 _ => n - (intOf v25).toNat)
    case atStart => exact ⟨0, none, 0, rfl, by omega, HG0.out⟩
    case round =>
      obtain ⟨k, TA, tc, rfl, hk, HI⟩ := hrel
      by_cases hlt : k < n
      · obtain ⟨t, ht⟩ : ∃ t, ts[k]? = some t := ⟨ts[k]'(by have := HO.out.2; omega), List.getElem?_eq_getElem _⟩
        obtain ⟨k4, hk4⟩ : ∃ k4, k * 4 = k4 := ⟨_, rfl⟩
        obtain ⟨ad, rfl, _, _⟩ := HO.out.1.2 (show 0 < n by omega)
        have hrr := HO.out.1.ext HI.out.2
        have k0 := hrr.rowAt (trows_even ts) (trows_at ht) hk4 (i := 0) rfl
        have k1 := hrr.rowAt (trows_even ts) (trows_at ht) hk4 (i := 1) rfl
        have k2 := hrr.rowAt (trows_even ts) (trows_at ht) hk4 (i := 2) rfl
        have k3 := hrr.rowAt (trows_even ts) (trows_at ht) hk4 (i := 3) rfl
        rw [Nat.add_zero] at k0
        rw [← add_add', add_lit' _ (by omega)] at k1 k2 k3
        have z0 : (0 : Int) ≤ k := by omega
        have z1 : (k : Int) < n := by omega
        have HT := Lib.hid ht
        have XU := (Ext.refl wr).alloc (.cells #[.int .i64 t.C, .int .i64 t.P, .int .i64 t.D, .int .i64 t.S] 41)
        have hbU := heap_alloc_new wr (.cells #[.int .i64 t.C, .int .i64 t.P, .int .i64 t.D, .int .i64 t.S] 41)
        have HU := Lib.hid (And.intro (HI.out.1.ex XU) (And.intro (HI.out.2.trans XU) hbU))
        clear hrr ht XU hbU
        go_upto_region 10 with (fail)
        clear k0 k1 k2 k3 hk4
        generalize wr.alloc (.cells #[.int .i64 t.C, .int .i64 t.P, .int .i64 t.D, .int .i64 t.S] 41) = U at *
        generalize wr.heap.size = bx at *
        have c0 := HU.out.1.c0
        have q0 : U.cell? ⟨bx, 0, none⟩ = some (.int .i64 t.C) := block_cell HU.out.2.2 0
        have q1 : U.cell? ⟨bx, 1, none⟩ = some (.int .i64 t.P) := block_cell HU.out.2.2 1
        have q2 : U.cell? ⟨bx, 2, none⟩ = some (.int .i64 t.D) := block_cell HU.out.2.2 2
        have q3 : U.cell? ⟨bx, 3, none⟩ = some (.int .i64 t.S) := block_cell HU.out.2.2 3
        have hgU := HU.out.1.lt
        have XA : Ext U (U.alloc (.cells #[.int .i64 t.C, .int .i64 t.P, .int .i64 t.D, .int .i64 t.S, .int .i64 0, .bool false] 66)) := (Ext.refl U).alloc _
        have RN : Rd (U.alloc (.cells #[.int .i64 t.C, .int .i64 t.P, .int .i64 t.D, .int .i64 t.S, .int .i64 0, .bool false] 66)) 6 (some ⟨U.heap.size, 0, none⟩) 1 (TkV.mk t 0 false).cells :=
          ⟨rfl, fun _ => ⟨_, rfl, by rw [World.size_alloc]; exact Nat.lt_succ_self _, World.news_of_block (heap_alloc_new U _)⟩⟩
        have cA := (XA.cell (p := ⟨g, 0, none⟩) hgU).trans c0
        have hnz : ∀ u ∈ (TkV.mk t 0 false).cells, u.oneCell' = true := fun u hu => by
          simp only [TkV.cells, List.mem_cons, List.not_mem_nil, or_false] at hu
          rcases hu with rfl | rfl | rfl | rfl | rfl | rfl <;> rfl
        have OX := Lib.hid (HU.out.1.tow.ext XA)
        have XD := XA.drew
        have hzq : g + 1 ≤ (U.alloc (.cells #[.int .i64 t.C, .int .i64 t.P, .int .i64 t.D, .int .i64 t.S, .int .i64 0, .bool false] 66)).drew.heap.size := by simp; omega
        have HBV := Lib.hid HU.out.1.blk
        have HJG := Lib.hid HU.out.1.tg
        have U1 := Lib.hid (show k + 1 ≤ 9223372036854775807 ∧ ∀ c, (k + 1 ≤ c ∨ (k + 1) * 48 ≤ 225000000000000 ∧ 48 ≤ 100000) from ⟨by omega, fun _ => .inr ⟨by omega, by omega⟩⟩)
        go_region_law
          (first
            | (refine step_app (w := (U.alloc (.cells #[.int .i64 t.C, .int .i64 t.P, .int .i64 t.D, .int .i64 t.S, .int .i64 0, .bool false] 66)).drew) (m := 1) (news := (TkV.mk t 0 false).cells) eltTask OX.out RN hnz U1.out.1 (U1.out.2 _) hzq _ _ rfl rfl rfl rfl ?_
               intro A3 c3 w3 o3 g3 hA3 _
               have b3 := (g3.block g hzq (fun e => by
                 obtain ⟨a, ha, hab⟩ := Option.map_eq_some_iff.1 e.symm
                 exact HJG.out a ha hab)).trans ((XD.block g hgU).trans HBV.out)
               have s1 : w3.cell? ⟨g, 0, none⟩ = some (.slice TA k tc) := block_cell b3 0
               have s2 := block_fz b3 0))
        all_goals
          have P := new_push HU.out.1 (HL.out t (List.mem_of_getElem? HT.out)) (by omega) XD o3 g3
          rw [← fresh_succ HT.out] at P
          have HQ := Lib.hid (And.intro P.1 (Fr.ext HU.out.2.1 P.2 (fun i hi => by omega)))
          clear o3 g3 hA3 b3 s1 s2 P c0 cA q0 q1 q2 q3
          go_wp2_with fail
          go_roundw
          case rel => exact ⟨k + 1, _, _, by go_num, by omega, HQ.out⟩
          case measure => simp [intOf]; omega
      · obtain rfl : n = k := by omega
        go_wp2_with fail
        go_returns
        refine ⟨g, TA, tc, rfl, by omega, ?_, HI.out.2⟩
        have h1 := HI.out.1
        rw [List.take_of_length_le (by have := HO.out.2; omega)] at h1
        exact h1
  · go_enter Tryd.func9, Tryd.ntmps9
    go_wp2_with fail
    refine C.out.mono ?_
    rintro e w1 ⟨rfl, x1⟩
    have hg0 := x1.size
    have X1 := Lib.hid x1
    clear x1 C
    go_wp2_with fail
    have hb0 : (w1.alloc (.cells #[.slice none 0 0, .slice none 0 0, .func (.func 22) #[] #[]] 64)).heap[w1.heap.size]? = some (.cells #[.slice none 0 0, .slice none 0 0, cmpF 2] 64 (0, 0)) := by rw [cmpF_two]; exact heap_alloc_new w1 (.cells #[.slice none 0 0, .slice none 0 0, .func (.func 22) #[] #[]] 64)
    have XG := X1.out.trans ((Ext.refl w1).alloc (.cells #[.slice none 0 0, .slice none 0 0, .func (.func 22) #[] #[]] 64))
    generalize w1.alloc (.cells #[.slice none 0 0, .slice none 0 0, .func (.func 22) #[] #[]] 64) = W0 at *
    have G0 : GS W0 w1.heap.size none 0 0 none 0 0 2 (fresh (ts.take 0)) [] := ⟨hb0, Own.nil_, Own.nil_, (fun a b ha => by cases ha), ⟨by simp, (fun t ht => by simp [fresh, tsk] at ht), (fun j hj => by simp at hj)⟩, .inr rfl, by omega, (fun x hx => by simp [fresh] at hx)⟩
    have HG0 := Lib.hid (And.intro G0 XG)
    clear G0 XG hb0
    generalize w1.heap.size = g at *
    go_loopw [9, 25] (fun _ v25 wr => ∃ (k : Nat) (TA : Option Addr) (tc : Nat), v25 = .int .i64 (k : Int) ∧ k ≤ n ∧ Hid (GS wr g TA k tc none 0 0 2 (fresh (ts.take k)) [] ∧ Ext w wr)) (fun _ v25 _ => n - (intOf v25).toNat)
    case atStart => exact ⟨0, none, 0, rfl, by omega, HG0.out⟩
    case round =>
      obtain ⟨k, TA, tc, rfl, hk, HI⟩ := hrel
      by_cases hlt : k < n
      · obtain ⟨t, ht⟩ : ∃ t, ts[k]? = some t := ⟨ts[k]'(by have := HO.out.2; omega), List.getElem?_eq_getElem _⟩
        obtain ⟨k4, hk4⟩ : ∃ k4, k * 4 = k4 := ⟨_, rfl⟩
        obtain ⟨ad, rfl, _, _⟩ := HO.out.1.2 (show 0 < n by omega)
        have hrr := HO.out.1.ext HI.out.2
        have k0 := hrr.rowAt (trows_even ts) (trows_at ht) hk4 (i := 0) rfl
        have k1 := hrr.rowAt (trows_even ts) (trows_at ht) hk4 (i := 1) rfl
        have k2 := hrr.rowAt (trows_even ts) (trows_at ht) hk4 (i := 2) rfl
        have k3 := hrr.rowAt (trows_even ts) (trows_at ht) hk4 (i := 3) rfl
        rw [Nat.add_zero] at k0
        rw [← add_add', add_lit' _ (by omega)] at k1 k2 k3
        have z0 : (0 : Int) ≤ k := by omega
        have z1 : (k : Int) < n := by omega
        have HT := Lib.hid ht
        have XU := (Ext.refl wr).alloc (.cells #[.int .i64 t.C, .int .i64 t.P, .int .i64 t.D, .int .i64 t.S] 41)
        have hbU := heap_alloc_new wr (.cells #[.int .i64 t.C, .int .i64 t.P, .int .i64 t.D, .int .i64 t.S] 41)
        have HU := Lib.hid (And.intro (HI.out.1.ex XU) (And.intro (HI.out.2.trans XU) hbU))
        clear hrr ht XU hbU
        go_upto_region 10 with (fail)
        clear k0 k1 k2 k3 hk4
        generalize wr.alloc (.cells #[.int .i64 t.C, .int .i64 t.P, .int .i64 t.D, .int .i64 t.S] 41) = U at *
        generalize wr.heap.size = bx at *
        have c0 := HU.out.1.c0
        have q0 : U.cell? ⟨bx, 0, none⟩ = some (.int .i64 t.C) := block_cell HU.out.2.2 0
        have q1 : U.cell? ⟨bx, 1, none⟩ = some (.int .i64 t.P) := block_cell HU.out.2.2 1
        have q2 : U.cell? ⟨bx, 2, none⟩ = some (.int .i64 t.D) := block_cell HU.out.2.2 2
        have q3 : U.cell? ⟨bx, 3, none⟩ = some (.int .i64 t.S) := block_cell HU.out.2.2 3
        have hgU := HU.out.1.lt
        have XA : Ext U (U.alloc (.cells #[.int .i64 t.C, .int .i64 t.P, .int .i64 t.D, .int .i64 t.S, .int .i64 0, .bool false] 66)) := (Ext.refl U).alloc _
        have RN : Rd (U.alloc (.cells #[.int .i64 t.C, .int .i64 t.P, .int .i64 t.D, .int .i64 t.S, .int .i64 0, .bool false] 66)) 6 (some ⟨U.heap.size, 0, none⟩) 1 (TkV.mk t 0 false).cells :=
          ⟨rfl, fun _ => ⟨_, rfl, by rw [World.size_alloc]; exact Nat.lt_succ_self _, World.news_of_block (heap_alloc_new U _)⟩⟩
        have cA := (XA.cell (p := ⟨g, 0, none⟩) hgU).trans c0
        have hnz : ∀ u ∈ (TkV.mk t 0 false).cells, u.oneCell' = true := fun u hu => by
          simp only [TkV.cells, List.mem_cons, List.not_mem_nil, or_false] at hu
          rcases hu with rfl | rfl | rfl | rfl | rfl | rfl <;> rfl
        have OX := Lib.hid (HU.out.1.tow.ext XA)
        have XD := XA.drew
        have hzq : g + 1 ≤ (U.alloc (.cells #[.int .i64 t.C, .int .i64 t.P, .int .i64 t.D, .int .i64 t.S, .int .i64 0, .bool false] 66)).drew.heap.size := by simp; omega
        have HBV := Lib.hid HU.out.1.blk
        have HJG := Lib.hid HU.out.1.tg
        have U1 := Lib.hid (show k + 1 ≤ 9223372036854775807 ∧ ∀ c, (k + 1 ≤ c ∨ (k + 1) * 48 ≤ 225000000000000 ∧ 48 ≤ 100000) from ⟨by omega, fun _ => .inr ⟨by omega, by omega⟩⟩)
        go_region_law
          (first
            | (refine step_app (w := (U.alloc (.cells #[.int .i64 t.C, .int .i64 t.P, .int .i64 t.D, .int .i64 t.S, .int .i64 0, .bool false] 66)).drew) (m := 1) (news := (TkV.mk t 0 false).cells) eltTask OX.out RN hnz U1.out.1 (U1.out.2 _) hzq _ _ rfl rfl rfl rfl ?_
               intro A3 c3 w3 o3 g3 hA3 _
               have b3 := (g3.block g hzq (fun e => by
                 obtain ⟨a, ha, hab⟩ := Option.map_eq_some_iff.1 e.symm
                 exact HJG.out a ha hab)).trans ((XD.block g hgU).trans HBV.out)
               have s1 : w3.cell? ⟨g, 0, none⟩ = some (.slice TA k tc) := block_cell b3 0
               have s2 := block_fz b3 0))
        all_goals
          have P := new_push HU.out.1 (HL.out t (List.mem_of_getElem? HT.out)) (by omega) XD o3 g3
          rw [← fresh_succ HT.out] at P
          have HQ := Lib.hid (And.intro P.1 (Fr.ext HU.out.2.1 P.2 (fun i hi => by omega)))
          clear o3 g3 hA3 b3 s1 s2 P c0 cA q0 q1 q2 q3
          go_wp2_with fail
          go_roundw
          case rel => exact ⟨k + 1, _, _, by go_num, by omega, HQ.out⟩
          case measure => simp [intOf]; omega
      · obtain rfl : n = k := by omega
        go_wp2_with fail
        go_returns
        refine ⟨g, TA, tc, rfl, by omega, ?_, HI.out.2⟩
        have h1 := HI.out.1
        rw [List.take_of_length_le (by have := HO.out.2; omega)] at h1
        exact h1
end Go.Proofs.YtbpbmelfhgbogaaDoor
