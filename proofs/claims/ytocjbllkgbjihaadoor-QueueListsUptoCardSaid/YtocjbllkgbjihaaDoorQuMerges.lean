/-
  QueueMerges, walked.
-/
import Derived.Test.YtocjbllkgbjihaaDoorQuMerge
import Derived.Test.YtocjbllkgbjihaaDoorQuMergesP
import Derived.Test.YtocjbllkgbjihaaDoorQuLeast2
import Derived.Test.YtocjbllkgbjihaaDoorQuAlive
import Derived.Test.YtocjbllkgbjihaaDoorSameInts
namespace Go.Proofs.YtocjbllkgbjihaaDoor
set_option maxRecDepth 100000
open Go.RowKit Go.Maps
set_option linter.unusedVariables false
theorem eltSl : Elt Tryd.prog 40 22 1 24 (.slice none 0 0) := ⟨Tryd.underlying40, by kernel_rfl, rfl, by omega⟩
theorem slcells_one (ss : List SlI) : ∀ u ∈ slcells ss, u.oneCell' = true := by
  intro u hu; simp [slcells] at hu; obtain ⟨s, _, rfl⟩ := hu; rfl
theorem slcells_snoc (ss : List SlI) (s : SlI) : slcells (ss ++ [s]) = slcells ss ++ [s.v] := by simp [slcells]
theorem leastL_cut (out : List Int) {q n : Nat} (h : q ≤ n) : ints (leastL out q) = (ints (leastL out n)).take q := by
  unfold leastL ints
  rw [← List.map_take, ← List.map_take, List.take_take, Nat.min_eq_left h]
/-- A row of slices of the call's own, each of its own. -/
structure SO (w : World) (base ob m d : Nat) (ss : List SlI) : Prop where
  own : Own w base 22 1 (some ⟨ob, 0, none⟩) m d (slcells ss)
  each : ∀ s ∈ ss, Rd w 1 s.A s.n (ints s.l) ∧ ∀ a, s.A = some a → a.block < w.heap.size ∧ a.block ≠ ob
section
variable {w w' : World}
theorem SO.fr {base ob m d : Nat} {ss : List SlI} (h : SO w base ob m d ss) {P : Nat → Prop} (hf : Fr w w' P) (h1 : ¬ P ob) (h2 : ∀ s ∈ ss, ∀ a, s.A = some a → ¬ P a.block) : SO w' base ob m d ss :=
  ⟨hf.own h.own (fun a ha e => by injection ha with ha; subst ha; exact h1 e), fun s hs => ⟨hf.rd (h.each s hs).1 (h2 s hs), fun a ha => ⟨Nat.lt_of_lt_of_le ((h.each s hs).2 a ha).1 hf.size, ((h.each s hs).2 a ha).2⟩⟩⟩
theorem SO.ext {base ob m d : Nat} {ss : List SlI} (h : SO w base ob m d ss) (hx : Ext w w') : SO w' base ob m d ss := h.fr (Fr.of_ext hx (fun _ => False)) (fun h => h) (fun _ _ _ _ h => h)
theorem SO.ls {base ob m d : Nat} {ss : List SlI} (h : SO w base ob m d ss) : LS w (some ⟨ob, 0, none⟩) m ss := ⟨h.own.rd, fun s hs => (h.each s hs).1⟩
/-- One more slice. -/
theorem SO.snoc {base ob m d m2 d2 : Nat} {ts : List SlI} {t : SlI} {B2 : Option Addr} (h : SO w base ob m d ts) (hg : Grows w w' (some ⟨ob, 0, none⟩)) (ho : Own w' base 22 1 B2 m2 d2 (slcells ts ++ slcells [t])) (hB : B2 = some ⟨ob, 0, none⟩ ∨ B2 = some ⟨w.heap.size, 0, none⟩) (ht : Rd w 1 t.A t.n (ints t.l)) (hb : ∀ a, t.A = some a → a.block < w.heap.size ∧ a.block ≠ ob) :
    ∃ ob', B2 = some ⟨ob', 0, none⟩ ∧ SO w' base ob' m2 d2 (ts ++ [t]) := by
  have hlt := h.own.lt
  have key : ∀ ob', B2 = some ⟨ob', 0, none⟩ → (ob' = ob ∨ ob' = w.heap.size) → SO w' base ob' m2 d2 (ts ++ [t]) := fun ob' e1 e2 => by
    rw [e1] at ho
    refine ⟨by rw [show slcells (ts ++ [t]) = slcells ts ++ slcells [t] by simp [slcells]]; exact ho, fun s hs => ?_⟩
    rcases List.mem_append.1 hs with hs | hs
    · have h1 := h.each s hs
      exact ⟨hg.rd h1.1 (fun b hb2 e => by injection e with e; exact (h1.2 b hb2).2 e.symm), fun a ha => ⟨Nat.lt_of_lt_of_le (h1.2 a ha).1 hg.size, by have := h1.2 a ha; omega⟩⟩
    · obtain rfl := List.mem_singleton.1 hs
      exact ⟨hg.rd ht (fun b hb2 e => by injection e with e; exact (hb b hb2).2 e.symm), fun a ha => ⟨Nat.lt_of_lt_of_le (hb a ha).1 hg.size, by have := hb a ha; omega⟩⟩
  rcases hB with e | e
  · exact ⟨_, e, key _ e (.inl rfl)⟩
  · exact ⟨_, e, key _ e (.inr rfl)⟩
set_option maxHeartbeats 6400000 in
theorem merges_any (A : Option Addr) (N C : Nat) (ss : List SlI) (K : Int) (w : World) (hls : LS w A N ss) (hN : N ≤ 1048576) (hT : ((lists ss).map List.length).sum ≤ 1048576) :
    Calls Tryd.prog 5 #[.slice A N C, .int .i64 K] w fun e w' => e = .returned (.bool true) ∧ Ext w w' := by
  have CA := Lib.hid (alive_any w)
  have HA := Lib.hid (And.intro hls (And.intro hN hT))
  have hlen := hls.len
  clear hls hT
  go_enter Tryd.func5, Tryd.ntmps5
  go_wp2_with (refine CA.out.mono ?_; rintro e w1 ⟨rfl, x1⟩)
  have o1 : Own (w1.alloc (.cells #[] 22)) w.heap.size 22 1 (some ⟨w1.heap.size, 0, none⟩) 0 0 [] := World.ownsRow_lit (size := 1) w1 #[] 0 x1.size (by simp [maxLen]) rfl
  have X1 := x1.trans ((Ext.refl w1).alloc (.cells #[] 22))
  have H1 : Hid (SO (w1.alloc (.cells #[] 22)) w.heap.size w1.heap.size 0 0 [] ∧ Ext w (w1.alloc (.cells #[] 22))) := Lib.hid ⟨⟨o1, fun s hs => (by cases hs)⟩, X1⟩
  clear CA x1 o1 X1
  generalize w1.alloc (.cells #[] 22) = V1 at *
  generalize w1.heap.size = ob1 at *
  go_loopw [5, 6, 26] (fun v5 v6 v26 wr => ∃ (k ob d tot : Nat), v26 = .int .i64 (k : Int) ∧ v6 = .int .i64 (tot : Int) ∧ v5 = .slice (some ⟨ob, 0, none⟩) k d ∧ k ≤ N ∧ tot ≤ 1048576 ∧ Hid (∃ ts, SO wr w.heap.size ob k d ts ∧ Ext w wr ∧ lists ts = ((lists ss).take k).map mo ∧ ((lists ts).map List.length).sum = tot)) (fun _ _ v26 _ => N - (intOf v26).toNat)
  case atStart => exact ⟨0, ob1, 0, 0, rfl, rfl, rfl, by omega, by omega, [], H1.out.1, H1.out.2, by simp, by simp⟩
  case round =>
    obtain ⟨k, ob, d, tot, rfl, rfl, rfl, hk, htot, HI⟩ := hrel
    by_cases hlt : k < N
    · obtain ⟨ts, h1, h2, h3, h4⟩ := HI.out
      obtain ⟨s, hs⟩ : ∃ s, ss[k]? = some s := ⟨ss[k]'(by omega), List.getElem?_eq_getElem _⟩
      obtain ⟨ad, rfl, _, z1⟩ := (HA.out.1.rd.ext h2).at_ hlt
      have y1 := z1 k _ (slcells_at hs)
      unfold SlI.v at y1
      have hsm := List.mem_of_getElem? hs
      have hsn := HA.out.1.nlen s hsm
      have hsr := HA.out.1.each s hsm
      have hsb : s.n ≤ 1048576 := by
        have h5 := HA.out.2.2
        have h6 : s.l.length ≤ ((lists ss).map List.length).sum := by
          have : s.l.length ∈ (lists ss).map List.length := List.mem_map_of_mem (List.mem_map_of_mem hsm)
          exact le_sum_mem this
        omega
      have o2 : Own (wr.alloc (.cells #[] 3)) w.heap.size 3 1 (some ⟨wr.heap.size, 0, none⟩) 0 0 [] := World.ownsRow_lit (size := 1) wr #[] 0 h2.size (by simp [maxLen]) rfl
      have X2 := (Ext.refl wr).alloc (.cells #[] 3)
      have hob : ob < wr.heap.size := h1.own.lt
      have H2 : Hid (SO (wr.alloc (.cells #[] 3)) w.heap.size ob k d ts ∧ Ext w (wr.alloc (.cells #[] 3)) ∧ lists ts = ((lists ss).take k).map mo ∧ ((lists ts).map List.length).sum = tot ∧ ob ≠ wr.heap.size ∧ ∀ t ∈ ts, ∀ a, t.A = some a → a.block ≠ wr.heap.size) := Lib.hid ⟨h1.ext X2, h2.trans X2, h3, h4, by omega, fun t ht a ha => by have := ((h1.each t ht).2 a ha).1; omega⟩
      have k1 : (k : Int) < N := by omega
      obtain ⟨sA, sn, sc, sl⟩ := s
      dsimp only at *
      have HS := Lib.hid (And.intro hs (And.intro hsn hsr))
      clear h1 h2 h3 h4 z1 hs hsm hsn hsr X2 hob HI
      go_wp2_with fail
      have HO2 := Lib.hid o2
      clear o2 y1
      generalize wr.alloc (.cells #[] 3) = V2 at *
      generalize wr.heap.size = bb2 at *
      go_loopw [9, 33] (fun v9 v33 wr => ∃ (j bb t e : Nat), v33 = .int .i64 (j : Int) ∧ v9 = .slice (some ⟨bb, 0, none⟩) t e ∧ j ≤ sn ∧ t ≤ 1048576 ∧ Hid (SO wr w.heap.size ob k d ts ∧ Ext w wr ∧ Own wr w.heap.size 3 1 (some ⟨bb, 0, none⟩) t e (ints (mo (sl.take j))) ∧ ob ≠ bb ∧ ∀ t ∈ ts, ∀ a, t.A = some a → a.block ≠ bb)) (fun _ v33 _ => sn - (intOf v33).toNat)
      case atStart => exact ⟨0, bb2, 0, 0, rfl, rfl, by omega, by omega, H2.out.1, H2.out.2.1, HO2.out, H2.out.2.2.2.2.1, H2.out.2.2.2.2.2⟩
      case round =>
        obtain ⟨j, bb, t, e, rfl, rfl, hj, ht, HJ⟩ := hrel
        by_cases hlt2 : j < sn
        · obtain ⟨x, hx⟩ : ∃ x, sl[j]? = some x := ⟨sl[j]'(by have := HS.out.2.1; omega), List.getElem?_eq_getElem _⟩
          obtain ⟨sd, rfl, _, z2⟩ := (HS.out.2.2.ext HJ.out.2.1).at_ hlt2
          have y2 := z2 j _ (ints_at' hx)
          have j1 : (j : Int) < sn := by omega
          have htl : (mo (sl.take j)).length = t := by have := HJ.out.2.2.1.len; rw [ints_len] at this; omega
          have htj : t ≤ j := by have := mo_len (sl.take j) []; rw [List.length_take] at this; simp only [List.length_nil] at this; have h8 : (mo (sl.take j)).length ≤ 0 + min j sl.length := this; omega
          have hsn2 := HS.out.2.1
          by_cases ht0 : t = 0
          · have hacc : mo (sl.take j) = [] := List.eq_nil_of_length_eq_zero (by omega)
            subst ht0
            have t0 : (((0 : Nat) : Int) == 0) = true := rfl
            have X5 := (Ext.refl wr).alloc (.cells #[.int .i64 x] 3)
            have RN : Rd (wr.alloc (.cells #[.int .i64 x] 3)) 1 (some ⟨wr.heap.size, 0, none⟩) 1 (ints [x]) := Rd.new wr #[.int .i64 x] 3 (0, 0)
            go_wp2_with (at_builtin; refine held ?_)
            refine Held.go (wp_app (m := 1) (news := ints [x]) eltI (HJ.out.2.2.1.ext X5) RN (ints_one _) (by omega) (.inr ⟨by omega, by omega⟩) (HJ.out.2.1.trans X5).size _ _ rfl rfl rfl rfl ?_)
            intro B2 d2 w9 o9 g9 hB2 _
            have hlt9 := HJ.out.2.2.1.lt
            have hob9 := HJ.out.1.own.lt
            have hz5 : (wr.alloc (.cells #[.int .i64 x] 3)).heap.size = wr.heap.size + 1 := World.size_alloc _ _
            obtain ⟨bb', rfl, hbb'⟩ : ∃ bb', B2 = some ⟨bb', 0, none⟩ ∧ (bb' = bb ∨ bb' = wr.heap.size + 1) := by
              rcases hB2 with e | e
              · exact ⟨_, e, .inl rfl⟩
              · exact ⟨_, e, .inr hz5⟩
            have so9 := (HJ.out.1.ext X5).fr (Fr.grows g9) (fun e => HJ.out.2.2.2.1 (by injection e with e; exact e.symm)) (fun s hs a ha e => HJ.out.2.2.2.2 s hs a ha (by injection e with e; exact e.symm))
            have x9 : Ext w w9 := g9.ext (HJ.out.2.1.trans X5) (fun q hq => by injection hq with hq; rw [← hq]; exact HJ.out.2.2.1.base_le bb rfl)
            have HE : Hid (SO w9 w.heap.size ob k d ts ∧ Ext w w9 ∧ Own w9 w.heap.size 3 1 (some ⟨bb', 0, none⟩) (0 + 1) d2 (ints (mo (sl.take (j + 1)))) ∧ ob ≠ bb' ∧ ∀ t ∈ ts, ∀ a, t.A = some a → a.block ≠ bb') := Lib.hid ⟨so9, x9, by
              rw [take_succ' hx, mo_snoc, moStep, if_pos (.inl hacc)]
              simpa [ints] using o9, by have := HJ.out.2.2.2.1; omega, fun s hs a ha => by
              have h1 := HJ.out.2.2.2.2 s hs a ha
              have h2 := ((HJ.out.1.each s hs).2 a ha).1
              omega⟩
            clear X5 RN o9 g9 hB2 hlt9 hob9 hz5 hbb' so9 x9
            go_wp2_with fail
            go_roundw
            case rel => exact ⟨j + 1, bb', 0 + 1, d2, by go_num, rfl, by omega, by omega, HE.out⟩
            case measure => simp [intOf]; omega
          · obtain ⟨t', rfl⟩ : ∃ t', t = t' + 1 := ⟨t - 1, by omega⟩
            obtain ⟨y, hy⟩ : ∃ y, (mo (sl.take j))[t']? = some y := ⟨(mo (sl.take j))[t']'(by omega), List.getElem?_eq_getElem _⟩
            have hlast : (mo (sl.take j)).getLastD 0 = y := by rw [List.getLastD_eq_getLast?, List.getLast?_eq_getElem?, htl, Nat.add_sub_cancel, hy]; rfl
            have hne : mo (sl.take j) ≠ [] := fun e => by rw [e] at htl; simp at htl
            have y3 : wr.cell? ⟨bb, t', none⟩ = some (.int .i64 y) := HJ.out.2.2.1.cellAt (by omega) (ints_at' hy)
            have t0 : (((t' + 1 : Nat) : Int) == 0) = false := by simp; omega
            have t1 : ¬ ((t' : Int) + 1) = 0 := by omega
            have t2 : t' ≤ 2000000 := by omega
            have HT := Lib.hid (And.intro hlast (And.intro hne hy))
            clear hlast hne hy
            by_cases hxy : y ≤ x
            · have hxy2 : ¬ x < y := by omega
              have X5 := (Ext.refl wr).alloc (.cells #[.int .i64 x] 3)
              have RN : Rd (wr.alloc (.cells #[.int .i64 x] 3)) 1 (some ⟨wr.heap.size, 0, none⟩) 1 (ints [x]) := Rd.new wr #[.int .i64 x] 3 (0, 0)
              go_wp2_with (at_builtin; refine held ?_)
              refine Held.go (wp_app (m := 1) (news := ints [x]) eltI (HJ.out.2.2.1.ext X5) RN (ints_one _) (by omega) (.inr ⟨by omega, by omega⟩) (HJ.out.2.1.trans X5).size _ _ rfl rfl rfl rfl ?_)
              intro B2 d2 w9 o9 g9 hB2 _
              have hlt9 := HJ.out.2.2.1.lt
              have hob9 := HJ.out.1.own.lt
              have hz5 : (wr.alloc (.cells #[.int .i64 x] 3)).heap.size = wr.heap.size + 1 := World.size_alloc _ _
              obtain ⟨bb', rfl, hbb'⟩ : ∃ bb', B2 = some ⟨bb', 0, none⟩ ∧ (bb' = bb ∨ bb' = wr.heap.size + 1) := by
                rcases hB2 with e | e
                · exact ⟨_, e, .inl rfl⟩
                · exact ⟨_, e, .inr hz5⟩
              have so9 := (HJ.out.1.ext X5).fr (Fr.grows g9) (fun e => HJ.out.2.2.2.1 (by injection e with e; exact e.symm)) (fun s hs a ha e => HJ.out.2.2.2.2 s hs a ha (by injection e with e; exact e.symm))
              have x9 : Ext w w9 := g9.ext (HJ.out.2.1.trans X5) (fun q hq => by injection hq with hq; rw [← hq]; exact HJ.out.2.2.1.base_le bb rfl)
              have HE : Hid (SO w9 w.heap.size ob k d ts ∧ Ext w w9 ∧ Own w9 w.heap.size 3 1 (some ⟨bb', 0, none⟩) (t' + 1 + 1) d2 (ints (mo (sl.take (j + 1)))) ∧ ob ≠ bb' ∧ ∀ t ∈ ts, ∀ a, t.A = some a → a.block ≠ bb') := Lib.hid ⟨so9, x9, by
                rw [take_succ' hx, mo_snoc, moStep, if_pos (.inr (by rw [HT.out.1]; exact hxy))]
                simpa [ints] using o9, by have := HJ.out.2.2.2.1; omega, fun s hs a ha => by
                have h1 := HJ.out.2.2.2.2 s hs a ha
                have h2 := ((HJ.out.1.each s hs).2 a ha).1
                omega⟩
              clear X5 RN o9 g9 hB2 hlt9 hob9 hz5 hbb' so9 x9
              go_wp2_with fail
              go_roundw
              case rel => exact ⟨j + 1, bb', t' + 1 + 1, d2, by go_num, rfl, by omega, by omega, HE.out⟩
              case measure => simp [intOf]; omega
            · have hxy2 : x < y := by omega
              have HE : Hid (SO wr w.heap.size ob k d ts ∧ Ext w wr ∧ Own wr w.heap.size 3 1 (some ⟨bb, 0, none⟩) (t' + 1) e (ints (mo (sl.take (j + 1)))) ∧ ob ≠ bb ∧ ∀ t ∈ ts, ∀ a, t.A = some a → a.block ≠ bb) := Lib.hid ⟨HJ.out.1, HJ.out.2.1, by
                rw [take_succ' hx, mo_snoc, moStep, if_neg (fun h => h.elim HT.out.2.1 (by rw [HT.out.1]; exact hxy))]
                exact HJ.out.2.2.1, HJ.out.2.2.2⟩
              go_wp2_with fail
              go_roundw
              case rel => exact ⟨j + 1, bb, t' + 1, e, by go_num, rfl, by omega, by omega, HE.out⟩
              case measure => simp [intOf]; omega
        · obtain rfl : sn = j := by omega
          have htl : (mo sl).length = t := by have := HJ.out.2.2.1.len; rw [ints_len, List.take_of_length_le (by have := HS.out.2.1; omega)] at this; omega
          have hmo : mo (sl.take sn) = mo sl := by rw [List.take_of_length_le (by have := HS.out.2.1; omega)]
          have hnew : lists (ts ++ [⟨some ⟨bb, 0, none⟩, t, e, mo sl⟩]) = ((lists ss).take (k + 1)).map mo := by
            rw [take_succ' (lists_at HS.out.1), List.map_append, ← H2.out.2.2.1]
            simp [lists]
          have hsum : ((lists (ts ++ [⟨some ⟨bb, 0, none⟩, t, e, mo sl⟩])).map List.length).sum = tot + t := by
            rw [← H2.out.2.2.2.1, ← htl]
            simp [lists]
          have htot2 : tot + t ≤ 1048576 := by
            rw [← hsum, hnew]
            exact Nat.le_trans (sum_mo _ _) HA.out.2.2
          have X5 := (Ext.refl wr).alloc (.cells #[.slice (some ⟨bb, 0, none⟩) t e] 22)
          have RN : Rd (wr.alloc (.cells #[.slice (some ⟨bb, 0, none⟩) t e] 22)) 1 (some ⟨wr.heap.size, 0, none⟩) 1 (slcells [⟨some ⟨bb, 0, none⟩, t, e, mo sl⟩]) := Rd.new wr #[.slice (some ⟨bb, 0, none⟩) t e] 22 (0, 0)
          go_wp2_with (at_builtin; refine held ?_)
          have so5 := HJ.out.1.ext X5
          refine Held.go (wp_app (m := 1) (news := slcells [⟨some ⟨bb, 0, none⟩, t, e, mo sl⟩]) eltSl so5.own RN (slcells_one _) (by omega) (.inr ⟨by omega, by omega⟩) (HJ.out.2.1.trans X5).size _ _ rfl rfl rfl rfl ?_)
          intro B2 d2 w9 o9 g9 hB2 _
          have hbb := HJ.out.2.2.1.lt
          obtain ⟨ob', rfl, so9⟩ := so5.snoc (t := ⟨some ⟨bb, 0, none⟩, t, e, mo sl⟩) g9 o9 hB2 (by
            have h := (HJ.out.2.2.1.ext X5).rd
            rw [hmo] at h
            exact h) (fun a ha => by
            have e2 : (some ⟨bb, 0, none⟩ : Option Addr) = some a := ha
            injection e2 with e2
            subst e2
            refine ⟨?_, fun e3 => HJ.out.2.2.2.1 e3.symm⟩
            rw [World.size_alloc]
            show bb < _
            omega)
          have x9 : Ext w w9 := g9.ext (HJ.out.2.1.trans X5) (fun q hq => by injection hq with hq; rw [← hq]; exact so5.own.base_le ob rfl)
          have HE : Hid (∃ ts, SO w9 w.heap.size ob' (k + 1) d2 ts ∧ Ext w w9 ∧ lists ts = ((lists ss).take (k + 1)).map mo ∧ ((lists ts).map List.length).sum = tot + t) := Lib.hid ⟨_, so9, x9, hnew, hsum⟩
          clear X5 RN so5 o9 g9 hB2 hbb so9 x9 hnew hsum htl hmo
          go_wp2_with fail
          go_roundw
          case rel => exact ⟨k + 1, ob', d2, tot + t, by go_num, by go_num, rfl, by omega, htot2, HE.out⟩
          case measure => simp [intOf]; omega
    · obtain rfl : N = k := by omega
      obtain ⟨ts, h1, h2, h3, h4⟩ := HI.out
      rw [List.take_of_length_le (by simp; omega)] at h3
      have hup : ∀ l ∈ lists ts, Up l := fun l hl => by
        rw [h3] at hl
        obtain ⟨l', _, rfl⟩ := List.mem_map.1 hl
        exact mo_up l' [] up_nil
      have hls2 := h1.ls
      have hsn : ∀ s ∈ ts, s.n ≤ 1048576 := fun s hs => by
        rw [← hls2.nlen s hs]
        have h6 : s.l.length ≤ ((lists ts).map List.length).sum := le_sum_mem (List.mem_map_of_mem (List.mem_map_of_mem hs))
        omega
      have C1 := Lib.hid (merge_any (some ⟨ob, 0, none⟩) N d ts wr hls2 (by omega) (by omega) (fun s hs => by have := hsn s hs; omega))
      have H3 := Lib.hid (And.intro hls2 (And.intro h2 (And.intro hup (And.intro h4 hsn))))
      clear h1 h2 h3 h4 hup hls2 hsn HI H1
      go_wp2_with fail
      refine C1.out.mono ?_
      rintro e w4 ⟨B, t, d4, out, cs, rfl, o4, run4, none4, x4⟩
      obtain rfl : tot = t := by
        have h5 := o4.len
        rw [ints_len, full_len run4 none4] at h5
        have := H3.out.2.2.2.1
        omega
      have H4 := Lib.hid (And.intro o4 (And.intro (run4.up H3.out.2.2.1).1 (And.intro run4 (And.intro none4 (And.intro x4 (show out.length = tot from by have h5 := o4.len; rw [ints_len] at h5; omega))))))
      clear C1 o4 run4 none4 x4
      go_wp2_with fail
      have HX4 := Lib.hid (H3.out.2.1.trans H4.out.2.2.2.2.1)
      go_loopw [13] (fun v13 wr => ∃ (i : Nat), v13 = .int .i64 ((i : Int) + 1) ∧ (i = 0 ∨ i + 1 ≤ tot) ∧ Hid (Ext w4 wr)) (fun v13 _ => tot + 1 - (intOf v13).toNat)
      case atStart => exact ⟨0, rfl, .inl rfl, Ext.refl w4⟩
      case round =>
        obtain ⟨i, rfl, hi, HX⟩ := hrel
        by_cases hlt3 : i + 1 < tot
        · obtain ⟨x, hx⟩ : ∃ x, out[i]? = some x := ⟨out[i]'(by have := H4.out.2.2.2.2.2; omega), List.getElem?_eq_getElem _⟩
          obtain ⟨y, hy⟩ : ∃ y, out[i + 1]? = some y := ⟨out[i + 1]'(by have := H4.out.2.2.2.2.2; omega), List.getElem?_eq_getElem _⟩
          have hxy := H4.out.2.1 i x y hx hy
          obtain ⟨bb, rfl⟩ := H4.out.1.head (by omega)
          have o5 := H4.out.1.ext HX.out
          have y1 := o5.cellAt (show i < tot by omega) (ints_at' hx)
          have y2 := o5.cellAt hlt3 (ints_at' hy)
          have k1 : (i : Int) + 1 < tot := by omega
          have k2 : (i : Int) < tot := by omega
          have k3 : (0 : Int) ≤ i := by omega
          have b1 : i ≤ 2000000 := by omega
          have f1 : (y < x) = False := by simp; omega
          have f2 : IntKind.i64.wrap (i : Int) = i := by rw [IntKind.wrap_i64]; omega
          have f3 : IntKind.i64.wrap ((i : Int) + 1 - 1) = i := by rw [IntKind.wrap_i64]; omega
          clear hxy hx hy o5
          go_wp2_with fail
          go_quiet (fail)
          have HX2 := Lib.hid (HX.out.drewN nq)
          clear y1 y2 f1 f2 f3
          go_wp2_with fail
          go_roundw
          case rel => exact ⟨i + 1, by go_num, .inr (by omega), HX2.out⟩
          case measure => simp [intOf]; omega
        · have k1 : ¬ (i : Int) + 1 < tot := by omega
          have HXA := Lib.hid HX.out
          clear HX hi
          go_wp2_with fail
          clear k1 hlt3
          go_loopw [88] (fun v88 wr => ∃ (k : Nat), v88 = .int .i64 (k : Int) ∧ k ≤ N ∧ Hid (Ext w4 wr)) (fun v88 _ => N - (intOf v88).toNat)
          case atStart => exact ⟨0, rfl, by omega, HXA.out⟩
          case round =>
            obtain ⟨k, rfl, hk2, HX⟩ := hrel
            have hlsX := H3.out.1.ext (H4.out.2.2.2.2.1.trans HX.out)
            by_cases hlt4 : k < N
            · obtain ⟨s, hs⟩ : ∃ s, ts[k]? = some s := ⟨ts[k]'(by rw [H3.out.1.len]; exact hlt4), List.getElem?_eq_getElem _⟩
              have hob : 0 < N := by omega
              obtain ⟨ad, had, _, z1⟩ := hlsX.rd.at_ hlt4
              injection had with had
              subst had
              have y1 := z1 k _ (slcells_at hs)
              have hadd : (⟨ob, 0, none⟩ : Addr).add k = ⟨ob, k, none⟩ := by unfold Addr.add; split <;> simp_all
              rw [hadd] at y1
              unfold SlI.v at y1
              have hsm := List.mem_of_getElem? hs
              have hsn := hlsX.nlen s hsm
              have hsr := H3.out.1.each s hsm
              have hsb := H3.out.2.2.2.2 s hsm
              have hfull := greedy_full H4.out.2.2.1 H4.out.2.2.2.1 (lists_at hs)
              obtain ⟨sA, sn, sc, sl⟩ := s
              dsimp only at *
              have HS := Lib.hid (And.intro hsn (And.intro hsr hfull))
              have k1 : (k : Int) < N := by omega
              have k2 : (0 : Int) ≤ k := by omega
              clear hs hsm hsn hsr z1 hlsX hfull hadd
              go_wp2_with fail
              clear y1
              go_loopw [16, 94] (fun v16 v94 wr => ∃ (a j : Nat), v94 = .int .i64 (j : Int) ∧ v16 = .int .i64 (a : Int) ∧ j ≤ tot ∧ a ≤ sn ∧ Hid (Ext w4 wr ∧ a = (out.take j).foldl (gstep sl) 0)) (fun _ v94 _ => tot - (intOf v94).toNat)
              case atStart => exact ⟨0, 0, rfl, rfl, by omega, by omega, HX.out, by simp⟩
              case round =>
                obtain ⟨a, j, rfl, rfl, hj, ha, HY⟩ := hrel
                by_cases hlt5 : j < tot
                · obtain ⟨x, hx⟩ : ∃ x, out[j]? = some x := ⟨out[j]'(by have := H4.out.2.2.2.2.2; omega), List.getElem?_eq_getElem _⟩
                  obtain ⟨bb, rfl⟩ := H4.out.1.head (by omega)
                  have y2 := (H4.out.1.ext HY.out.1).cellAt hlt5 (ints_at' hx)
                  have j1 : (j : Int) < tot := by omega
                  have j2 : (0 : Int) ≤ j := by omega
                  by_cases ha2 : a < sn
                  · obtain ⟨y, hy⟩ : ∃ y, sl[a]? = some y := ⟨sl[a]'(by have := HS.out.1; omega), List.getElem?_eq_getElem _⟩
                    obtain ⟨sd, rfl, _, z3⟩ := (HS.out.2.1.ext (H4.out.2.2.2.2.1.trans HY.out.1)).at_ ha2
                    have y3 := z3 a _ (ints_at' hy)
                    have a1 : (a : Int) < sn := by omega
                    have a2 : (0 : Int) ≤ a := by omega
                    have a3 : a ≤ 2000000 := by omega
                    by_cases hxy : y = x
                    · have e1 : (y == x) = true := by simpa using hxy
                      have HE : Hid (a + 1 = (out.take (j + 1)).foldl (gstep sl) 0) := Lib.hid (by
                        rw [take_succ' hx, List.foldl_append, ← HY.out.2]
                        show a + 1 = gstep sl a x
                        rw [gstep, if_pos (by rw [hy, hxy])])
                      clear hx hy hxy z3
                      go_wp2_with fail
                      go_roundw
                      case rel => exact ⟨a + 1, j + 1, by go_num, by go_num, by omega, by omega, HY.out.1, HE.out⟩
                      case measure => simp [intOf]; omega
                    · have e1 : (y == x) = false := by simpa using hxy
                      have HE : Hid (a = (out.take (j + 1)).foldl (gstep sl) 0) := Lib.hid (by
                        rw [take_succ' hx, List.foldl_append, ← HY.out.2]
                        show a = gstep sl a x
                        rw [gstep, if_neg (by rw [hy]; intro e; injection e with e; exact hxy e)])
                      clear hx hy hxy z3
                      go_wp2_with fail
                      go_roundw
                      case rel => exact ⟨a, j + 1, by go_num, rfl, by omega, by omega, HY.out.1, HE.out⟩
                      case measure => simp [intOf]; omega
                  · have a1 : ¬ (a : Int) < sn := by omega
                    have HE : Hid (a = (out.take (j + 1)).foldl (gstep sl) 0) := Lib.hid (by
                      rw [take_succ' hx, List.foldl_append, ← HY.out.2]
                      show a = gstep sl a x
                      rw [gstep, if_neg (by rw [List.getElem?_eq_none (by have := HS.out.1; omega)]; intro e; cases e)])
                    clear hx
                    go_wp2_with fail
                    go_roundw
                    case rel => exact ⟨a, j + 1, by go_num, rfl, by omega, by omega, HY.out.1, HE.out⟩
                    case measure => simp [intOf]; omega
                · obtain rfl : tot = j := by omega
                  have hfin : sn ≤ a := by
                    have h1 := HS.out.2.2
                    have h2 := HY.out.2
                    rw [List.take_of_length_le (by have := H4.out.2.2.2.2.2; omega)] at h2
                    have h3 := HS.out.1
                    omega
                  have a1 : ¬ (a : Int) < sn := by omega
                  have HX2 := Lib.hid HY.out.1
                  clear HY hfin
                  go_wp2_with fail
                  go_roundw
                  case rel => exact ⟨k + 1, by go_num, by omega, HX2.out⟩
                  case measure => simp [intOf]; omega
            · obtain rfl : N = k := by omega
              have HX2 := Lib.hid HX.out
              clear hlsX HX
              have o6 := H4.out.1.ext HX2.out
              have hol : out.length = tot := H4.out.2.2.2.2.2
              have C6 := Lib.hid (least_any B tot d4 out (tot : Int) tot wr o6.rd hol (by omega) (Lib.hid (by omega)))
              obtain ⟨q, hq⟩ : ∃ q : Nat, (q : Int) = min (max K 0) tot := ⟨(min (max K 0) tot).toNat, by omega⟩
              have hqt : q ≤ tot := by omega
              have HQ := Lib.hid hq
              clear hq HQ hqt
              by_cases hK0 : K < 0
              · have g0 : ¬ (0 : Int) ≤ K := by omega
                have C7 := Lib.hid (fun (W : World) (hx : Ext wr W) => least_any B tot d4 out 0 0 W (o6.ext hx).rd hol (by omega) (Lib.hid (by omega)))
                clear o6 hol
                go_wp2_with fail
                refine C6.out.mono ?_
                rintro e w6 ⟨B6, d6, rfl, o7, x7⟩
                have H6 := Lib.hid (And.intro o7 x7)
                clear C6 o7 x7
                go_wp2_with fail
                refine (C7.out _ H6.out.2).mono ?_
                rintro e w7 ⟨B7, d7, rfl, o8, x8⟩
                have hd6 := H6.out.1.cap_le
                have rs := run_slice_hi (P := Tryd.prog) eltI B6 tot d6 .i64 0 (by omega)
                have C8 := Lib.hid (same_ints B7 B6 0 d7 d6 (leastL out 0) w7 o8.rd (by
                  have h := (H6.out.1.ext x8).rd.take_ (k := 0) (by omega)
                  rw [Nat.mul_one] at h
                  rw [leastL_cut out (show 0 ≤ tot by omega)]
                  exact h) (by omega))
                have HXF := Lib.hid (HX4.out.trans (HX2.out.trans (H6.out.2.trans x8)))
                clear C7 o8 x8 H6
                go_wp2_with fail
                refine C8.out.mono ?_
                rintro e w9 ⟨rfl, x9⟩
                go_wp2_with fail
                go_returns
                exact ⟨rfl, HXF.out.trans x9⟩
              · obtain ⟨q, rfl⟩ := Int.eq_ofNat_of_zero_le (show 0 ≤ K by omega)
                by_cases hqt : q ≤ tot
                · have C7 := Lib.hid (fun (W : World) (hx : Ext wr W) => least_any B tot d4 out (q : Int) q W (o6.ext hx).rd hol (by omega) (Lib.hid (by omega)))
                  clear o6 hol
                  go_wp2_with fail
                  refine C6.out.mono ?_
                  rintro e w6 ⟨B6, d6, rfl, o7, x7⟩
                  have H6 := Lib.hid (And.intro o7 x7)
                  clear C6 o7 x7
                  go_wp2_with fail
                  refine (C7.out _ H6.out.2).mono ?_
                  rintro e w7 ⟨B7, d7, rfl, o8, x8⟩
                  have hd6 := H6.out.1.cap_le
                  have rs := run_slice_hi (P := Tryd.prog) eltI B6 tot d6 .i64 q (by omega)
                  have C8 := Lib.hid (same_ints B7 B6 q d7 d6 (leastL out q) w7 o8.rd (by
                    have h := (H6.out.1.ext x8).rd.take_ (k := q) (by omega)
                    rw [Nat.mul_one] at h
                    rw [leastL_cut out (show q ≤ tot by omega)]
                    exact h) (by omega))
                  have HXF := Lib.hid (HX4.out.trans (HX2.out.trans (H6.out.2.trans x8)))
                  clear C7 o8 x8 H6
                  go_wp2_with fail
                  refine C8.out.mono ?_
                  rintro e w9 ⟨rfl, x9⟩
                  go_wp2_with fail
                  go_returns
                  exact ⟨rfl, HXF.out.trans x9⟩
                · have C7 := Lib.hid (fun (W : World) (hx : Ext wr W) => least_any B tot d4 out (tot : Int) tot W (o6.ext hx).rd hol (by omega) (Lib.hid (by omega)))
                  clear o6 hol
                  go_wp2_with fail
                  refine C6.out.mono ?_
                  rintro e w6 ⟨B6, d6, rfl, o7, x7⟩
                  have H6 := Lib.hid (And.intro o7 x7)
                  clear C6 o7 x7
                  go_wp2_with fail
                  refine (C7.out _ H6.out.2).mono ?_
                  rintro e w7 ⟨B7, d7, rfl, o8, x8⟩
                  have hd6 := H6.out.1.cap_le
                  have rs := run_slice_hi (P := Tryd.prog) eltI B6 tot d6 .i64 tot (by omega)
                  have C8 := Lib.hid (same_ints B7 B6 tot d7 d6 (leastL out tot) w7 o8.rd (by
                    have h := (H6.out.1.ext x8).rd.take_ (k := tot) (by omega)
                    rw [Nat.mul_one] at h
                    rw [leastL_cut out (show tot ≤ tot by omega)]
                    exact h) (by omega))
                  have HXF := Lib.hid (HX4.out.trans (HX2.out.trans (H6.out.2.trans x8)))
                  clear C7 o8 x8 H6
                  go_wp2_with fail
                  refine C8.out.mono ?_
                  rintro e w9 ⟨rfl, x9⟩
                  go_wp2_with fail
                  go_returns
                  exact ⟨rfl, HXF.out.trans x9⟩
end
end Go.Proofs.YtocjbllkgbjihaaDoor
