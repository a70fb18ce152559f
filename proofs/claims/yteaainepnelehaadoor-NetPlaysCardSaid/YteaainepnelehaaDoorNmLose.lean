/-
  The document's net: Lose, walked.
-/
import Derived.Test.YteaainepnelehaaDoorNmDel
namespace Go.Proofs.YteaainepnelehaaDoor
set_option maxRecDepth 100000
open Go.RowKit
set_option linter.unusedVariables false
/-- The letters that are not to a node. -/
def keepL (ls : List LetV) (to : Int) : List LetV := ls.filter fun x => decide (x.T ≠ to)
theorem keepL_take {ls : List LetV} {k : Nat} {x : LetV} (h : ls[k]? = some x) (to : Int) : keepL (ls.take (k + 1)) to = keepL (ls.take k) to ++ if x.T = to then [] else [x] := by
  rw [take_succ' h]
  unfold keepL
  rw [List.filter_append]
  by_cases e : x.T = to <;> simp [e]
theorem keepL_le (ls : List LetV) (to : Int) : (keepL ls to).length ≤ ls.length := List.length_filter_le _ _
section
variable {w w' : World} {B g m c last : Nat} {A : Option Addr} {ls : List LetV}
set_option maxHeartbeats 6400000 in
theorem mlose_any (h : NMS w B g A m c ls last) (to : Int) {Post : Ending → World → Prop}
    (hPost : Hid (∀ w', MDel w w' B g A (keepL ls to) last → Post (.returned (.int .i64 ((m : Int) - ((keepL ls to).length : Int)))) w')) :
    Calls Tryd.prog 20 #[.pointer (some ⟨g, 0, none⟩), .int .i64 to] w Post := by
  have X0 := (Ext.refl w).alloc (.cells #[] 38)
  have oE : Own (w.alloc (.cells #[] 38)) w.heap.size 38 4 (some ⟨w.heap.size, 0, none⟩) 0 0 [] := World.ownsRow_lit (size := 4) w #[] 0 (Nat.le_refl _) (by simp [maxLen]) rfl
  have c0 := (h.ex X0).c0
  have hfew := h.few
  have hgl := h.lt
  have HG := Lib.hid h
  have HL := Lib.hid h.len
  have HE := Lib.hid (And.intro X0 oE)
  clear h X0 oE
  go_enter Tryd.func20, Tryd.ntmps20
  go_wp2_with fail
  clear c0
  generalize w.alloc (.cells #[] 38) = U at *
  go_loopw [5, 15] (fun v5 v15 wr => ∃ (k q : Nat) (S2 d : Nat), v5 = .slice (some ⟨S2, 0, none⟩) q d ∧ v15 = .int .i64 (k : Int) ∧ k ≤ m ∧ q ≤ k ∧ Hid (q = (keepL (ls.take k) to).length ∧ Own wr w.heap.size 38 4 (some ⟨S2, 0, none⟩) q d (mrows (keepL (ls.take k) to)).flatten ∧ Ext w wr)) (fun _ v15 _ => m - (intOf v15).toNat)
  case atStart => exact ⟨0, 0, w.heap.size, 0, rfl, rfl, by omega, by omega, rfl, HE.out.2, HE.out.1⟩
  case round =>
    obtain ⟨k, q, S2, d, rfl, rfl, hk, hq, HI⟩ := hrel
    by_cases hlt : k < m
    · obtain ⟨x, hx⟩ : ∃ x, ls[k]? = some x := ⟨ls[k]'(by have := HL.out; omega), List.getElem?_eq_getElem _⟩
      obtain ⟨k4, hk4⟩ : ∃ k4, k * 4 = k4 := ⟨_, rfl⟩
      obtain ⟨S, rfl, _, _, e0, e1, e2, e3⟩ := (HG.out.ex HI.out.2.2).lcell hx hk4
      have z0 : (0 : Int) ≤ k := by omega
      have z1 : (k : Int) < m := by omega
      have HX := Lib.hid (keepL_take hx to)
      obtain ⟨s, hs⟩ : ∃ s, str x.l = s := ⟨_, rfl⟩
      rw [hs] at e3
      have HSS := Lib.hid hs
      have XB := (Ext.refl wr).alloc (.cells #[.int .i64 (x.N : Int), .int .i64 x.F, .int .i64 x.T, .string s] 38)
      have hbB := heap_alloc_new wr (.cells #[.int .i64 (x.N : Int), .int .i64 x.F, .int .i64 x.T, .string s] 38)
      have H1 := Lib.hid (And.intro (HI.out.2.1.ext XB) (And.intro (HI.out.2.2.trans XB) hbB))
      clear hx hs XB hbB
      go_upto_region 5 with (fail)
      clear e0 e1 e2 e3 hk4
      generalize wr.alloc (.cells #[.int .i64 (x.N : Int), .int .i64 x.F, .int .i64 x.T, .string s] 38) = V at *
      generalize wr.heap.size = xb at *
      have d0 : V.cell? ⟨xb, 0, none⟩ = some (.int .i64 (x.N : Int)) := block_cell H1.out.2.2 0
      have d1 : V.cell? ⟨xb, 1, none⟩ = some (.int .i64 x.F) := block_cell H1.out.2.2 1
      have d2 : V.cell? ⟨xb, 2, none⟩ = some (.int .i64 x.T) := block_cell H1.out.2.2 2
      have d3 : V.cell? ⟨xb, 3, none⟩ = some (.string s) := block_cell H1.out.2.2 3
      by_cases ht : x.T = to
      · have hb : (x.T == to) = true := by simpa using ht
        have HX2 := Lib.hid (HX.out.trans (by rw [if_pos ht, List.append_nil]))
        have HQ := Lib.hid (show keepL (ls.take (k + 1)) to = keepL (ls.take k) to by rw [HX.out, if_pos ht, List.append_nil])
        clear ht
        go_wp2_with fail
        go_roundw
        case rel => exact ⟨k + 1, q, S2, d, rfl, by go_num, by omega, by omega, by rw [HQ.out]; exact HI.out.1, by rw [HQ.out]; exact H1.out.1, H1.out.2.1⟩
        case measure => simp [intOf]; omega
      · have hb : (x.T == to) = false := by simpa using ht
        have HQ := Lib.hid (show keepL (ls.take (k + 1)) to = keepL (ls.take k) to ++ [x] by rw [HX.out, if_neg ht])
        clear ht
        have XA := (Ext.refl V).alloc (.cells #[.int .i64 (x.N : Int), .int .i64 x.F, .int .i64 x.T, .string s] 38)
        have RN : Rd (V.alloc (.cells #[.int .i64 (x.N : Int), .int .i64 x.F, .int .i64 x.T, .string s] 38)) 4 (some ⟨V.heap.size, 0, none⟩) 1 x.mcells := by
          unfold LetV.mcells
          rw [HSS.out]
          exact ⟨rfl, fun _ => ⟨_, rfl, by rw [World.size_alloc]; exact Nat.lt_succ_self _, World.news_of_block (heap_alloc_new V _)⟩⟩
        have hnz : ∀ u ∈ x.mcells, u.oneCell' = true := fun u hu => by
          simp only [LetV.mcells, List.mem_cons, List.not_mem_nil, or_false] at hu
          rcases hu with rfl | rfl | rfl | rfl <;> rfl
        go_wp2_with (at_builtin; refine held ?_)
        refine Held.go (wp_app (m := 1) (news := x.mcells) eltMl (H1.out.1.ext XA) RN hnz (by omega) (.inr ⟨by omega, by omega⟩) (by have h1 := H1.out.2.1.size; have h2 := XA.size; omega) _ _ rfl rfl rfl rfl ?_)
        intro A3 d3' w3 o3 g3 hA3 _
        obtain ⟨S3, rfl⟩ := o3.head (by omega)
        have y3 : Ext w w3 := (H1.out.1.ext XA).fr_ext (H1.out.2.1.trans XA) (Nat.le_refl _) (Fr.grows g3)
        have o4 : Own w3 w.heap.size 38 4 (some ⟨S3, 0, none⟩) (q + 1) d3' (mrows (keepL (ls.take (k + 1)) to)).flatten := by
          rw [HQ.out]
          have e : (mrows (keepL (ls.take k) to ++ [x])).flatten = (mrows (keepL (ls.take k) to)).flatten ++ x.mcells := by simp [mrows]
          rw [e]
          exact o3
        have H3 := Lib.hid (And.intro o4 y3)
        have HQL := Lib.hid (show q + 1 = (keepL (ls.take (k + 1)) to).length by rw [HQ.out, List.length_append, ← HI.out.1]; rfl)
        clear o3 g3 hA3 y3 o4 XA RN hnz d0 d1 d2 d3
        go_wp2_with fail
        go_roundw
        case rel => exact ⟨k + 1, q + 1, S3, d3', rfl, by go_num, by omega, by omega, HQL.out, H3.out.1, H3.out.2⟩
        case measure => simp [intOf]; omega
    · obtain rfl : m = k := by omega
      have hfull : ls.take m = ls := List.take_of_length_le (by have := HL.out; omega)
      have h1 := HG.out.ex HI.out.2.2
      have c0 := h1.c0
      have f0 := block_fz h1.blk 0
      have wr1 : IntKind.i64.wrap ((m : Int) - (q : Int)) = (m : Int) - (q : Int) := by rw [IntKind.wrap_i64]; omega
      have hI := HI.out
      rw [hfull] at hI
      have fs := Fr.store wr ⟨g, 0, none⟩ (.slice (some ⟨S2, 0, none⟩) q d)
      have b2 : (wr.setCell ⟨g, 0, none⟩ (.slice (some ⟨S2, 0, none⟩) q d)).heap[g]? = some (.cells #[.slice (some ⟨S2, 0, none⟩) q d, .int .i64 (last : Int)] 30 (0, 0)) := heap_setCell_same wr g 0 _ _ _ h1.blk
      have hSb := hI.2.1.base_le S2 rfl
      have hBw : B ≤ w.heap.size := by have h1 := HG.out.bg; omega
      have RES := Lib.hid (show MDel w (wr.setCell ⟨g, 0, none⟩ (.slice (some ⟨S2, 0, none⟩) q d)) B g A (keepL ls to) last from
        ⟨⟨_, _, _, HG.out.turn b2 (fs.own (hI.2.1.base_mono hBw) (fun a ha e => by injection ha with ha; subst ha; have e : S2 = g := e; omega)) (fun a ha => by injection ha with ha; subst ha; exact .inr hSb) (by omega) HG.out.low, fun a ha => by injection ha with ha; subst ha; exact hSb⟩, (Fr.of_ext hI.2.2 _).trans fs (fun i _ e => e)⟩)
      have HQ := Lib.hid hI.1
      clear h1 fs b2 hSb hBw hI hfull HI
      go_wp2_with fail
      have h9 := hPost.out _ RES.out
      rw [← HQ.out] at h9
      exact h9
end
end Go.Proofs.YteaainepnelehaaDoor
