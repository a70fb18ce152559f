/-
  Package net: DeleteFunc and Lose, walked.
-/
import Derived.Test.YteaainepnelehaaDoorNtLose0
import Derived.Test.YteaainepnelehaaDoorNmLose
namespace Go.Proofs.YteaainepnelehaaDoor
set_option maxRecDepth 100000
open Go.RowKit
set_option linter.unusedVariables false
theorem flatten_set {size : Nat} : ∀ {rs : List (List Value)} {k i : Nat} {r : List Value} (v : Value), Even size rs → rs[k]? = some r → i < size → rs.flatten.set (k * size + i) v = (rs.set k (r.set i v)).flatten
  | [], _, _, _, _, _, h, _ => by simp at h
  | x :: rs, k, i, r, v, he, h, hi => by
    have hx := he x (by simp)
    cases k with
    | zero =>
      simp at h
      subst h
      rw [List.flatten_cons, List.set_append_left _ _ (by omega), List.set_cons_zero, List.flatten_cons]
      congr 2
      omega
    | succ k =>
      rw [List.flatten_cons, List.set_append_right _ _ (by rw [hx, Nat.succ_mul]; omega), List.set_cons_succ, List.flatten_cons, ← flatten_set (rs := rs) v (fun y hy => he y (by simp [hy])) (by simpa using h) hi]
      congr 2
      rw [hx, Nat.succ_mul]
      omega
theorem even_set {size : Nat} {rs : List (List Value)} (he : Even size rs) (k : Nat) {r : List Value} (hr : r.length = size) : Even size (rs.set k r) := fun x hx => by
  rcases List.mem_or_eq_of_mem_set hx with h | h
  · exact he x h
  · rw [h]; exact hr
theorem put_rows {zs : List LetV} {i i4 : Nat} {z : LetV} (hz : zs[i]? = some z) (h4 : i * 4 = i4) (x : LetV) :
    ((((lrows zs).flatten.set i4 (.int .i64 (x.N : Int))).set (i4 + 1) (.int .i64 x.F)).set (i4 + 2) (.int .i64 x.T)).set (i4 + 3) (.slice x.A x.n x.c) = (lrows (zs.set i x)).flatten := by
  have hl : i < (lrows zs).length := by rw [lrows_len]; exact (List.getElem?_eq_some_iff.1 hz).1
  have h0 := flatten_set (.int .i64 (x.N : Int)) (lrows_even zs) (lrows_at hz) (show 0 < 4 by omega)
  rw [h4, Nat.add_zero] at h0
  rw [h0]
  have e1 := even_set (lrows_even zs) i (r := z.cells.set 0 (.int .i64 (x.N : Int))) rfl
  have g1 : ((lrows zs).set i (z.cells.set 0 (.int .i64 (x.N : Int))))[i]? = some (z.cells.set 0 (.int .i64 (x.N : Int))) := List.getElem?_set_self hl
  rw [← h4, flatten_set (.int .i64 x.F) e1 g1 (show 1 < 4 by omega), List.set_set]
  have e2 := even_set (lrows_even zs) i (r := (z.cells.set 0 (.int .i64 (x.N : Int))).set 1 (.int .i64 x.F)) rfl
  have g2 : ((lrows zs).set i ((z.cells.set 0 (.int .i64 (x.N : Int))).set 1 (.int .i64 x.F)))[i]? = some ((z.cells.set 0 (.int .i64 (x.N : Int))).set 1 (.int .i64 x.F)) := List.getElem?_set_self hl
  rw [flatten_set (.int .i64 x.T) e2 g2 (show 2 < 4 by omega), List.set_set]
  have e3 := even_set (lrows_even zs) i (r := ((z.cells.set 0 (.int .i64 (x.N : Int))).set 1 (.int .i64 x.F)).set 2 (.int .i64 x.T)) rfl
  have g3 : ((lrows zs).set i (((z.cells.set 0 (.int .i64 (x.N : Int))).set 1 (.int .i64 x.F)).set 2 (.int .i64 x.T)))[i]? = some (((z.cells.set 0 (.int .i64 (x.N : Int))).set 1 (.int .i64 x.F)).set 2 (.int .i64 x.T)) := List.getElem?_set_self hl
  rw [flatten_set (.slice x.A x.n x.c) e3 g3 (show 3 < 4 by omega), List.set_set]
  congr 1
  show (lrows zs).set i x.cells = _
  unfold lrows
  rw [← List.map_set]
theorem zero_tail (n : Nat) : ∀ u ∈ (Builtin.zeroCells (Value.agg #[.int .i64 0, .int .i64 0, .int .i64 0, .slice none 0 0]).cells n).toList, u.oneCell' = true := fun b hb => by
  simp only [Builtin.zeroCells, Array.toList_map, List.mem_map] at hb
  obtain ⟨i, _, rfl⟩ := hb
  have : i % 4 < 4 := Nat.mod_lt _ (by omega)
  show ((#[.int .i64 0, .int .i64 0, .int .i64 0, .slice none 0 0] : Array Value)[i % 4]!).oneCell' = true
  generalize i % 4 = k at *
  match k, this with
  | 0, _ => rfl
  | 1, _ => rfl
  | 2, _ => rfl
  | 3, _ => rfl
theorem clear_tail {w : World} {base S m c i : Nat} {xs : List Value} (h : Own w base 46 4 (some ⟨S, 0, none⟩) m c xs) (hi : i < m) {o : Nat} (ho : i * 4 = o) :
    ∃ w', (∀ (ty : TypeId) (d : Nat), (Builtin.clear_ #[49] ty #[.slice (some ⟨S, o, none⟩) (m - i) d]).run Tryd.prog w = .ok (.tuple #[]) w') ∧ Own w' base 46 4 (some ⟨S, 0, none⟩) i c (xs.take (i * 4)) ∧ Fr w w' (· = S) := by
  have hmc := h.cap_le
  have hc := h.cutTo (k := i) (by omega) (.inl (by intro e; cases e))
  have hsz : (Builtin.zeroCells (Value.agg #[.int .i64 0, .int .i64 0, .int .i64 0, .slice none 0 0]).cells (m - i)).toList.length = (m - i) * 4 := by
    simp [size_zeroCells, Value.cells]
  exact ⟨_, fun ty d => run_clear_rows eltLet zeroLet (zero_tail _) (by omega) (fun j hj => h.roomCell (by omega)) (fun j hj => h.frozenAt (o + j)) hsz, hc.behind _ o (by omega), Fr.setCells _ o w⟩
theorem keepL_all {ls : List LetV} {to : Int} (h : ∀ x ∈ ls, x.T ≠ to) : keepL ls to = ls := List.filter_eq_self.2 fun x hx => by simpa using h x hx
theorem firstTo_some {ls : List LetV} {to : Int} {k : Nat} (h : ls.findIdx? (fun x => decide (x.T = to)) = some k) : k < ls.length ∧ keepL (ls.take (k + 1)) to = ls.take k ∧ firstTo ls to = (k : Int) := by
  obtain ⟨hl, hk, hn⟩ := List.findIdx?_eq_some_iff_getElem.1 h
  refine ⟨hl, ?_, by unfold firstTo; rw [h]⟩
  rw [keepL_take (List.getElem?_eq_getElem hl) to, if_pos (by simpa using hk), List.append_nil]
  refine keepL_all fun x hx => ?_
  obtain ⟨q, hq⟩ := List.getElem?_of_mem hx
  rw [List.getElem?_take] at hq
  split at hq
  · rename_i hqk
    have h1 := hn q hqk
    obtain ⟨hl2, rfl⟩ := List.getElem?_eq_some_iff.1 hq
    simpa using h1
  · cases hq
section
variable {w w' : World} {base m c tb : Nat} {A : Option Addr} {ls : List LetV} {to : Int}
set_option maxHeartbeats 6400000 in
theorem ldelf_ (h : Own w base 46 4 A m c (lrows ls).flatten) (hm : m ≤ 4096) (hc : w.cell? ⟨tb, 0, none⟩ = some (.int .i64 to)) (ht : tb < w.heap.size) (htb : ∀ a, A = some a → a.block ≠ tb) {Post : Ending → World → Prop}
    (hPost : Hid (∀ w' q, q = (keepL ls to).length → Own w' base 46 4 A q c (lrows (keepL ls to)).flatten → Fr w w' (fun b => A.map (·.block) = some b) → Post (.returned (.slice A q c)) w')) :
    Calls Tryd.prog 29 #[.slice A m c, loseF tb] w Post := by
  have IX := lidx_any h hm hc ht
  have HG := Lib.hid h
  have HL := Lib.hid h.rd.len_l
  have HC := Lib.hid (And.intro hc ht)
  unfold loseF at *
  cases hf : ls.findIdx? (fun x => decide (x.T = to)) with
  | none =>
    have e : firstTo ls to = -1 := by unfold firstTo; rw [hf]
    rw [e] at IX
    have hall : ∀ x ∈ ls, x.T ≠ to := fun x hx => by
      have := List.findIdx?_eq_none_iff.1 hf x hx
      simpa using this
    have HK := Lib.hid (keepL_all hall)
    have IX := Lib.hid IX
    clear e h hc ht hf hall htb
    go_enter Tryd.func29, Tryd.ntmps29
    go_wp2_with fail
    refine IX.out.mono ?_
    rintro e w1 ⟨rfl, x1⟩
    have X1 := Lib.hid x1
    clear x1 IX
    go_wp2_with fail
    exact hPost.out _ m (by rw [HK.out]; exact HL.out.symm) (by rw [HK.out]; exact HG.out.ext X1.out) (Fr.of_ext X1.out _)
  | some k =>
    obtain ⟨hkl, hkk, e⟩ := firstTo_some hf
    rw [e] at IX
    have hkm : k < m := by have := HL.out; omega
    obtain ⟨S, rfl⟩ := h.head (by omega)
    have hSt := htb _ rfl
    have HKK := Lib.hid hkk
    have IX := Lib.hid IX
    have kn : ((k : Int) == -1) = false := by rw [beq_eq_false_iff_ne]; omega
    have wr0 : IntKind.i64.wrap ((k : Int) + 1) = (k : Int) + 1 := by rw [IntKind.wrap_i64]; omega
    clear e h hc ht hf htb hkk hkl
    go_enter Tryd.func29, Tryd.ntmps29
    go_wp2_with fail
    refine IX.out.mono ?_
    rintro e w1 ⟨rfl, x1⟩
    have X1 := Lib.hid x1
    clear x1 IX
    go_wp2_with fail
    clear kn wr0
    go_loopw [5, 6] (fun v5 v6 wr => ∃ (i j : Nat) (zs : List LetV), v5 = .int .i64 (i : Int) ∧ v6 = .int .i64 (j : Int) ∧ j ≤ m ∧ i < j ∧ Hid (zs.length = m ∧ zs.take i = keepL (ls.take j) to ∧ (∀ q, j ≤ q → zs[q]? = ls[q]?) ∧ Own wr base 46 4 (some ⟨S, 0, none⟩) m c (lrows zs).flatten ∧ Fr w wr (· = S))) (fun _ v6 _ => m - (intOf v6).toNat)
    case atStart => exact ⟨k, k + 1, ls, rfl, by go_num, by omega, by omega, HL.out, HKK.out.symm, fun q _ => rfl, HG.out.ext X1.out, Fr.of_ext X1.out _⟩
    case round =>
      obtain ⟨i, j, zs, rfl, rfl, hj, hij, HI⟩ := hrel
      by_cases hlt : j < m
      · obtain ⟨x, hx⟩ : ∃ x, ls[j]? = some x := ⟨ls[j]'(by have := HL.out; omega), List.getElem?_eq_getElem _⟩
        have hzx := (HI.out.2.2.1 j (Nat.le_refl j)).trans hx
        obtain ⟨z, hz⟩ : ∃ z, zs[i]? = some z := ⟨zs[i]'(by have := HI.out.1; omega), List.getElem?_eq_getElem _⟩
        obtain ⟨j4, hj4⟩ : ∃ j4, j * 4 = j4 := ⟨_, rfl⟩
        obtain ⟨S', eS, e0, e1, e2, e3⟩ := own_lcell HI.out.2.2.2.1 hzx hj4
        injection eS with eS
        injection eS with eS
        subst eS
        have z0 : (0 : Int) ≤ j := by omega
        have z1 : (j : Int) < m := by omega
        have y0 : (0 : Int) ≤ i := by omega
        have y1 : (i : Int) < m := by omega
        have HX := Lib.hid (And.intro (keepL_take hx to) (And.intro hzx hz))
        have XB := (Ext.refl wr).alloc (.cells #[.int .i64 (x.N : Int), .int .i64 x.F, .int .i64 x.T, .slice x.A x.n x.c] 46)
        have hbB := heap_alloc_new wr (.cells #[.int .i64 (x.N : Int), .int .i64 x.F, .int .i64 x.T, .slice x.A x.n x.c] 46)
        have tc := (HI.out.2.2.2.2.block tb HC.out.2 (fun e => hSt e.symm))
        have ct : wr.cell? ⟨tb, 0, none⟩ = some (.int .i64 to) := (World.cell?_of_block (a := ⟨tb, 0, none⟩) tc).trans HC.out.1
        have htw : tb < wr.heap.size := Nat.lt_of_lt_of_le HC.out.2 HI.out.2.2.2.2.size
        have hSw := HI.out.2.2.2.1.lt
        have HT := Lib.hid (And.intro ((XB.cell (p := ⟨tb, 0, none⟩) htw).trans ct) (Nat.lt_of_lt_of_le htw XB.size))
        have H1 := Lib.hid (And.intro (HI.out.2.2.2.1.ext XB) (And.intro (HI.out.2.2.2.2.trans (Fr.of_ext XB _) (fun _ _ e => e)) hbB))
        clear hx hzx hz XB hbB tc ct htw
        go_upto_region 8 with (fail)
        clear e0 e1 e2 e3 hj4
        generalize wr.alloc (.cells #[.int .i64 (x.N : Int), .int .i64 x.F, .int .i64 x.T, .slice x.A x.n x.c] 46) = V at *
        generalize wr.heap.size = xb at *
        have d0 : V.cell? ⟨xb, 0, none⟩ = some (.int .i64 (x.N : Int)) := block_cell H1.out.2.2 0
        have d1 : V.cell? ⟨xb, 1, none⟩ = some (.int .i64 x.F) := block_cell H1.out.2.2 1
        have d2 : V.cell? ⟨xb, 2, none⟩ = some (.int .i64 x.T) := block_cell H1.out.2.2 2
        have d3 : V.cell? ⟨xb, 3, none⟩ = some (.slice x.A x.n x.c) := block_cell H1.out.2.2 3
        obtain ⟨b, hb⟩ : ∃ b, decide (x.T = to) = b := ⟨_, rfl⟩
        have HB := Lib.hid hb
        have C := lose1_any x HT.out.1 HT.out.2 b HB
        unfold LetV.val at C
        have C := Lib.hid C
        clear hb
        go_wp2_with fail
        refine C.out.mono ?_
        rintro e w2 ⟨rfl, x2⟩
        have H2 := Lib.hid (And.intro (H1.out.1.ext x2) (And.intro (H1.out.2.1.trans (Fr.of_ext x2 _) (fun _ _ e => e)) ((x2.block xb (block_lt H1.out.2.2)).trans H1.out.2.2)))
        clear x2 C d0 d1 d2 d3
        cases b with
        | true =>
          have hT : x.T = to := by simpa using HB.out
          have HQ := Lib.hid (show keepL (ls.take (j + 1)) to = keepL (ls.take j) to by rw [HX.out.1, if_pos hT, List.append_nil])
          clear hT
          go_wp2_with fail
          go_roundw
          case rel => exact ⟨i, j + 1, zs, rfl, by go_num, by omega, by omega, HI.out.1, by rw [HQ.out]; exact HI.out.2.1, fun q hq => HI.out.2.2.1 q (by omega), H2.out.1, H2.out.2.1⟩
          case measure => simp [intOf]; omega
        | false =>
          have hT : x.T ≠ to := by simpa using HB.out
          have HQ := Lib.hid (show keepL (ls.take (j + 1)) to = keepL (ls.take j) to ++ [x] by rw [HX.out.1, if_neg hT])
          obtain ⟨i4, hi4⟩ : ∃ i4, i * 4 = i4 := ⟨_, rfl⟩
          obtain ⟨S', eS, e0, e1, e2, e3⟩ := own_lcell H2.out.1 HX.out.2.2 hi4
          injection eS with eS
          injection eS with eS
          subst eS
          have d0 : w2.cell? ⟨xb, 0, none⟩ = some (.int .i64 (x.N : Int)) := block_cell H2.out.2.2 0
          have d1 : w2.cell? ⟨xb, 1, none⟩ = some (.int .i64 x.F) := block_cell H2.out.2.2 1
          have d2 : w2.cell? ⟨xb, 2, none⟩ = some (.int .i64 x.T) := block_cell H2.out.2.2 2
          have d3 : w2.cell? ⟨xb, 3, none⟩ = some (.slice x.A x.n x.c) := block_cell H2.out.2.2 3
          have f0 : w2.frozen? ⟨S, i4, none⟩ = false := H2.out.1.frozenAt _
          have f1 : w2.frozen? ⟨S, i4 + 1, none⟩ = false := H2.out.1.frozenAt _
          have f2 : w2.frozen? ⟨S, i4 + 2, none⟩ = false := H2.out.1.frozenAt _
          have f3 : w2.frozen? ⟨S, i4 + 3, none⟩ = false := H2.out.1.frozenAt _
          have O := (((H2.out.1.stored i4 (.int .i64 (x.N : Int))).stored (i4 + 1) (.int .i64 x.F)).stored (i4 + 2) (.int .i64 x.T)).stored (i4 + 3) (.slice x.A x.n x.c)
          rw [put_rows HX.out.2.2 hi4 x] at O
          have F := H2.out.2.1.trans (((((Fr.store w2 ⟨S, i4, none⟩ (.int .i64 (x.N : Int))).trans (Fr.store _ ⟨S, i4 + 1, none⟩ (.int .i64 x.F)) (fun _ _ e => e)).trans (Fr.store _ ⟨S, i4 + 2, none⟩ (.int .i64 x.T)) (fun _ _ e => e)).trans (Fr.store _ ⟨S, i4 + 3, none⟩ (.slice x.A x.n x.c)) (fun _ _ e => e))) (fun _ _ e => e)
          have H3 := Lib.hid (And.intro O F)
          clear O F hT
          go_wp2_with fail
          go_roundw
          case rel => exact ⟨i + 1, j + 1, zs.set i x, by go_num, by go_num, by omega, by omega, by rw [List.length_set]; exact HI.out.1, (by
            rw [HQ.out, ← HI.out.2.1, take_succ' (show (zs.set i x)[i]? = some x from List.getElem?_set_self (by have := HI.out.1; omega)), List.take_set_of_le (Nat.le_refl i)]), fun q hq => (by rw [List.getElem?_set_ne (by omega)]; exact HI.out.2.2.1 q (by omega)), H3.out.1, H3.out.2⟩
          case measure => simp [intOf]; omega
      · obtain rfl : m = j := by omega
        have hfull : ls.take m = ls := List.take_of_length_le (by have := HL.out; omega)
        have hI := HI.out
        rw [hfull] at hI
        obtain ⟨i4, hi4⟩ : ∃ i4, i * 4 = i4 := ⟨_, rfl⟩
        obtain ⟨w9, hcl, o9, f9⟩ := clear_tail hI.2.2.2.1 hij hi4
        have hcap : m ≤ c := hI.2.2.2.1.cap_le
        have hX : (if c = i then some (⟨S, 0, none⟩ : Addr) else (some (⟨S, 0, none⟩ : Addr)).map (·.add (i * 4))) = some ⟨S, i4, none⟩ := by
          rw [if_neg (by omega), hi4]
          show some ((⟨S, 0, none⟩ : Addr).add i4) = _
          unfold Addr.add
          split
          · rename_i e; rw [e]
          · simp
        have hsl : ∀ w, (Instr.slice 49 (.slice (some ⟨S, 0, none⟩) m c) (some (.int .i64 (i : Int))) none none).run Tryd.prog w = .ok (.slice (some ⟨S, i4, none⟩) (m - i) (c - i)) w := fun w => run_slice_at (P := Tryd.prog) eltLet (some ⟨S, 0, none⟩) m c .i64 i (by omega) hX w
        have y0 : (0 : Int) ≤ i := by omega
        have hic : i ≤ c := by omega
        have e9 : (lrows zs).flatten.take (i * 4) = (lrows (keepL ls to)).flatten := by
          rw [(lrows_even zs).take i, ← hI.2.1]
          simp [lrows, List.map_take]
        rw [e9] at o9
        have hlen : i = (keepL ls to).length := by rw [← hI.2.1, List.length_take, hI.1]; omega
        have H9 := Lib.hid (And.intro hlen (And.intro o9 ((hI.2.2.2.2.trans f9 (fun _ _ e => e)).mono (fun b _ e => (show (some (⟨S, 0, none⟩ : Addr)).map (·.block) = some b from by rw [e]; rfl)))))
        clear o9 f9 e9 hlen hI hX hfull HI hi4
        go_wp2_with fail
        exact hPost.out _ i H9.out.1 H9.out.2.1 H9.out.2.2
end
end Go.Proofs.YteaainepnelehaaDoor
