/-
  Package net: Lose, walked.
-/
import Derived.Test.YteaainepnelehaaDoorNtLose
namespace Go.Proofs.YteaainepnelehaaDoor
set_option maxRecDepth 100000
open Go.RowKit
set_option linter.unusedVariables false
theorem rising_pair {ls : List LetV} : Rising ls ↔ ls.Pairwise (fun x y => x.N < y.N) := by
  rw [List.pairwise_iff_getElem]
  constructor
  · intro h i j hi hj hij
    exact h i j _ _ hij (List.getElem?_eq_getElem hi) (List.getElem?_eq_getElem hj)
  · intro h i j x y hij hx hy
    obtain ⟨hi, rfl⟩ := List.getElem?_eq_some_iff.1 hx
    obtain ⟨hj, rfl⟩ := List.getElem?_eq_some_iff.1 hy
    exact h i j hi hj hij
theorem keepL_rising {ls : List LetV} (h : Rising ls) (to : Int) : Rising (keepL ls to) := rising_pair.2 ((rising_pair.1 h).sublist List.filter_sublist)
theorem keepL_mem {ls : List LetV} {to : Int} {x : LetV} (h : x ∈ keepL ls to) : x ∈ ls := (List.mem_filter.1 h).1
section
variable {w w' : World} {g m c last : Nat} {A : Option Addr} {ls : List LetV}
set_option maxHeartbeats 3200000 in
theorem nlose_ (h : NetS w g A m c ls last) (to : Int) {Post : Ending → World → Prop}
    (hPost : Hid (∀ w' q, q = (keepL ls to).length → NetS w' g A q c (keepL ls to) last → Fr w w' (fun b => b = g ∨ A.map (·.block) = some b) → Post (.returned (.int .i64 ((m : Int) - (q : Int)))) w')) :
    Calls Tryd.prog 19 #[.pointer (some ⟨g, 0, none⟩), .int .i64 to] w Post := by
  have X0 := (Ext.refl w).alloc (.cells #[.int .i64 to] 3)
  have hb0 := heap_alloc_new w (.cells #[.int .i64 to] 3)
  have h0 := h.ex X0
  have hfew := h.few
  have hAl : ∀ a, A = some a → a.block ≠ w.heap.size := fun a ha e => by have := h.own.lt_at ha; omega
  have hgl := h.lt
  have HW := Lib.hid (And.intro h (And.intro h0 (And.intro X0 hb0)))
  have c0 := h0.c0
  obtain ⟨tb, htb⟩ : ∃ tb, w.heap.size = tb := ⟨_, rfl⟩
  rw [htb] at hAl hgl
  have HTB := Lib.hid htb
  have D := ldelf_ (tb := tb) (to := to) h0.own h0.few (by rw [← htb]; exact block_cell hb0 0) (by rw [← htb]; exact block_lt hb0) hAl (Post := fun e w' => ∃ q, e = .returned (.slice A q c) ∧ q = (keepL ls to).length ∧ Own w' (g + 1) 46 4 A q c (lrows (keepL ls to)).flatten ∧ Fr (w.alloc (.cells #[.int .i64 to] 3)) w' (fun b => A.map (·.block) = some b)) (Lib.hid fun w' q h1 h2 h3 => ⟨q, rfl, h1, h2, h3⟩)
  unfold loseF at D
  have D := Lib.hid D
  clear h h0 X0 hb0
  go_enter Tryd.func19, Tryd.ntmps19
  go_wp2_with fail
  refine D.out.mono ?_
  rintro e w1 ⟨q, rfl, hq, o1, f1⟩
  have hgA : ¬ A.map (·.block) = some g := fun e => by
    obtain ⟨a, ha, hab⟩ := Option.map_eq_some_iff.1 e
    exact HW.out.1.ag a ha hab
  have bg1 := (f1.block g (block_lt HW.out.2.1.blk) hgA).trans HW.out.2.1.blk
  have s1 : w1.cell? ⟨g, 0, none⟩ = some (.slice A m c) := block_cell bg1 0
  have s2 := block_fz bg1 0
  have fs := Fr.store w1 ⟨g, 0, none⟩ (.slice A q c)
  have bg2 : (w1.setCell ⟨g, 0, none⟩ (.slice A q c)).heap[g]? = some (.cells #[.slice A q c, .int .i64 (last : Int)] 51 (0, 0)) := heap_setCell_same w1 g 0 _ _ _ bg1
  have FW : Fr w (w1.setCell ⟨g, 0, none⟩ (.slice A q c)) (fun b => b = g ∨ A.map (·.block) = some b) := ((Fr.of_ext HW.out.2.2.1 _).trans (f1.mono (fun _ _ e => .inr e)) (fun _ _ e => e)).trans fs (fun _ _ e => .inl e)
  have hqm : q ≤ m := by have h1 := keepL_le ls to; have h2 := HW.out.1.len; omega
  have NS : NetS (w1.setCell ⟨g, 0, none⟩ (.slice A q c)) g A q c (keepL ls to) last :=
    ⟨bg2, fs.own o1 (fun a ha e => HW.out.1.ag a ha e), keepL_rising HW.out.1.ris to, fun x hx => HW.out.1.top x (keepL_mem hx), fun x hx => by
      obtain ⟨b1, b2, b3, b4⟩ := HW.out.1.byt x (keepL_mem hx)
      exact ⟨rd0 FW b1 (fun h0 a ha e => by
        have h1 := b4 h0 a ha
        rcases e with e | e
        · exact h1.1 e
        · exact h1.2 e), b2, b3, b4⟩, by omega, HW.out.1.low⟩
  have RES := Lib.hid (And.intro NS (And.intro FW hq))
  have wr1 : IntKind.i64.wrap ((m : Int) - (q : Int)) = (m : Int) - (q : Int) := by rw [IntKind.wrap_i64]; omega
  have sB : (w1.setCell ⟨g, 0, none⟩ (.slice A q c)).cell? ⟨g, 0, none⟩ = some (.slice A q c) := block_cell bg2 0
  clear hq o1 f1 hgA bg1 fs bg2 FW NS D c0
  go_wp2_with fail
  exact hPost.out _ q RES.out.2.2 RES.out.1 RES.out.2.1
end
end Go.Proofs.YteaainepnelehaaDoor
