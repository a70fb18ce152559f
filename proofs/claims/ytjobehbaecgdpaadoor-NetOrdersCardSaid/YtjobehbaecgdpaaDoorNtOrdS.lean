/-
  A net and the numbers that wait beside it: what a round of the statement NetOrders keeps.
-/
import Derived.Test.YtjobehbaecgdpaaDoorNtAlive
import Derived.Test.YtjobehbaecgdpaaDoorNtScript
import Derived.Test.YtjobehbaecgdpaaDoorSameInts
namespace Go.Proofs.YtjobehbaecgdpaaDoor
set_option maxRecDepth 100000
open Go.RowKit
set_option linter.unusedVariables false
structure NO (w wr : World) (g : Nat) (A : Option Addr) (m c : Nat) (ls : List LetV) (last : Nat) (B : Option Addr) (d : Nat) : Prop where
  net : NetS wr g A m c ls last
  wts : Own wr w.heap.size 3 1 B m d (ints (nums ls))
  ext : Ext w wr
  hg : w.heap.size ≤ g
  bg : ∀ b, B = some b → b.block ≠ g
  ba : ∀ a b, A = some a → B = some b → a.block ≠ b.block
  bb : ∀ x ∈ ls, 0 < x.n → ∀ a b, x.A = some a → B = some b → a.block ≠ b.block
section
variable {w wr w' : World} {g m c last d : Nat} {A B : Option Addr} {ls : List LetV}
theorem NO.ex (h : NO w wr g A m c ls last B d) (hx : Ext wr w') : NO w w' g A m c ls last B d := ⟨h.net.ex hx, h.wts.ext hx, h.ext.trans hx, h.hg, h.bg, h.ba, h.bb⟩
theorem ext_fr {w1 : World} (h : NO w wr g A m c ls last B d) (hf : Fr wr w1 (fun b => b = g ∨ A.map (·.block) = some b)) : Ext w w1 := Fr.ext h.ext hf (fun i hi => by
  have := h.hg
  rcases hi with hi | hi
  · omega
  · obtain ⟨q, hq, rfl⟩ := Option.map_eq_some_iff.1 hi
    have := h.net.own.base_le q.block (by rw [hq]; rfl)
    omega)
/-- One letter more. -/
theorem NO.push {w1 wq w2 : World} {F T : Int} {n d2 : Nat} {l : List Nat} {B2 : Option Addr} (h : NO w wr g A m c ls last B d) (hp : PutS wr w1 g A m last ls F T n l) (xq : Ext w1 wq)
    (o2 : Own w2 w.heap.size 3 1 B2 (m + 1) d2 (ints (nums ls) ++ ints [(last : Int) + 1])) (g2 : Grows wq w2 B) (hB2 : B2 = B ∨ B2 = some ⟨wq.heap.size, 0, none⟩) :
    ∃ A' c' ls', NO w w2 g A' (m + 1) c' ls' (last + 1) B2 d2 := by
  obtain ⟨⟨A', c', x, h1, hN, _, _, _, _, hA', hxA⟩, f1⟩ := hp
  have z1 := f1.size
  have zq := xq.size
  have hBl : ∀ b, B = some b → b.block < wr.heap.size := fun b hb => h.wts.lt_at hb
  have hgl := h.net.lt
  have hAl : ∀ a, A = some a → a.block < wr.heap.size := fun a ha => h.net.own.lt_at ha
  have hA2 : ∀ a, A' = some a → (∃ a0, A = some a0 ∧ a0.block = a.block) ∨ wr.heap.size ≤ a.block := fun a ha => (hA' a ha).imp (fun e => Option.map_eq_some_iff.1 e) id
  have aB : ∀ a b, A' = some a → B = some b → a.block ≠ b.block := fun a b ha hb => by
    rcases hA2 a ha with ⟨a0, e1, e2⟩ | e
    · rw [← e2]; exact h.ba a0 b e1 hb
    · have := hBl b hb; omega
  have h1l : ∀ a, A' = some a → a.block < w1.heap.size := fun a ha => h1.own.lt_at ha
  have xl : ∀ z ∈ ls ++ [x], 0 < z.n → ∀ a, z.A = some a → a.block < w1.heap.size := fun z hz h0 a ha => by
    obtain ⟨ad, e, hlt, _⟩ := (h1.byt z hz).1.2 h0
    rw [ha] at e
    injection e with e
    subst e
    exact hlt
  have zB : ∀ z ∈ ls ++ [x], 0 < z.n → ∀ a b, z.A = some a → B = some b → a.block ≠ b.block := fun z hz h0 a b ha hb => by
    rcases List.mem_append.1 hz with hz | hz
    · exact h.bb z hz h0 a b ha hb
    · simp at hz; subst hz; have := hxA a ha; have := hBl b hb; omega
  have fg := Fr.grows g2
  refine ⟨A', c', ls ++ [x], (h1.ex xq).fr fg (fun e => ?_) (fun a ha e => ?_) (fun z hz h0 a ha e => ?_), ?_, ?_, h.hg, fun b hb => ?_, fun a b ha hb => ?_, fun z hz h0 a b ha hb => ?_⟩
  · obtain ⟨b, hb, e⟩ := Option.map_eq_some_iff.1 e; exact h.bg b hb e
  · obtain ⟨b, hb, e⟩ := Option.map_eq_some_iff.1 e; exact aB a b ha hb e.symm
  · obtain ⟨b, hb, e⟩ := Option.map_eq_some_iff.1 e; exact zB z hz h0 a b ha hb e.symm
  · have e : ints (nums (ls ++ [x])) = ints (nums ls) ++ ints [(last : Int) + 1] := by
      simp only [nums, ints, List.map_append, List.map_cons, List.map_nil, hN]
      rfl
    rw [e]
    exact o2
  · exact Fr.ext ((ext_fr h f1).trans xq) fg (fun i hi => by
      obtain ⟨q, hq, rfl⟩ := Option.map_eq_some_iff.1 hi
      exact h.wts.base_le q.block (by rw [hq]; rfl))
  · rcases hB2 with e | e
    · exact h.bg b (by rw [← e]; exact hb)
    · rw [hb] at e; injection e with e; rw [e]; show wq.heap.size ≠ g; omega
  · rcases hB2 with e | e
    · exact aB a b ha (by rw [← e]; exact hb)
    · rw [hb] at e; injection e with e; rw [e]; have := h1l a ha; show a.block ≠ wq.heap.size; omega
  · rcases hB2 with e | e
    · exact zB z hz h0 a b ha (by rw [← e]; exact hb)
    · rw [hb] at e; injection e with e; rw [e]; have := xl z hz h0 a ha; show a.block ≠ wq.heap.size; omega
/-- A letter less. -/
theorem NO.pop {w1 w2 : World} {k d2 b0 : Nat} {B2 : Option Addr} (h : NO w wr g A m c ls last B d) (h1 : NetS w1 g A (m - 1) c (ls.eraseIdx k) last) (f1 : Fr wr w1 (fun b => b = g ∨ A.map (·.block) = some b)) (x2 : Ext w1 w2)
    (o2 : Own w2 b0 3 1 B2 (m - 1) d2 (ints (nums (ls.eraseIdx k)))) (hb0 : w1.heap.size ≤ b0) : NO w w2 g A (m - 1) c (ls.eraseIdx k) last B2 d2 := by
  have z1 := f1.size
  have z0 := h.ext.size
  have hbl : ∀ b, B2 = some b → w1.heap.size ≤ b.block := fun b hb => Nat.le_trans hb0 (o2.base_le b.block (by rw [hb]; rfl))
  refine ⟨h1.ex x2, o2.base_mono (by omega), (ext_fr h f1).trans x2, h.hg, fun b hb => ?_, fun a b ha hb => ?_, fun z hz h0 a b ha hb => ?_⟩
  · have := hbl b hb; have := h.net.lt; omega
  · have := hbl b hb; have := h.net.own.lt_at ha; omega
  · have := hbl b hb
    obtain ⟨ad, e, hlt, _⟩ := (h1.byt z hz).1.2 h0
    rw [ha] at e
    injection e with e
    subst e
    omega
theorem NO.len (h : NO w wr g A m c ls last B d) : ls.length = m := h.net.len
theorem nums_len (ls : List LetV) : (nums ls).length = ls.length := by simp [nums]
theorem nums_erase (ls : List LetV) (k : Nat) : nums (ls.eraseIdx k) = (nums ls).take k ++ (nums ls).drop (k + 1) := by
  rw [List.eraseIdx_eq_take_drop_succ]
  simp [nums, List.map_take, List.map_drop]
theorem nums_at {ls : List LetV} {k : Nat} {x : LetV} (h : ls[k]? = some x) : (nums ls)[k]? = some (x.N : Int) := by simp [nums, h]
theorem ints_take (l : List Int) (k : Nat) : ints (l.take k) = (ints l).take k := by simp [ints, List.map_take]
theorem ints_drop (l : List Int) (k : Nat) : ints (l.drop k) = (ints l).drop k := by simp [ints, List.map_drop]
theorem ints_app (l m : List Int) : ints (l ++ m) = ints l ++ ints m := by simp [ints]
end
end Go.Proofs.YtjobehbaecgdpaaDoor
