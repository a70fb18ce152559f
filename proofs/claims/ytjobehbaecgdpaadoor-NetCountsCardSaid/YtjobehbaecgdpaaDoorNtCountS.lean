/-
  A net, its marks and their counts in memory: what a round of the statement NetCounts keeps.
-/
import Derived.Test.YtjobehbaecgdpaaDoorNtAlive
import Derived.Test.YtjobehbaecgdpaaDoorNtScript
import Derived.Test.YtjobehbaecgdpaaDoorNtNth
import Derived.Test.YtjobehbaecgdpaaDoorNtOps3
import Derived.Test.YtjobehbaecgdpaaDoorNtCountP
namespace Go.Proofs.YtjobehbaecgdpaaDoor
set_option maxRecDepth 100000
open Go.RowKit
set_option linter.unusedVariables false
structure NA (w wr : World) (g : Nat) (A : Option Addr) (m c : Nat) (ls : List LetV) (last : Nat) (MA : Option Addr) (q mc : Nat) (marks : List Nat) (lb : Nat) (lf : List Int) : Prop where
  net : NetS wr g A m c ls last
  mks : Own wr w.heap.size 5 1 MA q mc (u8s marks)
  lft : Own wr w.heap.size 43 1 (some ⟨lb, 0, none⟩) 256 256 (ints lf)
  ext : Ext w wr
  hg : w.heap.size ≤ g
  gl : g ≠ lb
  mg : ∀ b, MA = some b → b.block ≠ g ∧ b.block ≠ lb
  al : ∀ a, A = some a → a.block ≠ lb
  am : ∀ a b, A = some a → MA = some b → a.block ≠ b.block
  xl : ∀ x ∈ ls, 0 < x.n → ∀ a, x.A = some a → a.block ≠ lb
  xm : ∀ x ∈ ls, 0 < x.n → ∀ a b, x.A = some a → MA = some b → a.block ≠ b.block
section
variable {w wr w1 w2 : World} {g m c last q mc lb : Nat} {A MA : Option Addr} {ls : List LetV} {marks : List Nat} {lf : List Int}
theorem NA.ex (h : NA w wr g A m c ls last MA q mc marks lb lf) (hx : Ext wr w1) : NA w w1 g A m c ls last MA q mc marks lb lf :=
  ⟨h.net.ex hx, h.mks.ext hx, h.lft.ext hx, h.ext.trans hx, h.hg, h.gl, h.mg, h.al, h.am, h.xl, h.xm⟩
theorem NA.alo (h : NA w wr g A m c ls last MA q mc marks lb lf) : ∀ i, (i = g ∨ A.map (·.block) = some i) → w.heap.size ≤ i := fun i hi => by
  have := h.hg
  rcases hi with hi | hi
  · omega
  · obtain ⟨a, ha, rfl⟩ := Option.map_eq_some_iff.1 hi
    have := h.net.own.base_le a.block (by rw [ha]; rfl)
    omega
/-- A letter more. -/
theorem NA.put (h : NA w wr g A m c ls last MA q mc marks lb lf) {F T : Int} {n : Nat} {l : List Nat} (hp : PutS wr w1 g A m last ls F T n l) :
    ∃ A' c' x, NA w w1 g A' (m + 1) c' (ls ++ [x]) (last + 1) MA q mc marks lb lf ∧ x.N = last + 1 ∧ x.F = F ∧ x.T = T ∧ x.n = n ∧ x.l = l := by
  obtain ⟨⟨A', c', x, h1, hN, hF, hT, hn, hl, hA', hxA⟩, f1⟩ := hp
  have hlb : lb < wr.heap.size := h.lft.lt
  have hMl : ∀ b, MA = some b → b.block < wr.heap.size := fun b hb => h.mks.lt_at hb
  have hA2 : ∀ a, A' = some a → (∃ a0, A = some a0 ∧ a0.block = a.block) ∨ wr.heap.size ≤ a.block := fun a ha => (hA' a ha).imp (fun e => Option.map_eq_some_iff.1 e) id
  refine ⟨A', c', x, ⟨h1, f1.own h.mks (fun b hb e => ?_), f1.own h.lft (fun b hb e => ?_), Fr.ext h.ext f1 h.alo, h.hg, h.gl, h.mg, fun a ha e => ?_, fun a b ha hb e => ?_, fun z hz h0 a ha e => ?_, fun z hz h0 a b ha hb e => ?_⟩, hN, hF, hT, hn, hl⟩
  · rcases e with e | e
    · exact (h.mg b hb).1 e
    · obtain ⟨a, ha, hab⟩ := Option.map_eq_some_iff.1 e; exact h.am a b ha hb hab
  · injection hb with hb
    subst hb
    rcases e with e | e
    · exact h.gl e.symm
    · obtain ⟨a, ha, hab⟩ := Option.map_eq_some_iff.1 e; exact h.al a ha hab
  · rcases hA2 a ha with ⟨a0, e1, e2⟩ | e3
    · exact h.al a0 e1 (e2.trans e)
    · omega
  · rcases hA2 a ha with ⟨a0, e1, e2⟩ | e3
    · exact h.am a0 b e1 hb (e2.trans e)
    · have := hMl b hb; omega
  · rcases List.mem_append.1 hz with hz | hz
    · exact h.xl z hz h0 a ha e
    · simp at hz; subst hz; have := hxA a ha; omega
  · rcases List.mem_append.1 hz with hz | hz
    · exact h.xm z hz h0 a b ha hb e
    · simp at hz; subst hz; have := hxA a ha; have := hMl b hb; omega
theorem ints_set (l : List Int) (b : Nat) (v : Int) : (ints l).set b (.int .i64 v) = ints (l.set b v) := by simp [ints, List.map_set]
/-- A count is written. -/
theorem NA.left (h : NA w wr g A m c ls last MA q mc marks lb lf) (b : Nat) (v : Int) : NA w (wr.setCell ⟨lb, b, none⟩ (.int .i64 v)) g A m c ls last MA q mc marks lb (lf.set b v) := by
  have f := Fr.store wr ⟨lb, b, none⟩ (.int .i64 v)
  have o := h.lft.stored b (.int .i64 v)
  rw [ints_set] at o
  exact ⟨h.net.fr f h.gl (fun a ha => h.al a ha) (fun x hx h0 a ha => h.xl x hx h0 a ha), f.own h.mks (fun b hb => (h.mg b hb).2), o, h.ext.setCell (h.lft.base_le lb rfl) _, h.hg, h.gl, h.mg, h.al, h.am, h.xl, h.xm⟩
/-- A mark more. -/
theorem NA.mark (h : NA w wr g A m c ls last MA q mc marks lb lf) (xq : Ext wr w1) {b mc2 : Nat} {MA2 : Option Addr} (o2 : Own w2 w.heap.size 5 1 MA2 (q + 1) mc2 (u8s marks ++ u8s [b])) (g2 : Grows w1 w2 MA) (hM : MA2 = MA ∨ MA2 = some ⟨w1.heap.size, 0, none⟩) :
    NA w w2 g A m c ls last MA2 (q + 1) mc2 (marks ++ [b]) lb lf := by
  have f := Fr.grows g2
  have zq := xq.size
  have hgl := h.net.lt
  have hlb : lb < wr.heap.size := h.lft.lt
  have hAl : ∀ a, A = some a → a.block < wr.heap.size := fun a ha => h.net.own.lt_at ha
  have h1 := h.ex xq
  have key : ∀ i, (∀ b, MA = some b → i ≠ b.block) → i < wr.heap.size → ∀ b, MA2 = some b → i ≠ b.block := fun i hi hl b hb => by
    rcases hM with e | e
    · exact hi b (by rw [← e]; exact hb)
    · rw [hb] at e; injection e with e; rw [e]; show i ≠ w1.heap.size; omega
  have nM : ∀ i, (∀ b, MA = some b → i ≠ b.block) → ¬ MA.map (·.block) = some i := fun i hi e => by
    obtain ⟨b, hb, hab⟩ := Option.map_eq_some_iff.1 e
    exact hi b hb hab.symm
  refine ⟨h1.net.fr f (nM g fun b hb e => (h.mg b hb).1 e.symm) (fun a ha => nM _ fun b hb => h.am a b ha hb) (fun x hx h0 a ha => nM _ fun b hb => h.xm x hx h0 a b ha hb), ?_, f.own h1.lft (fun a ha => ?_), h1.mks.fr_ext h1.ext (Nat.le_refl _) f, h.hg, h.gl, fun b hb => ⟨fun e => key g (fun b hb e => (h.mg b hb).1 e.symm) hgl b hb e.symm, fun e => key lb (fun b hb e => (h.mg b hb).2 e.symm) hlb b hb e.symm⟩, h.al, fun a b ha hb => key a.block (fun b hb => h.am a b ha hb) (hAl a ha) b hb, h.xl, fun x hx h0 a b ha hb => key a.block (fun b hb => h.xm x hx h0 a b ha hb) ?_ b hb⟩
  · have e : u8s (marks ++ [b]) = u8s marks ++ u8s [b] := by simp [u8s]
    rw [e]; exact o2
  · injection ha with ha
    subst ha
    exact nM lb fun b hb e => (h.mg b hb).2 e.symm
  · obtain ⟨ad, e, hlt, _⟩ := (h.net.byt x hx).1.2 h0
    rw [ha] at e
    injection e with e
    subst e
    exact hlt
/-- A letter less. -/
theorem NA.pop (h : NA w wr g A m c ls last MA q mc marks lb lf) {k : Nat} (h1 : NetS w1 g A (m - 1) c (ls.eraseIdx k) last) (f1 : Fr wr w1 (fun b => b = g ∨ A.map (·.block) = some b)) :
    NA w w1 g A (m - 1) c (ls.eraseIdx k) last MA q mc marks lb lf := by
  refine ⟨h1, f1.own h.mks (fun b hb e => ?_), f1.own h.lft (fun b hb e => ?_), Fr.ext h.ext f1 h.alo, h.hg, h.gl, h.mg, h.al, h.am, fun z hz => h.xl z (List.mem_of_mem_eraseIdx hz), fun z hz => h.xm z (List.mem_of_mem_eraseIdx hz)⟩
  · rcases e with e | e
    · exact (h.mg b hb).1 e
    · obtain ⟨a, ha, hab⟩ := Option.map_eq_some_iff.1 e; exact h.am a b ha hb hab
  · injection hb with hb
    subst hb
    rcases e with e | e
    · exact h.gl e.symm
    · obtain ⟨a, ha, hab⟩ := Option.map_eq_some_iff.1 e; exact h.al a ha hab
end
end Go.Proofs.YtjobehbaecgdpaaDoor
