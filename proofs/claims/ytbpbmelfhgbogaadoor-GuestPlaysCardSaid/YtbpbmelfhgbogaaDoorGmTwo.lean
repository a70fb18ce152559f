/-
  Package almonerlaw15: two guests and the document's two guests in memory.
-/
import Derived.Test.YtbpbmelfhgbogaaDoorGmAsks
import Derived.Test.YtbpbmelfhgbogaaDoorGsAlive
import Derived.Test.YtbpbmelfhgbogaaDoorGsOpen
namespace Go.Proofs.YtbpbmelfhgbogaaDoor
set_option maxRecDepth 100000
open Go.RowKit
set_option linter.unusedVariables false
def upd {α : Type} (f : Nat → α) (i : Nat) (x : α) : Nat → α := fun j => if j = i then x else f j
theorem upd_same {α : Type} (f : Nat → α) (i : Nat) (x : α) : upd f i x i = x := if_pos rfl
theorem upd_other {α : Type} (f : Nat → α) {i j : Nat} (x : α) (h : j ≠ i) : upd f i x j = f j := if_neg h
def ptrV (K : Nat) (gg : Nat → Nat) (i : Nat) : Value := .pointer (if i < K then some ⟨gg i, 0, none⟩ else none)
theorem ptrV_lt {K : Nat} {gg : Nat → Nat} {i : Nat} (h : i < K) : ptrV K gg i = .pointer (some ⟨gg i, 0, none⟩) := by unfold ptrV; rw [if_pos h]
/-- The guests of the script. -/
structure PS (w wr : World) (K gb mb xb : Nat) (gg mm : Nat → Nat) (F M : Nat → Nat → Prop) (p : Int) (gk : Nat → List TkV) (gj : Nat → List JobV) (hk : Nat → List TkV) (hj : Nat → List JobV) (A B : Option Addr) (n c m e : Nat) : Prop where
  gp : ∀ i, i < K → GP wr (gg i) (F i) p (gk i) (gj i)
  mp : ∀ i, i < K → MP wr (mm i) (M i) p (hk i) (hj i)
  gbx : wr.heap[gb]? = some (.cells #[ptrV K gg 0, ptrV K gg 1] 51 (0, 0))
  mbx : wr.heap[mb]? = some (.cells #[ptrV K mm 0, ptrV K mm 1] 53 (0, 0))
  xbx : wr.heap[xb]? = some (.cells #[.int .i64 p, .slice A n c, .slice B m e] 25 (0, 0))
  ext : Ext w wr
  lo : ∀ i b, i < K → F i b ∨ M i b → w.heap.size ≤ b ∧ b ≠ gb ∧ b ≠ mb ∧ b ≠ xb
  gm : ∀ i j b, i < K → j < K → F i b → ¬ M j b
  ggd : ∀ i j b, i < K → j < K → i ≠ j → F i b → ¬ F j b
  mmd : ∀ i j b, i < K → j < K → i ≠ j → M i b → ¬ M j b
section
variable {w wr w' : World} {K gb mb xb : Nat} {gg mm : Nat → Nat} {F M : Nat → Nat → Prop} {p : Int} {gk hk : Nat → List TkV} {gj hj : Nat → List JobV} {A B : Option Addr} {n c m e : Nat}
theorem PS.ex (h : PS w wr K gb mb xb gg mm F M p gk gj hk hj A B n c m e) (hx : Ext wr w') : PS w w' K gb mb xb gg mm F M p gk gj hk hj A B n c m e :=
  ⟨fun i hi => (h.gp i hi).ext hx, fun i hi => (h.mp i hi).ext hx, (hx.block _ (block_lt h.gbx)).trans h.gbx, (hx.block _ (block_lt h.mbx)).trans h.mbx, (hx.block _ (block_lt h.xbx)).trans h.xbx, h.ext.trans hx, h.lo, h.gm, h.ggd, h.mmd⟩
theorem PS.gcell (h : PS w wr K gb mb xb gg mm F M p gk gj hk hj A B n c m e) {k : Nat} (hk2 : k < 2) (hK : k < K) : wr.cell? ⟨gb, k, none⟩ = some (.pointer (some ⟨gg k, 0, none⟩)) := by
  rw [← ptrV_lt (K := K) (gg := gg) hK]
  obtain rfl | rfl : k = 0 ∨ k = 1 := by omega
  · exact block_cell h.gbx 0
  · exact block_cell h.gbx 1
theorem PS.mcell (h : PS w wr K gb mb xb gg mm F M p gk gj hk hj A B n c m e) {k : Nat} (hk2 : k < 2) (hK : k < K) : wr.cell? ⟨mb, k, none⟩ = some (.pointer (some ⟨mm k, 0, none⟩)) := by
  rw [← ptrV_lt (K := K) (gg := mm) hK]
  obtain rfl | rfl : k = 0 ∨ k = 1 := by omega
  · exact block_cell h.mbx 0
  · exact block_cell h.mbx 1
/-- A guest has turned. -/
theorem PS.step_g (h : PS w wr K gb mb xb gg mm F M p gk gj hk hj A B n c m e) {i : Nat} (hi : i < K) {F' : Nat → Prop} {ks' : List TkV} {js' : List JobV} (hn : Next_ wr w' (gg i) (F i) F' p ks' js') :
    PS w w' K gb mb xb gg mm (upd F i F') M p (upd gk i ks') (upd gj i js') hk hj A B n c m e := by
  have out : ∀ j b, j < K → upd F i F' j b → (j ≠ i ∧ F j b) ∨ (j = i ∧ (F i b ∨ wr.heap.size ≤ b)) := fun j b hj hb => by
    by_cases ej : j = i
    · subst ej; rw [upd_same] at hb; exact .inr ⟨rfl, hn.fo b hb⟩
    · rw [upd_other _ _ ej] at hb; exact .inl ⟨ej, hb⟩
  have hz := h.ext.size
  refine ⟨fun j hj => ?_, fun j hj => (h.mp j hj).fr hn.fr (fun b hb hF => h.gm i j b hi hj hF hb), hn.blk h.gbx (fun e => (h.lo i gb hi (.inl e)).2.1 rfl), hn.blk h.mbx (fun e => (h.lo i mb hi (.inl e)).2.2.1 rfl), hn.blk h.xbx (fun e => (h.lo i xb hi (.inl e)).2.2.2 rfl), Fr.ext h.ext hn.fr (fun b hb => (h.lo i b hi (.inl hb)).1), fun j b hj hb => ?_, fun j l b hj hl hF hM => ?_, fun j l b hj hl hne h1 h2 => ?_, h.mmd⟩
  · by_cases ej : j = i
    · subst ej; rw [upd_same, upd_same, upd_same]; exact hn.gp
    · rw [upd_other _ _ ej, upd_other _ _ ej, upd_other _ _ ej]
      exact (h.gp j hj).fr hn.fr (fun b hb hF => h.ggd i j b hi hj (fun e => ej e.symm) hF hb)
  · rcases hb with hb | hb
    · rcases out j b hj hb with ⟨_, h1⟩ | ⟨_, h1 | h1⟩
      · exact h.lo j b hj (.inl h1)
      · exact h.lo i b hi (.inl h1)
      · have g1 := block_lt h.gbx
        have g2 := block_lt h.mbx
        have g3 := block_lt h.xbx
        omega
    · exact h.lo j b hj (.inr hb)
  · rcases out j b hj hF with ⟨_, h1⟩ | ⟨_, h1 | h1⟩
    · exact h.gm j l b hj hl h1 hM
    · exact h.gm i l b hi hl h1 hM
    · have := (h.mp l hl).lt b hM; omega
  · rcases out j b hj h1 with ⟨a1, b1⟩ | ⟨a1, b1⟩ <;> rcases out l b hl h2 with ⟨a2, b2⟩ | ⟨a2, b2⟩
    · exact h.ggd j l b hj hl hne b1 b2
    · rcases b2 with b2 | b2
      · exact h.ggd j i b hj hi a1 b1 b2
      · have := (h.gp j hj).lt b b1; omega
    · rcases b1 with b1 | b1
      · exact h.ggd l i b hl hi a2 b2 b1
      · have := (h.gp l hl).lt b b2; omega
    · exact hne (a1.trans a2.symm)
/-- A guest of the document has turned. -/
theorem PS.step_m (h : PS w wr K gb mb xb gg mm F M p gk gj hk hj A B n c m e) {i : Nat} (hi : i < K) {F' : Nat → Prop} {ks' : List TkV} {js' : List JobV} (hn : MNext wr w' (mm i) (M i) F' p ks' js') :
    PS w w' K gb mb xb gg mm F (upd M i F') p gk gj (upd hk i ks') (upd hj i js') A B n c m e := by
  have out : ∀ j b, j < K → upd M i F' j b → (j ≠ i ∧ M j b) ∨ (j = i ∧ (M i b ∨ wr.heap.size ≤ b)) := fun j b hj hb => by
    by_cases ej : j = i
    · subst ej; rw [upd_same] at hb; exact .inr ⟨rfl, hn.fo b hb⟩
    · rw [upd_other _ _ ej] at hb; exact .inl ⟨ej, hb⟩
  have hz := h.ext.size
  refine ⟨fun j hj => (h.gp j hj).fr hn.fr (fun b hb hM => h.gm j i b hj hi hb hM), fun j hj => ?_, hn.blk h.gbx (fun e => (h.lo i gb hi (.inr e)).2.1 rfl), hn.blk h.mbx (fun e => (h.lo i mb hi (.inr e)).2.2.1 rfl), hn.blk h.xbx (fun e => (h.lo i xb hi (.inr e)).2.2.2 rfl), Fr.ext h.ext hn.fr (fun b hb => (h.lo i b hi (.inr hb)).1), fun j b hj hb => ?_, fun j l b hj hl hF hM => ?_, h.ggd, fun j l b hj hl hne h1 h2 => ?_⟩
  · by_cases ej : j = i
    · subst ej; rw [upd_same, upd_same, upd_same]; exact hn.mp
    · rw [upd_other _ _ ej, upd_other _ _ ej, upd_other _ _ ej]
      exact (h.mp j hj).fr hn.fr (fun b hb hF => h.mmd i j b hi hj (fun e => ej e.symm) hF hb)
  · rcases hb with hb | hb
    · exact h.lo j b hj (.inl hb)
    · rcases out j b hj hb with ⟨_, h1⟩ | ⟨_, h1 | h1⟩
      · exact h.lo j b hj (.inr h1)
      · exact h.lo i b hi (.inr h1)
      · have g1 := block_lt h.gbx
        have g2 := block_lt h.mbx
        have g3 := block_lt h.xbx
        omega
  · rcases out l b hl hM with ⟨_, h1⟩ | ⟨_, h1 | h1⟩
    · exact h.gm j l b hj hl hF h1
    · exact h.gm j i b hj hi hF h1
    · have := (h.gp j hj).lt b hF; omega
  · rcases out j b hj h1 with ⟨a1, b1⟩ | ⟨a1, b1⟩ <;> rcases out l b hl h2 with ⟨a2, b2⟩ | ⟨a2, b2⟩
    · exact h.mmd j l b hj hl hne b1 b2
    · rcases b2 with b2 | b2
      · exact h.mmd j i b hj hi a1 b1 b2
      · have := (h.mp j hj).lt b b1; omega
    · rcases b1 with b1 | b1
      · exact h.mmd l i b hl hi a2 b2 b1
      · have := (h.mp l hl).lt b b2; omega
    · exact hne (a1.trans a2.symm)
/-- No guest yet. -/
theorem PS.zero {V : World} (hg : V.heap[gb]? = some (.cells #[.pointer none, .pointer none] 51 (0, 0))) (hm : V.heap[mb]? = some (.cells #[.pointer none, .pointer none] 53 (0, 0)))
    (hx : V.heap[xb]? = some (.cells #[.int .i64 p, .slice A n c, .slice B m e] 25 (0, 0))) (h : Ext w V) :
    PS w V 0 gb mb xb (fun _ => 0) (fun _ => 0) (fun _ _ => False) (fun _ _ => False) p gk gj hk hj A B n c m e :=
  ⟨fun i hi => absurd hi (by omega), fun i hi => absurd hi (by omega), hg, hm, hx, h, fun i b hi => absurd hi (by omega), fun i j b hi => absurd hi (by omega), fun i j b hi => absurd hi (by omega), fun i j b hi => absurd hi (by omega)⟩
/-- One pair of guests more. -/
theorem PS.more {ts : List TaskV} (h : PS w wr K gb mb xb gg mm F M p (fun _ => fresh ts) (fun _ => []) (fun _ => fresh ts) (fun _ => []) A B n c m e) (hK : K < 2) (hgm : gb ≠ mb) (hwg : w.heap.size ≤ gb) (hwm : w.heap.size ≤ mb) (hgx : gb ≠ xb) (hmx : mb ≠ xb) {V : World} {g q : Nat} {G N : Nat → Prop} (hx : Ext wr V)
    (hg : GP V g G p (fresh ts) []) (hG : ∀ b, G b → wr.heap.size ≤ b) (hq : MP V q N p (fresh ts) []) (hN : ∀ b, N b → wr.heap.size ≤ b) (hGN : ∀ b, G b → ¬ N b) :
    PS w ((V.setCell ⟨gb, K, none⟩ (.pointer (some ⟨g, 0, none⟩))).setCell ⟨mb, K, none⟩ (.pointer (some ⟨q, 0, none⟩))) (K + 1) gb mb xb (upd gg K g) (upd mm K q) (upd F K G) (upd M K N) p (fun _ => fresh ts) (fun _ => []) (fun _ => fresh ts) (fun _ => []) A B n c m e := by
  have l1 := block_lt h.gbx
  have l2 := block_lt h.mbx
  have l3 := block_lt h.xbx
  have v1 := (hx.block _ l1).trans h.gbx
  have v2 := (hx.block _ l2).trans h.mbx
  have v3 := (hx.block _ l3).trans h.xbx
  have f1 := Fr.store V ⟨gb, K, none⟩ (.pointer (some ⟨g, 0, none⟩))
  have f2 := Fr.store (V.setCell ⟨gb, K, none⟩ (.pointer (some ⟨g, 0, none⟩))) ⟨mb, K, none⟩ (.pointer (some ⟨q, 0, none⟩))
  have ff : Fr V ((V.setCell ⟨gb, K, none⟩ (.pointer (some ⟨g, 0, none⟩))).setCell ⟨mb, K, none⟩ (.pointer (some ⟨q, 0, none⟩))) (fun b => b = gb ∨ b = mb) := (f1.mono (fun i _ e => .inl e)).trans f2 (fun i _ e => .inr e)
  have hz := h.ext.size
  have keep : ∀ b, (wr.heap.size ≤ b ∨ (∃ i, i < K ∧ (F i b ∨ M i b))) → ¬ (b = gb ∨ b = mb) := fun b hb e => by
    rcases hb with hb | ⟨i, hi, hb⟩
    · rcases e with rfl | rfl <;> omega
    · have := h.lo i b hi hb
      rcases e with e | e
      · exact this.2.1 e
      · exact this.2.2.1 e
  have pp : ∀ (f : Nat → Nat) (x i : Nat), ptrV (K + 1) (upd f K x) i = if i = K then .pointer (some ⟨x, 0, none⟩) else ptrV K f i := fun f x i => by
    unfold ptrV
    by_cases e : i = K
    · subst e; rw [if_pos (by omega), if_pos rfl, upd_same]
    · rw [if_neg e, upd_other _ _ e]
      by_cases e2 : i < K
      · rw [if_pos e2, if_pos (by omega)]
      · rw [if_neg e2, if_neg (by omega)]
  have cells : ∀ (f : Nat → Nat) (x : Nat), (#[ptrV K f 0, ptrV K f 1] : Array Value).setIfInBounds K (.pointer (some ⟨x, 0, none⟩)) = #[ptrV (K + 1) (upd f K x) 0, ptrV (K + 1) (upd f K x) 1] := fun f x => by
    rw [pp, pp]
    obtain rfl | rfl : K = 0 ∨ K = 1 := by omega
    · rfl
    · rfl
  have dj : ∀ (f : Nat → Nat → Prop) (S : Nat → Prop) i b, i < K + 1 → upd f K S i b → (i < K ∧ f i b) ∨ (i = K ∧ S b) := fun f S i b hi hb => by
    by_cases e : i = K
    · subst e; rw [upd_same] at hb; exact .inr ⟨rfl, hb⟩
    · rw [upd_other _ _ e] at hb; exact .inl ⟨by omega, hb⟩
  have old : ∀ i b, i < K → (F i b ∨ M i b) → b < wr.heap.size := fun i b hi hb => by
    rcases hb with hb | hb
    · exact (h.gp i hi).lt b hb
    · exact (h.mp i hi).lt b hb
  refine ⟨fun i hi => ?_, fun i hi => ?_, ?_, ?_, (ff.block xb (Nat.lt_of_lt_of_le l3 hx.size) (by omega)).trans v3, Fr.ext (h.ext.trans hx) ff (fun b hb => by rcases hb with rfl | rfl <;> assumption), fun i b hi hb => ?_, fun i j b hi hj h1 h2 => ?_, fun i j b hi hj hne h1 h2 => ?_, fun i j b hi hj hne h1 h2 => ?_⟩
  · by_cases e : i = K
    · subst e; rw [upd_same, upd_same]; exact hg.fr ff (fun b hb => keep b (.inl (hG b hb)))
    · rw [upd_other _ _ e, upd_other _ _ e]; exact ((h.gp i (by omega)).ext hx).fr ff (fun b hb => keep b (.inr ⟨i, by omega, .inl hb⟩))
  · by_cases e : i = K
    · subst e; rw [upd_same, upd_same]; exact hq.fr ff (fun b hb => keep b (.inl (hN b hb)))
    · rw [upd_other _ _ e, upd_other _ _ e]; exact ((h.mp i (by omega)).ext hx).fr ff (fun b hb => keep b (.inr ⟨i, by omega, .inr hb⟩))
  · have h1 : (V.setCell ⟨gb, K, none⟩ (.pointer (some ⟨g, 0, none⟩))).heap[gb]? = some (.cells ((#[ptrV K gg 0, ptrV K gg 1] : Array Value).setIfInBounds K (.pointer (some ⟨g, 0, none⟩))) 51 (0, 0)) := heap_setCell_same V gb K _ _ _ v1
    rw [cells] at h1
    exact (f2.block gb (Nat.lt_of_lt_of_le l1 (Nat.le_trans hx.size f1.size)) hgm).trans h1
  · have h1 : ((V.setCell ⟨gb, K, none⟩ (.pointer (some ⟨g, 0, none⟩))).setCell ⟨mb, K, none⟩ (.pointer (some ⟨q, 0, none⟩))).heap[mb]? = some (.cells ((#[ptrV K mm 0, ptrV K mm 1] : Array Value).setIfInBounds K (.pointer (some ⟨q, 0, none⟩))) 53 (0, 0)) := heap_setCell_same (V.setCell ⟨gb, K, none⟩ (.pointer (some ⟨g, 0, none⟩))) mb K _ _ _ ((f1.block mb (Nat.lt_of_lt_of_le l2 hx.size) (fun e => hgm e.symm)).trans v2)
    rw [cells] at h1
    exact h1
  · have new : wr.heap.size ≤ b → w.heap.size ≤ b ∧ b ≠ gb ∧ b ≠ mb ∧ b ≠ xb := fun hb => by omega
    rcases hb with hb | hb
    · rcases dj _ _ i b hi hb with ⟨h1, h2⟩ | ⟨_, h2⟩
      · exact h.lo i b h1 (.inl h2)
      · exact new (hG b h2)
    · rcases dj _ _ i b hi hb with ⟨h1, h2⟩ | ⟨_, h2⟩
      · exact h.lo i b h1 (.inr h2)
      · exact new (hN b h2)
  · rcases dj _ _ i b hi h1 with ⟨a1, b1⟩ | ⟨_, b1⟩ <;> rcases dj _ _ j b hj h2 with ⟨a2, b2⟩ | ⟨_, b2⟩
    · exact h.gm i j b a1 a2 b1 b2
    · have := old i b a1 (.inl b1); have := hN b b2; omega
    · have := old j b a2 (.inr b2); have := hG b b1; omega
    · exact hGN b b1 b2
  · rcases dj _ _ i b hi h1 with ⟨a1, b1⟩ | ⟨e1, b1⟩ <;> rcases dj _ _ j b hj h2 with ⟨a2, b2⟩ | ⟨e2, b2⟩
    · exact h.ggd i j b a1 a2 hne b1 b2
    · have := old i b a1 (.inl b1); have := hG b b2; omega
    · have := old j b a2 (.inl b2); have := hG b b1; omega
    · exact hne (e1.trans e2.symm)
  · rcases dj _ _ i b hi h1 with ⟨a1, b1⟩ | ⟨e1, b1⟩ <;> rcases dj _ _ j b hj h2 with ⟨a2, b2⟩ | ⟨e2, b2⟩
    · exact h.mmd i j b a1 a2 hne b1 b2
    · have := old i b a1 (.inr b1); have := hN b b2; omega
    · have := old j b a2 (.inr b2); have := hN b b1; omega
    · exact hne (e1.trans e2.symm)
end
end Go.Proofs.YtbpbmelfhgbogaaDoor
