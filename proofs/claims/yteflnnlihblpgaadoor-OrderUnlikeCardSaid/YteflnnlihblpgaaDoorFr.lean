/-
  Worlds that differ by new blocks and by writes to named blocks.
-/
import Derived.Test.YteflnnlihblpgaaDoorMem
namespace Go.Proofs.YteflnnlihblpgaaDoor
open Go.RowKit
set_option linter.unusedVariables false
theorem Own.same {w w' : World} {base n c : Nat} {e : TypeId} {size : Nat} {A : Option Addr} {xs : List Value} (h : Own w base e size A n c xs) (hs : ∀ b, base ≤ b → b < w.heap.size → w'.heap[b]? = w.heap[b]?) : Own w' base e size A n c xs := by
  refine ⟨h.1, ?_⟩
  rcases h.2 with hn | ⟨g, cap, cur, h1, hb, hgg, rest⟩
  · exact .inl hn
  · exact .inr ⟨g, cap, cur, h1, hb, (hs g hb (Array.getElem?_eq_some_iff.1 hgg).1).trans hgg, rest⟩
/-- w' is w, but for new blocks and for writes to blocks that meet P. -/
structure Fr (w w' : World) (P : Nat → Prop) : Prop where
  os : w'.os = w.os
  tape : w'.tape = w.tape
  output : w'.output = w.output
  size : w.heap.size ≤ w'.heap.size
  block : ∀ k, k < w.heap.size → ¬ P k → w'.heap[k]? = w.heap[k]?
theorem Fr.refl (w : World) (P : Nat → Prop) : Fr w w P := ⟨rfl, rfl, rfl, Nat.le_refl _, fun _ _ _ => rfl⟩
theorem Fr.trans {a b c : World} {P Q : Nat → Prop} (h : Fr a b P) (k : Fr b c Q) (hQ : ∀ i, i < a.heap.size → Q i → P i) : Fr a c P :=
  ⟨k.os.trans h.os, k.tape.trans h.tape, k.output.trans h.output, Nat.le_trans h.size k.size, fun i hi hp => (k.block i (Nat.lt_of_lt_of_le hi h.size) (fun hq => hp (hQ i hi hq))).trans (h.block i hi hp)⟩
theorem Fr.of_ext {a b : World} (h : Ext a b) (P : Nat → Prop) : Fr a b P := ⟨h.os, h.tape, h.output, h.size, fun k hk _ => h.block k hk⟩
theorem Fr.ext {a b c : World} {P : Nat → Prop} (h : Ext a b) (k : Fr b c P) (hP : ∀ i, P i → a.heap.size ≤ i) : Ext a c :=
  ⟨k.os.trans h.os, k.tape.trans h.tape, k.output.trans h.output, Nat.le_trans h.size k.size, fun i hi => (k.block i (Nat.lt_of_lt_of_le hi h.size) (fun hp => by have := hP i hp; omega)).trans (h.block i hi)⟩
theorem Fr.grows {w w' : World} {A : Option Addr} (h : Grows w w' A) : Fr w w' (fun b => A.map (·.block) = some b) := ⟨h.os, h.tape, h.output, h.size, fun k hk hp => h.block k hk (fun e => hp e.symm)⟩
theorem Fr.store (w : World) (a : Addr) (v : Value) : Fr w (w.setCell a v) (· = a.block) := ⟨rfl, rfl, rfl, by simp [World.setCell], fun k _ hp => heap_setCell_other w a k v hp⟩
theorem Fr.rd {w w' : World} {P : Nat → Prop} {size n : Nat} {A : Option Addr} {xs : List Value} (hf : Fr w w' P) (h : Rd w size A n xs) (hne : ∀ a, A = some a → ¬ P a.block) : Rd w' size A n xs :=
  ⟨h.1, fun hn => by
    obtain ⟨ad, e, hlt, hc⟩ := h.2 hn
    refine ⟨ad, e, Nat.lt_of_lt_of_le hlt hf.size, fun j u hu => (World.cell?_of_block ?_).trans (hc j u hu)⟩
    rw [add_block]
    exact hf.block ad.block hlt (hne ad e)⟩
theorem Fr.own {w w' : World} {P : Nat → Prop} {base n c : Nat} {e : TypeId} {size : Nat} {A : Option Addr} {xs : List Value} (hf : Fr w w' P) (h : Own w base e size A n c xs) (hne : ∀ a, A = some a → ¬ P a.block) : Own w' base e size A n c xs := by
  refine ⟨h.1, ?_⟩
  rcases h.2 with hn | ⟨g, cap, cur, h1, hb, hgg, rest⟩
  · exact .inl hn
  · refine .inr ⟨g, cap, cur, h1, hb, (hf.block g (Array.getElem?_eq_some_iff.1 hgg).1 ?_).trans hgg, rest⟩
    injection h1 with h1
    exact hne _ h1
theorem Fr.mono {w w' : World} {P Q : Nat → Prop} (h : Fr w w' P) (hPQ : ∀ i, i < w.heap.size → P i → Q i) : Fr w w' Q := ⟨h.os, h.tape, h.output, h.size, fun k hk hq => h.block k hk (fun hp => hq (hPQ k hk hp))⟩
theorem Fr.drewN {w w' : World} {P : Nat → Prop} (h : Fr w w' P) (n : Nat) : Fr w (w'.drewN n) P := ⟨h.os, h.tape, h.output, h.size, h.block⟩
theorem Fr.drew {w w' : World} {P : Nat → Prop} (h : Fr w w' P) : Fr w w'.drew P := ⟨h.os, h.tape, h.output, h.size, h.block⟩
theorem Own.cap_le {w : World} {base n c : Nat} {e : TypeId} {size : Nat} {A : Option Addr} {xs : List Value} (h : Own w base e size A n c xs) : n ≤ c := by
  rcases h.2 with ⟨h', h0⟩ | ⟨g', cap, cur, h', _, _, hnc, _⟩
  · injection h' with _ h1 h2; omega
  · injection h' with _ h1 h2; omega
theorem Own.base_mono {w : World} {base b n c : Nat} {e : TypeId} {size : Nat} {A : Option Addr} {xs : List Value} (h : Own w base e size A n c xs) (hb : b ≤ base) : Own w b e size A n c xs := by
  refine ⟨h.1, ?_⟩
  rcases h.2 with hn | ⟨g, cap, cur, h1, hg, rest⟩
  · exact .inl hn
  · exact .inr ⟨g, cap, cur, h1, Nat.le_trans hb hg, rest⟩
/-- An own row with an element begins a block. -/
theorem Own.head {w : World} {base n c : Nat} {e : TypeId} {size : Nat} {A : Option Addr} {xs : List Value} (h : Own w base e size A n c xs) (hn : 0 < n) : ∃ g, A = some ⟨g, 0, none⟩ := by
  rcases h.2 with ⟨_, h0⟩ | ⟨g, _, _, h, _⟩
  · omega
  · injection h with h; exact ⟨g, h⟩
theorem Own.fr_ext {a w w' : World} {base n c : Nat} {e : TypeId} {size : Nat} {A : Option Addr} {xs : List Value} (h : Own w base e size A n c xs) (hx : Ext a w) (hb : a.heap.size ≤ base) (hf : Fr w w' (fun b => A.map (·.block) = some b)) : Ext a w' :=
  Fr.ext hx hf (fun i hi => Nat.le_trans hb (h.base_le i hi))
end Go.Proofs.YteflnnlihblpgaaDoor
