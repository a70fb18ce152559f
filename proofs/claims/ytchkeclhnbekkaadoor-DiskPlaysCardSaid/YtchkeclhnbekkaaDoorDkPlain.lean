/-
  Package disk, in plain words: sectors, a cache of writes, what a crash keeps.
-/
import Derived.Test.YtchkeclhnbekkaaDoorBytesB
namespace Go.Proofs.YtchkeclhnbekkaaDoor
open Go.RowKit
set_option linter.unusedVariables false
/-- 64 zeros. -/
def z64 : List Nat := List.replicate 64 0
/-- A sector. -/
def IsSec (s : List Nat) : Prop := s.length = 64 ∧ ∀ x ∈ s, x < 256
theorem isSec_z64 : IsSec z64 := ⟨rfl, fun x hx => by rw [List.eq_of_mem_replicate hx]; omega⟩
/-- A write that waits. -/
structure WrV where
  i : Int
  s : List Nat
/-- The first n bytes of a write are safe. -/
def keepW (f : Int → List Nat) (x : WrV) (n : Nat) : Int → List Nat := fun y => if y = x.i then x.s.take n ++ (f x.i).drop n else f y
theorem keepW_other (f : Int → List Nat) (x : WrV) (n : Nat) {y : Int} (h : y ≠ x.i) : keepW f x n y = f y := if_neg h
theorem keepW_same (f : Int → List Nat) (x : WrV) (n : Nat) : keepW f x n x.i = x.s.take n ++ (f x.i).drop n := if_pos rfl
theorem keepW_sec {f : Int → List Nat} {x : WrV} {n : Nat} (hf : ∀ y, IsSec (f y)) (hx : IsSec x.s) (hn : n ≤ 64) : ∀ y, IsSec (keepW f x n y) := fun y => by
  by_cases e : y = x.i
  · subst e
    rw [keepW_same]
    have h1 := (hf x.i).1
    have h2 := hx.1
    refine ⟨by rw [List.length_append, List.length_take, List.length_drop, h1, h2]; omega, fun z hz => ?_⟩
    rcases List.mem_append.1 hz with h | h
    · exact hx.2 z (List.mem_of_mem_take h)
    · exact (hf x.i).2 z (List.mem_of_mem_drop h)
  · rw [keepW_other _ _ _ e]; exact hf y
/-- All of a cache is safe. -/
def flushW (f : Int → List Nat) (l : List WrV) : Int → List Nat := l.foldl (fun f x => keepW f x 64) f
/-- What Read reads. -/
def readW (f : Int → List Nat) (l : List WrV) (i : Int) : List Nat := l.foldl (fun s x => if x.i = i then x.s else s) (f i)
/-- The bit of a write at place j. -/
def bitK (keep : Nat) (j : Nat) : Bool := (keep >>> (j % 64)) % 2 == 1
/-- What a crash keeps of the writes from place j on. -/
def crashW (keep : Nat) (torn : Int) : Nat → (Int → List Nat) → List WrV → Int → List Nat
  | _, f, [] => f
  | j, f, x :: l => crashW keep torn (j + 1) (if bitK keep j = true then keepW f x (if (j : Int) = torn then 32 else 64) else f) l
theorem flushW_nil (f : Int → List Nat) : flushW f [] = f := rfl
theorem flushW_snoc (f : Int → List Nat) (l : List WrV) (x : WrV) : flushW f (l ++ [x]) = keepW (flushW f l) x 64 := by simp [flushW]
theorem readW_snoc (f : Int → List Nat) (l : List WrV) (x : WrV) (i : Int) : readW f (l ++ [x]) i = if x.i = i then x.s else readW f l i := by simp [readW]
theorem flushW_sec {f : Int → List Nat} {l : List WrV} (hf : ∀ y, IsSec (f y)) (hl : ∀ x ∈ l, IsSec x.s) : ∀ y, IsSec (flushW f l y) := by
  induction l generalizing f with
  | nil => exact hf
  | cons x l ih => exact ih (keepW_sec hf (hl x (by simp)) (Nat.le_refl _)) (fun z hz => hl z (by simp [hz]))
theorem readW_sec {f : Int → List Nat} {l : List WrV} (hf : ∀ y, IsSec (f y)) (hl : ∀ x ∈ l, IsSec x.s) (i : Int) : IsSec (readW f l i) := by
  unfold readW
  have key : ∀ (l : List WrV) (s : List Nat), IsSec s → (∀ x ∈ l, IsSec x.s) → IsSec (l.foldl (fun s x => if x.i = i then x.s else s) s) := by
    intro l
    induction l with
    | nil => intro s hs _; exact hs
    | cons x l ih =>
      intro s hs hl
      refine ih _ ?_ (fun z hz => hl z (by simp [hz]))
      show IsSec (if x.i = i then x.s else s)
      split
      · exact hl x (by simp)
      · exact hs
  exact key l _ (hf i) hl
theorem crashW_snoc (keep : Nat) (torn : Int) (l : List WrV) (x : WrV) : ∀ (j : Nat) (f : Int → List Nat), crashW keep torn j f (l ++ [x]) =
    if bitK keep (j + l.length) = true then keepW (crashW keep torn j f l) x (if ((j + l.length : Nat) : Int) = torn then 32 else 64) else crashW keep torn j f l := by
  induction l with
  | nil => intro j f; rfl
  | cons y l ih =>
    intro j f
    rw [List.cons_append, crashW, ih, crashW, show j + (y :: l).length = j + 1 + l.length by simp; omega]
theorem crashW_sec {keep : Nat} {torn : Int} {l : List WrV} (hl : ∀ x ∈ l, IsSec x.s) : ∀ (j : Nat) (f : Int → List Nat), (∀ y, IsSec (f y)) → ∀ y, IsSec (crashW keep torn j f l y) := by
  induction l with
  | nil => intro j f hf; exact hf
  | cons x l ih =>
    intro j f hf
    refine ih (fun z hz => hl z (by simp [hz])) _ _ ?_
    split
    · exact keepW_sec hf (hl x (by simp)) (by split <;> omega)
    · exact hf
/-- Sectors that no write names stay. -/
theorem flushW_stays {f : Int → List Nat} {l : List WrV} {i : Int} (h : ∀ x ∈ l, x.i ≠ i) : flushW f l i = f i := by
  induction l generalizing f with
  | nil => rfl
  | cons x l ih =>
    show flushW (keepW f x 64) l i = f i
    rw [ih (fun z hz => h z (by simp [hz])), keepW_other _ _ _ (fun e => h x (by simp) e.symm)]
theorem readW_stays {f : Int → List Nat} {l : List WrV} {i : Int} (h : ∀ x ∈ l, x.i ≠ i) : readW f l i = f i := by
  unfold readW
  have key : ∀ (l : List WrV) (s : List Nat), (∀ x ∈ l, x.i ≠ i) → l.foldl (fun s x => if x.i = i then x.s else s) s = s := by
    intro l
    induction l with
    | nil => intro s _; rfl
    | cons x l ih =>
      intro s hl
      rw [List.foldl_cons, if_neg (hl x (by simp)), ih _ (fun z hz => hl z (by simp [hz]))]
  exact key l _ h
theorem crashW_stays {keep : Nat} {torn : Int} {l : List WrV} {i : Int} (h : ∀ x ∈ l, x.i ≠ i) : ∀ (j : Nat) (f : Int → List Nat), crashW keep torn j f l i = f i := by
  induction l with
  | nil => intro j f; rfl
  | cons x l ih =>
    intro j f
    rw [crashW, ih (fun z hz => h z (by simp [hz]))]
    split
    · exact keepW_other _ _ _ (fun e => h x (by simp) e.symm)
    · rfl
theorem bitK_zero (j : Nat) : bitK 0 j = false := by simp [bitK]
theorem crashW_none {torn : Int} {l : List WrV} : ∀ (j : Nat) (f : Int → List Nat), crashW 0 torn j f l = f := by
  induction l with
  | nil => intro j f; rfl
  | cons x l ih =>
    intro j f
    rw [crashW, bitK_zero, ih]
    rfl
/-- Bytes made of others again and again. -/
def fillL (l : List Nat) : List Nat := if l.length = 0 then z64 else (List.range 64).map fun i => l.getD (i % l.length) 0
theorem fillL_len (l : List Nat) : (fillL l).length = 64 := by unfold fillL; split <;> simp [z64]
theorem fillL_sec {l : List Nat} (h : ∀ x ∈ l, x < 256) : IsSec (fillL l) := by
  refine ⟨fillL_len l, fun x hx => ?_⟩
  unfold fillL at hx
  split at hx
  · exact isSec_z64.2 x hx
  · obtain ⟨i, hi, rfl⟩ := List.mem_map.1 hx
    rename_i h0
    have hlt : i % l.length < l.length := Nat.mod_lt _ (by omega)
    rw [List.getD_eq_getElem?_getD, List.getElem?_eq_getElem hlt]
    exact h _ (List.getElem_mem hlt)
/-- Half h of a sector. -/
def halfL (h : Nat) (s : List Nat) : List Nat := (s.drop (32 * h)).take 32
theorem keep64 {f : Int → List Nat} {x : WrV} (hf : (f x.i).length = 64) (hx : x.s.length = 64) : keepW f x 64 x.i = x.s := by
  rw [keepW_same, List.take_of_length_le (by omega), List.drop_eq_nil_of_le (by omega), List.append_nil]
theorem alive_read {s : List Nat} {l : List WrV} (hs : IsSec s) : readW (crashW 0 9 0 (keepW (fun _ => z64) ⟨1, s⟩ 64) l) [] 1 = s := by
  rw [crashW_none]
  exact keep64 (f := fun _ => z64) (x := ⟨1, s⟩) isSec_z64.1 hs.1
theorem half_keep0 {f : Int → List Nat} {x : WrV} (hx : x.s.length = 64) : halfL 0 (keepW f x 32 x.i) = halfL 0 x.s := by
  rw [keepW_same]
  unfold halfL
  rw [Nat.mul_zero, List.drop_zero, List.drop_zero, List.take_append_of_le_length (by rw [List.length_take]; omega), List.take_take]
  rfl
theorem half_keep1 {f : Int → List Nat} {x : WrV} (hx : x.s.length = 64) : halfL 1 (keepW f x 32 x.i) = halfL 1 (f x.i) := by
  rw [keepW_same]
  unfold halfL
  rw [Nat.mul_one, List.drop_append, List.drop_take, List.length_take, hx]
  simp
/-- Behind a crash each half is one that was. -/
theorem crash_halves {Q : Nat → List Nat → Prop} {keep : Nat} {torn : Int} {i : Int} {l : List WrV} (hl : ∀ x ∈ l, IsSec x.s) (hq : ∀ x ∈ l, x.i = i → ∀ h, h < 2 → Q h (halfL h x.s)) :
    ∀ (j : Nat) (f : Int → List Nat), (∀ y, IsSec (f y)) → (∀ h, h < 2 → Q h (halfL h (f i))) → ∀ h, h < 2 → Q h (halfL h (crashW keep torn j f l i)) := by
  induction l with
  | nil => intro j f _ h; exact h
  | cons x l ih =>
    intro j f hf hQ
    rw [crashW]
    refine ih (fun z hz => hl z (by simp [hz])) (fun z hz => hq z (by simp [hz])) _ _ ?_ ?_
    · split
      · exact keepW_sec hf (hl x (by simp)) (by split <;> omega)
      · exact hf
    · intro h hh
      split
      · by_cases e : x.i = i
        · subst e
          have hx := hq x (by simp) rfl h hh
          split
          · obtain rfl | rfl : h = 0 ∨ h = 1 := by omega
            · rw [half_keep0 (hl x (by simp)).1]; exact hx
            · rw [half_keep1 (hl x (by simp)).1]; exact hQ 1 (by omega)
          · rw [keep64 (hf _).1 (hl x (by simp)).1]; exact hx
        · rw [keepW_other _ _ _ (fun e2 => e e2.symm)]; exact hQ h hh
      · exact hQ h hh
/-- The last of a cache that names a sector, behind a flush; reading what was flushed. -/
theorem flush_read {l : List WrV} (i : Int) : ∀ {f : Int → List Nat}, (∀ y, IsSec (f y)) → (∀ x ∈ l, IsSec x.s) → flushW f l i = readW f l i := by
  induction l with
  | nil => intro f _ _; rfl
  | cons x l ih =>
    intro f hf hl
    show flushW (keepW f x 64) l i = l.foldl (fun s x => if x.i = i then x.s else s) (if x.i = i then x.s else f i)
    rw [ih (keepW_sec hf (hl x (by simp)) (Nat.le_refl _)) (fun z hz => hl z (by simp [hz]))]
    unfold readW
    congr 1
    by_cases e : x.i = i
    · subst e
      rw [if_pos rfl, keep64 (hf _).1 (hl x (by simp)).1]
    · rw [if_neg e, keepW_other _ _ _ (fun e2 => e e2.symm)]
end Go.Proofs.YtchkeclhnbekkaaDoor
