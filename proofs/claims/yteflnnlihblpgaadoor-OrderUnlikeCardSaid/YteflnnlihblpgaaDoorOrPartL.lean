/-
  Ledgers' bytes, in plain words: entries read so far out of bytes.
-/
import Derived.Test.YteflnnlihblpgaaDoorOrWrite
namespace Go.Proofs.YteflnnlihblpgaaDoor
set_option linter.unusedVariables false
theorem recE_split {e f : En} (he : e.form = true) (hf : f.form = true) {r s : List Nat} (h : recE e ++ r = recE f ++ s) : e = f ∧ r = s := by
  have h1 := put_len he
  have h2 := put_len hf
  unfold recE at h
  rw [List.append_assoc, List.append_assoc] at h
  have e1 := Wr.rd_num e.put.length (e.put ++ r) (by omega)
  rw [h, Wr.rd_num f.put.length (f.put ++ s) (by omega)] at e1
  simp only [Option.some.injEq, Prod.mk.injEq] at e1
  rw [e1.1] at h
  have h3 := List.append_cancel_left h
  obtain ⟨h4, h5⟩ := List.append_inj h3 e1.1.symm
  exact ⟨put_inj he hf h4, h5⟩
theorem recs_split : ∀ (es fs : List En) (r s : List Nat), (∀ e ∈ es, e.form = true) → (∀ e ∈ fs, e.form = true) → es.length ≤ fs.length → fs.flatMap recE ++ s = es.flatMap recE ++ r → fs.take es.length = es ∧ r = (fs.drop es.length).flatMap recE ++ s
  | [], fs, r, s, _, _, _, h => ⟨rfl, h.symm⟩
  | e :: es, [], r, s, _, _, hl, _ => by simp at hl
  | e :: es, f :: fs, r, s, h1, h2, hl, h => by
    rw [List.flatMap_cons, List.flatMap_cons, List.append_assoc, List.append_assoc] at h
    obtain ⟨rfl, h3⟩ := recE_split (h2 f (by simp)) (h1 e (by simp)) h
    obtain ⟨q1, q2⟩ := recs_split es fs r s (fun x hx => h1 x (by simp [hx])) (fun x hx => h2 x (by simp [hx])) (by simpa using hl) h3
    exact ⟨by rw [List.length_cons, List.take_succ_cons, q1], by rw [List.length_cons, List.drop_succ_cons]; exact q2⟩
structure PartL (l : List Nat) (at_ n : Nat) (es : List En) : Prop where
  eq : l = putK n es ++ l.drop at_
  len : at_ = (putK n es).length
  ok : ∀ e ∈ es, e.form = true
  n64 : n ≤ 64
/-- Ledgers that are written. -/
def GoodL (fs : List En) : Prop := fs.length ≤ 64 ∧ ∀ e ∈ fs, e.form = true
section
variable {l : List Nat} {at_ n : Nat} {es fs : List En}
theorem PartL.start (hb : ∀ c ∈ l, c < 256) {x k : Nat} (hr : Wr.rd (l.drop 0) = some (x, k)) (hx : x ≤ 64) : PartL l (0 + k) x [] := by
  obtain ⟨h1, h2⟩ := Wr.rd_inv (fun c hc => hb c (List.mem_of_mem_drop hc)) hr
  rw [List.drop_drop] at h2
  rw [List.drop_zero] at h2
  exact ⟨by simp only [putK, List.flatMap_nil, List.append_nil]; exact h2, by simp only [putK, List.flatMap_nil, List.append_nil]; omega, by simp, hx⟩
theorem no_start (hno : ∀ x k, Wr.rd (l.drop 0) = some (x, k) → (64 : Int) < (x : Int)) (hf : GoodL fs) : l ≠ putL fs := fun hle => by
  have h1 := Wr.rd_num fs.length (fs.flatMap recE) (by have := hf.1; omega)
  have h2 := hno fs.length _ (by rw [List.drop_zero, hle]; exact h1)
  have := hf.1
  omega
theorem PartL.begin (h : PartL l at_ n es) (hf : GoodL fs) (hle : l = putL fs) (hl : es.length ≤ n) : n = fs.length ∧ fs.take es.length = es ∧ l.drop at_ = (fs.drop es.length).flatMap recE := by
  have h1 := h.eq
  have h64 := h.n64
  have hf64 := hf.1
  have h2 : putL fs = putK n es ++ l.drop at_ := by rw [← hle]; exact h1
  unfold putK at h2
  rw [List.append_assoc] at h2
  have e1 := Wr.rd_num n (es.flatMap recE ++ l.drop at_) (by omega)
  rw [← h2, show putL fs = Wr.num fs.length ++ fs.flatMap recE from rfl, Wr.rd_num fs.length (fs.flatMap recE) (by omega)] at e1
  simp only [Option.some.injEq, Prod.mk.injEq] at e1
  rw [show putL fs = Wr.num fs.length ++ fs.flatMap recE from rfl, e1.1] at h2
  have h3 := List.append_cancel_left h2
  obtain ⟨h4, h5⟩ := recs_split es fs (l.drop at_) [] h.ok hf.2 (by omega) (by rw [List.append_nil]; exact h3)
  rw [List.append_nil] at h5
  exact ⟨e1.1.symm, h4, h5⟩
/-- What comes next, where it is a ledger that was written. -/
theorem PartL.next (h : PartL l at_ n es) (hf : GoodL fs) (hle : l = putL fs) (hl : es.length < n) : ∃ f ∈ fs, f.form = true ∧ Wr.rd (l.drop at_) = some (f.put.length, (Wr.num f.put.length).length) ∧ at_ + (Wr.num f.put.length).length + f.put.length ≤ l.length ∧ (l.drop (at_ + (Wr.num f.put.length).length)).take f.put.length = f.put := by
  obtain ⟨h1, _, h3⟩ := h.begin hf hle (by omega)
  have h4 : es.length < fs.length := by omega
  have hm := List.getElem_mem h4
  have hform := hf.2 _ hm
  rw [List.drop_eq_getElem_cons h4, List.flatMap_cons] at h3
  generalize fs[es.length] = f at *
  have h5 := put_len hform
  rw [show recE f = Wr.num f.put.length ++ f.put from rfl, List.append_assoc] at h3
  refine ⟨f, hm, hform, by rw [h3]; exact Wr.rd_num _ _ (by omega), ?_, ?_⟩
  · have h6 := congrArg List.length h3
    rw [List.length_drop, List.length_append, List.length_append] at h6
    have h7 := Wr.num_pos f.put.length
    omega
  · rw [← List.drop_drop, h3, List.drop_left' rfl, List.take_left' rfl]
theorem PartL.no_rec (h : PartL l at_ n es) (hl : es.length < n) (hno : ∀ x k, Wr.rd (l.drop at_) = some (x, k) → ((l.length : Nat) : Int) < (x : Int) ∨ l.length < at_ + k + x) (hf : GoodL fs) : l ≠ putL fs := fun hle => by
  obtain ⟨f, _, _, h1, h2, _⟩ := h.next hf hle hl
  have := hno _ _ h1
  omega
theorem PartL.no_get (h : PartL l at_ n es) (hl : es.length < n) {x k : Nat} (hr : Wr.rd (l.drop at_) = some (x, k)) (hno : ∀ e : En, e.form = true → (l.drop (at_ + k)).take x ≠ e.put) (hf : GoodL fs) : l ≠ putL fs := fun hle => by
  obtain ⟨f, _, hff, h1, _, h3⟩ := h.next hf hle hl
  rw [hr] at h1
  simp only [Option.some.injEq, Prod.mk.injEq] at h1
  obtain ⟨hx, hk⟩ := h1
  rw [← hk, ← hx] at h3
  exact hno f hff h3
theorem PartL.snoc (h : PartL l at_ n es) (hb : ∀ c ∈ l, c < 256) {x k : Nat} (hr : Wr.rd (l.drop at_) = some (x, k)) (hfit : at_ + k + x ≤ l.length) {e : En} (he : e.form = true) (hone : (l.drop (at_ + k)).take x = e.put) : PartL l (at_ + k + x) n (es ++ [e]) := by
  obtain ⟨h1, h2⟩ := Wr.rd_inv (fun c hc => hb c (List.mem_of_mem_drop hc)) hr
  rw [List.drop_drop] at h2
  have hx : x = e.put.length := by rw [← hone, List.length_take, List.length_drop]; omega
  have h3 : l.drop (at_ + k) = e.put ++ l.drop (at_ + k + x) := by
    have h5 := (List.take_append_drop x (l.drop (at_ + k))).symm
    rw [List.drop_drop, hone] at h5
    exact h5
  have h4 : recE e = Wr.num x ++ e.put := by rw [hx]; rfl
  refine ⟨?_, ?_, fun y hy => ?_, h.n64⟩
  · rw [putK_snoc, h4, List.append_assoc, List.append_assoc, ← h3, ← h2]
    exact h.eq
  · rw [putK_snoc, h4, List.length_append, List.length_append, ← h.len, ← h1, hx]
    omega
  · rcases List.mem_append.1 hy with hy | hy
    · exact h.ok y hy
    · rw [List.mem_singleton.1 hy]; exact he
theorem PartL.none_of (h : PartL l at_ n es) (hl : es.length = n) (hat : at_ < l.length) (hf : GoodL fs) : l ≠ putL fs := fun hle => by
  obtain ⟨h1, _, h3⟩ := h.begin hf hle (by omega)
  rw [show fs.drop es.length = [] from List.drop_eq_nil_of_le (by omega)] at h3
  have := congrArg List.length h3
  rw [List.length_drop] at this
  simp at this
  omega
theorem PartL.done (h : PartL l at_ n es) (hl : es.length = n) (hat : l.length ≤ at_) : l = putL es := by
  have h1 := h.eq
  rw [List.drop_eq_nil_of_le hat, List.append_nil, ← hl, putK_all] at h1
  exact h1
end
theorem putL_inj {es fs : List En} (he : GoodL es) (hf : GoodL fs) (h : putL es = putL fs) : es = fs := by
  have h64 := he.1
  have h1 : PartL (putL es) (putK es.length es).length es.length es := ⟨by rw [putK_all, List.drop_length, List.append_nil], rfl, he.2, he.1⟩
  obtain ⟨h2, h3, _⟩ := h1.begin hf h (Nat.le_refl _)
  rw [h2, List.take_length] at h3
  exact h3.symm
theorem putL_byte (l : List En) : ∀ x ∈ putL l, x < 256 := by
  intro x hx
  rcases List.mem_append.1 hx with hx | hx
  · exact Wr.num_byte _ x hx
  · obtain ⟨e, _, he⟩ := List.mem_flatMap.1 hx
    rcases List.mem_append.1 he with he | he
    · exact Wr.num_byte _ x he
    · exact e.put_byte x he
end Go.Proofs.YteflnnlihblpgaaDoor
