/-
  Package order, in plain words: numbers read so far out of bytes.
-/
import Derived.Test.YteflnnlihblpgaaDoorOrBytes
namespace Go.Proofs.YteflnnlihblpgaaDoor
set_option linter.unusedVariables false
structure Part (l : List Nat) (at_ : Nat) (ns : List Int) : Prop where
  eq : l = putN ns ++ l.drop at_
  len : at_ = (putN ns).length
  ok : ∀ x ∈ ns, 0 ≤ x ∧ x ≤ 1099511627776
section
variable {l : List Nat} {at_ : Nat} {ns : List Int}
theorem Part.nil : Part l 0 [] := ⟨by simp [putN], rfl, by simp⟩
theorem Part.okN (h : Part l at_ ns) : OkN ns := fun x hx => by have := h.ok x hx; omega
theorem Part.next (h : Part l at_ ns) (hb : ∀ c ∈ l, c < 256) {x k : Nat} (hr : Wr.rd (l.drop at_) = some (x, k)) (hx : x ≤ 1099511627776) : Part l (at_ + k) (ns ++ [(x : Int)]) := by
  obtain ⟨h1, h2⟩ := Wr.rd_inv (fun c hc => hb c (List.mem_of_mem_drop hc)) hr
  rw [List.drop_drop] at h2
  refine ⟨?_, ?_, fun y hy => ?_⟩
  · rw [putN_app, putN_one, Int.toNat_natCast, List.append_assoc, ← h2]; exact h.eq
  · rw [putN_app, putN_one, Int.toNat_natCast, List.length_append, ← h1, ← h.len]
  · rcases List.mem_append.1 hy with hy | hy
    · exact h.ok y hy
    · have := List.mem_singleton.1 hy; omega
theorem Part.no_next (h : Part l at_ ns) (hno : ∀ x k, Wr.rd (l.drop at_) = some (x, k) → (1099511627776 : Int) < (x : Int)) {e : En} (he : e.form = true) (hl : ns.length < e.nums.length) : l ≠ e.put := fun hle => by
  obtain ⟨x, k, h1, h2⟩ := put_next he h.okN hl (r := l.drop at_) (by rw [← hle]; exact h.eq)
  have := hno x k h1
  omega
theorem nums_head (e : En) : e.nums.take 10 = e.head := by
  unfold En.nums
  exact List.take_left' rfl
theorem nums_nine (e : En) : e.nums.getD 9 0 = (e.ts.length : Int) := rfl
theorem Part.take10 (h : Part l at_ ns) (hn : 10 ≤ ns.length) {e : En} (he : e.form = true) (hle : l = e.put) : e.nums.take 10 = ns.take 10 := by
  have h1 : putN ns = putN (ns.take 10) ++ putN (ns.drop 10) := by rw [← putN_app, List.take_append_drop]
  have h2 := put_begin he (ns := ns.take 10) (r := putN (ns.drop 10) ++ l.drop at_) (fun x hx => h.okN x (List.mem_of_mem_take hx)) (by rw [List.length_take, nums_len]; omega) (by rw [← List.append_assoc, ← h1, ← hle]; exact h.eq)
  rw [List.length_take, Nat.min_eq_left hn] at h2
  exact h2.1
theorem getD_take {m : List Int} {i k : Nat} (h : i < k) : (m.take k).getD i 0 = m.getD i 0 := by
  simp [List.getD, h]
theorem Part.nine (h : Part l at_ ns) (hn : 10 ≤ ns.length) {e : En} (he : e.form = true) (hle : l = e.put) : ns.getD 9 0 = (e.ts.length : Int) := by
  have h1 := congrArg (fun m : List Int => m.getD 9 0) (h.take10 hn he hle)
  rw [getD_take (by omega), getD_take (by omega), nums_nine] at h1
  exact h1.symm
theorem Part.no_big (h : Part l at_ ns) (hn : 10 ≤ ns.length) (h9 : 8 < ns.getD 9 0) {e : En} (he : e.form = true) : l ≠ e.put := fun hle => by
  have h1 := h.nine hn he hle
  have h2 := (form_fits he).2
  omega
/-- All numbers have been read: it is this entry, or none. -/
theorem Part.only (h : Part l at_ ns) {k : Nat} (hn : ns.length = 10 + 4 * k) (h9 : ns.getD 9 0 = (k : Int)) {e : En} (he : e.form = true) (hle : l = e.put) : e = enOf ns := by
  have h1 := h.nine (by omega) he hle
  have h2 := nums_len e
  obtain ⟨h3, h4⟩ := put_begin he h.okN (by omega) (r := l.drop at_) (by rw [← hle]; exact h.eq)
  rw [List.take_of_length_le (by omega)] at h3
  rw [← enOf_of e, h3]
theorem Part.none_of (h : Part l at_ ns) {k : Nat} (hn : ns.length = 10 + 4 * k) (h9 : ns.getD 9 0 = (k : Int)) (hno : at_ < l.length ∨ (enOf ns).form = false) {e : En} (he : e.form = true) : l ≠ e.put := fun hle => by
  have h1 := h.only hn h9 he hle
  rcases hno with hlt | hf
  · have h2 := (enOf_nums hn h9).1
    have h3 : l.length = at_ := by rw [hle, h1]; unfold En.put; rw [h2]; exact h.len.symm
    omega
  · rw [h1, hf] at he; cases he
theorem Part.done (h : Part l at_ ns) {k : Nat} (hn : ns.length = 10 + 4 * k) (h9 : ns.getD 9 0 = (k : Int)) (hat : l.length ≤ at_) : l = (enOf ns).put := by
  have h1 := h.eq
  rw [List.drop_eq_nil_of_le hat, List.append_nil] at h1
  unfold En.put
  rw [(enOf_nums hn h9).1]
  exact h1
end
end Go.Proofs.YteflnnlihblpgaaDoor
