/-
  Letters by their marks, in plain words.
-/
import Derived.Test.YtjobehbaecgdpaaDoorNtFind
namespace Go.Proofs.YtjobehbaecgdpaaDoor
set_option linter.unusedVariables false
/-- How many letters bear a mark. -/
def cnt (ls : List LetV) (b : Nat) : Nat := ls.countP fun x => x.l == [b]
theorem cnt_le (ls : List LetV) (b : Nat) : cnt ls b ≤ ls.length := List.countP_le_length
theorem cnt_push (ls : List LetV) (x : LetV) (b : Nat) : cnt (ls ++ [x]) b = cnt ls b + if x.l = [b] then 1 else 0 := by
  unfold cnt
  rw [List.countP_append]
  by_cases h : x.l = [b] <;> simp [h]
theorem cnt_erase {ls : List LetV} {k : Nat} {x : LetV} (h : ls[k]? = some x) (b : Nat) : cnt ls b = cnt (ls.eraseIdx k) b + if x.l = [b] then 1 else 0 := by
  obtain ⟨hl, rfl⟩ := List.getElem?_eq_some_iff.1 h
  have e : ls = ls.take k ++ ls[k] :: ls.drop (k + 1) := by simp
  have e2 : cnt ls b = cnt (ls.take k ++ ls[k] :: ls.drop (k + 1)) b := by rw [← e]
  rw [e2, List.eraseIdx_eq_take_drop_succ]
  unfold cnt
  rw [List.countP_append, List.countP_append, List.countP_cons]
  by_cases h : ls[k].l = [b] <;> simp [h] <;> omega
/-- Marks by number, and how many letters of each mark wait. -/
structure ML (ls : List LetV) (marks : List Nat) (lf : List Int) (last : Nat) : Prop where
  len : marks.length = last + 1
  fl : lf.length = 256
  byt : ∀ b ∈ marks, b < 256
  ok : ∀ x ∈ ls, x.n = 1 ∧ x.F = 1 ∧ x.T = 2 ∧ ∃ b, marks[x.N]? = some b ∧ x.l = [b]
  cn : ∀ b, b < 256 → lf[b]? = some ((cnt ls b : Nat) : Int)
theorem ML.start : ML [] [0] (List.replicate 256 0) 0 :=
  ⟨rfl, List.length_replicate, fun b hb => (by simp at hb; omega), fun x hx => (by cases hx), fun b hb => by rw [List.getElem?_replicate, if_pos hb]; rfl⟩
section
variable {ls : List LetV} {marks : List Nat} {lf : List Int} {last : Nat}
theorem ML.push (h : ML ls marks lf last) {x : LetV} {b : Nat} (hb : b < 256) (hN : x.N = last + 1) (hF : x.F = 1) (hT : x.T = 2) (hn : x.n = 1) (hl : x.l = [b]) :
    ML (ls ++ [x]) (marks ++ [b]) (lf.set b ((cnt ls b : Nat) + 1)) (last + 1) := by
  refine ⟨by rw [List.length_append, h.len]; rfl, by rw [List.length_set, h.fl], fun c hc => ?_, fun y hy => ?_, fun c hc => ?_⟩
  · rcases List.mem_append.1 hc with hc | hc
    · exact h.byt c hc
    · simp at hc; omega
  · rcases List.mem_append.1 hy with hy | hy
    · obtain ⟨a1, a2, a3, c, a4, a5⟩ := h.ok y hy
      exact ⟨a1, a2, a3, c, by rw [List.getElem?_append_left (List.getElem?_eq_some_iff.1 a4).1]; exact a4, a5⟩
    · simp at hy
      subst hy
      refine ⟨hn, hF, hT, b, ?_, hl⟩
      rw [List.getElem?_append_right (by rw [h.len, hN]; omega), h.len, hN]
      simp
  · rw [cnt_push, hl]
    by_cases e : b = c
    · subst e
      rw [List.getElem?_set_self (by rw [h.fl]; exact hb), if_pos rfl]
      rfl
    · rw [List.getElem?_set_ne e, h.cn c hc, if_neg (fun e2 => e (by injection e2)), Nat.add_zero]
theorem ML.pop (h : ML ls marks lf last) {k : Nat} {x : LetV} (hk : ls[k]? = some x) {b : Nat} (hb : marks[x.N]? = some b) :
    1 ≤ cnt ls b ∧ b < 256 ∧ ML (ls.eraseIdx k) marks (lf.set b ((cnt ls b : Nat) - 1 : Int)) last := by
  obtain ⟨a1, a2, a3, c, a4, a5⟩ := h.ok x (List.mem_of_getElem? hk)
  obtain rfl : b = c := by rw [hb] at a4; injection a4
  have hb2 := h.byt b (List.mem_of_getElem? hb)
  have e := cnt_erase hk b
  rw [if_pos a5] at e
  refine ⟨by omega, hb2, h.len, by rw [List.length_set, h.fl], h.byt, fun y hy => h.ok y (List.mem_of_mem_eraseIdx hy), fun d hd => ?_⟩
  by_cases e2 : b = d
  · subst e2
    rw [List.getElem?_set_self (by rw [h.fl]; exact hb2)]
    congr 1
    omega
  · rw [List.getElem?_set_ne e2, h.cn d hd, cnt_erase hk d, if_neg (fun e3 => e2 (by rw [a5] at e3; injection e3)), Nat.add_zero]
theorem ML.mark (h : ML ls marks lf last) {k : Nat} {x : LetV} (hk : ls[k]? = some x) : ∃ b, marks[x.N]? = some b ∧ b < 256 ∧ x.l = [b] ∧ x.n = 1 ∧ x.F = 1 ∧ x.T = 2 := by
  obtain ⟨a1, a2, a3, c, a4, a5⟩ := h.ok x (List.mem_of_getElem? hk)
  exact ⟨c, a4, h.byt c (List.mem_of_getElem? a4), a5, a1, a2, a3⟩
theorem ML.done (h : ML [] marks lf last) : lf = List.replicate 256 0 := by
  refine List.eq_replicate_iff.2 ⟨h.fl, fun b hb => ?_⟩
  obtain ⟨k, hk⟩ := List.getElem?_of_mem hb
  have hkl : k < 256 := by have := (List.getElem?_eq_some_iff.1 hk).1; have := h.fl; omega
  have := h.cn k hkl
  rw [hk] at this
  injection this
end
end Go.Proofs.YtjobehbaecgdpaaDoor
