/-
  A frame with one byte changed behind its first four, in plain numbers.
-/
import Derived.Test.YtbinimejjenmlaaDoorCrcSlipP
namespace Go.Proofs.YtbinimejjenmlaaDoor
set_option linter.unusedVariables false
theorem slip_frm {l : List Nat} {i y : Nat} (hl : ∀ x ∈ l, x < 256) (hn : l.length ≤ 32768) (hi4 : 4 ≤ i) (hi : i < (frm l).length) (hy : y < 256) (hne : (frm l)[i]'hi ≠ y) :
    ∃ a b c d l' e0 e1 e2 e3, (frm l).set i y = a :: b :: c :: d :: l' ∧ bw a b c d = l.length ∧ ((frm l).set i y).drop (l.length + 4) = [e0, e1, e2, e3] ∧ Crc.sum (((frm l).set i y).take (l.length + 4)) ≠ bw e0 e1 e2 e3 := by
  obtain ⟨B, hB⟩ : ∃ B, wb l.length ++ l = B := ⟨_, rfl⟩
  have hBl : B.length = l.length + 4 := by rw [← hB]; simp [wb_len]; omega
  have hBb : ∀ x ∈ B, x < 256 := fun x hx => by
    rw [← hB] at hx
    rcases List.mem_append.1 hx with h | h
    · exact wb_lt (by omega) x h
    · exact hl x h
  have hS := Crc.sum_lt B hBb
  have hbn : bw (l.length % 256) (l.length / 256 % 256) (l.length / 65536 % 256) (l.length / 16777216) = l.length := bw_wb (by omega)
  have hf : frm l = B ++ wb (Crc.sum B) := by unfold frm; rw [hB]
  simp only [hf] at hi hne ⊢
  rw [List.length_append, wb_len] at hi
  by_cases hlt : i < B.length
  · rw [List.set_append_left _ _ hlt]
    have h1 : B.set i y = wb l.length ++ l.set (i - 4) y := by
      rw [← hB, List.set_append_right _ _ (by rw [wb_len]; exact hi4), wb_len]
    refine ⟨_, _, _, _, l.set (i - 4) y ++ wb (Crc.sum B), Crc.sum B % 256, Crc.sum B / 256 % 256, Crc.sum B / 65536 % 256, Crc.sum B / 16777216, by rw [h1]; rfl, hbn, ?_, ?_⟩
    · rw [List.drop_left' (by rw [List.length_set, hBl])]
      rfl
    · rw [List.take_left' (by rw [List.length_set, hBl])]
      rw [bw_wb hS]
      refine Crc.sum_set hBb hy hlt ?_
      rwa [List.getElem_append_left hlt] at hne
  · obtain ⟨j, hj⟩ : ∃ j, i - B.length = j := ⟨_, rfl⟩
    rw [List.set_append_right _ _ (by omega), hj]
    have hj4 : j < 4 := by omega
    rw [List.getElem_append_right (by omega)] at hne
    simp only [hj] at hne
    obtain ⟨S, hSB⟩ : ∃ S, Crc.sum B = S := ⟨_, rfl⟩
    simp only [hSB] at hne hS ⊢
    have hh : B = (l.length % 256) :: (l.length / 256 % 256) :: (l.length / 65536 % 256) :: (l.length / 16777216) :: l := hB.symm
    have hq : (wb S)[j]? ≠ some y := by
      rw [List.getElem?_eq_getElem (by rw [wb_len]; omega)]
      simpa using hne
    clear hne hj hi
    match j, hj4, hq with
    | 0, _, hne =>
      refine ⟨_, _, _, _, l ++ [y, S / 256 % 256, S / 65536 % 256, S / 16777216], y, S / 256 % 256, S / 65536 % 256, S / 16777216, by rw [hh]; rfl, hbn, ?_, ?_⟩
      · rw [List.drop_left' hBl]; rfl
      · rw [List.take_left' hBl, hSB]
        intro h
        unfold bw at h
        simp [wb] at hne
        omega
    | 1, _, hne =>
      refine ⟨_, _, _, _, l ++ [S % 256, y, S / 65536 % 256, S / 16777216], S % 256, y, S / 65536 % 256, S / 16777216, by rw [hh]; rfl, hbn, ?_, ?_⟩
      · rw [List.drop_left' hBl]; rfl
      · rw [List.take_left' hBl, hSB]
        intro h
        unfold bw at h
        simp [wb] at hne
        omega
    | 2, _, hne =>
      refine ⟨_, _, _, _, l ++ [S % 256, S / 256 % 256, y, S / 16777216], S % 256, S / 256 % 256, y, S / 16777216, by rw [hh]; rfl, hbn, ?_, ?_⟩
      · rw [List.drop_left' hBl]; rfl
      · rw [List.take_left' hBl, hSB]
        intro h
        unfold bw at h
        simp [wb] at hne
        omega
    | 3, _, hne =>
      refine ⟨_, _, _, _, l ++ [S % 256, S / 256 % 256, S / 65536 % 256, y], S % 256, S / 256 % 256, S / 65536 % 256, y, by rw [hh]; rfl, hbn, ?_, ?_⟩
      · rw [List.drop_left' hBl]; rfl
      · rw [List.take_left' hBl, hSB]
        intro h
        unfold bw at h
        simp [wb] at hne
        omega
end Go.Proofs.YtbinimejjenmlaaDoor
