/-
  Package order: Put, walked.
-/
import Derived.Test.YteflnnlihblpgaaDoorOrCheck
import Derived.Test.YteflnnlihblpgaaDoorOwGen
namespace Go.Proofs.YteflnnlihblpgaaDoor
set_option maxRecDepth 100000
open Go.RowKit
set_option linter.unusedVariables false
/-- The numbers of an entry, in the order of its bytes. -/
def En.head (e : En) : List Int := [e.cl, e.nu, e.kd, e.at_, e.id, e.sk, e.sq, e.st, e.pol, (e.ts.length : Int)]
def En.nums (e : En) : List Int := e.head ++ e.ts.flatMap Tk.ns
/-- The bytes of numbers. -/
def putN (l : List Int) : List Nat := l.flatMap fun x => Wr.num x.toNat
def En.put (e : En) : List Nat := putN e.nums
theorem putN_app (l m : List Int) : putN (l ++ m) = putN l ++ putN m := by simp [putN]
theorem putN_one (x : Int) : putN [x] = Wr.num x.toNat := by simp [putN]
theorem putN_len : ∀ (l : List Int), (∀ x ∈ l, x ≤ 9223372036854775807) → (putN l).length ≤ 9 * l.length
  | [], _ => by simp [putN]
  | x :: l, h => by
    have h1 := numlen9 (x := x.toNat) (by have := h x (by simp); omega)
    have h2 := putN_len l (fun y hy => h y (by simp [hy]))
    show (Wr.num x.toNat ++ putN l).length ≤ _
    rw [List.length_append, List.length_cons]
    omega
theorem wnumI (x : Int) (w : World) {g n c : Nat} {A : Option Addr} {bs : List Nat} {sp : Bool} (h : WrS w g A n c bs sp) (h0 : 0 ≤ x) (hx : x ≤ 9223372036854775807) (hn : n ≤ 1099511627776) :
    Calls Tryd.prog 54 #[.pointer (some ⟨g, 0, none⟩), .int .i64 x] w (WrOut w g A (bs ++ Wr.num x.toNat) sp) := by
  have h1 := wnum_any x.toNat w h (by omega) hn
  rwa [Int.toNat_of_nonneg h0] at h1
theorem ord_fits {e : En} (h : e.ord = true) : 0 ≤ e.kd ∧ (∀ x ∈ [e.kd, e.at_, e.id, e.sk, e.sq, e.st, e.pol], 0 ≤ x ∧ x ≤ 1099511627776) ∧ e.ts.length ≤ 8 ∧ ∀ t ∈ e.ts, ∀ x ∈ t.ns, 0 ≤ x ∧ x ≤ 1099511627776 := by
  unfold En.ord at h
  rw [Bool.and_eq_true] at h
  obtain ⟨h1, h2⟩ := h
  have f1 : ∀ x ∈ [e.at_, e.id], 0 ≤ x ∧ x ≤ 1099511627776 := fun x hx => fitI_true.1 (List.all_eq_true.1 h1 x hx)
  have a1 := f1 e.at_ (by simp)
  have a2 := f1 e.id (by simp)
  split at h2
  · rename_i hk
    rw [Bool.and_eq_true] at h2
    obtain ⟨h3, h4⟩ := h2
    unfold En.noGuest at h3
    rw [Bool.and_eq_true, decide_eq_true_eq, decide_eq_true_eq] at h3
    have f2 : ∀ x ∈ [e.sk, e.sq, e.st], 0 ≤ x ∧ x ≤ 1099511627776 := fun x hx => fitI_true.1 (List.all_eq_true.1 h4 x hx)
    have b1 := f2 e.sk (by simp)
    have b2 := f2 e.sq (by simp)
    have b3 := f2 e.st (by simp)
    have ht : e.ts = [] := List.eq_nil_of_length_eq_zero h3.2
    refine ⟨by omega, fun x hx => ?_, by omega, fun t hm => by rw [ht] at hm; cases hm⟩
    simp only [List.mem_cons, List.not_mem_nil, or_false] at hx
    rcases hx with rfl | rfl | rfl | rfl | rfl | rfl | rfl <;> omega
  · split at h2
    · rw [Bool.and_eq_true] at h2
      obtain ⟨h3, h4⟩ := h2
      unfold En.noGuest at h3
      unfold En.noServer at h4
      rw [Bool.and_eq_true, decide_eq_true_eq, decide_eq_true_eq] at h3
      rw [decide_eq_true_eq] at h4
      have ht : e.ts = [] := List.eq_nil_of_length_eq_zero h3.2
      refine ⟨by omega, fun x hx => ?_, by omega, fun t hm => by rw [ht] at hm; cases hm⟩
      simp only [List.mem_cons, List.not_mem_nil, or_false] at hx
      rcases hx with rfl | rfl | rfl | rfl | rfl | rfl | rfl <;> omega
    · split at h2
      · rw [Bool.and_eq_true, Bool.and_eq_true, Bool.and_eq_true, decide_eq_true_eq] at h2
        obtain ⟨⟨⟨h3, h4⟩, h5⟩, h6⟩ := h2
        unfold En.noServer at h3
        rw [decide_eq_true_eq] at h3
        have b1 := fitI_true.1 (List.all_eq_true.1 h4 e.pol (by simp))
        refine ⟨by omega, fun x hx => ?_, h5, fun t hm x hx => fitI_true.1 (List.all_eq_true.1 (List.all_eq_true.1 h6 t hm) x hx)⟩
        simp only [List.mem_cons, List.not_mem_nil, or_false] at hx
        rcases hx with rfl | rfl | rfl | rfl | rfl | rfl | rfl <;> omega
      · cases h2
/-- An entry in form has no number below 0. -/
theorem form_fits {e : En} (h : e.form = true) : (∀ x ∈ e.nums, 0 ≤ x ∧ x ≤ 1099511627776) ∧ e.ts.length ≤ 8 := by
  unfold En.form at h
  rw [Bool.and_eq_true, decide_eq_true_eq] at h
  obtain ⟨⟨h0, h1, h2, h3⟩, ho⟩ := h
  obtain ⟨_, h4, h5, h6⟩ := ord_fits ho
  refine ⟨fun x hx => ?_, h5⟩
  rcases List.mem_append.1 hx with hx | hx
  · unfold En.head at hx
    simp only [List.mem_cons, List.not_mem_nil, or_false] at hx
    rcases hx with rfl | rfl | rfl | rfl | rfl | rfl | rfl | rfl | rfl | rfl
    · omega
    · omega
    · exact h4 _ (by simp)
    · exact h4 _ (by simp)
    · exact h4 _ (by simp)
    · exact h4 _ (by simp)
    · exact h4 _ (by simp)
    · exact h4 _ (by simp)
    · exact h4 _ (by simp)
    · omega
  · obtain ⟨t, ht, hxt⟩ := List.mem_flatMap.1 hx
    exact h6 t ht x hxt
end Go.Proofs.YteflnnlihblpgaaDoor
