/-
  What stands at the beginning of a stream; the document's Read, walked.
-/
import Derived.Test.YtbinimejjenmlaaDoorCrcFrames
import Derived.Test.YtbinimejjenmlaaDoorLists
namespace Go.Proofs.YtbinimejjenmlaaDoor
open Go.RowKit
set_option linter.unusedVariables false
inductive RC where
  | stop
  | large
  | bad
  | ok (p : List Nat)
def four4 : List Nat → Nat
  | a :: b :: c :: d :: _ => bw a b c d
  | _ => 0
def rc : List Nat → RC
  | a :: b :: c :: d :: r =>
    if 32768 < bw a b c d then .large
    else if r.length + 4 < bw a b c d + 8 then .stop
    else if Crc.sum ((a :: b :: c :: d :: r).take (bw a b c d + 4)) = four4 ((a :: b :: c :: d :: r).drop (bw a b c d + 4)) then .ok (r.take (bw a b c d))
    else .bad
  | _ => .stop
theorem rc_cons (a b c d : Nat) (r : List Nat) : rc (a :: b :: c :: d :: r) = (if 32768 < bw a b c d then .large
    else if r.length + 4 < bw a b c d + 8 then .stop
    else if Crc.sum ((a :: b :: c :: d :: r).take (bw a b c d + 4)) = four4 ((a :: b :: c :: d :: r).drop (bw a b c d + 4)) then .ok (r.take (bw a b c d))
    else .bad) := rfl
theorem rc_short {l : List Nat} (h : l.length < 4) : rc l = .stop := by
  match l, h with
  | [], _ => rfl
  | [_], _ => rfl
  | [_, _], _ => rfl
  | [_, _, _], _ => rfl
  | _ :: _ :: _ :: _ :: _, h => simp at h; omega
theorem four_of {l : List Nat} (h : 4 ≤ l.length) : ∃ a b c d r, l = a :: b :: c :: d :: r := by
  match l, h with
  | [], h => simp at h
  | [_], h => simp at h
  | [_, _], h => simp at h
  | [_, _, _], h => simp at h
  | a :: b :: c :: d :: r, _ => exact ⟨a, b, c, d, r, rfl⟩
def errV (E : Nat → Addr) : Nat → Value
  | 0 => .nilIface
  | k + 1 => .iface 53 (.pointer (some (E (gsN.getD k 0))))
theorem num_errV (E : Nat → Addr) (k : Nat) (w : World) (hE : Errs w E) (hk : k ≤ 16) : Calls Tryd.prog 11 #[errV E k] w fun e w' => e = .returned (.int .i64 (k : Int)) ∧ Ext w w' := by
  cases k with
  | zero => exact num_nil w
  | succ k =>
    refine (num_at E k (gsN.getD k 0) w hE ?_).mono fun e w' h => ?_
    · rw [List.getD, List.getElem?_eq_getElem (show k < gsN.length by show k < 16; omega)]; rfl
    · exact h
def RC.p : RC → List Nat
  | .ok p => p
  | _ => []
def RC.n : RC → Nat
  | .ok p => p.length + 8
  | _ => 0
def RC.e : RC → Nat
  | .large => 8
  | .bad => 4
  | _ => 0
theorem rc_ok {l p : List Nat} (h : rc l = .ok p) : p.length + 8 ≤ l.length ∧ p.length ≤ 32768 := by
  by_cases h4 : l.length < 4
  · rw [rc_short h4] at h; cases h
  · obtain ⟨a, b, c, d, r, rfl⟩ := four_of (l := l) (by omega)
    rw [rc_cons] at h
    split at h
    · cases h
    · split at h
      · cases h
      · split at h
        · injection h with h
          rw [← h, List.length_take]
          simp only [List.length_cons]
          omega
        · cases h
/-- What a Read answers. -/
def ROut (w : World) (E : Nat → Addr) (r : RC) (e : Ending) (w' : World) : Prop :=
  ∃ A' c', e = .returned (.tuple #[.slice A' r.p.length c', .int .i64 (r.n : Nat), errV E r.e]) ∧ Own w' w.heap.size 5 1 A' r.p.length c' (u8s r.p) ∧ Ext w w'
theorem rout_ok {w w' : World} {E : Nat → Addr} {p : List Nat} {e : Ending} {A' : Option Addr} {c' : Nat} (he : e = .returned (.tuple #[.slice A' p.length c', .int .i64 ((p.length : Int) + 8), .nilIface])) (ho : ∃ base, w.heap.size ≤ base ∧ Own w' base 5 1 A' p.length c' (u8s p)) (hx : Ext w w') : ROut w E (.ok p) e w' := by
  obtain ⟨base, hb, ho⟩ := ho
  have e8 : ((p.length : Int) + 8) = ((p.length + 8 : Nat) : Int) := (Int.natCast_add _ _).symm
  rw [e8] at he
  exact ⟨A', c', he, ho.base_mono hb, hx⟩
theorem read_any (A : Option Addr) (m c : Nat) (l : List Nat) (w : World) (hr : Rd w 1 A m (u8s l)) (hs : ∀ x ∈ l, x < 256) (hm : m ≤ 140737488351232) (hmc : m ≤ c) (hA : ∀ a, A = some a → a.spot = none) (E : Nat → Addr) (h8 : Sen w 0 (E 0)) (h4 : Sen w 4 (E 4)) :
    Calls Tryd.prog 13 #[.slice A m c] w (ROut w E (rc l)) := by
  have hlen : l.length = m := by have := hr.len; rwa [u8s_len] at this
  by_cases hm4 : m < 4
  · rw [rc_short (by omega)]
    exact (read_short A m c w hm4).mono fun e w' ⟨he, hx⟩ => ⟨none, 0, he, Own.nil_, hx⟩
  · obtain ⟨a, b, c1, d, r, rfl⟩ := four_of (l := l) (by omega)
    by_cases hl : 32768 < bw a b c1 d
    · have e : rc (a :: b :: c1 :: d :: r) = .large := by rw [rc_cons, if_pos hl]
      rw [e]
      exact (read_large A m c a b c1 d r w hr hs (by omega) hl h8).mono fun e w' ⟨he, hx⟩ => ⟨none, 0, he, Own.nil_, hx⟩
    · have hlen' : r.length + 4 = m := by simpa using hlen
      by_cases hw : m < bw a b c1 d + 8
      · have e : rc (a :: b :: c1 :: d :: r) = .stop := by rw [rc_cons, if_neg hl, if_pos (by omega)]
        rw [e]
        exact (read_wait A m c a b c1 d r w hr hs (by omega) (by omega) (by omega) hw).mono fun e w' ⟨he, hx⟩ => ⟨none, 0, he, Own.nil_, hx⟩
      · obtain ⟨ad, rfl, _, _⟩ := hr.2 (by omega)
        obtain ⟨g, o, sp⟩ := ad
        obtain rfl : sp = none := hA _ rfl
        obtain ⟨e0, e1, e2, e3, l2, hd⟩ := four_of (l := (a :: b :: c1 :: d :: r).drop (bw a b c1 d + 4)) (by rw [List.length_drop, hlen]; omega)
        by_cases hS : Crc.sum ((a :: b :: c1 :: d :: r).take (bw a b c1 d + 4)) = bw e0 e1 e2 e3
        · have e : rc (a :: b :: c1 :: d :: r) = .ok (r.take (bw a b c1 d)) := by
            rw [rc_cons, if_neg hl, if_neg (by omega), if_pos (by rw [hd]; exact hS)]
          have hl2 : (r.take (bw a b c1 d)).length = bw a b c1 d := by rw [List.length_take]; omega
          have RK := read_ok g o m c a b c1 d r e0 e1 e2 e3 l2 w hr hs (by omega) (by omega) (by omega) hmc hd hS
          rw [e]
          clear e hS hd hs hr hlen hw hl
          generalize r.take (bw a b c1 d) = p at *
          generalize bw a b c1 d = x at *
          subst hl2
          refine RK.mono ?_
          intro e w' h
          obtain ⟨A', c', he, hb, hx⟩ := h
          exact rout_ok he hb hx
        · have e : rc (a :: b :: c1 :: d :: r) = .bad := by
            rw [rc_cons, if_neg hl, if_neg (by omega), if_neg (by rw [hd]; exact hS)]
          rw [e]
          exact (read_sum g o m c a b c1 d r e0 e1 e2 e3 l2 w hr hs (by omega) (by omega) (by omega) hmc hd hS h4).mono fun e w' ⟨he, hx⟩ => ⟨none, 0, he, Own.nil_, hx⟩
end Go.Proofs.YtbinimejjenmlaaDoor
