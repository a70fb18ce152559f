/-
  almonernum.Bytes: a copy with six marked places behind it; almonernum.Kept: they stand as they stood.
-/
import Derived.Test.YteflnnlihblpgaaDoorMem
import Derived.Deep.QuietTactic
import Derived.BigQuiet
namespace Go.Proofs.YteflnnlihblpgaaDoor
set_option maxRecDepth 100000
open Go.RowKit

theorem eltU8 : Elt Tryd.prog 54 5 1 1 (.int .u8 0) := ⟨Tryd.underlying54, by kernel_rfl, rfl, by omega⟩
theorem u8s_one (l : List Nat) : ∀ u ∈ u8s l, u.oneCell' = true := by
  intro u hu; simp [u8s] at hu; obtain ⟨n, _, rfl⟩ := hu; rfl
theorem u8s_append (l m : List Nat) : u8s (l ++ m) = u8s l ++ u8s m := by simp [u8s]
def marks6 : List Nat := [201, 202, 203, 204, 205, 206]

set_option maxHeartbeats 400000 in
theorem bytes_any (A : Option Addr) (n c : Nat) (l : List Nat) (w : World) (hn : n ≤ 140737488351232) (hr : Rd w 1 A n (u8s l)) :
    Calls Tryd.prog 30 #[.slice A n c] w fun e w' => e = .returned (.slice (some ⟨w.heap.size, 0, none⟩) n (n + 6)) ∧ Rd w' 1 (some ⟨w.heap.size, 0, none⟩) (n + 6) (u8s (l ++ marks6)) ∧ Ext w w' := by
  go_enter Tryd.func30, Tryd.ntmps30
  go_wp2_with fail
  obtain ⟨w1, hrun, hown, hx, hsz⟩ := run_mk (w := w) eltU8 w.heap.size .i64 .i64 ((n : Int) + 6) (by omega) (by omega) (by omega) (Nat.le_refl _)
  refine upon_ok hrun ?_
  clear hrun
  rw [show ((n : Int) + 6).toNat = n + 6 by omega] at hown ⊢
  go_wp2_with (at_builtin; refine held ?_)
  refine Held.go (wp_app eltU8 hown (hr.ext hx) (u8s_one l) (by omega) (.inl (by omega)) (by omega) _ _ rfl rfl rfl rfl ?_)
  intro A2 c2 w2 hown2 hg2 _ hfit
  simp only [Nat.zero_add, List.nil_append] at hown2 hfit
  obtain ⟨rfl, rfl⟩ := hfit (by omega)
  clear hfit
  go_wp2_with (at_builtin; refine held ?_)
  have hs2 : w.heap.size + 1 ≤ w2.heap.size := by have := hg2.size; omega
  refine Held.go (wp_app (m := 6) (news := u8s marks6) eltU8 (hown2.alloc _) (Rd.new _ _ _ _) (u8s_one marks6) (by omega) (.inl (by omega)) (by simp; omega) _ _ rfl rfl rfl rfl ?_)
  intro A3 c3 w3 hown3 hg3 _ hfit
  obtain ⟨rfl, rfl⟩ := hfit (by omega)
  clear hfit
  have hx2 : Ext w w2 := hg2.ext hx (by simp)
  have hx3 : Ext w w3 := hg3.ext (hx2.alloc _) (by simp)
  clear hown2 hg2 hown hg3
  go_wp2_with fail
  go_ret
  refine ⟨by simp, ?_, hx3⟩
  have h := hown3.rd
  rw [u8s_append]
  exact h

theorem u8s_take (l : List Nat) (k : Nat) : u8s (l.take k) = (u8s l).take k := by simp [u8s]
theorem u8s_drop (l : List Nat) (k : Nat) : u8s (l.drop k) = (u8s l).drop k := by simp [u8s]
theorem Rd.u8take {w : World} {A : Option Addr} {n : Nat} {l : List Nat} (h : Rd w 1 A n (u8s l)) {k : Nat} (hk : k ≤ n) : Rd w 1 A k (u8s (l.take k)) := by
  rw [u8s_take]; simpa using h.take_ hk
theorem Rd.u8cut {w : World} {A : Option Addr} {n : Nat} {l : List Nat} (h : Rd w 1 A n (u8s l)) {k cap : Nat} (hk : k ≤ n) (hc : n ≤ cap) :
    Rd w 1 (if cap = k then A else A.map (·.add k)) (n - k) (u8s (l.drop k)) := by
  rw [u8s_drop]; simpa using h.cut hk hc
theorem Rd.u8off {w : World} {g o n : Nat} {l : List Nat} (h : Rd w 1 (some ⟨g, o, none⟩) n (u8s l)) {k : Nat} (hk : k ≤ n) : Rd w 1 (some ⟨g, o + k, none⟩) (n - k) (u8s (l.drop k)) := by
  have h1 := h.u8cut (k := k) (cap := n + k + 1) hk (by omega)
  rw [if_neg (by omega)] at h1
  have : (⟨g, o, none⟩ : Addr).add k = ⟨g, o + k, none⟩ := by unfold Addr.add; split <;> simp_all
  simpa [this] using h1
theorem Rd.unmark {w : World} {A : Option Addr} {n : Nat} {l : List Nat} (h : Rd w 1 A (n + 6) (u8s (l ++ marks6))) : Rd w 1 A n (u8s l) := by
  have hl := h.len
  rw [u8s_append, List.length_append, u8s_len, u8s_len] at hl
  have h1 := h.u8take (k := n) (by omega)
  rw [List.take_left' (by simp [marks6] at hl; omega)] at h1
  exact h1

/-- Bytes as a text. -/
def str (l : List Nat) : ByteArray := ⟨(l.map UInt8.ofNat).toArray⟩
theorem str_fold (l : List Nat) (s : ByteArray) : (l.map fun (n : Nat) => (n : Int)).foldl (fun r n => r.push (UInt8.ofNat n.toNat)) s = ⟨s.data ++ (l.map UInt8.ofNat).toArray⟩ := by
  induction l generalizing s with
  | nil => simp
  | cons a l ih =>
    rw [List.map_cons, List.foldl_cons, ih]
    congr 1
    simp [ByteArray.push]
theorem run_str {P : Program} {w : World} {t s e : TypeId} (ht : P.underlying t = some (.slice e)) (he : P.underlying e = some (.int .u8)) (hs : P.underlying s = some .string) {A : Option Addr} {n : Nat} (c : Nat) {l : List Nat} (hr : Rd w 1 A n (u8s l)) :
    (convert t s (.slice A n c)).run P w = .ok (.string (str l)) w := by
  rw [run_convert_bytes_string w t s e A n c ht he hs]
  cases A with
  | none =>
    have hn : n = 0 := by
      rcases Nat.eq_zero_or_pos n with h | h
      · exact h
      · obtain ⟨_, h, _⟩ := hr.2 h; cases h
    have hl := hr.len
    rw [u8s_len, hn] at hl
    have hl' := List.eq_nil_of_length_eq_zero hl
    subst hl'
    rfl
  | some ad =>
    have hl := hr.len
    have hload : (loadCells ad n).run P w = .ok ((l.map fun (n : Nat) => (n : Int)).map (Value.int .u8)).toArray w := by
      have e1 : (l.map fun (n : Nat) => (n : Int)).map (Value.int .u8) = u8s l := by simp [u8s]
      rw [e1]
      have h := run_loadCells_list (P := P) w ad (u8s l) (by
        intro j u hu
        have hj : 0 < n := by have := (List.getElem?_eq_some_iff.1 hu).1; omega
        obtain ⟨ad', h1, _, h2⟩ := hr.2 hj
        injection h1 with h1; subst h1
        exact h2 j u hu)
      rw [hl] at h
      exact h
    rw [run_bytesToString w ad n c _ hload, str_fold]
    show Result.ok (Value.string ⟨#[] ++ _⟩) w = _
    rw [Array.empty_append]; rfl

set_option maxHeartbeats 400000 in
theorem kept_any (g n c : Nat) (A : Option Addr) (l : List Nat) (w : World) (hn : n ≤ 140737488351232) (hg : Rd w 1 (some ⟨g, 0, none⟩) (n + 6) (u8s (l ++ marks6))) (hr : Rd w 1 A n (u8s l)) :
    Calls Tryd.prog 34 #[.slice (some ⟨g, 0, none⟩) n (n + 6), .slice A n c] w fun e w' => e = .returned (.bool true) ∧ ∃ k, w' = w.drewN k := by
  have hg' : Rd w 1 (some ⟨g, 0, none⟩) n (u8s l) := by
    have h := hg.take_ (k := n) (by omega)
    rw [u8s_append, Nat.mul_one, List.take_left' hr.len] at h
    exact h
  have c1 := fun k => run_str (P := Tryd.prog) (w := w.drewN k) (s := 9) Tryd.underlying54 Tryd.underlying5 Tryd.underlying9 (n + 6) (hg'.ext ((Ext.refl w).drewN k))
  have c2 := fun k => run_str (P := Tryd.prog) (w := w.drewN k) (s := 9) Tryd.underlying54 Tryd.underlying5 Tryd.underlying9 c (hr.ext ((Ext.refl w).drewN k))
  go_enter Tryd.func34, Tryd.ntmps34
  go_wp2_with fail
  go_quiet (fail)
  go_wp2_with fail
  clear c1 c2
  go_loop [6] (fun i => ∃ k : Nat, k ≤ 6 ∧ i = .int .i64 k) (fun i => 6 - (intOf i).toNat)
  case atStart => exact ⟨0, by omega, rfl⟩
  case round =>
    obtain ⟨k, hk, rfl⟩ := hrel
    by_cases hlt : k < 6
    · have hc : w.cell? ⟨g, n + k, none⟩ = some (.int .u8 (201 + (k : Int))) := by
        have hl := hr.len
        rw [u8s_len] at hl
        have h1 : (u8s (l ++ marks6))[n + k]? = some (.int .u8 (201 + (k : Int))) := by
          rw [u8s_append, List.getElem?_append_right (by rw [u8s_len]; omega), u8s_len, hl, Nat.add_sub_cancel_left]
          have : k = 0 ∨ k = 1 ∨ k = 2 ∨ k = 3 ∨ k = 4 ∨ k = 5 := by omega
          rcases this with rfl | rfl | rfl | rfl | rfl | rfl <;> rfl
        obtain ⟨ad, e, _, h⟩ := hg.at_ (k := n + k) (by omega)
        injection e with e
        subst e
        have := h _ _ h1
        rw [← this]
        unfold Addr.add; split <;> simp_all
      clear hg hg' hr
      go_wp2
      go_round
      case rel => exact ⟨k + 1, by omega, by go_num⟩
      case measure => simp [intOf]; omega
    · clear hg hg' hr
      obtain rfl : k = 6 := by omega
      go_wp2
      go_ret
      exact ⟨rfl, _, rfl⟩
end Go.Proofs.YteflnnlihblpgaaDoor
