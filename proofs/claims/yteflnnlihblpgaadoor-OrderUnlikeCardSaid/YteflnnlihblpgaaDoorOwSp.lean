/-
  A spoilt writer; the statement WireSpoilt, walked.
-/
import Derived.Test.YteflnnlihblpgaaDoorOwText
import Derived.Test.YteflnnlihblpgaaDoorErr
namespace Go.Proofs.YteflnnlihblpgaaDoor
open Go.RowKit
set_option linter.unusedVariables false
theorem Below.ext_of {a w w' : World} {g : Nat} (h : Ext a w) (hb : Below g w w') (hg : a.heap.size ≤ g) : Ext a w' :=
  ⟨hb.os.trans h.os, hb.tape.trans h.tape, hb.output.trans h.output, Nat.le_trans h.size hb.size, fun k hk => (hb.block k (by omega)).trans (h.block k hk)⟩
theorem below_of_fr {w w' : World} {g : Nat} {A : Option Addr} (h : Fr w w' (fun b => b = g ∨ A.map (·.block) = some b)) (hg : g < w.heap.size) (hA : ∀ k, A.map (·.block) = some k → g < k) : Below g w w' :=
  ⟨h.os, h.tape, h.output, h.size, fun k hk => h.block k (by omega) (fun hh => by
    rcases hh with hh | hh
    · omega
    · have := hA k hh; omega)⟩
theorem err_same_ne (w : World) (a : Addr) : (binOp .neq 33 (.iface 149 (.pointer (some a))) (.iface 149 (.pointer (some a)))).run Tryd.prog w = .ok (.bool false) w := by
  obtain ⟨i, hi, hc⟩ := info_c 149 (by kernel_rfl)
  obtain ⟨j, hj, hs⟩ := info_s 165 (by kernel_rfl)
  simp only [binOp]
  simp [Op.equal, Op.maxDepth, run_equalIn_iface_ptr_same w 9998 a Tryd.underlying33 Tryd.underlying149 hi hc hj]
theorem not_i64 (x : Int) (h0 : 0 ≤ x) (h1 : x ≤ 9223372036854775807) : Go.bits .xor .i64 (-1) x = -x - 1 := by
  have e1 : BitVec.ofInt 64 (-1) = BitVec.allOnes 64 := by decide
  have e2 : (BitVec.ofInt 64 (-1) ^^^ BitVec.ofInt 64 x).toNat = 18446744073709551615 - x.toNat := by
    rw [e1, BitVec.allOnes_xor, BitVec.toNat_not, BitVec.toNat_ofInt]
    have : (x % ((2 ^ 64 : Nat) : Int)).toNat = x.toNat := by
      rw [show ((2 ^ 64 : Nat) : Int) = 18446744073709551616 by decide]
      omega
    rw [this]
  have e3 : Go.bits .xor .i64 (-1) x = IntKind.i64.wrap (((BitVec.ofInt 64 (-1) ^^^ BitVec.ofInt 64 x).toNat : Nat) : Int) := rfl
  rw [e3, e2, IntKind.wrap_i64]
  omega
/-- What a call leaves of a spoilt writer. -/
def SOut (w : World) (g : Nat) (A : Option Addr) (b : Nat) (e : Ending) (w' : World) : Prop :=
  e = .returned (.tuple #[]) ∧ ∃ A' n' c' bs', WrS w' g A' n' c' bs' true ∧ n' ≤ b ∧ Fr w w' (fun b => b = g ∨ A.map (·.block) = some b) ∧ (∀ a, A' = some a → A.map (·.block) = some a.block ∨ w.heap.size ≤ a.block)
/-- Num of whatever number, on a spoilt writer. -/
theorem snum_any (N : Int) (hN : -9223372036854775808 ≤ N ∧ N ≤ 9223372036854775807) (w : World) {g n c : Nat} {A : Option Addr} {bs : List Nat} (h : WrS w g A n c bs true) (hn : n ≤ 1099511627776) :
    Calls Tryd.prog 54 #[.pointer (some ⟨g, 0, none⟩), .int .i64 N] w (SOut w g A (n + 9)) := by
  by_cases h0 : N < 0
  · refine (wnum_no N w h h0).mono ?_
    rintro e w' ⟨rfl, rfl⟩
    exact ⟨rfl, A, n, c, bs, ⟨heap_setCell_same w g 1 _ _ _ h.blk, h.own.same fun b hb _ => heap_setCell_other w ⟨g, 1, none⟩ b _ (by simp; omega)⟩, by omega,
      (Fr.refl w (fun b => b = g ∨ A.map (·.block) = some b)).trans (Fr.store w ⟨g, 1, none⟩ (.bool true)) (fun _ _ h => .inl h), fun a ea => .inl (by rw [ea]; rfl)⟩
  · obtain ⟨x, rfl⟩ := Int.eq_ofNat_of_zero_le (show 0 ≤ N by omega)
    refine (wnum_any x w h (by omega) hn).mono ?_
    rintro e w' ⟨rfl, A', n', c', hw, hf, ha⟩
    have hl : (Wr.num x).length ≤ 9 := Wr.num_len 8 x (by rw [show (128 : Nat) ^ (8 + 1) = 9223372036854775808 by decide]; omega)
    have h1 := h.len
    have h2 := hw.len
    rw [List.length_append] at h2
    exact ⟨rfl, A', n', c', _, hw, by omega, hf, ha⟩
set_option maxHeartbeats 800000 in
theorem sbytes_any (B : Option Addr) (m d : Nat) (l : List Nat) (w0 w : World) {g n c : Nat} {A : Option Addr} {bs : List Nat} (h : WrS w g A n c bs true) (hr : Rd w0 1 B m (u8s l)) (hx0 : Ext w0 w) (hg : w0.heap.size ≤ g) (hm : m ≤ 1048576) (hn : n ≤ 1099511627776) :
    Calls Tryd.prog 64 #[.pointer (some ⟨g, 0, none⟩), .slice B m d] w (SOut w g A (n + 9 + m)) := by
  have N1 := Lib.hid (snum_any m (by omega) w h hn)
  have hgw := h.lt
  have hge := h.own.base_le
  clear h
  go_enter Tryd.func64, Tryd.ntmps64
  go_wp2_with fail
  refine N1.out.mono ?_
  rintro e w1 ⟨rfl, A1, n1, c1, bs1, h1, hn1, hf1, hA1⟩
  have hr1 := hr.ext (Fr.ext hx0 hf1 (fun i hi => by
    rcases hi with rfl | hi
    · exact hg
    · have := hge i hi; omega))
  have c0 := h1.c0
  have f0 := h1.fr 0
  have glt := h1.lt
  have hz1 := hf1.size
  clear N1 hge
  go_wp2_with (at_builtin; refine held ?_)
  refine Held.go (wp_app (m := m) (news := u8s l) eltU8 h1.own hr1 (u8s_one _) (by omega) (.inr ⟨by omega, by omega⟩) (by omega) _ _ rfl rfl rfl rfl ?_)
  intro A2 c2 w2 hown2 hg2 hA2 _
  have hk2 : w2.heap[g]? = w1.heap[g]? := hg2.block g glt (fun e => by
    have := h1.own.base_le g e.symm
    omega)
  rw [← u8s_append] at hown2
  have hs2 := h1.put hown2 hk2
  have d0 : w2.cell? ⟨g, 0, none⟩ = some (.slice A1 n1 c1) := by rw [cell_of_row w2 g 0 _ _ _ (hk2.trans h1.blk)]; rfl
  have d1 : w2.frozen? ⟨g, 0, none⟩ = false := by have := hk2.trans h1.blk; simp only [World.frozen?, this]; simp
  have hf2 : Fr w (w2.setCell ⟨g, 0, none⟩ (.slice A2 (n1 + m) c2)) (fun b => b = g ∨ A.map (·.block) = some b) := by
    refine (hf1.trans (Fr.grows hg2) (fun i hi hm => ?_)).trans (Fr.store w2 _ _) (fun i _ e => .inl e)
    obtain ⟨a, ha, hab⟩ := Option.map_eq_some_iff.1 hm
    rcases hA1 a ha with h | h
    · exact .inr (h.trans (by rw [hab]))
    · omega
  have hA2' : ∀ a, A2 = some a → A.map (·.block) = some a.block ∨ w.heap.size ≤ a.block := fun a ea => by
    rcases hA2 with e | e
    · exact hA1 a (e.symm.trans ea)
    · rw [e] at ea
      injection ea with ea
      subst ea
      right
      simpa using hz1
  clear hown2 hg2 hk2 c0 f0 h1 hr1 hA2 hf1 hA1
  go_wp2_with fail
  go_returns
  exact ⟨rfl, A2, n1 + m, c2, _, hs2, by omega, hf2, hA2'⟩
/-- Done of a spoilt writer. -/
theorem done_no (w : World) {g n c : Nat} {A : Option Addr} {bs : List Nat} (h : WrS w g A n c bs true) {p : Addr} (hS : Sen w 5 p) :
    Calls Tryd.prog 55 #[.pointer (some ⟨g, 0, none⟩)] w fun e w' => e = .returned (.tuple #[.slice none 0 0, .iface 149 (.pointer (some p))]) ∧ ∃ k, w' = w.drewN k := by
  have c1 := h.c1
  have c3 := hS.2.1
  clear h hS
  go_enter Tryd.func55, Tryd.ntmps55
  go_wp2_with fail
  go_quiet (fail)
  go_wp2_with fail
  go_ret2
  exact ⟨rfl, _, rfl⟩
end Go.Proofs.YteflnnlihblpgaaDoor
