/-
  Package crc: put, get, walked.
-/
import Derived.Test.YtbinimejjenmlaaDoorCrcSum
import Derived.Test.YtbinimejjenmlaaDoorBytes
import Derived.Test.YtbinimejjenmlaaDoorFr
import Derived.Handy
namespace Go.Proofs.YtbinimejjenmlaaDoor
open Go.RowKit
set_option linter.unusedVariables false
/-- A word as four bytes, lowest first. -/
def wb (x : Nat) : List Nat := [x % 256, x / 256 % 256, x / 65536 % 256, x / 16777216]
theorem wb_len (x : Nat) : (wb x).length = 4 := rfl
theorem wb_lt {x : Nat} (hx : x < 4294967296) : ∀ y ∈ wb x, y < 256 := by
  intro y hy
  simp only [wb, List.mem_cons, List.not_mem_nil, or_false] at hy
  rcases hy with rfl | rfl | rfl | rfl <;> omega
set_option maxHeartbeats 1600000 in
theorem put_any (x : Nat) (hx : x < 4294967296) (w : World) {base n c : Nat} {A : Option Addr} {bs : List Nat} (h : Own w base 5 1 A n c (u8s bs)) (hn : n ≤ 1099511627776) (hb : base ≤ w.heap.size) :
    Calls Tryd.prog 20 #[.slice A n c, .int .u32 (x : Int)] w fun e w' => ∃ A' c', e = .returned (.slice A' (n + 4) c') ∧ Own w' base 5 1 A' (n + 4) c' (u8s (bs ++ wb x)) ∧ Fr w w' (fun b => A.map (·.block) = some b) ∧ (A' = A ∨ ∃ g, A' = some ⟨g, 0, none⟩ ∧ w.heap.size ≤ g) := by
  have H := Lib.hid h
  have R : Rd (w.alloc (.cells #[.int .u8 ((x : Int) % 256), .int .u8 ((x : Int) / 256 % 256), .int .u8 ((x : Int) / 65536 % 256), .int .u8 ((x : Int) / 16777216)] 5)) 1 (some ⟨w.heap.size, 0, none⟩) 4 (u8s (wb x)) := Rd.new w _ _ _
  have HR := Lib.hid R
  clear h R
  go_enter Tryd.func20, Tryd.ntmps20
  go_wp2_with (at_builtin; refine held ?_)
  refine Held.go (wp_app (m := 4) (news := u8s (wb x)) eltU8 (H.out.alloc _) HR.out (u8s_one _) (by omega) (.inr ⟨by omega, by omega⟩) (by simp; omega) _ _ rfl rfl rfl rfl ?_)
  intro A2 c2 w2 own2 g2 hA2 _
  rw [← u8s_append] at own2
  have hf : Fr w w2 (fun b => A.map (·.block) = some b) := (Fr.of_ext ((Ext.refl w).alloc _) _).trans (Fr.grows g2) (fun _ _ e => e)
  clear g2
  go_wp2_with fail
  go_returns
  refine ⟨A2, c2, rfl, own2, hf, ?_⟩
  rcases hA2 with e | e
  · exact .inl e
  · exact .inr ⟨_, e, by simp⟩
theorem or_high (a b k : Nat) (h : a < 2 ^ k) : a ||| b * 2 ^ k = a + b * 2 ^ k := by
  have := Nat.two_pow_add_eq_or_of_lt h b
  rw [Nat.mul_comm, Nat.or_comm, ← this, Nat.add_comm]
/-- The word of four bytes. -/
def bw (a b c d : Nat) : Nat := a + b * 256 + c * 65536 + d * 16777216
set_option maxHeartbeats 1600000 in
theorem get_any (a b c d : Nat) (l : List Nat) (w : World) {n cp : Nat} {A : Option Addr} (h : Rd w 1 A n (u8s (a :: b :: c :: d :: l))) (hn : 4 ≤ n) (ha : a < 256) (hb : b < 256) (hc : c < 256) (hd : d < 256) :
    Calls Tryd.prog 23 #[.slice A n cp] w fun e w' => e = .returned (.int .u32 (bw a b c d : Nat)) ∧ ∃ m, w' = w.drewN m := by
  obtain ⟨ad, x0, rfl, h0, c0⟩ := h.byte (k := 0) (by omega)
  obtain ⟨ad1, x1, e1, h1, c1⟩ := h.byte (k := 1) (by omega)
  obtain ⟨ad2, x2, e2, h2, c2⟩ := h.byte (k := 2) (by omega)
  obtain ⟨ad3, x3, e3, h3, c3⟩ := h.byte (k := 3) (by omega)
  injection e1 with e1
  injection e2 with e2
  injection e3 with e3
  subst e1 e2 e3
  obtain rfl : a = x0 := by have := h0.out; simpa using this
  obtain rfl : b = x1 := by have := h1.out; simpa using this
  obtain rfl : c = x2 := by have := h2.out; simpa using this
  obtain rfl : d = x3 := by have := h3.out; simpa using this
  obtain ⟨g, o, sp⟩ := ad
  have hsp : sp = none := by simpa [Addr.add] using World.cell?_spot c0
  subst hsp
  simp [Addr.add] at c0 c1 c2 c3
  clear h h0 h1 h2 h3
  have wa : IntKind.u32.wrap (a : Int) = a := by rw [IntKind.wrap_u32]; omega
  have wb : IntKind.u32.wrap (b : Int) = b := by rw [IntKind.wrap_u32]; omega
  have wc : IntKind.u32.wrap (c : Int) = c := by rw [IntKind.wrap_u32]; omega
  have wd : IntKind.u32.wrap (d : Int) = d := by rw [IntKind.wrap_u32]; omega
  have r1 : Go.bits .or .u32 (a : Int) ((b : Int) * 256) = ((a + b * 256 : Nat) : Int) := by
    have h := u32_or_nat a (b * 256) (by omega) (by omega)
    rw [or_high a b 8 ha] at h
    exact h
  have r2 : Go.bits .or .u32 ((a + b * 256 : Nat) : Int) ((c : Int) * 65536) = ((a + b * 256 + c * 65536 : Nat) : Int) := by
    have h := u32_or_nat (a + b * 256) (c * 65536) (by omega) (by omega)
    rw [or_high (a + b * 256) c 16 (by omega)] at h
    exact h
  have r3 : Go.bits .or .u32 ((a + b * 256 + c * 65536 : Nat) : Int) ((d : Int) * 16777216) = ((bw a b c d : Nat) : Int) := by
    have h := u32_or_nat (a + b * 256 + c * 65536) (d * 16777216) (by omega) (by omega)
    rw [or_high (a + b * 256 + c * 65536) d 24 (by omega)] at h
    exact h
  generalize bw a b c d = W at *
  generalize a + b * 256 + c * 65536 = V at *
  generalize a + b * 256 = U at *
  have k0 : 0 < n := by omega
  have k1 : 1 < n := by omega
  have k2 : 2 < n := by omega
  have k3 : 3 < n := by omega
  have n0 : (0 : Int) < (n : Int) := by omega
  have n1 : (1 : Int) < (n : Int) := by omega
  have n2 : (2 : Int) < (n : Int) := by omega
  have n3 : (3 : Int) < (n : Int) := by omega
  go_enter Tryd.func23, Tryd.ntmps23
  go_wp2_with fail
  go_quiet (fail)
  go_wp2_with fail
  go_returns
  exact ⟨rfl, _, rfl⟩
end Go.Proofs.YtbinimejjenmlaaDoor
