/-
  The statement WireNumbers, walked.
-/
import Derived.Test.YtelnnlfbfbbnaaaDoorRText
import Derived.Deep.QuietTactic
import Derived.BigQuiet
namespace Go.Proofs.YtelnnlfbfbbnaaaDoor
open Go.RowKit
set_option linter.unusedVariables false
theorem mask63 (x : Int) : Go.bits .and .i64 x 9223372036854775807 = x % 9223372036854775808 := by
  have h1 : (BitVec.ofInt 64 x).toNat = (x % 18446744073709551616).toNat := by rw [BitVec.toNat_ofInt]; rfl
  have h2 : (BitVec.ofInt 64 9223372036854775807).toNat = 9223372036854775808 - 1 := by
    rw [BitVec.toNat_ofInt]
    rfl
  have h3 : Go.bits .and .i64 x 9223372036854775807 = IntKind.i64.wrap (((x % 18446744073709551616).toNat &&& (9223372036854775808 - 1) : Nat) : Int) := by
    rw [← h1, ← h2, ← BitVec.toNat_and]
    rfl
  have h4 : (9223372036854775808 : Nat) = 2 ^ 63 := by decide
  rw [h3, h4, Nat.and_two_pow_sub_one_eq_mod, ← h4, IntKind.wrap_i64]
  omega
theorem u8s_inj {l m : List Nat} (h : u8s l = u8s m) : l = m := by
  induction l generalizing m with
  | nil => cases m with
    | nil => rfl
    | cons y m => cases h
  | cons x l ih =>
    cases m with
    | nil => cases h
    | cons y m =>
      simp only [u8s, List.map_cons, List.cons.injEq, Value.int.injEq, true_and] at h
      rw [ih h.2, Int.ofNat_inj.1 h.1]
theorem str_inj {l m : List Nat} (hl : ∀ x ∈ l, x < 256) (hm : ∀ x ∈ m, x < 256) (h : str l = str m) : l = m := by
  refine u8s_inj ?_
  rw [← u8s_str l hl, ← u8s_str m hm, h]
set_option maxHeartbeats 800000 in
theorem same_any (A B : Option Addr) (n c d : Nat) (l : List Nat) (w : World) (ha : Rd w 1 A n (u8s l)) (hb : Rd w 1 B n (u8s l)) :
    Calls Tryd.prog 14 #[.slice A n c, .slice B n d] w fun e w' => e = .returned (.bool true) ∧ w = w' := by
  have c1 := run_str (P := Tryd.prog) (w := w) (s := 9) Tryd.underlying26 Tryd.underlying5 Tryd.underlying9 c ha
  have c2 := run_str (P := Tryd.prog) (w := w) (s := 9) Tryd.underlying26 Tryd.underlying5 Tryd.underlying9 d hb
  clear ha hb
  generalize str l = s at *
  go_enter Tryd.func14, Tryd.ntmps14
  go_wp2_with fail
  go_ret
  exact ⟨by simp, rfl⟩
set_option maxRecDepth 8000 in
set_option maxHeartbeats 3200000 in
theorem numbers_any (a b : Int) (w : World) :
    Calls Tryd.prog 3 #[.int .i64 a, .int .i64 b] w fun e w' => e = .returned (.bool true) ∧ Ext w w' := by
  obtain ⟨x, hx, x1⟩ : ∃ x : Nat, Go.bits .and .i64 a 9223372036854775807 = (x : Int) ∧ x ≤ 9223372036854775807 := ⟨(a % 9223372036854775808).toNat, by rw [mask63]; omega, by omega⟩
  obtain ⟨y, hy, y1⟩ : ∃ y : Nat, Go.bits .and .i64 b 9223372036854775807 = (y : Int) ∧ y ≤ 9223372036854775807 := ⟨(b % 9223372036854775808).toNat, by rw [mask63]; omega, by omega⟩
  have lx1 := Wr.num_pos x
  have ly1 := Wr.num_pos y
  have lx9 : (Wr.num x).length ≤ 9 := Wr.num_len 8 x (by rw [show (128 : Nat) ^ (8 + 1) = 9223372036854775808 by decide]; omega)
  have ly9 : (Wr.num y).length ≤ 9 := Wr.num_len 8 y (by rw [show (128 : Nat) ^ (8 + 1) = 9223372036854775808 by decide]; omega)
  go_enter Tryd.func3, Tryd.ntmps3
  go_wp2_with fail
  refine (alive_any _).mono ?_
  rintro e u0 ⟨rfl, e0⟩
  go_wp2_with fail
  refine (new_any _).mono ?_
  rintro e u1 ⟨rfl, hv, e1⟩
  have g12 := hv.lt
  go_wp2_with fail
  refine (new_any _).mono ?_
  rintro e u2 ⟨rfl, hw, e2⟩
  have hv := hv.ext e2
  have g2 := hw.lt
  have q0 := e0.size
  have q2 := ((e0.trans e1).trans e2)
  generalize u0.heap.size = p1 at *
  generalize u1.heap.size = p2 at *
  go_wp2_with fail
  refine (wnum_any x u2 hv x1 (by omega)).mono ?_
  rintro e u3 ⟨rfl, A1, n1, k1, hv3, f3, a3⟩
  have hw3 := hw.keep f3 (fun h => by rcases h with h | h; omega; cases h) (fun a h => by cases h)
  have q3 := Fr.ext q2 f3 (fun i h => by rcases h with rfl | h; exact q0; cases h)
  have hz3 := f3.size
  go_wp2_with fail
  refine (wnum_any y u3 hw3 y1 (by omega)).mono ?_
  rintro e u4 ⟨rfl, B1, m1, j1, hw4, f4, b4⟩
  have hv4 := hv3.keep f4 (fun h => by rcases h with h | h; omega; cases h) (fun a ha h => by
    rcases h with h | h
    · rcases a3 a ha with h' | h'
      · cases h'
      · omega
    · cases h)
  have q4 := Fr.ext q3 f4 (fun i h => by rcases h with rfl | h; omega; cases h)
  rw [List.nil_append] at hv4 hw4
  have hn1 := hv4.len
  have hm1 := hw4.len
  clear hv hw hv3 hw3 f3 f4 a3 b4 hz3
  go_wp2_with fail
  refine (done_any u4 hv4 (by omega)).mono ?_
  rintro e u5 ⟨C1, r1, rfl, o5, x5⟩
  have hw5 := hw4.ext x5
  clear hv4 hw4
  go_wp2_with fail
  refine (done_any u5 hw5 (by omega)).mono ?_
  rintro e u6 ⟨C2, r2, rfl, o6, x6⟩
  have o5 := o5.ext x6
  have q6 := (q4.trans x5).trans x6
  have cl1 := o5.cap_le
  have cl2 := o6.cap_le
  have rx := o5.rd
  have ry := o6.rd
  have bx := Wr.num_byte x
  have by' := Wr.num_byte y
  have MO := Lib.hid (Wr.num_mono x y)
  have PR := Lib.hid (Wr.num_prefix x y)
  clear hw5 o5 o6 q4 q3 q2 q0 x5 x6 hx hy
  by_cases hxy : x = y
  · subst hxy
    obtain rfl : n1 = m1 := by omega
    have SB := Lib.hid (same_any C1 C2 n1 r1 r2 _ u6 rx ry)
    generalize Wr.num x = l at *
    have h1 : ¬ (n1 : Int) < 1 := by omega
    have h2 : ¬ (9 : Int) < n1 := by omega
    clear rx ry bx by' hn1 hm1
    go_wp2_with fail
    refine SB.out.mono ?_
    rintro e u7 ⟨rfl, rfl⟩
    go_wp2_with fail
    go_ret
    exact ⟨rfl, q6⟩
  · have hne : ((x : Int) == (y : Int)) = false := by simp; omega
    obtain ⟨m, hm⟩ : ∃ m : Nat, m = min n1 m1 := ⟨_, rfl⟩
    have hmin : ∀ w, (Builtin.min_ #[3, 3] 3 #[.int .i64 (n1 : Int), .int .i64 (m1 : Int)]).run Tryd.prog w = .ok (.int .i64 (m : Int)) w := by
      intro w
      rw [run_min_int2]
      have : (if (m1 : Int) < (n1 : Int) then (m1 : Int) else (n1 : Int)) = m := by split <;> omega
      rw [this]
    have t1 := rx.u8take (k := m) (by omega)
    have t2 := ry.u8take (k := m) (by omega)
    have hs : str ((Wr.num x).take m) ≠ str ((Wr.num y).take m) := fun h => by
      have h := str_inj (fun z hz => bx z (List.mem_of_mem_take hz)) (fun z hz => by' z (List.mem_of_mem_take hz)) h
      refine hxy (PR.out ?_)
      rw [hn1, hm1, ← hm]
      exact h
    have c1 := fun k => run_str (P := Tryd.prog) (w := u6.drewN k) (s := 9) Tryd.underlying26 Tryd.underlying5 Tryd.underlying9 r1 (t1.drewN k)
    have c2 := fun k => run_str (P := Tryd.prog) (w := u6.drewN k) (s := 9) Tryd.underlying26 Tryd.underlying5 Tryd.underlying9 r2 (t2.drewN k)
    generalize str ((Wr.num x).take m) = s1 at *
    generalize str ((Wr.num y).take m) = s2 at *
    have hs' : (s1.toList == s2.toList) = false := by
      rw [beq_eq_false_iff_ne, ByteArray.toList_eq, ByteArray.toList_eq]
      exact fun h => hs (Go.WideShapes.bytes_inj h)
    have h1 : ¬ (n1 : Int) < 1 := by omega
    have h2 : ¬ (9 : Int) < n1 := by omega
    have m0 : (0 : Int) ≤ m := by omega
    have m1' : (m : Int) ≤ r1 := by omega
    have m2' : (m : Int) ≤ r2 := by omega
    have hlen : x < y → ¬ (m1 : Int) < n1 := fun h => by have := MO.out (by omega); omega
    clear rx ry bx by' hn1 hm1 t1 t2 hm hs PR MO
    by_cases hlt : x < y
    · have hlen := hlen hlt
      go_wp2_with fail
      go_quiet (fail)
      go_wp2_with fail
      go_ret
      exact ⟨rfl, q6.drewN _⟩
    · clear hlen
      go_wp2_with fail
      go_quiet (fail)
      go_wp2_with fail
      go_ret
      exact ⟨rfl, q6.drewN _⟩
end Go.Proofs.YtelnnlfbfbbnaaaDoor
