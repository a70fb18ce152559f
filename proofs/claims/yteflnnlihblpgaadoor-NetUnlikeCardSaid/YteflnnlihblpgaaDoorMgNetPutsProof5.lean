/-
  Package wire: a Reader, walked.
-/
import Derived.Test.YteflnnlihblpgaaDoorMgNetPutsProof4
import Derived.Laws.BitsAllLaws
import Derived.Handy
namespace Go.Proofs.YteflnnlihblpgaaDoor
open Go.RowKit
set_option linter.unusedVariables false
theorem i64_or_nat (a b : Nat) (ha : a < 9223372036854775808) (hb : b < 9223372036854775808) : Go.bits .or .i64 (a : Int) (b : Int) = ((a ||| b : Nat) : Int) := by
  have h : Go.bits .or .i64 (a : Int) (b : Int) = IntKind.i64.wrap (((BitVec.ofInt 64 (a : Int) ||| BitVec.ofInt 64 (b : Int)).toNat : Nat) : Int) := rfl
  have e : ∀ x : Nat, x < 9223372036854775808 → (BitVec.ofInt 64 (x : Int)).toNat = x := by
    intro x hx
    rw [BitVec.toNat_ofInt]
    show ((x : Int) % 18446744073709551616).toNat = x
    omega
  have h3 : a ||| b < 9223372036854775808 := Nat.or_lt_two_pow (n := 63) ha hb
  rw [h, BitVec.toNat_or, e a ha, e b hb, IntKind.wrap_i64]
  omega
theorem or_add (a v p k : Nat) (hp : p = 2 ^ k) (ha : a < p) (hb : v * p < 9223372036854775808) (hpb : p ≤ 9223372036854775808) : Go.bits .or .i64 (a : Int) ((v : Int) * (p : Int)) = ((a + v * p : Nat) : Int) := by
  have h1 : (v : Int) * (p : Int) = ((v * p : Nat) : Int) := (Int.natCast_mul _ _).symm
  rw [h1, i64_or_nat a (v * p) (by omega) hb]
  subst hp
  congr 1
  rw [Nat.or_comm, Nat.mul_comm v, ← Nat.two_pow_add_eq_or_of_lt ha, Nat.add_comm]
theorem u8_low (c : Nat) (hc : c < 256) : Go.bits .and .u8 (c : Int) 127 = ((c % 128 : Nat) : Int) := by
  rw [show (127 : Int) = ((127 : Nat) : Int) from rfl, u8_and_nat c 127 hc (by omega)]
  congr 1
  exact Nat.and_two_pow_sub_one_eq_mod c 7
/-- A reader at block g: its bytes, its place. -/
structure RdS (w : World) (g : Nat) (A : Option Addr) (n c at_ : Nat) (l : List Nat) : Prop where
  blk : w.heap[g]? = some (.cells #[.slice A n c, .int .i64 (at_ : Int)] 137 (0, 0))
  rd : Rd w 1 A n (u8s l)
  cap : n ≤ c
  ne : 0 < n → ∀ a, A = some a → a.block ≠ g
  le : at_ ≤ n
  byte : ∀ x ∈ l, x < 256
  small : n ≤ 140737488351232
section
variable {w w' : World} {g n c at_ : Nat} {A : Option Addr} {l : List Nat}
theorem RdS.len (h : RdS w g A n c at_ l) : l.length = n := by have := h.rd.len; rwa [u8s_len] at this
theorem RdS.lt (h : RdS w g A n c at_ l) : g < w.heap.size := (Array.getElem?_eq_some_iff.1 h.blk).1
theorem RdS.c0 (h : RdS w g A n c at_ l) : w.cell? ⟨g, 0, none⟩ = some (.slice A n c) := by rw [cell_of_row w g 0 _ _ _ h.blk]; rfl
theorem RdS.c1 (h : RdS w g A n c at_ l) : w.cell? ⟨g, 1, none⟩ = some (.int .i64 (at_ : Int)) := by rw [cell_of_row w g 1 _ _ _ h.blk]; rfl
theorem RdS.fr (h : RdS w g A n c at_ l) (k : Nat) : w.frozen? ⟨g, k, none⟩ = false := by
  have := h.blk
  simp only [World.frozen?, this]
  simp
theorem RdS.ext (h : RdS w g A n c at_ l) (hx : Ext w w') : RdS w' g A n c at_ l :=
  ⟨(hx.block g h.lt).trans h.blk, h.rd.ext hx, h.cap, h.ne, h.le, h.byte, h.small⟩
theorem RdS.put (h : RdS w g A n c at_ l) (k : Nat) (hk : k ≤ n) : RdS (w.setCell ⟨g, 1, none⟩ (.int .i64 (k : Int))) g A n c k l := by
  refine ⟨heap_setCell_same w g 1 _ _ _ h.blk, ?_, h.cap, h.ne, hk, h.byte, h.small⟩
  rcases Nat.eq_zero_or_pos n with h0 | h0
  · subst h0
    have := h.rd.len
    exact ⟨by rw [this], fun h => absurd h (by omega)⟩
  · exact (Fr.store w ⟨g, 1, none⟩ (.int .i64 (k : Int))).rd h.rd (fun a ha => h.ne h0 a ha)
end
theorem newr_any (A : Option Addr) (n c : Nat) (l : List Nat) (w : World) (hr : Rd w 1 A n (u8s l)) (hl : ∀ x ∈ l, x < 256) (hn : n ≤ 140737488351232) :
    Calls Tryd.prog 57 #[.slice A n c] w fun e w' => ∃ g A' c', e = .returned (.pointer (some ⟨g, 0, none⟩)) ∧ w.heap.size ≤ g ∧ RdS w' g A' n c' 0 l ∧ (∀ a, A' = some a → w.heap.size ≤ a.block) ∧ Ext w w' := by
  have C := Lib.hid (clone_any A n c l w hr hn)
  have HL := Lib.hid hl
  clear hr hl
  go_enter Tryd.func57, Tryd.ntmps57
  go_wp2_with fail
  refine C.out.mono ?_
  rintro e w1 ⟨A', c', rfl, ho, hx⟩
  have HO := Lib.hid ho
  have HX := Lib.hid hx
  clear ho hx
  go_wp2_with fail
  go_returns
  refine ⟨_, A', c', rfl, HX.out.size, ⟨heap_alloc_new w1 _, HO.out.rd.ext ((Ext.refl _).alloc _), HO.out.cap_le, fun h0 a ha e => ?_, Nat.zero_le _, HL.out, hn⟩, fun a ha => HO.out.base_le _ (by rw [ha]; rfl), HX.out.alloc _⟩
  obtain ⟨ad, h1, h2, _⟩ := HO.out.rd.2 h0
  rw [ha] at h1
  injection h1 with h1
  subst h1
  omega
/-- What number answers. -/
def NumR (l : List Nat) (at_ : Nat) (e : Ending) : Prop :=
  match Wr.rd (l.drop at_) with
  | some (x, k) => e = .returned (.tuple #[.int .i64 (x : Int), .int .i64 ((at_ + k : Nat) : Int), .bool true])
  | none => ∃ a b : Int, e = .returned (.tuple #[.int .i64 a, .int .i64 b, .bool false])
theorem numR_none {l : List Nat} {at_ : Nat} {a b : Int} (h : Wr.rd (l.drop at_) = none) : NumR l at_ (.returned (.tuple #[.int .i64 a, .int .i64 b, .bool false])) := by
  unfold NumR; rw [h]; exact ⟨a, b, rfl⟩
theorem numR_some {l : List Nat} {at_ x k : Nat} {a b : Int} (h : Wr.rd (l.drop at_) = some (x, k)) (ha : a = (x : Int)) (hb : b = ((at_ + k : Nat) : Int)) : NumR l at_ (.returned (.tuple #[.int .i64 a, .int .i64 b, .bool true])) := by
  unfold NumR; rw [h, ha, hb]
set_option maxRecDepth 8000 in
set_option maxHeartbeats 6400000 in
theorem number_any (w : World) {g n c at_ : Nat} {A : Option Addr} {l : List Nat} (h : RdS w g A n c at_ l) :
    Calls Tryd.prog 81 #[.pointer (some ⟨g, 0, none⟩), .int .i64 (at_ : Int)] w fun e w' => NumR l at_ e ∧ w = w' := by
  have c0 := h.c0
  have HL := Lib.hid h.len
  have HR := Lib.hid h.rd
  have HB := Lib.hid h.byte
  have hle := h.le
  have hsm := h.small
  have hlt := h.lt
  clear h
  go_enter Tryd.func81, Tryd.ntmps81
  go_wp2_with fail
  go_loop [7, 10] (fun v7 v10 => ∃ i acc : Nat, v7 = .int .i64 (acc : Int) ∧ v10 = .int .i64 (i : Int) ∧ i ≤ 9 ∧ Hid (acc < 128 ^ i ∧ Wr.rd (l.drop at_) = Wr.rdF (9 - i) (l.drop (at_ + i)) acc i)) (fun _ v10 => 9 - (intOf v10).toNat)
  case atStart => exact ⟨0, 0, rfl, rfl, by omega, by simp, rfl⟩
  case round =>
    obtain ⟨i, acc, rfl, rfl, hi, HI⟩ := hrel
    by_cases hn9 : i < 9
    · by_cases hend : at_ + i < n
      · obtain ⟨ad, x, rfl, hx, hc⟩ := HR.out.byte hend
        have hx8 := HB.out x (mem_of_at hx.out)
        have hcons : l.drop (at_ + i) = x :: l.drop (at_ + i + 1) := by
          have h1 := List.getElem?_eq_some_iff.1 hx.out
          obtain ⟨h1, h2⟩ := h1
          rw [List.drop_eq_getElem_cons h1, h2]
        obtain ⟨f, hf⟩ : ∃ f, 9 - i = f + 1 := ⟨8 - i, by omega⟩
        have hrd := HI.out.2
        rw [hcons, hf, Wr.rdF] at hrd
        have hacc := HI.out.1
        have HF := Lib.hid (And.intro hrd (show f = 9 - (i + 1) by omega))
        obtain ⟨p, hp⟩ : ∃ p, at_ + i = p := ⟨_, rfl⟩
        rw [hp] at hc
        have p1 : (at_ : Int) + (i : Int) = (p : Int) := by omega
        have p2 : (p : Int) < n := by omega
        have p3 : (0 : Int) ≤ p := by omega
        have p4 : ¬ (n : Int) ≤ p := by omega
        have hpb : p ≤ 140737488400000 := by omega
        have HP := Lib.hid hp
        obtain ⟨v, hv⟩ : ∃ v, x % 128 = v := ⟨_, rfl⟩
        have b1 := u8_low x hx8
        rw [hv] at b1
        have hv8 : v < 128 := by omega
        have HV := Lib.hid hv
        clear hcons hf hrd hp hv hi hend
        have hi9 : i = 0 ∨ i = 1 ∨ i = 2 ∨ i = 3 ∨ i = 4 ∨ i = 5 ∨ i = 6 ∨ i = 7 ∨ i = 8 := by omega
        rcases hi9 with rfl | rfl | rfl | rfl | rfl | rfl | rfl | rfl | rfl
        · obtain rfl : acc = 0 := by simp at hacc; exact hacc
          have b2 : Go.bits .or .i64 0 (v : Int) = (v : Int) := by have h := i64_or_nat 0 v (by omega) (by omega); simpa using h
          have hp0 : at_ = p := by omega
          subst hp0
          clear p1
          obtain ⟨r, hr⟩ : ∃ r : Nat, v = r := ⟨_, rfl⟩
          have hrb : r ≤ 9223372036854775807 := by omega
          rw [hr] at b2 b1
          have HRR := Lib.hid hr
          clear hacc
          by_cases hc8 : x < 128
          · have hc8' : (x : Int) < 128 := by omega
            by_cases hx0 : x = 0
            · subst hx0
              clear hr
              have y0 : Go.bits .and .u8 0 127 = 0 := by decide
              have y1 : Go.bits .or .i64 0 0 = 0 := by decide
              have r0 : r = 0 := by have h1 := HRR.out; have h2 := HV.out; omega
              subst r0
              go_wp2_with fail
              go_returns
              refine ⟨numR_some (x := 0) (k := 1) ?_ rfl (by have := HP.out; omega), rfl⟩
              have h := HF.out.1
              have h1 := HRR.out
              have h2 := HV.out
              simp at h
              rw [h]
            · have hx0' : (x : Int) ≠ 0 := by omega
              have HZ := Lib.hid hx0
              clear hr
              go_wp2_with fail
              go_returns
              refine ⟨numR_some (x := r) (k := 1) ?_ rfl (by have := HP.out; omega), rfl⟩
              have h := HF.out.1
              have h1 := HRR.out
              have h2 := HV.out
              rw [if_pos (by omega), if_pos (.inl HZ.out)] at h
              rw [h]
              have e1 : 0 + x * 128 ^ 0 = r := by simp; omega
              rw [e1]
          · have hc8' : ¬ (x : Int) < 128 := by omega
            clear hr
            go_wp2_with fail
            go_round
            case rel =>
              have h := HF.out.1
              have h1 := HRR.out
              have h2 := HV.out
              have h3 := HP.out
              rw [if_neg hc8] at h
              refine ⟨1, r, rfl, rfl, by omega, by rw [show (128 : Nat) ^ 1 = 128 by simp]; omega, ?_⟩
              rw [h, HF.out.2]
              have e0 : x - 128 = v := by clear h h1; omega
              have e1 : 0 + (x - 128) * 128 ^ 0 = r := by rw [show (128 : Nat) ^ 0 = 1 by simp, e0]; omega
              rw [e1]
            case measure => simp [intOf]
        · have hacc2 : acc < 128 := by simpa using hacc
          have b2 : Go.bits .or .i64 (acc : Int) ((v : Int) * 128) = ((acc + v * 128 : Nat) : Int) := or_add acc v 128 7 (by simp) hacc2 (by omega) (by omega)
          have q1 : (at_ : Int) + 1 = (p : Int) := by omega
          clear p1
          obtain ⟨r, hr⟩ : ∃ r : Nat, acc + v * 128 = r := ⟨_, rfl⟩
          have hrb : r ≤ 9223372036854775807 := by omega
          rw [hr] at b2
          have HRR := Lib.hid hr
          have HA := Lib.hid hacc2
          clear hacc hacc2
          by_cases hc8 : x < 128
          · have hc8' : (x : Int) < 128 := by omega
            by_cases hx0 : x = 0
            · subst hx0
              clear hr
              go_wp2_with fail
              go_returns
              refine ⟨numR_none ?_, rfl⟩
              have h := HF.out.1
              rw [if_pos (by omega), if_neg (by omega)] at h
              exact h
            · have hx0' : (x : Int) ≠ 0 := by omega
              have HZ := Lib.hid hx0
              clear hr
              go_wp2_with fail
              go_returns
              refine ⟨numR_some (x := r) (k := 2) ?_ rfl (by have := HP.out; omega), rfl⟩
              have h := HF.out.1
              have h1 := HRR.out
              have h2 := HV.out
              rw [if_pos (by omega), if_pos (by first | exact .inl HZ.out | exact .inr rfl | exact .inl (by omega))] at h
              rw [h]
              have e0 : x = v := by clear h h1 HA; omega
              have e1 : acc + x * 128 ^ 1 = r := by rw [show (128 : Nat) ^ 1 = 128 by simp, e0]; exact h1
              rw [e1]
          · have hc8' : ¬ (x : Int) < 128 := by omega
            clear hr
            go_wp2_with fail
            go_round
            case rel =>
              have h := HF.out.1
              have h1 := HRR.out
              have h2 := HV.out
              have h3 := HP.out
              have h4 := HA.out
              rw [if_neg hc8] at h
              refine ⟨2, r, rfl, rfl, by omega, by rw [show (128 : Nat) ^ 2 = 16384 by simp]; omega, ?_⟩
              rw [h, HF.out.2]
              have e0 : x - 128 = v := by clear h h1; omega
              have e1 : acc + (x - 128) * 128 ^ 1 = r := by rw [show (128 : Nat) ^ 1 = 128 by simp, e0]; exact h1
              rw [e1]
            case measure => simp [intOf]
        · have hacc2 : acc < 16384 := by simpa using hacc
          have b2 : Go.bits .or .i64 (acc : Int) ((v : Int) * 16384) = ((acc + v * 16384 : Nat) : Int) := or_add acc v 16384 14 (by simp) hacc2 (by omega) (by omega)
          have q1 : (at_ : Int) + 2 = (p : Int) := by omega
          clear p1
          obtain ⟨r, hr⟩ : ∃ r : Nat, acc + v * 16384 = r := ⟨_, rfl⟩
          have hrb : r ≤ 9223372036854775807 := by omega
          rw [hr] at b2
          have HRR := Lib.hid hr
          have HA := Lib.hid hacc2
          clear hacc hacc2
          by_cases hc8 : x < 128
          · have hc8' : (x : Int) < 128 := by omega
            by_cases hx0 : x = 0
            · subst hx0
              clear hr
              go_wp2_with fail
              go_returns
              refine ⟨numR_none ?_, rfl⟩
              have h := HF.out.1
              rw [if_pos (by omega), if_neg (by omega)] at h
              exact h
            · have hx0' : (x : Int) ≠ 0 := by omega
              have HZ := Lib.hid hx0
              clear hr
              go_wp2_with fail
              go_returns
              refine ⟨numR_some (x := r) (k := 3) ?_ rfl (by have := HP.out; omega), rfl⟩
              have h := HF.out.1
              have h1 := HRR.out
              have h2 := HV.out
              rw [if_pos (by omega), if_pos (by first | exact .inl HZ.out | exact .inr rfl | exact .inl (by omega))] at h
              rw [h]
              have e0 : x = v := by clear h h1 HA; omega
              have e1 : acc + x * 128 ^ 2 = r := by rw [show (128 : Nat) ^ 2 = 16384 by simp, e0]; exact h1
              rw [e1]
          · have hc8' : ¬ (x : Int) < 128 := by omega
            clear hr
            go_wp2_with fail
            go_round
            case rel =>
              have h := HF.out.1
              have h1 := HRR.out
              have h2 := HV.out
              have h3 := HP.out
              have h4 := HA.out
              rw [if_neg hc8] at h
              refine ⟨3, r, rfl, rfl, by omega, by rw [show (128 : Nat) ^ 3 = 2097152 by simp]; omega, ?_⟩
              rw [h, HF.out.2]
              have e0 : x - 128 = v := by clear h h1; omega
              have e1 : acc + (x - 128) * 128 ^ 2 = r := by rw [show (128 : Nat) ^ 2 = 16384 by simp, e0]; exact h1
              rw [e1]
            case measure => simp [intOf]
        · have hacc2 : acc < 2097152 := by simpa using hacc
          have b2 : Go.bits .or .i64 (acc : Int) ((v : Int) * 2097152) = ((acc + v * 2097152 : Nat) : Int) := or_add acc v 2097152 21 (by simp) hacc2 (by omega) (by omega)
          have q1 : (at_ : Int) + 3 = (p : Int) := by omega
          clear p1
          obtain ⟨r, hr⟩ : ∃ r : Nat, acc + v * 2097152 = r := ⟨_, rfl⟩
          have hrb : r ≤ 9223372036854775807 := by omega
          rw [hr] at b2
          have HRR := Lib.hid hr
          have HA := Lib.hid hacc2
          clear hacc hacc2
          by_cases hc8 : x < 128
          · have hc8' : (x : Int) < 128 := by omega
            by_cases hx0 : x = 0
            · subst hx0
              clear hr
              go_wp2_with fail
              go_returns
              refine ⟨numR_none ?_, rfl⟩
              have h := HF.out.1
              rw [if_pos (by omega), if_neg (by omega)] at h
              exact h
            · have hx0' : (x : Int) ≠ 0 := by omega
              have HZ := Lib.hid hx0
              clear hr
              go_wp2_with fail
              go_returns
              refine ⟨numR_some (x := r) (k := 4) ?_ rfl (by have := HP.out; omega), rfl⟩
              have h := HF.out.1
              have h1 := HRR.out
              have h2 := HV.out
              rw [if_pos (by omega), if_pos (by first | exact .inl HZ.out | exact .inr rfl | exact .inl (by omega))] at h
              rw [h]
              have e0 : x = v := by clear h h1 HA; omega
              have e1 : acc + x * 128 ^ 3 = r := by rw [show (128 : Nat) ^ 3 = 2097152 by simp, e0]; exact h1
              rw [e1]
          · have hc8' : ¬ (x : Int) < 128 := by omega
            clear hr
            go_wp2_with fail
            go_round
            case rel =>
              have h := HF.out.1
              have h1 := HRR.out
              have h2 := HV.out
              have h3 := HP.out
              have h4 := HA.out
              rw [if_neg hc8] at h
              refine ⟨4, r, rfl, rfl, by omega, by rw [show (128 : Nat) ^ 4 = 268435456 by simp]; omega, ?_⟩
              rw [h, HF.out.2]
              have e0 : x - 128 = v := by clear h h1; omega
              have e1 : acc + (x - 128) * 128 ^ 3 = r := by rw [show (128 : Nat) ^ 3 = 2097152 by simp, e0]; exact h1
              rw [e1]
            case measure => simp [intOf]
        · have hacc2 : acc < 268435456 := by simpa using hacc
          have b2 : Go.bits .or .i64 (acc : Int) ((v : Int) * 268435456) = ((acc + v * 268435456 : Nat) : Int) := or_add acc v 268435456 28 (by simp) hacc2 (by omega) (by omega)
          have q1 : (at_ : Int) + 4 = (p : Int) := by omega
          clear p1
          obtain ⟨r, hr⟩ : ∃ r : Nat, acc + v * 268435456 = r := ⟨_, rfl⟩
          have hrb : r ≤ 9223372036854775807 := by omega
          rw [hr] at b2
          have HRR := Lib.hid hr
          have HA := Lib.hid hacc2
          clear hacc hacc2
          by_cases hc8 : x < 128
          · have hc8' : (x : Int) < 128 := by omega
            by_cases hx0 : x = 0
            · subst hx0
              clear hr
              go_wp2_with fail
              go_returns
              refine ⟨numR_none ?_, rfl⟩
              have h := HF.out.1
              rw [if_pos (by omega), if_neg (by omega)] at h
              exact h
            · have hx0' : (x : Int) ≠ 0 := by omega
              have HZ := Lib.hid hx0
              clear hr
              go_wp2_with fail
              go_returns
              refine ⟨numR_some (x := r) (k := 5) ?_ rfl (by have := HP.out; omega), rfl⟩
              have h := HF.out.1
              have h1 := HRR.out
              have h2 := HV.out
              rw [if_pos (by omega), if_pos (by first | exact .inl HZ.out | exact .inr rfl | exact .inl (by omega))] at h
              rw [h]
              have e0 : x = v := by clear h h1 HA; omega
              have e1 : acc + x * 128 ^ 4 = r := by rw [show (128 : Nat) ^ 4 = 268435456 by simp, e0]; exact h1
              rw [e1]
          · have hc8' : ¬ (x : Int) < 128 := by omega
            clear hr
            go_wp2_with fail
            go_round
            case rel =>
              have h := HF.out.1
              have h1 := HRR.out
              have h2 := HV.out
              have h3 := HP.out
              have h4 := HA.out
              rw [if_neg hc8] at h
              refine ⟨5, r, rfl, rfl, by omega, by rw [show (128 : Nat) ^ 5 = 34359738368 by simp]; omega, ?_⟩
              rw [h, HF.out.2]
              have e0 : x - 128 = v := by clear h h1; omega
              have e1 : acc + (x - 128) * 128 ^ 4 = r := by rw [show (128 : Nat) ^ 4 = 268435456 by simp, e0]; exact h1
              rw [e1]
            case measure => simp [intOf]
        · have hacc2 : acc < 34359738368 := by simpa using hacc
          have b2 : Go.bits .or .i64 (acc : Int) ((v : Int) * 34359738368) = ((acc + v * 34359738368 : Nat) : Int) := or_add acc v 34359738368 35 (by simp) hacc2 (by omega) (by omega)
          have q1 : (at_ : Int) + 5 = (p : Int) := by omega
          clear p1
          obtain ⟨r, hr⟩ : ∃ r : Nat, acc + v * 34359738368 = r := ⟨_, rfl⟩
          have hrb : r ≤ 9223372036854775807 := by omega
          rw [hr] at b2
          have HRR := Lib.hid hr
          have HA := Lib.hid hacc2
          clear hacc hacc2
          by_cases hc8 : x < 128
          · have hc8' : (x : Int) < 128 := by omega
            by_cases hx0 : x = 0
            · subst hx0
              clear hr
              go_wp2_with fail
              go_returns
              refine ⟨numR_none ?_, rfl⟩
              have h := HF.out.1
              rw [if_pos (by omega), if_neg (by omega)] at h
              exact h
            · have hx0' : (x : Int) ≠ 0 := by omega
              have HZ := Lib.hid hx0
              clear hr
              go_wp2_with fail
              go_returns
              refine ⟨numR_some (x := r) (k := 6) ?_ rfl (by have := HP.out; omega), rfl⟩
              have h := HF.out.1
              have h1 := HRR.out
              have h2 := HV.out
              rw [if_pos (by omega), if_pos (by first | exact .inl HZ.out | exact .inr rfl | exact .inl (by omega))] at h
              rw [h]
              have e0 : x = v := by clear h h1 HA; omega
              have e1 : acc + x * 128 ^ 5 = r := by rw [show (128 : Nat) ^ 5 = 34359738368 by simp, e0]; exact h1
              rw [e1]
          · have hc8' : ¬ (x : Int) < 128 := by omega
            clear hr
            go_wp2_with fail
            go_round
            case rel =>
              have h := HF.out.1
              have h1 := HRR.out
              have h2 := HV.out
              have h3 := HP.out
              have h4 := HA.out
              rw [if_neg hc8] at h
              refine ⟨6, r, rfl, rfl, by omega, by rw [show (128 : Nat) ^ 6 = 4398046511104 by simp]; omega, ?_⟩
              rw [h, HF.out.2]
              have e0 : x - 128 = v := by clear h h1; omega
              have e1 : acc + (x - 128) * 128 ^ 5 = r := by rw [show (128 : Nat) ^ 5 = 34359738368 by simp, e0]; exact h1
              rw [e1]
            case measure => simp [intOf]
        · have hacc2 : acc < 4398046511104 := by simpa using hacc
          have b2 : Go.bits .or .i64 (acc : Int) ((v : Int) * 4398046511104) = ((acc + v * 4398046511104 : Nat) : Int) := or_add acc v 4398046511104 42 (by simp) hacc2 (by omega) (by omega)
          have q1 : (at_ : Int) + 6 = (p : Int) := by omega
          clear p1
          obtain ⟨r, hr⟩ : ∃ r : Nat, acc + v * 4398046511104 = r := ⟨_, rfl⟩
          have hrb : r ≤ 9223372036854775807 := by omega
          rw [hr] at b2
          have HRR := Lib.hid hr
          have HA := Lib.hid hacc2
          clear hacc hacc2
          by_cases hc8 : x < 128
          · have hc8' : (x : Int) < 128 := by omega
            by_cases hx0 : x = 0
            · subst hx0
              clear hr
              go_wp2_with fail
              go_returns
              refine ⟨numR_none ?_, rfl⟩
              have h := HF.out.1
              rw [if_pos (by omega), if_neg (by omega)] at h
              exact h
            · have hx0' : (x : Int) ≠ 0 := by omega
              have HZ := Lib.hid hx0
              clear hr
              go_wp2_with fail
              go_returns
              refine ⟨numR_some (x := r) (k := 7) ?_ rfl (by have := HP.out; omega), rfl⟩
              have h := HF.out.1
              have h1 := HRR.out
              have h2 := HV.out
              rw [if_pos (by omega), if_pos (by first | exact .inl HZ.out | exact .inr rfl | exact .inl (by omega))] at h
              rw [h]
              have e0 : x = v := by clear h h1 HA; omega
              have e1 : acc + x * 128 ^ 6 = r := by rw [show (128 : Nat) ^ 6 = 4398046511104 by simp, e0]; exact h1
              rw [e1]
          · have hc8' : ¬ (x : Int) < 128 := by omega
            clear hr
            go_wp2_with fail
            go_round
            case rel =>
              have h := HF.out.1
              have h1 := HRR.out
              have h2 := HV.out
              have h3 := HP.out
              have h4 := HA.out
              rw [if_neg hc8] at h
              refine ⟨7, r, rfl, rfl, by omega, by rw [show (128 : Nat) ^ 7 = 562949953421312 by simp]; omega, ?_⟩
              rw [h, HF.out.2]
              have e0 : x - 128 = v := by clear h h1; omega
              have e1 : acc + (x - 128) * 128 ^ 6 = r := by rw [show (128 : Nat) ^ 6 = 4398046511104 by simp, e0]; exact h1
              rw [e1]
            case measure => simp [intOf]
        · have hacc2 : acc < 562949953421312 := by simpa using hacc
          have b2 : Go.bits .or .i64 (acc : Int) ((v : Int) * 562949953421312) = ((acc + v * 562949953421312 : Nat) : Int) := or_add acc v 562949953421312 49 (by simp) hacc2 (by omega) (by omega)
          have q1 : (at_ : Int) + 7 = (p : Int) := by omega
          clear p1
          obtain ⟨r, hr⟩ : ∃ r : Nat, acc + v * 562949953421312 = r := ⟨_, rfl⟩
          have hrb : r ≤ 9223372036854775807 := by omega
          rw [hr] at b2
          have HRR := Lib.hid hr
          have HA := Lib.hid hacc2
          clear hacc hacc2
          by_cases hc8 : x < 128
          · have hc8' : (x : Int) < 128 := by omega
            by_cases hx0 : x = 0
            · subst hx0
              clear hr
              go_wp2_with fail
              go_returns
              refine ⟨numR_none ?_, rfl⟩
              have h := HF.out.1
              rw [if_pos (by omega), if_neg (by omega)] at h
              exact h
            · have hx0' : (x : Int) ≠ 0 := by omega
              have HZ := Lib.hid hx0
              clear hr
              go_wp2_with fail
              go_returns
              refine ⟨numR_some (x := r) (k := 8) ?_ rfl (by have := HP.out; omega), rfl⟩
              have h := HF.out.1
              have h1 := HRR.out
              have h2 := HV.out
              rw [if_pos (by omega), if_pos (by first | exact .inl HZ.out | exact .inr rfl | exact .inl (by omega))] at h
              rw [h]
              have e0 : x = v := by clear h h1 HA; omega
              have e1 : acc + x * 128 ^ 7 = r := by rw [show (128 : Nat) ^ 7 = 562949953421312 by simp, e0]; exact h1
              rw [e1]
          · have hc8' : ¬ (x : Int) < 128 := by omega
            clear hr
            go_wp2_with fail
            go_round
            case rel =>
              have h := HF.out.1
              have h1 := HRR.out
              have h2 := HV.out
              have h3 := HP.out
              have h4 := HA.out
              rw [if_neg hc8] at h
              refine ⟨8, r, rfl, rfl, by omega, by rw [show (128 : Nat) ^ 8 = 72057594037927936 by simp]; omega, ?_⟩
              rw [h, HF.out.2]
              have e0 : x - 128 = v := by clear h h1; omega
              have e1 : acc + (x - 128) * 128 ^ 7 = r := by rw [show (128 : Nat) ^ 7 = 562949953421312 by simp, e0]; exact h1
              rw [e1]
            case measure => simp [intOf]
        · have hacc2 : acc < 72057594037927936 := by simpa using hacc
          have b2 : Go.bits .or .i64 (acc : Int) ((v : Int) * 72057594037927936) = ((acc + v * 72057594037927936 : Nat) : Int) := or_add acc v 72057594037927936 56 (by simp) hacc2 (by omega) (by omega)
          have q1 : (at_ : Int) + 8 = (p : Int) := by omega
          clear p1
          obtain ⟨r, hr⟩ : ∃ r : Nat, acc + v * 72057594037927936 = r := ⟨_, rfl⟩
          have hrb : r ≤ 9223372036854775807 := by omega
          rw [hr] at b2
          have HRR := Lib.hid hr
          have HA := Lib.hid hacc2
          clear hacc hacc2
          by_cases hc8 : x < 128
          · have hc8' : (x : Int) < 128 := by omega
            by_cases hx0 : x = 0
            · subst hx0
              clear hr
              go_wp2_with fail
              go_returns
              refine ⟨numR_none ?_, rfl⟩
              have h := HF.out.1
              rw [if_pos (by omega), if_neg (by omega)] at h
              exact h
            · have hx0' : (x : Int) ≠ 0 := by omega
              have HZ := Lib.hid hx0
              clear hr
              go_wp2_with fail
              go_returns
              refine ⟨numR_some (x := r) (k := 9) ?_ rfl (by have := HP.out; omega), rfl⟩
              have h := HF.out.1
              have h1 := HRR.out
              have h2 := HV.out
              rw [if_pos (by omega), if_pos (by first | exact .inl HZ.out | exact .inr rfl | exact .inl (by omega))] at h
              rw [h]
              have e0 : x = v := by clear h h1 HA; omega
              have e1 : acc + x * 128 ^ 8 = r := by rw [show (128 : Nat) ^ 8 = 72057594037927936 by simp, e0]; exact h1
              rw [e1]
          · have hc8' : ¬ (x : Int) < 128 := by omega
            clear hr
            go_wp2_with fail
            go_round
            case rel =>
              have h := HF.out.1
              have h1 := HRR.out
              have h2 := HV.out
              have h3 := HP.out
              have h4 := HA.out
              rw [if_neg hc8] at h
              refine ⟨9, r, rfl, rfl, by omega, by rw [show (128 : Nat) ^ 9 = 9223372036854775808 by simp]; omega, ?_⟩
              rw [h, HF.out.2]
              have e0 : x - 128 = v := by clear h h1; omega
              have e1 : acc + (x - 128) * 128 ^ 8 = r := by rw [show (128 : Nat) ^ 8 = 72057594037927936 by simp, e0]; exact h1
              rw [e1]
            case measure => simp [intOf]
      · have p1 : (n : Int) ≤ (at_ : Int) + (i : Int) := by omega
        have hpb : at_ + i ≤ 140737488400000 := by omega
        have hi0 : i < 9 := hn9
        have hi1 : (i : Int) < 9 := by omega
        go_wp2_with fail
        go_returns
        refine ⟨numR_none ?_, rfl⟩
        have h := HI.out.2
        have e0 : l.drop (at_ + i) = [] := List.drop_eq_nil_of_le (by rw [HL.out]; omega)
        have e1 : Wr.rdF (8 - i + 1) [] acc i = none := by rw [Wr.rdF]
        rw [e0, show 9 - i = (8 - i) + 1 by omega, e1] at h
        exact h
    · obtain rfl : i = 9 := by omega
      go_wp2_with fail
      go_returns
      refine ⟨numR_none ?_, rfl⟩
      have h := HI.out.2
      rw [show 9 - 9 = 0 from rfl, Wr.rdF] at h
      exact h
end Go.Proofs.YteflnnlihblpgaaDoor
