/-
  The statement CrcSlips, walked.
-/
import Derived.Test.YtbinimejjenmlaaDoorCrcSlipN
import Derived.Deep.Cut
namespace Go.Proofs.YtbinimejjenmlaaDoor
open Go.RowKit
set_option linter.unusedVariables false
theorem frm_byte {l : List Nat} (hl : ∀ x ∈ l, x < 256) (hn : l.length ≤ 32768) : ∀ x ∈ frm l, x < 256 := by
  have hB : ∀ x ∈ wb l.length ++ l, x < 256 := fun x hx => by
    rcases List.mem_append.1 hx with h | h
    · exact wb_lt (by omega) x h
    · exact hl x h
  intro x hx
  unfold frm at hx
  rcases List.mem_append.1 hx with h | h
  · exact hB x h
  · exact wb_lt (Crc.sum_lt _ hB) x h
set_option maxRecDepth 8000 in
set_option maxHeartbeats 3200000 in
theorem slips_ok (A : Option Addr) (n c : Nat) (l : List Nat) (bit : Int) (w : World) (hn : n ≤ 32768) (hr : Rd w 1 A n (u8s l)) (hl : ∀ x ∈ l, x < 256) (E : Nat → Addr) (hE : Errs w E) :
    Calls Tryd.prog 4 #[.slice A n c, .int .i64 bit] w fun e w' => e = .returned (.bool true) ∧ Ext w w' := by
  have hll : l.length = n := by have := hr.len; rwa [u8s_len] at this
  obtain ⟨N8, R, B8, i, r, q, W⟩ := bit_nums n hn bit
  obtain ⟨w1, hq, wN, w2, w3, w4, w5, w6, w7, w8, hq0, hq1, hN8, hB0, hi4, hin, hr8⟩ := W
  have FR := Lib.hid (fun w' (hx : Ext w w') => frame_ok A n c l w' (hr.ext hx) hl hn)
  have HI := Lib.hid (And.intro hB0 hi4)
  have HL := Lib.hid hll
  clear hr hB0 hi4 hll
  go_enter Tryd.func4, Tryd.ntmps4
  go_wp2_with fail
  refine (alive_any _).mono ?_
  rintro e u0 ⟨rfl, e0⟩
  go_wp2_with fail
  refine (FR.out u0 e0).mono ?_
  rintro e u1 ⟨B, cb, rfl, ho, e1⟩
  obtain ⟨g, rfl⟩ := ho.head (by omega)
  go_upto_region 10 with (fail)
  rw [w4]
  obtain ⟨x, hx⟩ : ∃ x, (frm l)[i]'(by rw [frm_len, HL.out]; omega) = x := ⟨_, rfl⟩
  have hat : (u8s (frm l))[i]? = some (.int .u8 (x : Int)) := by rw [u8s_at _ _ (by rw [frm_len, HL.out]; omega), hx]
  have hx8 : x < 256 := by
    rw [← hx]
    exact frm_byte hl (by rw [HL.out]; omega) _ (List.getElem_mem _)
  have cc := ho.cellAt hin hat
  have ff := ho.frozenAt i
  obtain ⟨hy1, hy2⟩ := turn_ne x r hx8 hr8
  have k0 : (0 : Int) ≤ i := by omega
  have k1 : (i : Int) < (n : Int) + 8 := by omega
  clear w1 w2 w3 w4 hq hq0 hq1 wN
  have HO := Lib.hid ho
  have HH := Lib.hid (And.intro hx (And.intro hy1 hy2))
  clear ho hx hat hy1 hy2 
  have ho2 := HO.out.stored i (.int .u8 ((x ^^^ 2 ^ r : Nat) : Int))
  have hset : (u8s (frm l)).set i (.int .u8 ((x ^^^ 2 ^ r : Nat) : Int)) = u8s ((frm l).set i (x ^^^ 2 ^ r)) := by simp [u8s, List.map_set]
  rw [hset] at ho2
  have hb := frm_byte hl (by rw [HL.out]; omega)
  have hb2 : ∀ z ∈ (frm l).set i (x ^^^ 2 ^ r), z < 256 := fun z hz => by
    rcases List.mem_or_eq_of_mem_set hz with h | rfl
    · exact hb z h
    · exact HH.out.2.2
  obtain ⟨a, b, c1, d, l', e2, e3, e4, e5, f1, f2, f3, f4⟩ := slip_frm (l := l) (i := i) (y := x ^^^ 2 ^ r) hl (by rw [HL.out]; omega) HI.out.2 (by rw [frm_len, HL.out]; omega) HH.out.2.2 (by rw [HH.out.1]; exact fun e => HH.out.2.1 e.symm)
  have e1' : Ext w (u1.setCell ⟨g, i, none⟩ (.int .u8 ((x ^^^ 2 ^ r : Nat) : Int))) := (e0.trans e1).setCell (by have := HO.out.base_le g rfl; have := e0.size; show w.heap.size ≤ g; omega) _
  have ebit : Go.bits .xor .u8 (x : Int) (2 ^ r % 256) = ((x ^^^ 2 ^ r : Nat) : Int) := by
    have h2 : 2 ^ r < 256 := Nat.pow_lt_pow_right (a := 2) (n := 8) (by decide) hr8
    have h := u8_xor_nat x (2 ^ r) hx8 h2
    have e : (2 : Int) ^ r % 256 = ((2 ^ r : Nat) : Int) := by
      have e2 : ((2 ^ r : Nat) : Int) = (2 : Int) ^ r := Int.natCast_pow 2 r
      rw [← e2]
      clear e2 h
      generalize 2 ^ r = y at *
      omega
    rw [e, h]
  have hrd := ho2.rd
  rw [f1] at hrd
  rw [f1] at hb2 f3 f4
  have RS := Lib.hid (read_sum g 0 (n + 8) cb a b c1 d l' e2 e3 e4 e5 [] _ hrd hb2 (by omega) (by rw [f2, HL.out]; exact hn) (by rw [f2, HL.out]; omega) ho2.cap_le (by rw [f2]; exact f3) (by rw [f2]; exact f4) ((hE.ext e1').sen 4 (by decide)))
  have HX := Lib.hid e1'
  have HE := Lib.hid hE
  have EB := Lib.hid ebit
  clear f1 f2 f3 f4 hrd hb2 hb ho2 hset ebit e1'
  go_wp2_with fail
  rw [EB.out]
  refine RS.out.mono ?_
  unfold RNo
  rintro e v1 ⟨rfl, ev⟩
  have e6 := HX.out.trans ev
  go_wp2_with fail
  refine (num_at E 3 _ v1 (HE.out.ext e6) rfl).mono ?_
  rintro e v2 ⟨rfl, ev2⟩
  go_wp2_with fail
  go_returns
  exact ⟨rfl, e6.trans ev2⟩
set_option maxHeartbeats 1600000 in
theorem slips_no (A : Option Addr) (n c : Nat) (bit : Int) (w : World) (hn : 32768 < n) (hn2 : n ≤ 140737488351232) {p : Addr} (hS : Sen w 0 p) :
    Calls Tryd.prog 4 #[.slice A n c, .int .i64 bit] w fun e w' => e = .returned (.bool true) ∧ Ext w w' := by
  have FR := Lib.hid (fun w' (hx : Ext w w') => frame_no A n c w' (hS.ext hx) hn)
  have hn3 : (32768 : Int) < n := by omega
  clear hS
  go_enter Tryd.func4, Tryd.ntmps4
  go_wp2_with fail
  refine (alive_any _).mono ?_
  rintro e u0 ⟨rfl, e0⟩
  go_wp2_with fail
  refine (FR.out u0 e0).mono ?_
  rintro e u1 ⟨rfl, e1⟩
  go_wp2_with fail
  go_returns
  exact ⟨rfl, e0.trans e1⟩
end Go.Proofs.YtbinimejjenmlaaDoor
