/-
  The statement CrcXors, walked.
-/
import Derived.Test.YtbinimejjenmlaaCrcSum
import Derived.Test.YtbinimejjenmlaaBytes
import Derived.RegionTactic
import Derived.ChangeAlike
namespace Go.Proofs.Ytbinimejjenmlaa
open Go.RowKit

set_option maxHeartbeats 400000 in
theorem crcXors_walk (A B C : Option Addr) (n1 c1 n2 c2 n3 c3 : Nat) (l1 l2 l3 : List Nat) (w : World) (hn1 : n1 ≤ c1) (hc1 : c1 ≤ 140737488351232) (hn2 : n2 ≤ c2) (_hc2 : c2 ≤ 140737488351232) (hn3 : n3 ≤ c3) (_hc3 : c3 ≤ 140737488351232)
    (hr1 : Rd w 1 A n1 (u8s l1)) (hl1 : ∀ x ∈ l1, x < 256) (hr2 : Rd w 1 B n2 (u8s l2)) (hl2 : ∀ x ∈ l2, x < 256) (hr3 : Rd w 1 C n3 (u8s l3)) (hl3 : ∀ x ∈ l3, x < 256) :
    Calls Try.prog 4 #[.slice A n1 c1, .slice B n2 c2, .slice C n3 c3] w fun e w' => e = .returned (.bool true) ∧ Ext w w' := by
  obtain ⟨n, hn⟩ : ∃ n : Nat, n = min (min n1 n2) n3 := ⟨_, rfl⟩
  have hmin := run_min3 (P := Try.prog) (t := 3) (ts := #[3, 3, 3]) n1 n2 n3 n hn
  have h1 : n ≤ n1 := by omega
  have h2 : n ≤ n2 := by omega
  have h3 : n ≤ n3 := by omega
  clear hn
  go_enter Try.func4, Try.ntmps4
  go_wp2_with (go_at_call 5; refine (alive_any _).mono ?_; rintro e w1 ⟨rfl, hx1⟩)
  obtain ⟨w2, hrun, hown, hx, hsz⟩ := run_mkn (w := w1) eltU8 rfl w.heap.size .i64 .i64 (n : Int) (by omega) (by omega) (by omega) hx1.size
  refine upon_ok hrun ?_
  clear hrun hmin
  rw [Int.toNat_natCast] at hown ⊢
  go_wp2_with fail
  have hx2 := hx1.trans hx
  clear hx hsz
  generalize w1.heap.size = g at *
  go_loopw [9, 23] (fun _ i wr => ∃ k : Nat, k ≤ n ∧ i = .int .i64 k ∧ Ext w wr ∧ Own wr w.heap.size 5 1 (some ⟨g, 0, none⟩) n n (u8s (Crc.xor3 k l1 l2 l3) ++ List.replicate (n - k) (.int .u8 0))) (fun _ i _ => n - (intOf i).toNat)
  case atStart => exact ⟨0, by omega, rfl, hx2, by simpa [Crc.xor3, u8s] using hown⟩
  case round =>
    obtain ⟨k, hk, rfl, hx3, hown3⟩ := hrel
    clear hown hx2
    by_cases hlt : k < n
    · obtain ⟨adA, x1, rfl, hy1, hcA⟩ := (hr1.ext hx3).byte (k := k) (by omega)
      obtain ⟨adB, x2, rfl, hy2, hcB⟩ := (hr2.ext hx3).byte (k := k) (by omega)
      obtain ⟨adC, x3, rfl, hy3, hcC⟩ := (hr3.ext hx3).byte (k := k) (by omega)
      have b1 := hl1 _ (mem_of_at hy1.out)
      have b2 := hl2 _ (mem_of_at hy2.out)
      have b3 := hl3 _ (mem_of_at hy3.out)
      have b12 : x1 ^^^ x2 < 256 := Nat.xor_lt_two_pow (n := 8) b1 b2
      have e1 : Go.bits .xor .u8 (x1 : Int) (x2 : Int) = ((x1 ^^^ x2 : Nat) : Int) := u8_xor_nat x1 x2 b1 b2
      have e2 : Go.bits .xor .u8 ((x1 ^^^ x2 : Nat) : Int) (x3 : Int) = ((x1 ^^^ x2 ^^^ x3 : Nat) : Int) := u8_xor_nat _ x3 b12 b3
      have hlen := Crc.xor3_len k l1 l2 l3
      have hlA := hr1.len; have hlB := hr2.len; have hlC := hr3.len
      rw [u8s_len] at hlA hlB hlC
      have hold : wr.cell? ⟨g, k, none⟩ = some (.int .u8 0) := hown3.cellAt hlt (by
        rw [List.getElem?_append_right (by rw [u8s_len]; omega), u8s_len, List.getElem?_replicate, if_pos (by omega)])
      have hfr := hown3.frozenAt k
      have HO := Lib.hid hown3
      have HX := Lib.hid hx3
      clear hown3 hx3 hr1 hr2 hr3 hl1 hl2 hl3 hlA hlB hlC hlen
      go_wp2_with fail
      go_region
      go_wp2_with fail
      go_roundw
      case rel =>
        refine ⟨k + 1, by omega, by go_num, (Ext.drew HX.out).setCell (HO.out.base_le g rfl) _, ?_⟩
        have h4 := (HO.out.drew).stored k (.int .u8 ((x1 ^^^ x2 ^^^ x3 : Nat) : Int))
        rw [set_mid _ _ _ _ _ (by rw [u8s_len, Crc.xor3_len]) (by omega)] at h4
        rw [Crc.xor3_succ, u8s_append, show n - (k + 1) = n - k - 1 by omega, List.getD, List.getD, List.getD, hy1.out, hy2.out, hy3.out]
        exact h4
      case measure => simp [intOf]; omega
    · obtain rfl : k = n := by omega
      have hx3' := hown3.rd
      rw [Nat.sub_self, List.replicate_zero, List.append_nil] at hx3'
      have hX := Crc.xor3_lt k l1 l2 l3 hl1 hl2 hl3
      have hA := (hr1.ext hx3).u8take h1
      have hB := (hr2.ext hx3).u8take h2
      have hC := (hr3.ext hx3).u8take h3
      have s1 := fun (A : Option Addr) (w : World) => run_slice3 (w := w) eltU8 A n1 c1 .i64 .i64 k k (Nat.le_refl _) (by omega)
      have s2 := fun (A : Option Addr) (w : World) => run_slice3 (w := w) eltU8 A n2 c2 .i64 .i64 k k (Nat.le_refl _) (by omega)
      have s3 := fun (A : Option Addr) (w : World) => run_slice3 (w := w) eltU8 A n3 c3 .i64 .i64 k k (Nat.le_refl _) (by omega)
      have la := fun x hx => hl1 x (List.mem_of_mem_take (i := k) hx)
      have lb := fun x hx => hl2 x (List.mem_of_mem_take (i := k) hx)
      have lc := fun x hx => hl3 x (List.mem_of_mem_take (i := k) hx)
      have hsum : Crc.sum (Crc.xor3 k l1 l2 l3) = Crc.sum (l1.take k) ^^^ Crc.sum (l2.take k) ^^^ Crc.sum (l3.take k) := by
        have q1 := hr1.len; have q2 := hr2.len; have q3 := hr3.len
        rw [u8s_len] at q1 q2 q3
        unfold Crc.sum
        rw [Crc.upd_xor3 k l1 l2 l3 (by omega) (by omega) (by omega), Crc.xor4]
      have f1 := Crc.sum_lt _ la
      have f2 := Crc.sum_lt _ lb
      have f3 := Crc.sum_lt _ lc
      have f12 : Crc.sum (l1.take k) ^^^ Crc.sum (l2.take k) < 4294967296 := Nat.xor_lt_two_pow (n := 32) f1 f2
      have e1 : Go.bits .xor .u32 (Crc.sum (l1.take k) : Nat) (Crc.sum (l2.take k) : Nat) = ((Crc.sum (l1.take k) ^^^ Crc.sum (l2.take k) : Nat) : Int) := u32_xor_nat _ _ f1 f2
      have e2 : Go.bits .xor .u32 ((Crc.sum (l1.take k) ^^^ Crc.sum (l2.take k) : Nat) : Int) (Crc.sum (l3.take k) : Nat) = ((Crc.sum (l1.take k) ^^^ Crc.sum (l2.take k) ^^^ Crc.sum (l3.take k) : Nat) : Int) := u32_xor_nat _ _ f12 f3
      rw [← hsum] at e2
      clear hsum f12
      have HX := Lib.hid hx3
      clear hown3 hx3 hr1 hr2 hr3 hl1 hl2 hl3
      go_wp2_with fail
      go_quiet ((go_at_call 7; first
        | ((with_reducible exact qz (sum_any _ k _ (Crc.xor3 k l1 l2 l3) _ (by omega) (hx3'.drewN _) hX)))
        | ((with_reducible exact qz (sum_any _ k _ (l1.take k) _ (by omega) (hA.drewN _) la)))
        | ((with_reducible exact qz (sum_any _ k _ (l2.take k) _ (by omega) (hB.drewN _) lb)))
        | ((with_reducible exact qz (sum_any _ k _ (l3.take k) _ (by omega) (hC.drewN _) lc)))))
      go_wp2_with fail
      go_ret
      exact ⟨rfl, Ext.drewN HX.out _⟩
end Go.Proofs.Ytbinimejjenmlaa
