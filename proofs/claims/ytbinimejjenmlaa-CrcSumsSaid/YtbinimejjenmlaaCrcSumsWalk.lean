/-
  The statement CrcSums, walked.
-/
import Derived.Test.YtbinimejjenmlaaCrcSum
import Derived.Test.YtbinimejjenmlaaBytes
namespace Go.Proofs.Ytbinimejjenmlaa
open Go.RowKit

set_option maxHeartbeats 400000 in
theorem crcSums_walk (A : Option Addr) (n c : Nat) (word cut : Int) (l : List Nat) (w : World) (hn : n ≤ 140737488351232) (hr : Rd w 1 A n (u8s l)) (hl : ∀ x ∈ l, x < 256) (hw0 : 0 ≤ word) (hw1 : word < 4294967296) :
    Calls Try.prog 3 #[.slice A n c, .int .u32 word, .int .i64 cut] w fun e w' => e = .returned (.bool true) ∧ Ext w w' := by
  obtain ⟨wd, rfl⟩ := Int.eq_ofNat_of_zero_le hw0
  obtain ⟨q, hq⟩ : ∃ q, cut.tmod ((n : Int) + 1) = q := ⟨_, rfl⟩
  have hq0 : -(n : Int) ≤ q := by rw [← hq]; have := Int.lt_tmod_of_pos cut (b := (n : Int) + 1) (by omega); omega
  have hq1 : q ≤ n := by rw [← hq]; have := Int.tmod_lt_of_pos cut (b := (n : Int) + 1) (by omega); omega
  obtain ⟨k, hk⟩ : ∃ k : Nat, (q + (n : Int) + 1) % ((n : Int) + 1) = k := Int.eq_ofNat_of_zero_le (Int.emod_nonneg _ (by omega))
  have hkn : k ≤ n := by have := Int.emod_lt_of_pos (q + (n : Int) + 1) (b := (n : Int) + 1) (by omega); omega
  go_enter Try.func3, Try.ntmps3
  go_wp2_with (go_at_call 5; refine (alive_any _).mono ?_; rintro e w1 ⟨rfl, hx1⟩)
  refine (bytes_any A n c l _ hn (hr.ext hx1)).mono ?_
  rintro e w2 ⟨rfl, hb, hx2⟩
  go_wp2_with fail
  rw [hk]
  clear hk hq hq0 hq1
  have hin := hb.unmark
  have hr2 := hr.ext (hx1.trans hx2)
  have hA := hin.u8take hkn
  have hB := hin.u8off hkn
  rw [Nat.zero_add] at hB
  have hl1 : ∀ x ∈ l.take k, x < 256 := fun x hx => hl x (List.mem_of_mem_take hx)
  have hl2 : ∀ x ∈ l.drop k, x < 256 := fun x hx => hl x (List.mem_of_mem_drop hx)
  have hu := Crc.upd_lt wd (l.take k) (by omega) hl1
  have hcat : Crc.upd (Crc.upd wd (l.take k)) (l.drop k) = Crc.upd wd l := by rw [← Crc.upd_append, List.take_append_drop]
  have h3 := run_slice3 eltU8 (some ⟨w1.heap.size, 0, none⟩) n (n + 6) .i64 .i64 k k (Nat.le_refl _) (by omega)
  go_quiet (first
    | (go_at_call 7; exact qz (sum_any _ n _ l _ (by omega) (hin.drewN _) hl))
    | (go_at_call 8; exact qz (rsum_any _ n _ l _ (by omega) (hr2.drewN _) hl))
    | (go_at_call 10; exact qz (rupdate_any wd _ n _ l _ (by omega) (by omega) (hr2.drewN _) hl))
    | (go_at_call 9; first
        | ((with_reducible exact qz (update_any wd _ n _ l _ (by omega) (by omega) (hin.drewN _) hl)))
        | ((with_reducible exact qz (update_any wd _ k _ (l.take k) _ (by omega) (by omega) (hA.drewN _) hl1)))
        | ((with_reducible exact qz (update_any (Crc.upd wd (l.take k)) _ (n - k) _ (l.drop k) _ hu (by omega) (hB.drewN _) hl2))))
    | (go_at_call 11; exact Calls.quiet_of (kept_any _ n c A l _ hn (hb.drewN _) (hr2.drewN _))))
  go_wp2_with fail
  go_ret
  exact ⟨rfl, (hx1.trans hx2).drewN _⟩
end Go.Proofs.Ytbinimejjenmlaa
