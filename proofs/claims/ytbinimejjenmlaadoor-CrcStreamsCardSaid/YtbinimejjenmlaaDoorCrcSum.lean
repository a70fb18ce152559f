/-
  Sum of package crc, the document's Sum, and the statements' 'alive'.
-/
import Derived.Test.YtbinimejjenmlaaDoorCrcWalks
import Derived.Lib.SlBytesConst
namespace Go.Proofs.YtbinimejjenmlaaDoor
open Go.RowKit

def Crc.sum (l : List Nat) : Nat := Crc.upd 4294967295 l ^^^ 4294967295
theorem Crc.sum_lt (l : List Nat) (hl : ∀ x ∈ l, x < 256) : Crc.sum l < 4294967296 := Nat.xor_lt_two_pow (n := 32) (Crc.upd_lt 4294967295 l (by omega) hl) (by omega)

set_option maxHeartbeats 400000 in
theorem sum_any (A : Option Addr) (m c : Nat) (l : List Nat) (w : World) (hm : m ≤ 9223372036854775807) (hr : Rd w 1 A m (u8s l)) (hl : ∀ x ∈ l, x < 256) :
    Calls Tryd.prog 19 #[.slice A m c] w fun e w' => e = .returned (.int .u32 (Crc.sum l : Nat)) ∧ w = w' := by
  have hu := Crc.upd_lt 4294967295 l (by omega) hl
  have e1 : Go.bits .xor .u32 IntKind.u32.max (Crc.upd 4294967295 l : Nat) = (Crc.sum l : Nat) := by
    rw [show Crc.sum l = 4294967295 ^^^ Crc.upd 4294967295 l from Nat.xor_comm _ _]; exact u32_xor_nat 4294967295 _ (by omega) hu
  have e2 : IntKind.u32.signed = false := rfl
  go_enter Tryd.func19, Tryd.ntmps19
  go_wp2_with (go_at_call 25; refine (update_any 4294967295 A m c l _ (by omega) hm hr hl).mono ?_; rintro e w' ⟨rfl, rfl⟩)
  go_ret
  exact ⟨rfl, rfl⟩

set_option maxHeartbeats 400000 in
theorem rsum_any (A : Option Addr) (m c : Nat) (l : List Nat) (w : World) (hm : m ≤ 9223372036854775807) (hr : Rd w 1 A m (u8s l)) (hl : ∀ x ∈ l, x < 256) :
    Calls Tryd.prog 22 #[.slice A m c] w fun e w' => e = .returned (.int .u32 (Crc.sum l : Nat)) ∧ w = w' := by
  have hu := Crc.upd_lt 4294967295 l (by omega) hl
  have e1 : Go.bits .xor .u32 (Crc.upd 4294967295 l : Nat) 4294967295 = (Crc.sum l : Nat) := u32_xor_nat _ 4294967295 hu (by omega)
  go_enter Tryd.func22, Tryd.ntmps22
  go_wp2_with (go_at_call 26; refine (rupdate_any 4294967295 A m c l _ (by omega) hm hr hl).mono ?_; rintro e w' ⟨rfl, rfl⟩)
  go_ret
  exact ⟨rfl, rfl⟩

set_option maxHeartbeats 400000 in
theorem alive_any (w : World) :
    Calls Tryd.prog 7 #[] w fun e w' => e = .returned (.bool true) ∧ Ext w w' := by
  have hk : Crc.sum [49, 50, 51, 52, 53, 54, 55, 56, 57] = 3421780262 := by decide +kernel
  have HK := Lib.hid hk; clear hk
  have kc := fun (w : World) (C : Array Value) (n c : Nat) => Lib.run_convert_bytes_const (P := Tryd.prog) w 22 5 C n c Tryd.underlying22 Tryd.underlying5
  go_enter Tryd.func7, Tryd.ntmps7
  go_wp2_with (go_at_call 19; refine (sum_any _ 9 9 [49, 50, 51, 52, 53, 54, 55, 56, 57] _ (by omega) (Rd.new _ _ _ _) (by decide)).mono ?_; rintro e w' ⟨rfl, rfl⟩)
  go_ret
  exact ⟨by rw [HK.out]; rfl, (Ext.refl w).alloc _⟩

end Go.Proofs.YtbinimejjenmlaaDoor
