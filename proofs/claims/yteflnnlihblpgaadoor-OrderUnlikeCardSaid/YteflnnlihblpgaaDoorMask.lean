/-
  'l & (1<<k - 1)' of whatever int, negative ones too.
-/
import Derived.Test.YteflnnlihblpgaaDoorLib
namespace Go.Proofs.YteflnnlihblpgaaDoor
theorem mask_core (x : Int) (k m : Nat) (hk : k ≤ 62) (hm : m = 2 ^ k) : Go.bits .and .i64 x ((m : Int) - 1) = x % (m : Int) := by
  have hm1 : 1 ≤ m := by rw [hm]; exact Nat.one_le_two_pow
  have hm2 : m ≤ 4611686018427387904 := by
    rw [hm]
    exact Nat.le_trans (Nat.pow_le_pow_right (by decide) hk) (by decide)
  have hdv : (m : Int) ∣ 18446744073709551616 := by
    have h1 : 2 ^ k ∣ 2 ^ 64 := Nat.pow_dvd_pow 2 (by omega)
    rw [← hm] at h1
    have h2 : ((m : Nat) : Int) ∣ ((2 ^ 64 : Nat) : Int) := Int.natCast_dvd_natCast.2 h1
    have h3 : ((2 ^ 64 : Nat) : Int) = 18446744073709551616 := by decide
    rwa [h3] at h2
  have h1 : (BitVec.ofInt 64 x).toNat = (x % 18446744073709551616).toNat := by rw [BitVec.toNat_ofInt]; rfl
  have h2 : (BitVec.ofInt 64 ((m : Int) - 1)).toNat = m - 1 := by
    rw [BitVec.toNat_ofInt]
    show (((m : Int) - 1) % 18446744073709551616).toNat = m - 1
    omega
  have h3 : Go.bits .and .i64 x ((m : Int) - 1) = IntKind.i64.wrap (((x % 18446744073709551616).toNat &&& (m - 1) : Nat) : Int) := by
    rw [← h1, ← h2, ← BitVec.toNat_and]
    rfl
  rw [h3, hm, Nat.and_two_pow_sub_one_eq_mod, ← hm, IntKind.wrap_i64]
  have h4 := Nat.mod_lt (x % 18446744073709551616).toNat (show 0 < m by omega)
  have h5 : (((x % 18446744073709551616).toNat % m : Nat) : Int) = x % (m : Int) := by
    rw [Int.natCast_emod, Int.toNat_of_nonneg (Int.emod_nonneg _ (by decide)), Int.emod_emod_of_dvd _ hdv]
  omega
theorem mask38 (x : Int) : Go.bits .and .i64 x 274877906943 = x % 274877906944 := mask_core x 38 274877906944 (by decide) (by decide)
theorem mask20 (x : Int) : Go.bits .and .i64 x 1048575 = x % 1048576 := mask_core x 20 1048576 (by decide) (by decide)
end Go.Proofs.YteflnnlihblpgaaDoor
