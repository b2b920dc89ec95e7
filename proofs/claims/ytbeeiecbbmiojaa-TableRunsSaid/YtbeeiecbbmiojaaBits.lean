/- What a mask of ones keeps of an integer, whatever its sign: the remainder. No program in sight. -/
import Derived.Test.YtbeeiecbbmiojaaBase
import Derived.Laws.BitsAllLaws
import Derived.Laws.BitsLemmas
namespace Go.Proofs.Ytbeeiecbbmiojaa
open Go.RowKit

theorem toNat_ofInt64 (n : Int) : ((BitVec.ofInt 64 n).toNat : Int) = n % 18446744073709551616 := by
  rw [BitVec.toNat_ofInt]
  have : (0 : Int) ≤ n % ((2 ^ 64 : Nat) : Int) := Int.emod_nonneg _ (by decide)
  rw [Int.toNat_of_nonneg this]
  rfl

theorem mask_nat (k : Nat) (hk : k ≤ 62) (n : Int) : (((BitVec.ofInt 64 n &&& BitVec.ofInt 64 (2 ^ k - 1)).toNat : Nat) : Int) = n % 2 ^ k := by
  have hp : (2 : Nat) ^ k ≤ 2 ^ 62 := Nat.pow_le_pow_right (by omega) hk
  have hp0 : 0 < (2 : Nat) ^ k := Nat.pow_pos (by omega)
  have e1 : (BitVec.ofInt 64 ((2 : Int) ^ k - 1)).toNat = 2 ^ k - 1 := by
    have h : ((2 : Int) ^ k - 1) = ((2 ^ k - 1 : Nat) : Int) := by
      rw [Int.natCast_sub (by omega)]; simp
    rw [h, BitVec.ofInt_natCast, BitVec.toNat_ofNat]
    exact Nat.mod_eq_of_lt (by omega)
  rw [BitVec.toNat_and, e1, Nat.and_two_pow_sub_one_eq_mod, Int.natCast_emod, toNat_ofInt64]
  have e2 : ((2 ^ k : Nat) : Int) = (2 : Int) ^ k := by simp
  rw [e2]
  have hd : ((2 : Int) ^ k) ∣ 18446744073709551616 := by
    refine ⟨2 ^ (64 - k), ?_⟩
    rw [← Int.pow_add, show k + (64 - k) = 64 from by omega]
    rfl
  exact Int.emod_emod_of_dvd n hd

theorem mask_bd (k : Nat) (hk : k ≤ 62) (n : Int) : 0 ≤ n % (2 : Int) ^ k ∧ n % (2 : Int) ^ k < 4611686018427387904 := by
  have h0 : (0 : Int) < 2 ^ k := Int.pow_pos (by omega)
  have h1 : (2 : Int) ^ k ≤ 2 ^ 62 := by
    have : (2 : Nat) ^ k ≤ 2 ^ 62 := Nat.pow_le_pow_right (by omega) hk
    have h := Int.ofNat_le.2 this
    simpa using h
  have h2 := Int.emod_lt_of_pos n h0
  refine ⟨Int.emod_nonneg _ (by omega), ?_⟩
  have h3 : (2 : Int) ^ 62 = 4611686018427387904 := by rfl
  omega

theorem i64_mask (k : Nat) (hk : k ≤ 62) (n : Int) : bits .and .i64 n (2 ^ k - 1) = n % 2 ^ k := by
  show IntKind.i64.wrap _ = _
  have h := mask_nat k hk n
  have hb := mask_bd k hk n
  have e : IntKind.i64.wrap (((BitVec.ofInt 64 n &&& BitVec.ofInt 64 (2 ^ k - 1)).toNat : Nat) : Int) = n % 2 ^ k := by
    rw [h, IntKind.wrap_i64]
    omega
  exact e

theorem u64_mask (k : Nat) (hk : k ≤ 62) (n : Int) : bits .and .u64 n (2 ^ k - 1) = n % 2 ^ k := by
  show IntKind.u64.wrap _ = _
  have h := mask_nat k hk n
  have hb := mask_bd k hk n
  have e : IntKind.u64.wrap (((BitVec.ofInt 64 n &&& BitVec.ofInt 64 (2 ^ k - 1)).toNat : Nat) : Int) = n % 2 ^ k := by
    rw [h, IntKind.wrap_u64]
    omega
  exact e

theorem i64_and1 (n : Int) : bits .and .i64 n 1 = n % 2 := i64_mask 1 (by omega) n
theorem i64_and3 (n : Int) : bits .and .i64 n 3 = n % 4 := i64_mask 2 (by omega) n
theorem i64_and7 (n : Int) : bits .and .i64 n 7 = n % 8 := i64_mask 3 (by omega) n
theorem i64_and15 (n : Int) : bits .and .i64 n 15 = n % 16 := i64_mask 4 (by omega) n
theorem i64_and31 (n : Int) : bits .and .i64 n 31 = n % 32 := i64_mask 5 (by omega) n
theorem i64_and63 (n : Int) : bits .and .i64 n 63 = n % 64 := i64_mask 6 (by omega) n
theorem i64_and255 (n : Int) : bits .and .i64 n 255 = n % 256 := i64_mask 8 (by omega) n
theorem u64_and1 (n : Int) : bits .and .u64 n 1 = n % 2 := u64_mask 1 (by omega) n
theorem u64_and15 (n : Int) : bits .and .u64 n 15 = n % 16 := u64_mask 4 (by omega) n
theorem u64_and65535 (n : Int) : bits .and .u64 n 65535 = n % 65536 := u64_mask 16 (by omega) n

end Go.Proofs.Ytbeeiecbbmiojaa
