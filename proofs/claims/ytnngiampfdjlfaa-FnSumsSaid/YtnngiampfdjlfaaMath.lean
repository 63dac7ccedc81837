/- Plain facts on the 64-bit integer operations that the program uses on 32-bit words and on bytes. No program in sight. -/
import Derived.WalkKit
namespace Go.Proofs.Ytnngiampfdjlfaa
open Go.RowKit

theorem ofInt64_toNat (a : Int) : (BitVec.ofInt 64 a).toNat = (a % 18446744073709551616).toNat := by
  rw [BitVec.toNat_ofInt]; rfl

theorem wrap_small (n : Nat) (h : n < 9223372036854775808) : IntKind.i64.wrap (n : Int) = n := by
  rw [IntKind.wrap_i64]; omega

/-- 'a & (2^k - 1)', whatever the sign of a. -/
theorem and_mask (k : Nat) (m a : Int) (hk : k < 63) (hm : m = 2 ^ k - 1) : bits .and .i64 a m = a % 2 ^ k := by
  subst hm
  have hp : (2 : Int) ^ k = ((2 ^ k : Nat) : Int) := by simp
  have hpos : 0 < 2 ^ k := Nat.two_pow_pos k
  have hlt : 2 ^ k < 2 ^ 63 := Nat.pow_lt_pow_right (by decide) hk
  have hdvd : (2 ^ k : Nat) ∣ 2 ^ 64 := Nat.pow_dvd_pow 2 (by omega)
  obtain ⟨c, hc⟩ := hdvd
  show IntKind.i64.wrap ((BitVec.ofInt 64 a &&& BitVec.ofInt 64 (2 ^ k - 1)).toNat : Int) = _
  rw [BitVec.toNat_and, ofInt64_toNat, ofInt64_toNat]
  have e1 : ((2 ^ k - 1 : Int) % 18446744073709551616).toNat = 2 ^ k - 1 := by rw [hp]; omega
  rw [e1, Nat.and_two_pow_sub_one_eq_mod, wrap_small _ (by have := Nat.mod_lt (a % 18446744073709551616).toNat hpos; omega)]
  rw [Int.natCast_emod, Int.toNat_of_nonneg (Int.emod_nonneg _ (by decide)), ← hp]
  have hc' : (18446744073709551616 : Int) = 2 ^ k * (c : Int) := by rw [hp, ← Int.natCast_mul, ← hc]; rfl
  rw [hc', Int.emod_emod_of_dvd _ (Int.dvd_mul_right _ _)]

theorem and32 (a : Int) : bits .and .i64 a 4294967295 = a % 4294967296 := and_mask 32 _ a (by decide) (by decide)
theorem and255 (a : Int) : bits .and .i64 a 255 = a % 256 := and_mask 8 _ a (by decide) (by decide)

theorem bits64_nat (a b : Nat) (ha : a < 9223372036854775808) (hb : b < 9223372036854775808) :
    bits .or .i64 (a : Int) (b : Int) = ((a ||| b : Nat) : Int) ∧ bits .xor .i64 (a : Int) (b : Int) = ((a ^^^ b : Nat) : Int) ∧ bits .and .i64 (a : Int) (b : Int) = ((a &&& b : Nat) : Int) := by
  have e1 : ((a : Int) % 18446744073709551616).toNat = a := by omega
  have e2 : ((b : Int) % 18446744073709551616).toNat = b := by omega
  refine ⟨?_, ?_, ?_⟩
  · show IntKind.i64.wrap ((BitVec.ofInt 64 (a : Int) ||| BitVec.ofInt 64 (b : Int)).toNat : Int) = _
    rw [BitVec.toNat_or, ofInt64_toNat, ofInt64_toNat, e1, e2]
    exact wrap_small _ (Nat.or_lt_two_pow (n := 63) ha hb)
  · show IntKind.i64.wrap ((BitVec.ofInt 64 (a : Int) ^^^ BitVec.ofInt 64 (b : Int)).toNat : Int) = _
    rw [BitVec.toNat_xor, ofInt64_toNat, ofInt64_toNat, e1, e2]
    exact wrap_small _ (Nat.xor_lt_two_pow (n := 63) ha hb)
  · show IntKind.i64.wrap ((BitVec.ofInt 64 (a : Int) &&& BitVec.ofInt 64 (b : Int)).toNat : Int) = _
    rw [BitVec.toNat_and, ofInt64_toNat, ofInt64_toNat, e1, e2]
    exact wrap_small _ (Nat.lt_of_le_of_lt (Nat.and_le_left) ha)

theorem or64 (a b : Int) (h1 : 0 ≤ a) (h2 : a < 9223372036854775808) (h3 : 0 ≤ b) (h4 : b < 9223372036854775808) : bits .or .i64 a b = ((a.toNat ||| b.toNat : Nat) : Int) := by
  have := (bits64_nat a.toNat b.toNat (by omega) (by omega)).1
  rwa [Int.toNat_of_nonneg h1, Int.toNat_of_nonneg h3] at this
theorem xor64 (a b : Int) (h1 : 0 ≤ a) (h2 : a < 9223372036854775808) (h3 : 0 ≤ b) (h4 : b < 9223372036854775808) : bits .xor .i64 a b = ((a.toNat ^^^ b.toNat : Nat) : Int) := by
  have := (bits64_nat a.toNat b.toNat (by omega) (by omega)).2.1
  rwa [Int.toNat_of_nonneg h1, Int.toNat_of_nonneg h3] at this
theorem and64 (a b : Int) (h1 : 0 ≤ a) (h2 : a < 9223372036854775808) (h3 : 0 ≤ b) (h4 : b < 9223372036854775808) : bits .and .i64 a b = ((a.toNat &&& b.toNat : Nat) : Int) := by
  have := (bits64_nat a.toNat b.toNat (by omega) (by omega)).2.2
  rwa [Int.toNat_of_nonneg h1, Int.toNat_of_nonneg h3] at this

/-- '^' on two bytes. -/
theorem xor_u8 (a b : UInt8) : bits .xor .u8 ((a.toNat : Nat) : Int) ((b.toNat : Nat) : Int) = ((a.toNat ^^^ b.toNat : Nat) : Int) :=
  u8_xor_nat _ _ a.toNat_lt b.toNat_lt
theorem xor_bd (a b : UInt8) : 0 ≤ ((a.toNat ^^^ b.toNat : Nat) : Int) ∧ ((a.toNat ^^^ b.toNat : Nat) : Int) < 256 := by
  have := Nat.xor_lt_two_pow (n := 8) a.toNat_lt b.toNat_lt
  omega

attribute [go_sem] and32 and255 xor_u8

theorem wrap_mod32 (a : Int) : wrap64 a % 4294967296 = a % 4294967296 := by unfold wrap64; omega

/-- The word x, rotated right by n, for n from 0 to 31. -/
def rotN (x n : Nat) : Nat := (x / 2 ^ n) ||| (x * 2 ^ (32 - n)) % 4294967296
/-- Rot of the program: on every pair of 64-bit integers. -/
def rot (x n : Int) : Int := if 1 ≤ n ∧ n ≤ 31 then (rotN (x % 4294967296).toNat n.toNat : Int) else x % 4294967296

theorem rotN_lt (x n : Nat) (h : x < 4294967296) : rotN x n < 4294967296 :=
  Nat.or_lt_two_pow (n := 32) (Nat.lt_of_le_of_lt (Nat.div_le_self _ _) h) (Nat.mod_lt _ (by decide))
theorem rot_bd (x n : Int) : 0 ≤ rot x n ∧ rot x n < 4294967296 := by
  unfold rot
  split
  · have := rotN_lt (x % 4294967296).toNat n.toNat (by omega)
    omega
  · omega
theorem rotN_zero (x : Nat) : rotN x 0 = x := by
  unfold rotN
  rw [show x * 2 ^ (32 - 0) % 4294967296 = 0 from Nat.mul_mod_left _ _]
  simp

/-- What the Go text computes, on a word y and a count n from 0 to 31. -/
theorem rot_core (y n : Int) (h0 : 0 ≤ y) (h1 : y < 4294967296) (h2 : 0 ≤ n) (h3 : n ≤ 31) :
    bits .or .i64 (y / 2 ^ n.toNat) (wrap64 (y * 2 ^ (32 - n).toNat)) % 4294967296 = (rotN y.toNat n.toNat : Int) := by
  obtain ⟨y, rfl⟩ := Int.eq_ofNat_of_zero_le h0
  obtain ⟨n, rfl⟩ := Int.eq_ofNat_of_zero_le h2
  have e0 : (32 - (n : Int)).toNat = 32 - n := by omega
  have hy : y < 2 ^ 32 := by omega
  have hle : 2 ^ (32 - n) ≤ 2 ^ 32 := Nat.pow_le_pow_right (by decide) (by omega)
  rw [e0, Int.toNat_natCast, Int.toNat_natCast]
  have e1 : ((y : Int) / 2 ^ n) = ((y / 2 ^ n : Nat) : Int) := by rw [Int.natCast_ediv]; simp
  have e2 : ((y : Int) * 2 ^ (32 - n)) = ((y * 2 ^ (32 - n) : Nat) : Int) := by rw [Int.natCast_mul]; simp
  by_cases hn : n = 0
  · subst hn
    rw [e1, e2, rotN_zero y]
    simp only [Nat.pow_zero, Nat.div_one, Nat.sub_zero]
    have hb : y * 2 ^ 32 < 2 ^ 64 := by omega
    show IntKind.i64.wrap ((BitVec.ofInt 64 (y : Int) ||| BitVec.ofInt 64 (wrap64 ((y * 2 ^ 32 : Nat) : Int))).toNat : Int) % 4294967296 = y
    rw [BitVec.toNat_or, ofInt64_toNat, ofInt64_toNat]
    have f1 : ((y : Int) % 18446744073709551616).toNat = y := by omega
    have f2 : (wrap64 ((y * 2 ^ 32 : Nat) : Int) % 18446744073709551616).toNat = y * 2 ^ 32 := by unfold wrap64; omega
    rw [f1, f2, show ∀ z : Int, IntKind.i64.wrap z % 4294967296 = z % 4294967296 from fun z => by rw [IntKind.wrap_i64]; omega]
    have : (y ||| y * 2 ^ 32) % 2 ^ 32 = y := by
      rw [Nat.or_mod_two_pow, Nat.mul_mod_left, Nat.mod_eq_of_lt hy]; simp
    have h32 : (2 : Nat) ^ 32 = 4294967296 := rfl
    simp only [h32] at this ⊢
    omega
  · have hle' : 2 ^ (32 - n) ≤ 2 ^ 31 := Nat.pow_le_pow_right (by decide) (by omega)
    have hb : y * 2 ^ (32 - n) < 2 ^ 63 := by
      have : y * 2 ^ (32 - n) ≤ y * 2 ^ 31 := Nat.mul_le_mul_left _ hle'
      omega
    have hd : y / 2 ^ n ≤ y := Nat.div_le_self _ _
    have hw : wrap64 ((y * 2 ^ (32 - n) : Nat) : Int) = ((y * 2 ^ (32 - n) : Nat) : Int) := by unfold wrap64; omega
    rw [e1, e2, hw, (bits64_nat _ _ (by omega) (by omega)).1]
    unfold rotN
    have := Nat.or_mod_two_pow (a := y / 2 ^ n) (b := y * 2 ^ (32 - n)) (n := 32)
    have h32 : (2 : Nat) ^ 32 = 4294967296 := rfl
    rw [h32, Nat.mod_eq_of_lt (by omega : y / 2 ^ n < 4294967296)] at this
    rw [← this]
    omega

end Go.Proofs.Ytnngiampfdjlfaa
