/- Rotating by n and by 32 - n restores the word. No program in sight. -/
import Derived.Test.YtckdipncijhedaaMath
namespace Go.Proofs.Ytckdipncijhedaa
open Go.RowKit

theorem rotN_add (x n : Nat) (hx : x < 4294967296) (hn : n ≤ 32) : rotN x n = 2 ^ (32 - n) * (x % 2 ^ n) + x / 2 ^ n := by
  have h32 : (4294967296 : Nat) = 2 ^ n * 2 ^ (32 - n) := by rw [← Nat.pow_add, show n + (32 - n) = 32 by omega]
  have hp : 0 < 2 ^ n := Nat.two_pow_pos n
  have hd : x / 2 ^ n < 2 ^ (32 - n) := by
    rw [Nat.div_lt_iff_lt_mul hp, Nat.mul_comm, ← h32]
    exact hx
  have hm : x * 2 ^ (32 - n) % 4294967296 = 2 ^ (32 - n) * (x % 2 ^ n) := by
    rw [h32, Nat.mul_mod_mul_right, Nat.mul_comm]
  rw [rotN, hm, Nat.or_comm]
  exact (Nat.two_pow_add_eq_or_of_lt hd _).symm
theorem rotN_back (x n : Nat) (hx : x < 4294967296) (hn : n ≤ 32) : rotN (rotN x n) (32 - n) = x := by
  have hp : 0 < 2 ^ n := Nat.two_pow_pos n
  have hq : 0 < 2 ^ (32 - n) := Nat.two_pow_pos _
  have h32 : (4294967296 : Nat) = 2 ^ n * 2 ^ (32 - n) := by rw [← Nat.pow_add, show n + (32 - n) = 32 by omega]
  have hd : x / 2 ^ n < 2 ^ (32 - n) := by
    rw [Nat.div_lt_iff_lt_mul hp, Nat.mul_comm, ← h32]
    exact hx
  have hy := rotN_lt x n hx
  rw [rotN_add _ _ hy (by omega), rotN_add x n hx hn, show 32 - (32 - n) = n by omega]
  rw [Nat.mul_add_mod, Nat.mod_eq_of_lt hd, Nat.mul_add_div hq, Nat.div_eq_of_lt hd, Nat.add_zero]
  exact Nat.div_add_mod x (2 ^ n)
theorem rot_back (x n : Int) (h : 1 ≤ n ∧ n ≤ 31) : rot (rot x n) (32 - n) = x % 4294967296 := by
  have hx : (x % 4294967296).toNat < 4294967296 := by omega
  have hl := rotN_lt _ n.toNat hx
  have e : rot x n = (rotN (x % 4294967296).toNat n.toNat : Int) := by rw [rot, if_pos h]
  have e2 : ((rotN (x % 4294967296).toNat n.toNat : Int) % 4294967296).toNat = rotN (x % 4294967296).toNat n.toNat := by omega
  rw [e, rot, if_pos (by omega), e2, show (32 - n).toNat = 32 - n.toNat by omega, rotN_back _ _ hx (by omega)]
  omega
theorem rot_out (x n : Int) (h : ¬ (1 ≤ n ∧ n ≤ 31)) : rot x n = x % 4294967296 := by rw [rot, if_neg h]

end Go.Proofs.Ytckdipncijhedaa
