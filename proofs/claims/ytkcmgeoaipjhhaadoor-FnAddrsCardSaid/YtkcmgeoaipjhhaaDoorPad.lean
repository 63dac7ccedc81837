/- Contracts of Pad (reference and program): the padding of a message of n bytes; for all 64-bit integers. -/
import Derived.Test.YtkcmgeoaipjhhaaDoorPutN
namespace Go.Proofs.YtkcmgeoaipjhhaaDoor
open Go.ChangeShapes Go.WideShapes Go.ChangeAt Go.RowKit
set_option linter.unusedVariables false

/-- How many zero bytes follow the byte x80. -/
def padZ (n : Nat) : Nat := (119 - n % 64) % 64
theorem padZ_lt (n : Nat) : padZ n < 64 := by unfold padZ; omega
theorem padZ_sum (n : Nat) : (n + padZ n + 9) % 64 = 0 := by unfold padZ; omega
theorem padZ_min (n j : Nat) (h : j < padZ n) : (n + j + 9) % 64 ≠ 0 := by unfold padZ at h; omega
/-- The byte x80 and j zero bytes. -/
def pad0 (j : Nat) : List UInt8 := 128 :: List.replicate j 0
theorem pad0_len (j : Nat) : (pad0 j).length = j + 1 := by simp [pad0]
theorem pad0_succ (j : Nat) : pad0 j ++ [0] = pad0 (j + 1) := by simp [pad0, List.replicate_succ']
/-- Pad of the program. -/
def padL (n : Int) : List UInt8 := if 0 ≤ n ∧ n ≤ 1048576 then pad0 (padZ n.toNat) ++ (putL 0 4 ++ putL (8 * n) 4) else []
theorem putL_zero4 : putL 0 4 = [0, 0, 0, 0] := by decide
theorem padL_spec (n : Nat) (h : n ≤ 1048576) : putN (putN (pad0 (padZ n)) 0 4) (8 * (n : Int)) 4 = padL n := by
  rw [putN, if_pos (by decide), putN, if_pos (by decide), padL, if_pos (by omega), Int.toNat_natCast, List.append_assoc]
  rfl
theorem byteAt_small (n : Int) (i : Nat) (h0 : 0 ≤ n) (h : n < 2 ^ (8 * i)) : byteAt n i = 0 := by
  unfold byteAt
  rw [Int.ediv_eq_zero_of_lt h0 h]
  rfl
theorem padL_impl (n : Nat) (h : n ≤ 1048576) : putN (pad0 (padZ n) ++ [0, 0]) (8 * (n : Int)) 6 = padL n := by
  rw [putN, if_pos (by decide), padL, if_pos (by omega), Int.toNat_natCast, List.append_assoc, putL_zero4]
  have e : putL (8 * (n : Int)) (6 : Int).toNat = [0, 0] ++ putL (8 * (n : Int)) 4 := by
    show byteAt _ 5 :: byteAt _ 4 :: putL (8 * (n : Int)) 4 = _
    rw [byteAt_small _ 5 (by omega) (by have h2 : (2 : Int) ^ (8 * 5) = 1099511627776 := by decide
                                        omega), byteAt_small _ 4 (by omega) (by have h2 : (2 : Int) ^ (8 * 4) = 4294967296 := by decide
                                                                                omega)]
    rfl
  rw [e]
  rfl
theorem padL_len (n : Int) : (padL n).length ≤ 72 := by
  unfold padL
  split
  · have := padZ_lt n.toNat
    simp [pad0_len, putL_len]; omega
  · simp

/-- The length of a slice in a slot: for a measure. -/
def lenOf : Value → Nat | .slice _ n _ => n | _ => 0

end Go.Proofs.YtkcmgeoaipjhhaaDoor
