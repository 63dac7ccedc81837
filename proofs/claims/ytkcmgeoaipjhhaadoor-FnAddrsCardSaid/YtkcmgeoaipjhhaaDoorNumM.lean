/- A number's bytes yield the number; what a pad consists of. No program in sight. -/
import Derived.Test.YtkcmgeoaipjhhaaDoorPutN
import Derived.Test.YtkcmgeoaipjhhaaDoorGetN
import Derived.Test.YtkcmgeoaipjhhaaDoorPad
namespace Go.Proofs.YtkcmgeoaipjhhaaDoor
open Go.RowKit

theorem emod_split (n a : Int) (ha : 0 < a) : n % (a * 256) = a * (n / a % 256) + n % a := by
  have h1 := Int.emod_add_mul_ediv n a
  have h2 := Int.emod_add_mul_ediv (n / a) 256
  have h3 := Int.emod_nonneg n (show a ≠ 0 by omega)
  have h4 := Int.emod_lt_of_pos n ha
  have h5 := Int.emod_nonneg (n / a) (show (256 : Int) ≠ 0 by omega)
  have h6 := Int.emod_lt_of_pos (n / a) (show (0 : Int) < 256 by omega)
  generalize n / a % 256 = r at *
  generalize n / a / 256 = q at *
  generalize n % a = s at *
  have e : n = (a * r + s) + (a * 256) * q := by
    rw [← h1, ← h2, Int.mul_add, Int.mul_assoc]
    omega
  rw [e, Int.add_mul_emod_self_left]
  refine Int.emod_eq_of_lt ?_ ?_
  · have := Int.mul_nonneg (show 0 ≤ a by omega) h5
    omega
  · have := Int.mul_le_mul_of_nonneg_left (show r ≤ 255 by omega) (show 0 ≤ a by omega)
    omega
theorem numN_putL (n : Int) (k : Nat) : ∀ acc, ((numN (putL n k) acc : Nat) : Int) = 256 ^ k * acc + n % 2 ^ (8 * k) := by
  induction k with
  | zero =>
    intro acc
    simp [putL, numN, Int.emod_one]
  | succ k ih =>
    intro acc
    have hp : (0 : Int) < 2 ^ (8 * k) := Int.pow_pos (by decide)
    have e1 : (256 : Int) ^ k = 2 ^ (8 * k) := by rw [Int.pow_mul]; rfl
    have e2 : (2 : Int) ^ (8 * (k + 1)) = 2 ^ (8 * k) * 256 := by rw [show 8 * (k + 1) = 8 * k + 8 by omega, Int.pow_add]; rfl
    have e3 : (256 : Int) ^ (k + 1) = 2 ^ (8 * k) * 256 := by rw [Int.pow_succ, e1]
    rw [putL, numN, ih, e2, e3, emod_split _ _ hp, ← byteAt_val, e1]
    rw [Int.natCast_add, Int.natCast_mul, show ((256 : Nat) : Int) = 256 from rfl, Int.mul_add, Int.mul_assoc]
    omega
theorem numN_put (n : Int) (k : Nat) : ((numN (putL n k) 0 : Nat) : Int) = n % 2 ^ (8 * k) := by rw [numN_putL]; simp

/-- What PutN writes, GetN reads. -/
theorem getN_put (l : List UInt8) (n k : Int) (hk : 1 ≤ k ∧ k ≤ 6) : getOk (putN l n k) l.length k ∧ getN (putN l n k) l.length k = n % 2 ^ (8 * k.toNat) := by
  have hl : (putN l n k).length = l.length + k.toNat := by rw [putN, if_pos hk, List.length_append, putL_len]
  have ho : getOk (putN l n k) l.length k := ⟨hk, by omega, by omega⟩
  refine ⟨ho, ?_⟩
  have e : (l ++ putL n k.toNat).drop l.length = putL n k.toNat := by simp
  rw [getN, if_pos ho, putN, if_pos hk, Int.toNat_natCast, e, List.take_of_length_le (by rw [putL_len]; omega), numN_put]
theorem getB_cut (l m : List UInt8) (k : Int) (h : (m.length : Int) < l.length + k) : getB m l.length k = false := by
  refine decide_eq_false fun x => ?_
  have := x.2.2
  omega

theorem padL_eq (q : Nat) (h : q ≤ 1048576) : padL q = 128 :: (List.replicate (padZ q + 4) 0 ++ putL (8 * (q : Int)) 4) := by
  rw [padL, if_pos (by omega), Int.toNat_natCast, putL_zero4, pad0, List.cons_append]
  congr 1
  rw [show ([0, 0, 0, 0] : List UInt8) = List.replicate 4 0 from rfl, ← List.append_assoc, List.replicate_append_replicate]
theorem padL_size (q : Nat) (h : q ≤ 1048576) : (padL q).length = padZ q + 9 := by
  rw [padL_eq q h, List.length_cons, List.length_append, List.length_replicate, putL_len]
theorem padL_first (q : Nat) (h : q ≤ 1048576) : (padL q)[0]? = some 128 := by rw [padL_eq q h]; rfl
theorem padL_mid (q i : Nat) (h : q ≤ 1048576) (h1 : 1 ≤ i) (h2 : i + 4 < (padL q).length) : (padL q)[i]? = some 0 := by
  rw [padL_size q h] at h2
  obtain ⟨i, rfl⟩ : ∃ j, i = j + 1 := ⟨i - 1, by omega⟩
  rw [padL_eq q h, List.getElem?_cons_succ, List.getElem?_append_left (by rw [List.length_replicate]; omega), List.getElem?_replicate, if_pos (by omega)]
theorem padL_num (q : Nat) (h : q ≤ 1048576) : getOk (padL q) ((padL q).length - 4 : Int) 4 ∧ getN (padL q) ((padL q).length - 4 : Int) 4 = 8 * (q : Int) := by
  have hs := padL_size q h
  have ho : getOk (padL q) ((padL q).length - 4 : Int) 4 := ⟨by omega, by omega, by omega⟩
  refine ⟨ho, ?_⟩
  have e : (padL q).drop (padZ q + 5) = putL (8 * (q : Int)) 4 := by
    rw [padL_eq q h, ← List.cons_append]
    exact List.drop_left' (by rw [List.length_cons, List.length_replicate])
  rw [getN, if_pos ho, show ((padL q).length - 4 : Int).toNat = padZ q + 5 by omega, e, List.take_of_length_le (by rw [putL_len]; decide), numN_put]
  have : (2 : Int) ^ (8 * 4) = 4294967296 := by decide
  omega

end Go.Proofs.YtkcmgeoaipjhhaaDoor
