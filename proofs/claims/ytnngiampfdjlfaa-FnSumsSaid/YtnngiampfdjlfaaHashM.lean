/- SHA-256 as a plain function: the blocks one after another; and that the program's way (a hash that is fed and then closed) is the reference's. No program in sight. -/
import Derived.Test.YtnngiampfdjlfaaCompM
import Derived.Test.YtnngiampfdjlfaaOut
import Derived.Test.YtnngiampfdjlfaaPad
namespace Go.Proofs.Ytnngiampfdjlfaa
open Go.RowKit

/-- The words behind the first j blocks of b. -/
def allL (h : List Int) (b : List UInt8) : Nat → List Int
  | 0 => h
  | j + 1 => compL (allL h b j) ((b.drop (64 * j)).take 64)
theorem allL_len (h : List Int) (b : List UInt8) (j : Nat) : (allL h b j).length = h.length := by
  induction j with
  | zero => rfl
  | succ j ih => rw [allL, compL_len, ih]
theorem allL_wd {h : List Int} (hw : wordsB h = true) (b : List UInt8) (j : Nat) : wordsB (allL h b j) = true := by
  induction j with
  | zero => exact hw
  | succ j ih => exact compL_wd ih _
theorem allL_app (h : List Int) (x p : List UInt8) (j : Nat) (hj : 64 * j ≤ x.length) : allL h (x ++ p) j = allL h x j := by
  induction j with
  | zero => rfl
  | succ j ih =>
    rw [allL, allL, ih (by omega), List.drop_append_of_le_length (by omega), List.take_append_of_le_length (by rw [List.length_drop]; omega)]
theorem allL_drop (h : List Int) (b : List UInt8) (j k : Nat) : allL h b (j + k) = allL (allL h b j) (b.drop (64 * j)) k := by
  induction k with
  | zero => rfl
  | succ k ih =>
    rw [← Nat.add_assoc, allL, allL, ih, List.drop_drop]
    rw [show 64 * (j + k) = 64 * j + 64 * k by omega]
/-- The digest of a whole input, by the reference's way. -/
def shaL (b : List UInt8) : List UInt8 := if b.length ≤ 1048576 then outR (allL startL (b ++ padL b.length) ((b ++ padL b.length).length / 64)) 8 else []
theorem shaL_len (b : List UInt8) : (shaL b).length = if b.length ≤ 1048576 then 32 else 0 := by
  unfold shaL
  split
  · rw [outR_len]
  · rfl
/-- Whether the parts of a hash fit. -/
def hOk (h : List Int) (held : List UInt8) (n : Int) : Bool := wordsB h && decide (0 ≤ n ∧ n ≤ 1048576) && decide (n % 64 = held.length)
theorem hOk_iff (h : List Int) (held : List UInt8) (n : Int) : hOk h held n = true ↔ wordsB h = true ∧ (0 ≤ n ∧ n ≤ 1048576) ∧ n % 64 = held.length := by
  simp [hOk, and_assoc]
/-- HashEnd on the parts of a hash that fits. -/
def endL (h : List Int) (held : List UInt8) (n : Nat) : List UInt8 := outR (allL h (held ++ padL n) ((held ++ padL n).length / 64)) 8
theorem startL_ok : wordsB startL = true := by decide
theorem sha_split (b : List UInt8) (hb : b.length ≤ 1048576) : shaL b = endL (allL startL b (b.length / 64)) (b.drop (64 * (b.length / 64))) b.length := by
  rw [shaL, if_pos hb, endL]
  congr 1
  generalize hp : padL (b.length : Int) = p
  have e0 : (b ++ p).drop (64 * (b.length / 64)) = b.drop (64 * (b.length / 64)) ++ p := List.drop_append_of_le_length (by omega)
  have e1 : (b ++ p).length / 64 = b.length / 64 + (b.drop (64 * (b.length / 64)) ++ p).length / 64 := by
    simp only [List.length_append, List.length_drop]
    omega
  rw [e1, allL_drop, allL_app _ _ _ _ (by omega), e0]

theorem padL_mod (n : Nat) (h : n ≤ 1048576) : (n + (padL n).length) % 64 = 0 := by
  have h1 := padZ_sum n
  have e : (padL n).length = padZ n + 9 := by
    rw [padL, if_pos (by omega), List.length_append, List.length_append, pad0_len, putL_len, putL_len, Int.toNat_natCast]
  omega

end Go.Proofs.Ytnngiampfdjlfaa
