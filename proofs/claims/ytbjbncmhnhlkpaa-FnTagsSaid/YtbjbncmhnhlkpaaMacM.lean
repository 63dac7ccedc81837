/- HMAC, key derivation, the key stream and its use, as plain functions on lists of bytes. No program in sight. -/
import Derived.Test.YtbjbncmhnhlkpaaHashM
namespace Go.Proofs.Ytbjbncmhnhlkpaa
open Go.RowKit

theorem shaL_small (b : List UInt8) (h : b.length ≤ 1048576) : (shaL b).length = 32 := by rw [shaL_len, if_pos h]
theorem shaL_le (b : List UInt8) : (shaL b).length ≤ 32 := by rw [shaL_len]; split <;> omega

/-- Padded with zero bytes to 64. -/
def padTo (l : List UInt8) : List UInt8 := l ++ List.replicate (64 - l.length) 0
theorem padTo_len (l : List UInt8) (h : l.length ≤ 64) : (padTo l).length = 64 := by
  rw [padTo, List.length_append, List.length_replicate]; omega
/-- A long key's hash, a short key itself. -/
def shortL (k : List UInt8) : List UInt8 := if 64 < k.length then shaL k else k
theorem shortL_le (k : List UInt8) : (shortL k).length ≤ 64 := by
  unfold shortL
  split
  · have := shaL_le k; omega
  · omega
/-- BlockKey. -/
def blockL (k : List UInt8) : List UInt8 := if k.length ≤ 1048576 then padTo (shortL k) else []
theorem blockL_len (k : List UInt8) (h : k.length ≤ 1048576) : (blockL k).length = 64 := by
  rw [blockL, if_pos h, padTo_len _ (shortL_le k)]
theorem blockL_le (k : List UInt8) : (blockL k).length ≤ 64 := by
  unfold blockL
  split
  · rw [padTo_len _ (shortL_le k)]; exact Nat.le_refl _
  · exact Nat.zero_le _
/-- XOR of every byte with x. -/
def maskL (b : List UInt8) (x : UInt8) : List UInt8 := b.map fun y => y ^^^ x
theorem maskL_len (b : List UInt8) (x : UInt8) : (maskL b x).length = b.length := List.length_map _
/-- HMAC. -/
def hmacL (k b : List UInt8) : List UInt8 := if k.length ≤ 1048576 ∧ b.length ≤ 1048512 then shaL (maskL (blockL k) 92 ++ shaL (maskL (blockL k) 54 ++ b)) else []
theorem hmacL_len (k b : List UInt8) (h : k.length ≤ 1048576) (hb : b.length ≤ 1048512) : (hmacL k b).length = 32 := by
  rw [hmacL, if_pos ⟨h, hb⟩, shaL_small]
  have := shaL_le (maskL (blockL k) 54 ++ b)
  rw [List.length_append, maskL_len, blockL_len k h]
  omega
theorem hmacL_le (k b : List UInt8) : (hmacL k b).length ≤ 32 := by
  unfold hmacL
  split
  · exact shaL_le _
  · exact Nat.zero_le _
/-- Tag. -/
def tagL (k b : List UInt8) : List UInt8 := (hmacL k b).take 16
theorem tagL_le (k b : List UInt8) : (tagL k b).length ≤ 16 := by rw [tagL, List.length_take]; omega

/-- Blocks one after another. -/
def blk (f : Nat → List UInt8) : Nat → List UInt8
  | 0 => []
  | k + 1 => blk f k ++ f k
theorem blk_len (f : Nat → List UInt8) (k : Nat) (h : ∀ i, i < k → (f i).length = 32) : (blk f k).length = 32 * k := by
  induction k with
  | zero => rfl
  | succ k ih => rw [blk, List.length_append, ih fun i hi => h i (by omega), h k (by omega)]; omega
theorem blk_add (f : Nat → List UInt8) (k j : Nat) : ∃ r, blk f (k + j) = blk f k ++ r := by
  induction j with
  | zero => exact ⟨[], by simp⟩
  | succ j ih =>
    obtain ⟨r, hr⟩ := ih
    exact ⟨r ++ f (k + j), by rw [← Nat.add_assoc, blk, hr, List.append_assoc]⟩
/-- The first n bytes of the blocks. -/
def cutN (f : Nat → List UInt8) (n : Nat) : List UInt8 := (blk f ((n + 31) / 32)).take n
theorem cutN_len (f : Nat → List UInt8) (n : Nat) (h : ∀ i, i < (n + 31) / 32 → (f i).length = 32) : (cutN f n).length = n := by
  rw [cutN, List.length_take, blk_len f _ h]; omega
theorem cutN_le (f : Nat → List UInt8) (n : Nat) : (cutN f n).length ≤ n := by rw [cutN, List.length_take]; omega
theorem cutN_prefix (f : Nat → List UInt8) (n m : Nat) (h : ∀ i, i < (n + 31) / 32 → (f i).length = 32) (hnm : n ≤ m) : cutN f n = (cutN f m).take n := by
  obtain ⟨r, hr⟩ := blk_add f ((n + 31) / 32) ((m + 31) / 32 - (n + 31) / 32)
  rw [show (n + 31) / 32 + ((m + 31) / 32 - (n + 31) / 32) = (m + 31) / 32 by omega] at hr
  rw [cutN, cutN, hr, List.take_take, show min n m = n by omega, List.take_append_of_le_length]
  rw [blk_len f _ h]; omega

/-- T of the key derivation. -/
def expT (prk info : List UInt8) : Nat → List UInt8
  | 0 => []
  | i + 1 => hmacL prk (expT prk info i ++ info ++ [UInt8.ofNat (i + 1)])
theorem expT_le (prk info : List UInt8) (i : Nat) : (expT prk info i).length ≤ 32 := by
  cases i with
  | zero => exact Nat.zero_le _
  | succ i => exact hmacL_le _ _
theorem expT_len (prk info : List UInt8) (i : Nat) (h : prk.length ≤ 1048576) (hi : info.length ≤ 100) : (expT prk info (i + 1)).length = 32 := by
  rw [expT, hmacL_len _ _ h]
  have := expT_le prk info i
  simp only [List.length_append, List.length_singleton]
  omega
def expF (prk info : List UInt8) (i : Nat) : List UInt8 := expT prk info (i + 1)
def expOk (prk info : List UInt8) (n : Int) : Prop := (0 ≤ n ∧ n ≤ 8160) ∧ info.length ≤ 100 ∧ prk.length ≤ 1048576
instance (prk info : List UInt8) (n : Int) : Decidable (expOk prk info n) := inferInstanceAs (Decidable (_ ∧ _))
def expB (prk info : List UInt8) (n : Int) : Bool := decide (expOk prk info n)
/-- Expand's bytes. -/
def expandL (prk info : List UInt8) (n : Int) : List UInt8 := if expOk prk info n then cutN (expF prk info) n.toNat else []
theorem expandL_le (prk info : List UInt8) (n : Int) : (expandL prk info n).length ≤ 8160 := by
  unfold expandL
  split
  · rename_i h
    have h1 := cutN_le (expF prk info) n.toNat
    have h2 := h.1
    omega
  · exact Nat.zero_le _
theorem expandL_len (prk info : List UInt8) (n : Int) (h : expOk prk info n) : (expandL prk info n).length = n.toNat := by
  rw [expandL, if_pos h]
  exact cutN_len _ _ fun i _ => expT_len _ _ _ h.2.2 h.2.1
/-- Derive. -/
def deriveL (key label : List UInt8) : List UInt8 := expandL key label 32
theorem deriveL_le (key label : List UInt8) : (deriveL key label).length ≤ 8160 := expandL_le _ _ _
/-- The bytes of 'rekey'. -/
def rekeyL : List UInt8 := [114, 101, 107, 101, 121]
/-- n links of a chain. -/
def chainN (key : List UInt8) : Nat → List UInt8
  | 0 => key
  | n + 1 => deriveL (chainN key n) rekeyL
theorem chainN_le (key : List UInt8) (n : Nat) (h : key.length ≤ 1048576) : (chainN key n).length ≤ 1048576 := by
  cases n with
  | zero => exact h
  | succ n => have := deriveL_le (chainN key n) rekeyL; rw [chainN]; omega
theorem chainN_add (key : List UInt8) (n m : Nat) : chainN key (n + m) = chainN (chainN key n) m := by
  induction m with
  | zero => rfl
  | succ m ih => rw [← Nat.add_assoc, chainN, chainN, ih]
/-- Chain. -/
def chainL (key : List UInt8) (n : Int) : List UInt8 := if 0 ≤ n ∧ n ≤ 64 then chainN key n.toNat else []
theorem chainL_le (key : List UInt8) (n : Int) (h : key.length ≤ 1048576) : (chainL key n).length ≤ 1048576 := by
  unfold chainL
  split
  · exact chainN_le _ _ h
  · exact Nat.zero_le _

/-- The block i of a stream. -/
def blockOfL (key head : List UInt8) (i : Int) : List UInt8 := if (0 ≤ i ∧ i ≤ 6) ∧ head.length ≤ 100 then hmacL key (putN (115 :: head) i 4) else []
theorem blockOfL_le (key head : List UInt8) (i : Int) : (blockOfL key head i).length ≤ 32 := by
  unfold blockOfL
  split
  · exact hmacL_le _ _
  · exact Nat.zero_le _
theorem blockOfL_len (key head : List UInt8) (i : Int) (hk : key.length ≤ 1048576) (hh : head.length ≤ 100) (hi : 0 ≤ i ∧ i ≤ 6) : (blockOfL key head i).length = 32 := by
  rw [blockOfL, if_pos ⟨hi, hh⟩, hmacL_len _ _ hk]
  have := putN_len (115 :: head) i 4
  simp at this
  omega
def strF (key head : List UInt8) (i : Nat) : List UInt8 := blockOfL key head i
def strOk (key head : List UInt8) (n : Int) : Prop := (0 ≤ n ∧ n ≤ 200) ∧ head.length ≤ 100 ∧ key.length ≤ 1048576
instance (key head : List UInt8) (n : Int) : Decidable (strOk key head n) := inferInstanceAs (Decidable (_ ∧ _))
/-- Stream. -/
def streamL (key head : List UInt8) (n : Int) : List UInt8 := if strOk key head n then cutN (strF key head) n.toNat else []
theorem streamL_len (key head : List UInt8) (n : Int) (h : strOk key head n) : (streamL key head n).length = n.toNat := by
  rw [streamL, if_pos h]
  have h1 := h.1
  exact cutN_len _ _ fun i hi => blockOfL_len _ _ _ h.2.2 h.2.1 (by omega)
theorem streamL_le (key head : List UInt8) (n : Int) : (streamL key head n).length ≤ 200 := by
  unfold streamL
  split
  · rename_i h
    have h1 := cutN_le (strF key head) n.toNat
    have h2 := h.1
    omega
  · exact Nat.zero_le _
/-- XOR of two lists, byte by byte. -/
def xorL (a b : List UInt8) : List UInt8 := List.zipWith (fun x y => x ^^^ y) a b
/-- Mix. -/
def mixL (key head b : List UInt8) : List UInt8 := if strOk key head b.length then xorL b (streamL key head b.length) else []
theorem mixL_le (key head b : List UInt8) : (mixL key head b).length ≤ b.length := by
  unfold mixL xorL
  split
  · rw [List.length_zipWith]; omega
  · exact Nat.zero_le _

end Go.Proofs.Ytbjbncmhnhlkpaa
