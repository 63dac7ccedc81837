/- The laws on hashes, keys, streams and tags, as plain facts on lists of bytes. No program in sight. -/
import Derived.Test.YtbjbncmhnhlkpaaMacM
import Derived.Test.YtbjbncmhnhlkpaaDiff
namespace Go.Proofs.Ytbjbncmhnhlkpaa
open Go.RowKit

theorem padTo_64 (l : List UInt8) (h : l.length = 64) : padTo l = l := by rw [padTo, h]; simp
theorem shortL_short (k : List UInt8) (h : k.length ≤ 64) : shortL k = k := by rw [shortL, if_neg (by omega)]
theorem blockL_short (k : List UInt8) (h : k.length ≤ 64) : blockL k = padTo k := by rw [blockL, if_pos (by omega), shortL_short k h]
theorem blockL_64 (k : List UInt8) (h : k.length = 64) : blockL k = k := by rw [blockL_short k (by omega), padTo_64 k h]
theorem hmacL_of_block (k k' b : List UInt8) (h : k.length ≤ 1048576) (h' : k'.length ≤ 1048576) (e : blockL k = blockL k') : hmacL k b = hmacL k' b := by
  unfold hmacL
  by_cases hb : b.length ≤ 1048512
  · rw [if_pos ⟨h, hb⟩, if_pos ⟨h', hb⟩, e]
  · rw [if_neg (fun x => hb x.2), if_neg (fun x => hb x.2)]
/-- A key is as good as its block. -/
theorem hmacL_block (k b : List UInt8) (h : k.length ≤ 1048576) : hmacL (blockL k) b = hmacL k b := by
  have h2 := blockL_len k h
  exact hmacL_of_block _ _ b (by omega) h (blockL_64 _ h2)
/-- A long key is as good as its hash. -/
theorem hmacL_long (k b : List UInt8) (h : k.length ≤ 1048576) (h2 : 64 < k.length) : hmacL (shaL k) b = hmacL k b := by
  have h3 := shaL_le k
  refine hmacL_of_block _ _ b (by omega) h ?_
  rw [blockL_short _ (by omega), blockL, if_pos h, shortL, if_pos h2]
/-- A short key is as good as with a zero byte behind it. -/
theorem hmacL_zero (k b : List UInt8) (h : k.length < 64) : hmacL (k ++ [0]) b = hmacL k b := by
  have hl : (k ++ [(0 : UInt8)]).length = k.length + 1 := by simp
  refine hmacL_of_block _ _ b (by omega) (by omega) ?_
  rw [blockL_short _ (by omega), blockL_short _ (by omega), padTo, padTo, hl, List.append_assoc]
  congr 1
  rw [show 64 - k.length = (64 - (k.length + 1)) + 1 by omega, List.replicate_succ]
  rfl

theorem xorL_len (b s : List UInt8) (h : b.length = s.length) : (xorL b s).length = b.length := by rw [xorL, List.length_zipWith]; omega
theorem xorL_twice (b s : List UInt8) (h : b.length = s.length) : xorL (xorL b s) s = b := by
  induction b generalizing s with
  | nil => rfl
  | cons x b ih =>
    cases s with
    | nil => simp at h
    | cons y s =>
      have h2 := ih s (by simpa using h)
      unfold xorL at h2 ⊢
      rw [List.zipWith_cons_cons, List.zipWith_cons_cons, h2, UInt8.xor_assoc, UInt8.xor_self, UInt8.xor_zero]
theorem mixL_len (key head b : List UInt8) (h : strOk key head b.length) : (mixL key head b).length = b.length := by
  have h1 := streamL_len key head b.length h
  rw [mixL, if_pos h, xorL_len _ _ (by omega)]
/-- What is mixed twice is as it was. -/
theorem mixL_twice (key head b : List UInt8) (h : strOk key head b.length) : mixL key head (mixL key head b) = b := by
  have h1 := streamL_len key head b.length h
  have h2 := mixL_len key head b h
  have e : mixL key head (mixL key head b) = xorL (mixL key head b) (streamL key head b.length) := by
    rw [mixL, h2, if_pos h]
  rw [e, mixL, if_pos h]
  exact xorL_twice b _ (by omega)

theorem expandL_prefix (k info : List UInt8) (n m : Int) (h : expOk k info n) (h2 : expOk k info m) (hnm : n ≤ m) : expandL k info n = (expandL k info m).take n.toNat := by
  rw [expandL, if_pos h, expandL, if_pos h2]
  exact cutN_prefix _ _ _ (fun i _ => expT_len _ _ _ h.2.2 h.2.1) (by omega)
theorem streamL_prefix (k hd : List UInt8) (n m : Int) (h : strOk k hd n) (h2 : strOk k hd m) (hnm : n ≤ m) : streamL k hd n = (streamL k hd m).take n.toNat := by
  rw [streamL, if_pos h, streamL, if_pos h2]
  have h1 := h.1
  exact cutN_prefix _ _ _ (fun i hi => blockOfL_len _ _ _ h.2.2 h.2.1 (by omega)) (by omega)
/-- The stream's bytes from 32 i on, i = m / 32, begin the block i. -/
theorem streamL_block (k hd : List UInt8) (m : Nat) (h : strOk k hd m) : (streamL k hd m).drop (32 * (m / 32)) = (blockOfL k hd ((m / 32 : Nat) : Int)).take (m - 32 * (m / 32)) := by
  have hb := h.1
  have hl : ∀ i, i < (m + 31) / 32 → (strF k hd i).length = 32 := fun i hi => blockOfL_len _ _ _ h.2.2 h.2.1 (by omega)
  rw [streamL, if_pos h, Int.toNat_natCast, cutN]
  by_cases hz : m % 32 = 0
  · rw [show m - 32 * (m / 32) = 0 by omega, List.take_zero]
    exact List.drop_eq_nil_of_le (by rw [List.length_take]; omega)
  · rw [show (m + 31) / 32 = m / 32 + 1 by omega, blk, List.drop_take]
    have hlen : (blk (strF k hd) (m / 32)).length = 32 * (m / 32) := blk_len _ _ fun i hi => hl i (by omega)
    rw [List.drop_append_of_le_length (by omega), List.drop_eq_nil_of_le (by omega), List.nil_append]
    rfl
theorem chainL_add (k : List UInt8) (n m : Nat) (hn : n + m ≤ 64) : chainL (chainL k (n : Int)) (m : Int) = chainL k ((n + m : Nat) : Int) := by
  rw [chainL, if_pos (by omega), chainL, if_pos (by omega), chainL, if_pos (by omega), Int.toNat_natCast, Int.toNat_natCast, Int.toNat_natCast, chainN_add]

/-- The OR of XORs is zero where the lists are one. -/
theorem orxTo_zero (l m : List UInt8) (k : Nat) : orxTo l m k = 0 ↔ ∀ j, j < k → l.getD j 0 = m.getD j 0 := by
  induction k with
  | zero => simp [orxTo]
  | succ k ih =>
    rw [orxTo, Nat.or_eq_zero_iff, ih]
    constructor
    · rintro ⟨h1, h2⟩ j hj
      by_cases hjk : j < k
      · exact h1 j hjk
      · obtain rfl : j = k := by omega
        have h3 : (l.getD j 0 ^^^ m.getD j 0) = 0 := UInt8.toNat_inj.1 (by rw [h2]; rfl)
        exact UInt8.xor_eq_zero_iff.1 h3
    · intro h
      exact ⟨fun j hj => h j (by omega), by rw [h k (by omega), UInt8.xor_self]; rfl⟩
theorem diffI_zero (l m : List UInt8) : diffI l m = 0 ↔ l = m := by
  unfold diffI
  constructor
  · intro h
    split at h
    · rename_i hl
      have h2 := (orxTo_zero l m l.length).1 (by omega)
      refine List.ext_getElem hl fun j h3 h4 => ?_
      have := h2 j h3
      simpa [List.getD, h3, h4] using this
    · omega
  · rintro rfl
    rw [if_pos rfl]
    have := (orxTo_zero l l l.length).2 fun _ _ => rfl
    omega
theorem orxTo_comm (l m : List UInt8) (k : Nat) : orxTo l m k = orxTo m l k := by
  induction k with
  | zero => rfl
  | succ k ih => rw [orxTo, orxTo, ih, UInt8.xor_comm]
theorem diffI_comm (l m : List UInt8) : diffI l m = diffI m l := by
  unfold diffI
  by_cases h : l.length = m.length
  · rw [if_pos h, if_pos h.symm, orxTo_comm, h]
  · rw [if_neg h, if_neg (fun e => h e.symm)]
theorem diffI_neg (l m : List UInt8) : diffI l m = -1 ↔ l.length ≠ m.length := by
  unfold diffI
  split
  · constructor
    · intro h; omega
    · intro h; omega
  · constructor
    · intro _; assumption
    · intro _; rfl

end Go.Proofs.Ytbjbncmhnhlkpaa
