/- Hexadecimal digits as plain functions on lists of bytes. No program in sight. -/
import Derived.Test.YtnngiampfdjlfaaMath
namespace Go.Proofs.Ytnngiampfdjlfaa
open Go.RowKit

def digs : List UInt8 := [48, 49, 50, 51, 52, 53, 54, 55, 56, 57, 97, 98, 99, 100, 101, 102]
def hexD (x : Nat) : UInt8 := digs.getD x 0
/-- The digits of the bytes. -/
def hexT : List UInt8 → List UInt8
  | [] => []
  | x :: l => hexD (x.toNat / 16) :: hexD (x.toNat % 16) :: hexT l
theorem hexT_len (l : List UInt8) : (hexT l).length = 2 * l.length := by
  induction l with
  | nil => rfl
  | cons x l ih => simp only [hexT, List.length_cons, ih]; omega
theorem hexT_app (l m : List UInt8) : hexT (l ++ m) = hexT l ++ hexT m := by
  induction l with
  | nil => rfl
  | cons x l ih => simp [hexT, ih]
theorem hexT_take (l : List UInt8) (k : Nat) (h : k < l.length) : hexT (l.take (k + 1)) = hexT (l.take k) ++ [hexD (l[k].toNat / 16), hexD (l[k].toNat % 16)] := by
  rw [List.take_succ_eq_append_getElem h, hexT_app]
  rfl
/-- A digit's value, or -1. -/
def digV (c : UInt8) : Int := if 48 ≤ c.toNat ∧ c.toNat ≤ 57 then (c.toNat : Int) - 48 else if 97 ≤ c.toNat ∧ c.toNat ≤ 102 then (c.toNat : Int) - 87 else -1
theorem digV_le (c : UInt8) : -1 ≤ digV c ∧ digV c ≤ 15 := by
  unfold digV
  split
  · omega
  · split <;> omega
theorem digV_hexD : ∀ i, i < 16 → digV (hexD i) = i := by decide
theorem hexD_digV (c : UInt8) (h : 0 ≤ digV c) : hexD (digV c).toNat = c := by
  unfold digV at h ⊢
  split
  · rename_i hc
    have : ∀ k : Nat, 48 ≤ k → k ≤ 57 → hexD ((k : Int) - 48).toNat = UInt8.ofNat k := by
      intro k h1 h2
      have hk : k = 48 ∨ k = 49 ∨ k = 50 ∨ k = 51 ∨ k = 52 ∨ k = 53 ∨ k = 54 ∨ k = 55 ∨ k = 56 ∨ k = 57 := by omega
      rcases hk with rfl | rfl | rfl | rfl | rfl | rfl | rfl | rfl | rfl | rfl <;> decide
    rw [this _ hc.1 hc.2]
    simp
  · split
    · rename_i hc
      have : ∀ k : Nat, 97 ≤ k → k ≤ 102 → hexD ((k : Int) - 87).toNat = UInt8.ofNat k := by
        intro k h1 h2
        have hk : k = 97 ∨ k = 98 ∨ k = 99 ∨ k = 100 ∨ k = 101 ∨ k = 102 := by omega
        rcases hk with rfl | rfl | rfl | rfl | rfl | rfl <;> decide
      rw [this _ hc.1 hc.2]
      simp
    · rename_i h1 h2
      rw [if_neg h1, if_neg h2] at h
      omega
theorem digV_none (c : UInt8) (h : ∀ j, j < 16 → hexD j ≠ c) : digV c = -1 := by
  have h1 := digV_le c
  by_cases h0 : 0 ≤ digV c
  · exact absurd (hexD_digV c h0) (h _ (by omega))
  · omega

/-- The bytes of the first k pairs of digits, or none where a sign is no digit. -/
def pairs (s : List UInt8) : Nat → Option (List UInt8)
  | 0 => some []
  | k + 1 => match pairs s k with
    | none => none
    | some l => if 0 ≤ digV (s.getD (2 * k) 0) ∧ 0 ≤ digV (s.getD (2 * k + 1) 0) then some (l ++ [UInt8.ofNat (16 * digV (s.getD (2 * k) 0) + digV (s.getD (2 * k + 1) 0)).toNat]) else none
def hexOk (s : List UInt8) : Prop := s.length ≤ 400 ∧ s.length % 2 = 0
instance (s : List UInt8) : Decidable (hexOk s) := inferInstanceAs (Decidable (_ ∧ _))
def parseL (s : List UInt8) : List UInt8 := if hexOk s then (pairs s (s.length / 2)).getD [] else []
def parseB (s : List UInt8) : Bool := decide (hexOk s) && (pairs s (s.length / 2)).isSome
theorem pairs_len (s : List UInt8) (k : Nat) (l : List UInt8) (h : pairs s k = some l) : l.length = k := by
  induction k generalizing l with
  | zero => injection h with h; subst h; rfl
  | succ k ih =>
    unfold pairs at h
    split at h
    · cases h
    · rename_i l' hl
      split at h
      · injection h with h
        subst h
        rw [List.length_append, ih l' hl]
        rfl
      · cases h
theorem parseL_le (s : List UInt8) : (parseL s).length ≤ 200 := by
  unfold parseL
  split
  · rename_i h
    have h1 := h.1
    cases hp : pairs s (s.length / 2) with
    | none => simp
    | some l => have := pairs_len s _ l hp; simp; omega
  · simp
/-- A sign in the first k pairs that is no digit spoils all. -/
theorem pairs_none (s : List UInt8) (k j : Nat) (h : pairs s k = none) (hj : k ≤ j) : pairs s j = none := by
  induction j with
  | zero =>
    obtain rfl : k = 0 := by omega
    exact h
  | succ j ih =>
    by_cases hkj : k = j + 1
    · rw [← hkj]; exact h
    · unfold pairs
      rw [ih (by omega)]

end Go.Proofs.Ytnngiampfdjlfaa
