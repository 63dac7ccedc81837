/- The message schedule and the compression of SHA-256 as plain functions on lists, with the bounds that the walks need. No program in sight. -/
import Derived.Test.YtnngiampfdjlfaaMath
namespace Go.Proofs.Ytnngiampfdjlfaa
open Go.RowKit

/-- A 32-bit word. -/
def Wd (x : Int) : Prop := 0 ≤ x ∧ x < 4294967296
theorem Wd.rot (x n : Int) : Wd (rot x n) := rot_bd x n
theorem Wd.xor {a b : Int} (h : Wd a) (k : Wd b) : Wd (bits .xor .i64 a b) := by
  obtain ⟨h1, h2⟩ := h
  obtain ⟨k1, k2⟩ := k
  rw [xor64 a b h1 (by omega) k1 (by omega)]
  have := Nat.xor_lt_two_pow (n := 32) (show a.toNat < 2 ^ 32 by omega) (show b.toNat < 2 ^ 32 by omega)
  exact ⟨by omega, by omega⟩
theorem Wd.and {a b : Int} (h : Wd a) (k : Wd b) : Wd (bits .and .i64 a b) := by
  obtain ⟨h1, h2⟩ := h
  obtain ⟨k1, k2⟩ := k
  rw [and64 a b h1 (by omega) k1 (by omega)]
  have : a.toNat &&& b.toNat ≤ a.toNat := Nat.and_le_left
  exact ⟨by omega, by omega⟩
theorem Wd.div {a : Int} (h : Wd a) (n : Int) (hn : 1 ≤ n) : Wd (a / n) := by
  obtain ⟨h1, h2⟩ := h
  exact ⟨Int.ediv_nonneg h1 (by omega), Int.lt_of_le_of_lt (Int.ediv_le_self n h1) h2⟩
theorem Wd.mod (a : Int) : Wd (a % 4294967296) := ⟨by omega, by omega⟩

/-- Rot by 7 XOR Rot by 18 XOR a right shift by 3. -/
def sig0 (x : Int) : Int := bits .xor .i64 (bits .xor .i64 (rot x 7) (rot x 18)) (x / 8)
/-- Rot by 17 XOR Rot by 19 XOR a right shift by 10. -/
def sig1 (x : Int) : Int := bits .xor .i64 (bits .xor .i64 (rot x 17) (rot x 19)) (x / 1024)
theorem sig0_wd {x : Int} (h : Wd x) : Wd (sig0 x) := ((Wd.rot _ _).xor (Wd.rot _ _)).xor (h.div 8 (by omega))
theorem sig1_wd {x : Int} (h : Wd x) : Wd (sig1 x) := ((Wd.rot _ _).xor (Wd.rot _ _)).xor (h.div 1024 (by omega))

/-- The word of four bytes. -/
def word4 (l : List UInt8) (k : Nat) : Int := (256 * (256 * (256 * (l.getD (4 * k) 0).toNat + (l.getD (4 * k + 1) 0).toNat) + (l.getD (4 * k + 2) 0).toNat) + (l.getD (4 * k + 3) 0).toNat : Nat)
theorem word4_wd (l : List UInt8) (k : Nat) : Wd (word4 l k) := by
  have h0 := (l.getD (4 * k) 0).toNat_lt
  have h1 := (l.getD (4 * k + 1) 0).toNat_lt
  have h2 := (l.getD (4 * k + 2) 0).toNat_lt
  have h3 := (l.getD (4 * k + 3) 0).toNat_lt
  unfold word4
  constructor <;> omega
/-- A further word, out of those before it. -/
def mixW (w : List Int) (k : Nat) : Int := (w.getD (k - 7) 0 + w.getD (k - 16) 0 + sig0 (w.getD (k - 15) 0) + sig1 (w.getD (k - 2) 0)) % 4294967296
/-- The first k words of the schedule. -/
def schL (l : List UInt8) : Nat → List Int
  | 0 => []
  | k + 1 => schL l k ++ [if k < 16 then word4 l k else mixW (schL l k) k]
theorem schL_len (l : List UInt8) (k : Nat) : (schL l k).length = k := by
  induction k with
  | zero => rfl
  | succ k ih => simp [schL, ih]
theorem schL_wd (l : List UInt8) (k : Nat) : ∀ z ∈ schL l k, Wd z := by
  induction k with
  | zero => simp [schL]
  | succ k ih =>
    intro z hz
    rw [schL, List.mem_append, List.mem_singleton] at hz
    rcases hz with hz | rfl
    · exact ih z hz
    · split
      · exact word4_wd l k
      · exact Wd.mod _
theorem schL_at (l : List UInt8) (k i : Nat) (h : i < k) : (schL l k)[i]? = some ((schL l k).getD i 0) := by
  have hl : i < (schL l k).length := by rw [schL_len]; exact h
  simp [List.getD, hl]
theorem schL_get_wd (l : List UInt8) (k i : Nat) : Wd ((schL l k).getD i 0) := by
  by_cases h : i < k
  · have := schL_at l k i h
    exact schL_wd l k _ (List.mem_of_getElem? this)
  · have hl : (schL l k).length ≤ i := by rw [schL_len]; omega
    simp [List.getD, List.getElem?_eq_none hl, Wd]
/-- Schedule of the program. -/
def schedL (l : List UInt8) : List Int := if l.length = 64 then schL l 64 else []

theorem schedL_len (l : List UInt8) : (schedL l).length ≤ 64 := by
  unfold schedL
  split
  · rw [schL_len]; exact Nat.le_refl _
  · exact Nat.zero_le _

end Go.Proofs.Ytnngiampfdjlfaa
