/- Contracts of GetN (reference and program): the integer in k bytes at an offset, the offset behind it, and whether the bytes exist; for every slice and all 64-bit integers. -/
import Derived.Test.YtnngiampfdjlfaaCut
namespace Go.Proofs.Ytnngiampfdjlfaa
open Go.ChangeShapes Go.WideShapes Go.ChangeAt Go.RowKit
set_option linter.unusedVariables false

/-- The integer in a list of bytes, most significant first. -/
def numN : List UInt8 → Nat → Nat
  | [], acc => acc
  | x :: l, acc => numN l (256 * acc + x.toNat)
theorem numN_snoc (l : List UInt8) (x : UInt8) (acc : Nat) : numN (l ++ [x]) acc = 256 * numN l acc + x.toNat := by
  induction l generalizing acc with
  | nil => rfl
  | cons y l ih => exact ih _
theorem numN_lt (l : List UInt8) : ∀ acc j, acc < 256 ^ j → numN l acc < 256 ^ (j + l.length) := by
  induction l with
  | nil => intro acc j h; exact h
  | cons x l ih =>
    intro acc j h
    have := ih (256 * acc + x.toNat) (j + 1) (by have := x.toNat_lt; rw [Nat.pow_succ]; omega)
    rw [List.length_cons, show j + (l.length + 1) = j + 1 + l.length by omega]
    exact this
theorem numN_lt6 (l : List UInt8) (h : l.length ≤ 6) : numN l 0 < 281474976710656 := by
  have h1 := numN_lt l 0 0 (by decide)
  have h2 : 256 ^ (0 + l.length) ≤ 256 ^ 6 := Nat.pow_le_pow_right (by decide) (by omega)
  have h3 : (256 : Nat) ^ 6 = 281474976710656 := by decide
  omega
theorem take_snoc8 (l : List UInt8) (k : Nat) (h : k < l.length) : l.take (k + 1) = l.take k ++ [l[k]] := List.take_succ_eq_append_getElem h

/-- k bytes at offset a exist, k from 1 to 6. -/
def getOk (l : List UInt8) (a k : Int) : Prop := (1 ≤ k ∧ k ≤ 6) ∧ 0 ≤ a ∧ a + k ≤ l.length
instance (l : List UInt8) (a k : Int) : Decidable (getOk l a k) := inferInstanceAs (Decidable (_ ∧ _ ∧ _))
def getN (l : List UInt8) (a k : Int) : Int := if getOk l a k then (numN ((l.drop a.toNat).take k.toNat) 0 : Int) else 0
def getE (l : List UInt8) (a k : Int) : Int := if getOk l a k then a + k else 0
def getB (l : List UInt8) (a k : Int) : Bool := decide (getOk l a k)
theorem getN_bd (l : List UInt8) (a k : Int) : 0 ≤ getN l a k ∧ getN l a k < 281474976710656 := by
  unfold getN
  split
  · rename_i h
    have := numN_lt6 ((l.drop a.toNat).take k.toNat) (by rw [List.length_take]; have := h.1.2; omega)
    omega
  · omega

theorem S_GetN_yes (A : Option Addr) (N c : Nat) (l : List UInt8) (a k : Nat) (w : World) (h : Rd w A N c (bv l)) (hk1 : 1 ≤ k) (hk : k ≤ 6) (ha : a + k ≤ N) :
    Calls Try.prog 63 #[.slice A N c, .int .i64 (a : Int), .int .i64 (k : Int)] w fun e w' => e = .returned (.tuple #[.int .i64 (numN ((l.drop a).take k) 0 : Int), .int .i64 ((a + k : Nat) : Int), .bool true]) ∧ w = w' := by
  have hl : l.length = N := by have := h.len; rwa [bv_len] at this
  have hbd := h.bnd
  obtain ⟨b, off, rfl, hlb, hcl⟩ := h.at_ (by omega)
  have HL := Lib.hid hl
  have HC := Lib.hid hcl
  clear hl hcl h
  go_enter Try.func63, Try.ntmps63
  go_wp2
  go_loop [9, 10] (fun q i => ∃ j : Nat, j ≤ k ∧ i = .int .i64 j ∧ q = .int .i64 (numN ((l.drop a).take j) 0 : Int))
    (fun _ i => k - (intOf i).toNat)
  case atStart => exact ⟨0, Nat.zero_le _, rfl, by simp [numN]⟩
  case round =>
    obtain ⟨j, hj, rfl, rfl⟩ := hrel
    by_cases hlt : j < k
    · have hjl : a + j < l.length := by rw [HL.out]; omega
      have hcell := HC.out (a + j) _ (bv_get hjl)
      have hlt' : (j : Int) < (k : Int) := by omega
      have hby := byte_lt l[a + j]
      have hnm := numN_lt6 ((l.drop a).take j) (by rw [List.length_take]; omega)
      have HS : Hid (numN ((l.drop a).take (j + 1)) 0 = 256 * numN ((l.drop a).take j) 0 + l[a + j].toNat) := by
        show _ = _
        rw [take_snoc8 _ j (by rw [List.length_drop]; omega), numN_snoc, List.getElem_drop]
      go_wp2
      go_round
      case rel => exact ⟨j + 1, by omega, by go_num, ret_val (by rw [HS.out]; omega)⟩
      case measure => simp [intOf]; omega
    · have hlt' : ¬ (j : Int) < (k : Int) := by omega
      go_wp2
      go_ret3
      obtain rfl : j = k := by omega
      exact ⟨by simp, rfl⟩

theorem S_GetN_no (A : Option Addr) (N c : Nat) (l : List UInt8) (a k : Int) (w : World) (h : Rd w A N c (bv l)) (hk : ¬ ((1 ≤ k ∧ k ≤ 6) ∧ 0 ≤ a ∧ a + k ≤ N)) :
    Calls Try.prog 63 #[.slice A N c, .int .i64 a, .int .i64 k] w fun e w' => e = .returned (.tuple #[.int .i64 0, .int .i64 0, .bool false]) ∧ w = w' := by
  have hbd := h.bnd
  clear h
  by_cases h1 : k < 1
  · clear hk
    go_enter Try.func63, Try.ntmps63
    go_wp2_with fail
    go_ret3
    exact ⟨rfl, rfl⟩
  · by_cases h2 : 6 < k
    · clear hk
      go_enter Try.func63, Try.ntmps63
      go_wp2_with fail
      go_ret3
      exact ⟨rfl, rfl⟩
    · by_cases h3 : a < 0
      · clear hk
        go_enter Try.func63, Try.ntmps63
        go_wp2_with fail
        go_ret3
        exact ⟨rfl, rfl⟩
      · have h4 : (N : Int) - k < a := by omega
        clear hk
        go_enter Try.func63, Try.ntmps63
        go_wp2_with fail
        go_ret3
        exact ⟨rfl, rfl⟩

theorem S_GetN (A : Option Addr) (N c : Nat) (l : List UInt8) (a k : Int) (w : World) (h : Rd w A N c (bv l)) :
    Calls Try.prog 63 #[.slice A N c, .int .i64 a, .int .i64 k] w fun e w' => e = .returned (.tuple #[.int .i64 (getN l a k), .int .i64 (getE l a k), .bool (getB l a k)]) ∧ w = w' := by
  have hl : l.length = N := by have := h.len; rwa [bv_len] at this
  by_cases hk : (1 ≤ k ∧ k ≤ 6) ∧ 0 ≤ a ∧ a + k ≤ N
  · have hok : getOk l a k := by unfold getOk; rw [hl]; exact hk
    rw [getN, if_pos hok, getE, if_pos hok, getB, decide_eq_true hok]
    obtain ⟨a, rfl⟩ := Int.eq_ofNat_of_zero_le hk.2.1
    obtain ⟨k, rfl⟩ := Int.eq_ofNat_of_zero_le (show 0 ≤ k by omega)
    refine (S_GetN_yes A N c l a k w h (by omega) (by omega) (by omega)).mono fun e w' ⟨he, hw⟩ => ⟨?_, hw⟩
    rw [he]; rfl
  · have hok : ¬ getOk l a k := by unfold getOk; rw [hl]; exact hk
    rw [getN, if_neg hok, getE, if_neg hok, getB, decide_eq_false hok]
    exact S_GetN_no A N c l a k w h hk

theorem I_GetN_yes (A : Option Addr) (N c : Nat) (l : List UInt8) (a k : Nat) (w : World) (h : Rd w A N c (bv l)) (hk1 : 1 ≤ k) (hk : k ≤ 6) (ha : a + k ≤ N) (hN : N ≤ 70368744177664) :
    Calls Try.prog 68 #[.slice A N c, .int .i64 (a : Int), .int .i64 (k : Int)] w fun e w' => e = .returned (.tuple #[.int .i64 (numN ((l.drop a).take k) 0 : Int), .int .i64 ((a + k : Nat) : Int), .bool true]) ∧ Below w.heap.size w w' := by
  have hl : l.length = N := by have := h.len; rwa [bv_len] at this
  have hbd := h.bnd
  have HL := Lib.hid hl
  clear hl
  go_enter Try.func68, Try.ntmps68
  go_wp2_with fail
  refine (I_Cut_yes A N c l a k _ h ha hN).mono ?_
  rintro e W1 ⟨A1, n1, c1, rfl, o1, b1⟩
  have r1 := o1.rd
  have hn1 : n1 = k := by have := r1.len; rw [bv_len, List.length_take, List.length_drop, HL.out] at this; omega
  subst hn1
  obtain ⟨b, off, rfl, hlb, hcl⟩ := r1.at_ (by omega)
  have hbd1 := r1.bnd
  have HC := Lib.hid hcl
  clear hcl r1 o1 h
  go_wp2
  go_loop [11, 31] (fun q i => ∃ j : Nat, j ≤ n1 ∧ i = .int .i64 j ∧ q = .int .i64 (numN ((l.drop a).take j) 0 : Int))
    (fun _ i => n1 - (intOf i).toNat)
  case atStart => exact ⟨0, Nat.zero_le _, rfl, by simp [numN]⟩
  case round =>
    obtain ⟨j, hj, rfl, rfl⟩ := hrel
    by_cases hlt : j < n1
    · have hjl : a + j < l.length := by rw [HL.out]; omega
      have hcell := HC.out j (.int .u8 ((l[a + j].toNat : Nat) : Int)) (by
        rw [bv_get (show j < ((l.drop a).take n1).length by rw [List.length_take, List.length_drop]; omega), List.getElem_take, List.getElem_drop])
      have hlt' : (j : Int) < (n1 : Int) := by omega
      have hby := byte_lt l[a + j]
      have hnm := numN_lt6 ((l.drop a).take j) (by rw [List.length_take]; omega)
      have HS : Hid (numN ((l.drop a).take (j + 1)) 0 = 256 * numN ((l.drop a).take j) 0 + l[a + j].toNat) := by
        show _ = _
        rw [take_snoc8 _ j (by rw [List.length_drop]; omega), numN_snoc, List.getElem_drop]
      go_wp2
      go_round
      case rel => exact ⟨j + 1, by omega, by go_num, ret_val (by rw [HS.out]; omega)⟩
      case measure => simp [intOf]; omega
    · have hlt' : ¬ (j : Int) < (n1 : Int) := by omega
      go_wp2
      go_ret3
      obtain rfl : j = n1 := by omega
      exact ⟨by simp, b1⟩

theorem I_GetN_no (A : Option Addr) (N c : Nat) (l : List UInt8) (a k : Int) (w : World) (h : Rd w A N c (bv l)) (hk : ¬ ((1 ≤ k ∧ k ≤ 6) ∧ 0 ≤ a ∧ a + k ≤ N)) :
    Calls Try.prog 68 #[.slice A N c, .int .i64 a, .int .i64 k] w fun e w' => e = .returned (.tuple #[.int .i64 0, .int .i64 0, .bool false]) ∧ Below w.heap.size w w' := by
  have hbd := h.bnd
  by_cases h1 : k < 1
  · clear hk h
    go_enter Try.func68, Try.ntmps68
    go_wp2_with fail
    go_ret3
    exact ⟨rfl, Below.refl _ _⟩
  · by_cases h2 : 6 < k
    · clear hk h
      go_enter Try.func68, Try.ntmps68
      go_wp2_with fail
      go_ret3
      exact ⟨rfl, Below.refl _ _⟩
    · have HK := Lib.hid (show ¬ (0 ≤ a ∧ 0 ≤ k ∧ a + k ≤ N) by omega)
      clear hk
      go_enter Try.func68, Try.ntmps68
      go_wp2_with fail
      refine (I_Cut_no A N c l a k _ h HK.out).mono ?_
      rintro e W1 ⟨A1, n1, c1, rfl, o1, b1⟩
      go_wp2_with fail
      go_ret3
      exact ⟨rfl, b1⟩

theorem I_GetN (A : Option Addr) (N c : Nat) (l : List UInt8) (a k : Int) (w : World) (h : Rd w A N c (bv l)) (hN : N ≤ 70368744177664) :
    Calls Try.prog 68 #[.slice A N c, .int .i64 a, .int .i64 k] w fun e w' => e = .returned (.tuple #[.int .i64 (getN l a k), .int .i64 (getE l a k), .bool (getB l a k)]) ∧ Below w.heap.size w w' := by
  have hl : l.length = N := by have := h.len; rwa [bv_len] at this
  by_cases hk : (1 ≤ k ∧ k ≤ 6) ∧ 0 ≤ a ∧ a + k ≤ N
  · have hok : getOk l a k := by unfold getOk; rw [hl]; exact hk
    rw [getN, if_pos hok, getE, if_pos hok, getB, decide_eq_true hok]
    obtain ⟨a, rfl⟩ := Int.eq_ofNat_of_zero_le hk.2.1
    obtain ⟨k, rfl⟩ := Int.eq_ofNat_of_zero_le (show 0 ≤ k by omega)
    refine (I_GetN_yes A N c l a k w h (by omega) (by omega) (by omega) hN).mono fun e w' ⟨he, hw⟩ => ⟨?_, hw⟩
    rw [he]; rfl
  · have hok : ¬ getOk l a k := by unfold getOk; rw [hl]; exact hk
    rw [getN, if_neg hok, getE, if_neg hok, getB, decide_eq_false hok]
    exact I_GetN_no A N c l a k w h hk

end Go.Proofs.Ytnngiampfdjlfaa
