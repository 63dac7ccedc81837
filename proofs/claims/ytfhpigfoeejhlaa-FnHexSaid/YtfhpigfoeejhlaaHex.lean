/- Contracts of l1Digit and digitOf: a digit's value, or -1. -/
import Derived.Test.YtfhpigfoeejhlaaHexM
import Derived.Test.YtfhpigfoeejhlaaStep
namespace Go.Proofs.Ytfhpigfoeejhlaa
open Go.ChangeShapes Go.WideShapes Go.ChangeAt Go.RowKit
set_option linter.unusedVariables false

theorem str_ix {P : Program} (t : TypeId) (ht : P.underlying t = some .string) (s : ByteArray) (k : IntKind) (i : Nat) (h : i < s.size) (W : World) :
    (Instr.index t (.string s) (.int k (i : Int))).run P W = .ok (.int .u8 (((s.data.toList.getD i 0).toNat : Nat) : Int)) W := by
  rw [run_index_string W t s k i ht, dif_pos ⟨by omega, by omega⟩]
  have h2 : i < s.data.size := h
  simp only [Int.toNat_natCast, List.getD, Array.getElem?_toList]
  rw [Array.getElem?_eq_getElem h2]
  rfl

theorem S_digit (c : UInt8) (w : World) : Calls Try.prog 77 #[.int .u8 ((c.toNat : Nat) : Int)] w fun e w' => e = .returned (.int .i64 (digV c)) ∧ w = w' := by
  have hc := byte_lt c
  by_cases h1 : 48 ≤ c.toNat ∧ c.toNat ≤ 57
  · have HD := Lib.hid (show digV c = (c.toNat : Int) - 48 by rw [digV, if_pos h1])
    have a1 : (48 : Int) ≤ (c.toNat : Int) := by omega
    have a2 : (c.toNat : Int) ≤ 57 := by omega
    have a3 : ((c.toNat : Int) - 48) % 256 = (c.toNat : Int) - 48 := by omega
    clear h1
    go_enter Try.func77, Try.ntmps77
    go_wp2_with fail
    go_ret
    exact ⟨by rw [HD.out]; first | rfl | simp, rfl⟩
  · by_cases h2 : 97 ≤ c.toNat ∧ c.toNat ≤ 102
    · have HD := Lib.hid (show digV c = (c.toNat : Int) - 87 by rw [digV, if_neg h1, if_pos h2])
      have a1 : (97 : Int) ≤ (c.toNat : Int) := by omega
      have a2 : (c.toNat : Int) ≤ 102 := by omega
      have a3 : ((c.toNat : Int) - 97) % 256 = (c.toNat : Int) - 97 := by omega
      have a4 : ¬ (c.toNat : Int) ≤ 57 := by omega
      have a5 : (48 : Int) ≤ (c.toNat : Int) := by omega
      have a6 : (c.toNat : Int) - 97 + 10 = (c.toNat : Int) - 87 := by omega
      clear h1 h2
      go_enter Try.func77, Try.ntmps77
      go_wp2_with fail
      go_ret
      exact ⟨by rw [HD.out]; first | rfl | simp | omega, rfl⟩
    · have HD := Lib.hid (show digV c = -1 by rw [digV, if_neg h1, if_neg h2])
      have HH := Lib.hid (And.intro h1 h2)
      clear h1 h2
      by_cases b1 : (48 : Int) ≤ (c.toNat : Int)
      · have b2 : ¬ (c.toNat : Int) ≤ 57 := by have := HH.out.1; omega
        by_cases b3 : (97 : Int) ≤ (c.toNat : Int)
        · have b4 : ¬ (c.toNat : Int) ≤ 102 := by have := HH.out.2; omega
          go_enter Try.func77, Try.ntmps77
          go_wp2_with fail
          go_ret
          exact ⟨by rw [HD.out]; rfl, rfl⟩
        · go_enter Try.func77, Try.ntmps77
          go_wp2_with fail
          go_ret
          exact ⟨by rw [HD.out]; rfl, rfl⟩
      · have b3 : ¬ (97 : Int) ≤ (c.toNat : Int) := by omega
        go_enter Try.func77, Try.ntmps77
        go_wp2_with fail
        go_ret
        exact ⟨by rw [HD.out]; rfl, rfl⟩

theorem I_digit (c : UInt8) (w : World) : Calls Try.prog 73 #[.int .u8 ((c.toNat : Nat) : Int)] w fun e w' => e = .returned (.int .i64 (digV c)) ∧ w = w' := by
  have hc := byte_lt c
  go_enter Try.func73, Try.ntmps73
  go_wp2_with fail
  go_loopw [3] (fun i wr => ∃ k : Nat, i = .int .i64 k ∧ k ≤ 16 ∧ Hid (∀ j, j < k → hexD j ≠ c) ∧ w = wr)
    (fun i _ => 16 - (intOf i).toNat)
  case atStart => exact ⟨0, rfl, by omega, fun j hj => absurd hj (by omega), by first | rfl | trivial⟩
  case round =>
    obtain ⟨k, rfl, hk, HN, rfl⟩ := hrel
    by_cases hlt : k < 16
    · have hlt' : (k : Int) < 16 := by omega
      have hix : ∀ W, (Instr.index 9 (.string ⟨#[48, 49, 50, 51, 52, 53, 54, 55, 56, 57, 97, 98, 99, 100, 101, 102]⟩) (.int .i64 (k : Int))).run Try.prog W = .ok (.int .u8 (((hexD k).toNat : Nat) : Int)) W :=
        fun W => str_ix 9 Try.underlying9 ⟨#[48, 49, 50, 51, 52, 53, 54, 55, 56, 57, 97, 98, 99, 100, 101, 102]⟩ .i64 k hlt W
      have HV := Lib.hid (digV_hexD k hlt)
      have HS := Lib.hid (fun h : hexD k ≠ c => show ∀ j, j < k + 1 → hexD j ≠ c from fun j hj => by
        by_cases hjk : j < k
        · exact HN.out j hjk
        · obtain rfl : j = k := by omega
          exact h)
      generalize hexD k = y at *
      by_cases he : y = c
      · subst he
        go_wp2_with fail
        go_ret
        exact ⟨by rw [HV.out]; rfl, rfl⟩
      · have hne : ¬ ((y.toNat : Nat) : Int) = ((c.toNat : Nat) : Int) := fun h => he (byte_inj h)
        have HS2 := Lib.hid (HS.out he)
        clear HS he
        go_wp2_with fail
        go_roundw
        case rel => exact ⟨k + 1, by go_num, by omega, HS2.out, by first | rfl | trivial⟩
        case measure => simp [intOf]; omega
    · have hlt' : ¬ (k : Int) < 16 := by omega
      obtain rfl : k = 16 := by omega
      have HV := Lib.hid (digV_none c HN.out)
      go_wp2_with fail
      go_ret
      exact ⟨by rw [HV.out]; rfl, rfl⟩

end Go.Proofs.Ytfhpigfoeejhlaa
