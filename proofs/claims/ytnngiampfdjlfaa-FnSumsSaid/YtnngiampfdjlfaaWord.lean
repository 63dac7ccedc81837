/- Contracts of the reference's and the program's Add32, Rot, within and l1In: each returns what the plain functions of the file Math say, for all 64-bit integers, and leaves memory alone. -/
import Derived.Test.YtnngiampfdjlfaaBase
import Derived.Test.YtnngiampfdjlfaaMath
namespace Go.Proofs.Ytnngiampfdjlfaa
open Go.ChangeShapes Go.WideShapes Go.ChangeAt Go.RowKit
set_option linter.unusedVariables false

theorem ret_int {k : IntKind} {a b : Int} (h : a = b) : Ending.returned (.int k a) = .returned (.int k b) := by rw [h]

theorem ret_val {k : IntKind} {a b : Int} (h : a = b) : Value.int k a = .int k b := by rw [h]

theorem I_Add32 (a b : Int) (w : World) : Calls Try.prog 67 #[.int .i64 a, .int .i64 b] w fun e w' => e = .returned (.int .i64 ((a + b) % 4294967296)) ∧ w = w' := by
  go_enter Try.func67, Try.ntmps67
  go_wp2
  go_ret
  exact ⟨ret_int (wrap_mod32 _), rfl⟩

theorem S_Rot (x n : Int) (w : World) : Calls Try.prog 55 #[.int .i64 x, .int .i64 n] w fun e w' => e = .returned (.int .i64 (rot x n)) ∧ ∃ k, w' = w.drewN k := by
  have hy0 : 0 ≤ x % 4294967296 := by omega
  have hy1 : x % 4294967296 < 4294967296 := by omega
  by_cases h : 1 ≤ n ∧ n ≤ 31
  · obtain ⟨h1, h2⟩ := h
    have hr : rot x n = bits .or .i64 (x % 4294967296 / 2 ^ n.toNat) (wrap64 (x % 4294967296 * 2 ^ (32 - n).toNat)) % 4294967296 := by
      rw [rot_core _ _ hy0 hy1 (by omega) h2, rot, if_pos ⟨h1, h2⟩]
    have HR := Lib.hid hr
    clear hr
    go_enter Try.func55, Try.ntmps55
    go_wp2
    go_quiet (fail)
    go_wp2
    go_ret
    exact ⟨ret_int HR.out.symm, _, rfl⟩
  · have hr : rot x n = x % 4294967296 := by rw [rot, if_neg h]
    have HR := Lib.hid hr
    clear hr
    by_cases h1 : n < 1
    · go_enter Try.func55, Try.ntmps55
      go_wp2
      go_ret
      exact ⟨ret_int HR.out.symm, 0, rfl⟩
    · have h2 : 31 < n := by omega
      go_enter Try.func55, Try.ntmps55
      go_wp2
      go_ret
      exact ⟨ret_int HR.out.symm, 0, rfl⟩
theorem I_Rot (x n : Int) (w : World) : Calls Try.prog 65 #[.int .i64 x, .int .i64 n] w fun e w' => e = .returned (.int .i64 (rot x n)) ∧ ∃ k, w' = w.drewN k := by
  have hy0 : 0 ≤ x % 4294967296 := by omega
  have hy1 : x % 4294967296 < 4294967296 := by omega
  by_cases h : 0 ≤ n ∧ n ≤ 31
  · obtain ⟨h1, h2⟩ := h
    have hr : rot x n = bits .or .i64 (x % 4294967296 / 2 ^ n.toNat) (wrap64 (x % 4294967296 * 2 ^ (32 - n).toNat)) % 4294967296 := by
      rw [rot_core _ _ hy0 hy1 h1 h2, rot]
      split
      · rfl
      · obtain rfl : n = 0 := by omega
        rw [Int.toNat_zero, rotN_zero _]
        omega
    have HR := Lib.hid hr
    clear hr
    go_enter Try.func65, Try.ntmps65
    go_wp2
    go_quiet (fail)
    go_wp2
    go_ret
    exact ⟨ret_int HR.out.symm, _, rfl⟩
  · have hr : rot x n = x % 4294967296 := by rw [rot, if_neg (by omega)]
    have HR := Lib.hid hr
    clear hr
    by_cases h1 : n < 0
    · go_enter Try.func65, Try.ntmps65
      go_wp2
      go_ret
      exact ⟨ret_int HR.out.symm, 0, rfl⟩
    · have h2 : 31 < n := by omega
      go_enter Try.func65, Try.ntmps65
      go_wp2
      go_ret
      exact ⟨ret_int HR.out.symm, 0, rfl⟩

/-- x is in the range a to b. -/
def inB (x a b : Int) : Bool := decide (a ≤ x) && decide (x ≤ b)
theorem inB_yes {x a b : Int} (h : a ≤ x ∧ x ≤ b) : inB x a b = true := by simp [inB, h.1, h.2]
theorem inB_no {x a b : Int} (h : ¬ (a ≤ x ∧ x ≤ b)) : inB x a b = false := by
  unfold inB
  rw [← Bool.not_eq_true, Bool.and_eq_true, decide_eq_true_eq, decide_eq_true_eq]
  exact h

theorem S_in (x a b : Int) (w : World) : Calls Try.prog 52 #[.int .i64 x, .int .i64 a, .int .i64 b] w fun e w' => e = .returned (.bool (inB x a b)) ∧ w = w' := by
  by_cases h1 : a ≤ x
  · by_cases h2 : x ≤ b
    · have HR := Lib.hid (inB_yes ⟨h1, h2⟩)
      go_enter Try.func52, Try.ntmps52
      go_wp2
      go_ret
      exact ⟨by rw [HR.out]; rfl, rfl⟩
    · have HR := Lib.hid (inB_no (x := x) (a := a) (b := b) (fun h => h2 h.2))
      go_enter Try.func52, Try.ntmps52
      go_wp2
      go_ret
      exact ⟨by rw [HR.out]; simp, rfl⟩
  · have HR := Lib.hid (inB_no (x := x) (a := a) (b := b) (fun h => h1 h.1))
    go_enter Try.func52, Try.ntmps52
    go_wp2
    go_ret
    exact ⟨by rw [HR.out]; simp, rfl⟩
theorem S_in_yes (x a b : Int) (w : World) (h : a ≤ x ∧ x ≤ b) : Calls Try.prog 52 #[.int .i64 x, .int .i64 a, .int .i64 b] w fun e w' => e = .returned (.bool true) ∧ w = w' :=
  (S_in x a b w).mono fun e w' ⟨he, hw⟩ => ⟨by rw [he, inB_yes h], hw⟩
theorem S_in_no (x a b : Int) (w : World) (h : ¬ (a ≤ x ∧ x ≤ b)) : Calls Try.prog 52 #[.int .i64 x, .int .i64 a, .int .i64 b] w fun e w' => e = .returned (.bool false) ∧ w = w' :=
  (S_in x a b w).mono fun e w' ⟨he, hw⟩ => ⟨by rw [he, inB_no h], hw⟩

theorem I_in (x a b : Int) (w : World) : Calls Try.prog 48 #[.int .i64 x, .int .i64 a, .int .i64 b] w fun e w' => e = .returned (.bool (inB x a b)) ∧ w = w' := by
  by_cases h1 : a ≤ x
  · by_cases h2 : x ≤ b
    · have HR := Lib.hid (inB_yes ⟨h1, h2⟩)
      go_enter Try.func48, Try.ntmps48
      go_wp2
      go_ret
      exact ⟨by rw [HR.out]; rfl, rfl⟩
    · have HR := Lib.hid (inB_no (x := x) (a := a) (b := b) (fun h => h2 h.2))
      go_enter Try.func48, Try.ntmps48
      go_wp2
      go_ret
      exact ⟨by rw [HR.out]; simp, rfl⟩
  · have HR := Lib.hid (inB_no (x := x) (a := a) (b := b) (fun h => h1 h.1))
    go_enter Try.func48, Try.ntmps48
    go_wp2
    go_ret
    exact ⟨by rw [HR.out]; simp, rfl⟩
theorem I_in_yes (x a b : Int) (w : World) (h : a ≤ x ∧ x ≤ b) : Calls Try.prog 48 #[.int .i64 x, .int .i64 a, .int .i64 b] w fun e w' => e = .returned (.bool true) ∧ w = w' :=
  (I_in x a b w).mono fun e w' ⟨he, hw⟩ => ⟨by rw [he, inB_yes h], hw⟩
theorem I_in_no (x a b : Int) (w : World) (h : ¬ (a ≤ x ∧ x ≤ b)) : Calls Try.prog 48 #[.int .i64 x, .int .i64 a, .int .i64 b] w fun e w' => e = .returned (.bool false) ∧ w = w' :=
  (I_in x a b w).mono fun e w' ⟨he, hw⟩ => ⟨by rw [he, inB_no h], hw⟩

end Go.Proofs.Ytnngiampfdjlfaa
