/- Contracts of the reference's and the program's Add32, Rot, within and l1In: each returns what the plain functions of the file Math say, for all 64-bit integers, and leaves memory alone. -/
import Derived.Test.YtkcmgeoaipjhhaaDoorBase
import Derived.Test.YtkcmgeoaipjhhaaDoorMath
namespace Go.Proofs.YtkcmgeoaipjhhaaDoor
open Go.ChangeShapes Go.WideShapes Go.ChangeAt Go.RowKit
set_option linter.unusedVariables false

theorem ret_int {k : IntKind} {a b : Int} (h : a = b) : Ending.returned (.int k a) = .returned (.int k b) := by rw [h]

theorem ret_val {k : IntKind} {a b : Int} (h : a = b) : Value.int k a = .int k b := by rw [h]

/-- x is in the range a to b. -/
def inB (x a b : Int) : Bool := decide (a ≤ x) && decide (x ≤ b)
theorem inB_yes {x a b : Int} (h : a ≤ x ∧ x ≤ b) : inB x a b = true := by simp [inB, h.1, h.2]
theorem inB_no {x a b : Int} (h : ¬ (a ≤ x ∧ x ≤ b)) : inB x a b = false := by
  unfold inB
  rw [← Bool.not_eq_true, Bool.and_eq_true, decide_eq_true_eq, decide_eq_true_eq]
  exact h

theorem S_in (x a b : Int) (w : World) : Calls Tryd.prog 23 #[.int .i64 x, .int .i64 a, .int .i64 b] w fun e w' => e = .returned (.bool (inB x a b)) ∧ w = w' := by
  by_cases h1 : a ≤ x
  · by_cases h2 : x ≤ b
    · have HR := Lib.hid (inB_yes ⟨h1, h2⟩)
      go_enter Tryd.func23, Tryd.ntmps23
      go_wp2
      go_ret
      exact ⟨by rw [HR.out]; rfl, rfl⟩
    · have HR := Lib.hid (inB_no (x := x) (a := a) (b := b) (fun h => h2 h.2))
      go_enter Tryd.func23, Tryd.ntmps23
      go_wp2
      go_ret
      exact ⟨by rw [HR.out]; simp, rfl⟩
  · have HR := Lib.hid (inB_no (x := x) (a := a) (b := b) (fun h => h1 h.1))
    go_enter Tryd.func23, Tryd.ntmps23
    go_wp2
    go_ret
    exact ⟨by rw [HR.out]; simp, rfl⟩
theorem S_in_yes (x a b : Int) (w : World) (h : a ≤ x ∧ x ≤ b) : Calls Tryd.prog 23 #[.int .i64 x, .int .i64 a, .int .i64 b] w fun e w' => e = .returned (.bool true) ∧ w = w' :=
  (S_in x a b w).mono fun e w' ⟨he, hw⟩ => ⟨by rw [he, inB_yes h], hw⟩
theorem S_in_no (x a b : Int) (w : World) (h : ¬ (a ≤ x ∧ x ≤ b)) : Calls Tryd.prog 23 #[.int .i64 x, .int .i64 a, .int .i64 b] w fun e w' => e = .returned (.bool false) ∧ w = w' :=
  (S_in x a b w).mono fun e w' ⟨he, hw⟩ => ⟨by rw [he, inB_no h], hw⟩

theorem I_in (x a b : Int) (w : World) : Calls Tryd.prog 27 #[.int .i64 x, .int .i64 a, .int .i64 b] w fun e w' => e = .returned (.bool (inB x a b)) ∧ w = w' := by
  by_cases h1 : a ≤ x
  · by_cases h2 : x ≤ b
    · have HR := Lib.hid (inB_yes ⟨h1, h2⟩)
      go_enter Tryd.func27, Tryd.ntmps27
      go_wp2
      go_ret
      exact ⟨by rw [HR.out]; rfl, rfl⟩
    · have HR := Lib.hid (inB_no (x := x) (a := a) (b := b) (fun h => h2 h.2))
      go_enter Tryd.func27, Tryd.ntmps27
      go_wp2
      go_ret
      exact ⟨by rw [HR.out]; simp, rfl⟩
  · have HR := Lib.hid (inB_no (x := x) (a := a) (b := b) (fun h => h1 h.1))
    go_enter Tryd.func27, Tryd.ntmps27
    go_wp2
    go_ret
    exact ⟨by rw [HR.out]; simp, rfl⟩
theorem I_in_yes (x a b : Int) (w : World) (h : a ≤ x ∧ x ≤ b) : Calls Tryd.prog 27 #[.int .i64 x, .int .i64 a, .int .i64 b] w fun e w' => e = .returned (.bool true) ∧ w = w' :=
  (I_in x a b w).mono fun e w' ⟨he, hw⟩ => ⟨by rw [he, inB_yes h], hw⟩
theorem I_in_no (x a b : Int) (w : World) (h : ¬ (a ≤ x ∧ x ≤ b)) : Calls Tryd.prog 27 #[.int .i64 x, .int .i64 a, .int .i64 b] w fun e w' => e = .returned (.bool false) ∧ w = w' :=
  (I_in x a b w).mono fun e w' ⟨he, hw⟩ => ⟨by rw [he, inB_no h], hw⟩

end Go.Proofs.YtkcmgeoaipjhhaaDoor
