/- Contracts of SameTag (reference and program): whether both slices have 16 bytes and are equal. -/
import Derived.Test.YtbjbncmhnhlkpaaDiff
namespace Go.Proofs.Ytbjbncmhnhlkpaa
open Go.ChangeShapes Go.WideShapes Go.ChangeAt Go.RowKit
set_option linter.unusedVariables false

/-- SameTag of the program. -/
def sameT (l m : List UInt8) : Bool := decide (l.length = 16) && (diffI l m == 0)

theorem I_SameTag (A A' : Option Addr) (n n' c c' : Nat) (l m : List UInt8) (w : World) (h : Rd w A n c (bv l)) (h' : Rd w A' n' c' (bv m)) :
    Calls Try.prog 42 #[.slice A n c, .slice A' n' c'] w fun e w' => e = .returned (.bool (sameT l m)) ∧ ∃ d, w' = w.drewN d := by
  have hl : l.length = n := by have := h.len; rwa [bv_len] at this
  have hbd := h.bnd
  by_cases hn : n = 16
  · subst hn
    have HR := Lib.hid (show sameT l m = (diffI l m == 0) by simp [sameT, hl])
    clear hl
    go_enter Try.func42, Try.ntmps42
    go_wp2_with fail
    refine (I_Diff _ _ _ _ _ _ l m _ h h').mono ?_
    rintro e w' ⟨rfl, d, rfl⟩
    go_wp2_with fail
    go_ret
    exact ⟨by rw [HR.out]; rfl, d, rfl⟩
  · have HR := Lib.hid (show sameT l m = false by simp [sameT, hl, hn])
    have hb : ((n : Int) == 16) = false := by rw [beq_eq_false_iff_ne]; omega
    clear hl hn
    go_enter Try.func42, Try.ntmps42
    go_wp2_with fail
    go_ret
    exact ⟨by rw [HR.out]; rfl, 0, rfl⟩

end Go.Proofs.Ytbjbncmhnhlkpaa
