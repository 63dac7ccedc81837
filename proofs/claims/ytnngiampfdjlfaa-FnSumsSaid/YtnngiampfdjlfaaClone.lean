/- Contract of clone (the program): a fresh slice with the same bytes. -/
import Derived.Test.YtnngiampfdjlfaaAppend
namespace Go.Proofs.Ytnngiampfdjlfaa
open Go.ChangeShapes Go.WideShapes Go.ChangeAt Go.RowKit
set_option linter.unusedVariables false

theorem I_clone (A : Option Addr) (N c : Nat) (l : List UInt8) (w : World) (h : Rd w A N c (bv l)) (hN : N ≤ 70368744177664) :
    Calls Try.prog 32 #[.slice A N c] w fun e w' => Out 5 w (bv l) e w' := by
  have hbd := h.bnd
  have HR := Lib.hid (h.alloc (.cells #[] 5))
  have q3 : 0 + N ≤ 70368744177664 := by omega
  have q4 : ∀ o, w.heap.size ≤ (w.alloc o).heap.size := fun o => by simp
  clear h
  go_enter Try.func32, Try.ntmps32
  go_wp2_with (at_builtin; refine append_bytes _ rfl _ _ rfl w.heap.size _ _ _ [] rfl (Lib.hid (own_empty w _)) _ _ _ l rfl HR.out q3 (q4 _) ?_; intro A1 c1 W1 HO hb1)
  go_ret
  have ho := HO.out
  rw [Nat.zero_add, List.nil_append] at ho
  exact ⟨_, _, _, rfl, Ow.of_own ho, (balloc (Below.refl _ _) _).trans hb1⟩

end Go.Proofs.Ytnngiampfdjlfaa
