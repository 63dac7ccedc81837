/- Contracts of l1Digit and digitOf: a digit's value, or -1. -/
import Derived.Test.YtnngiampfdjlfaaHexM
import Derived.Test.YtnngiampfdjlfaaStep
namespace Go.Proofs.Ytnngiampfdjlfaa
open Go.ChangeShapes Go.WideShapes Go.ChangeAt Go.RowKit
set_option linter.unusedVariables false

theorem str_ix {P : Program} (t : TypeId) (ht : P.underlying t = some .string) (s : ByteArray) (k : IntKind) (i : Nat) (h : i < s.size) (W : World) :
    (Instr.index t (.string s) (.int k (i : Int))).run P W = .ok (.int .u8 (((s.data.toList.getD i 0).toNat : Nat) : Int)) W := by
  rw [run_index_string W t s k i ht, dif_pos ⟨by omega, by omega⟩]
  have h2 : i < s.data.size := h
  simp only [Int.toNat_natCast, List.getD, Array.getElem?_toList]
  rw [Array.getElem?_eq_getElem h2]
  rfl

end Go.Proofs.Ytnngiampfdjlfaa
