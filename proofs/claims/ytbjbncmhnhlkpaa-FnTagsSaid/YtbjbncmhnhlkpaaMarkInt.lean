/- Contracts of laws.markIntS and laws.heldIntS: the one writes consecutive numbers into a row of the call's own, the other tells whether a slice holds them. -/
import Derived.Test.YtbjbncmhnhlkpaaBase
namespace Go.Proofs.Ytbjbncmhnhlkpaa
open Go.ChangeShapes Go.WideShapes Go.ChangeAt Go.RowKit
set_option linter.unusedVariables false

/-- The marks k, k + 1, .. : n of them. -/
def marksIntS (k n : Nat) : List Int := (List.range n).map fun i => ((k + i : Nat) : Int)
theorem marksIntS_len (k n : Nat) : (marksIntS k n).length = n := by simp [marksIntS]
theorem marksIntS_get (k n i : Nat) (h : i < n) : (marksIntS k n)[i]? = some (((k + i : Nat) : Int)) := by simp [marksIntS, h]
theorem marksIntS_succ (k i : Nat) : marksIntS k (i + 1) = marksIntS k i ++ [((k + i : Nat) : Int)] := by simp [marksIntS, List.range_succ]

/-- The row after i marks: marks, then the old cells. -/
def halfIntS (l : List Int) (k i : Nat) : List Value := iv (marksIntS k i ++ l.drop i)
theorem halfIntS_zero (l : List Int) (k : Nat) : halfIntS l k 0 = iv l := by simp [halfIntS, marksIntS]
theorem halfIntS_full (l : List Int) (k n : Nat) (h : l.length = n) : halfIntS l k n = iv (marksIntS k n) := by
  unfold halfIntS
  rw [List.drop_of_length_le (by omega), List.append_nil]
theorem halfIntS_get (l : List Int) (k n i : Nat) (h : l.length = n) (hi : i < n) : ∃ u, (halfIntS l k i)[i]? = some u := by
  have : i < (halfIntS l k i).length := by simp [halfIntS, iv_len, marksIntS_len]; omega
  exact ⟨_, List.getElem?_eq_getElem this⟩
theorem halfIntS_set (l : List Int) (k n i : Nat) (h : l.length = n) (hi : i < n) (u : Value) (hu : iv [((k + i : Nat) : Int)] = [u]) : (halfIntS l k i).set i u = halfIntS l k (i + 1) := by
  unfold halfIntS
  rw [marksIntS_succ, iv_app, iv_app, iv_app, hu]
  have hm : (iv (marksIntS k i)).length = i := by rw [iv_len, marksIntS_len]
  rw [List.set_append_right _ _ (by omega), hm, Nat.sub_self, List.append_assoc]
  have hd : l.drop i = l[i]'(by omega) :: l.drop (i + 1) := List.drop_eq_getElem_cons (by omega)
  have e : iv (l.drop i) = .int .i64 (l[i]'(by omega)) :: iv (l.drop (i + 1)) := by rw [hd]; rfl
  rw [e, List.set_cons_zero]
  rfl

end Go.Proofs.Ytbjbncmhnhlkpaa
