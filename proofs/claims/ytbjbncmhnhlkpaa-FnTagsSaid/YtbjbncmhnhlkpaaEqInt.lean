/- Contract of laws.eqIntS: it tells whether two slices hold the same integers; it draws and writes nothing. -/
import Derived.Test.YtbjbncmhnhlkpaaBase
namespace Go.Proofs.Ytbjbncmhnhlkpaa
open Go.ChangeShapes Go.WideShapes Go.ChangeAt Go.RowKit
set_option linter.unusedVariables false

/-- The lists are equal. -/
def eqiv (l m : List Int) : Bool := decide (l = m)
theorem eqiv_same (l : List Int) : eqiv l l = true := by simp [eqiv]

end Go.Proofs.Ytbjbncmhnhlkpaa
