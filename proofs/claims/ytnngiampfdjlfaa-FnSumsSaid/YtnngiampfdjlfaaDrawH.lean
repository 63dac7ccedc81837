/- Contracts of the drawing functions that part: l1Once, l1Odd, DrawRot, DrawAdd32, DrawPad, DrawPutN. -/
import Derived.Test.YtnngiampfdjlfaaDraws
namespace Go.Proofs.Ytnngiampfdjlfaa
open Go.ChangeShapes Go.WideShapes Go.ChangeAt Go.RowKit
set_option linter.unusedVariables false

/-- A 64-bit integer. -/
def I64 (x : Int) : Prop := -9223372036854775808 ≤ x ∧ x ≤ 9223372036854775807

end Go.Proofs.Ytnngiampfdjlfaa
