/- Contract of the reference's HashEnd: for every Hash. -/
import Derived.Test.YtnngiampfdjlfaaHashEnd
import Derived.Test.YtnngiampfdjlfaaStep
namespace Go.Proofs.Ytnngiampfdjlfaa
open Go.ChangeShapes Go.WideShapes Go.ChangeAt Go.RowKit
set_option linter.unusedVariables false

theorem tri {w : World} {g : Nat} {u v x : Value} (a : Bx w g u v x) : w.cell? ⟨g, 0, none⟩ = some u ∧ w.cell? ⟨g, 1, none⟩ = some v ∧ w.cell? ⟨g, 2, none⟩ = some x := ⟨a.c0, a.c1, a.c2⟩
theorem sum_le {a b : Nat} (h : a ≤ 4000000) (k : b ≤ 4000000) : a + b ≤ 70368744177664 := by omega

end Go.Proofs.Ytnngiampfdjlfaa
