/- What the rows' lists of variables give (the table of the numerals, the two errors), and a world that meets such a list. -/
import Derived.Test.YtkcmgeoaipjhhaaDoorCards
import Derived.Test.YtkcmgeoaipjhhaaDoorTie
import Derived.Test.YtkcmgeoaipjhhaaDoorLibC
import Derived.LaidMore
import Derived.Lay
import Derived.SevenTiedAt
import Derived.Stop.Joined
import Derived.Stop.LaidErr
import Derived.Deep.DeepHandedRow
import Derived.Lib.LaidTab
import Derived.Shelf.Vars
namespace Go.Proofs.YtkcmgeoaipjhhaaDoor
open Go.ChangeShapes Go.WideShapes Go.ChangeAt Go.RowKit
set_option linter.unusedVariables false

theorem gTabType : (Tryd.prog.globals[3]?).map (·.type) = some 120 := by kernel_rfl
theorem cellsTab : Tryd.prog.cellsOf 120 = 20 := by kernel_rfl
theorem cellsU64 : Tryd.prog.cellsOf 97 = 1 := by kernel_rfl
theorem env_of3 {W : World} {a b : String × DataW Unit} {r : List (String × DataW Unit)} (h : laidMet Tryd.prog (a :: b :: ("internal/strconv.uint64pow10", Lib.tabData .u64 Lib.pow10Tab) :: r) W) : Env W :=
  Lib.tabIs_of_head gTab gTabType Tryd.underlying120 Tryd.underlying97 cellsU64 cellsTab h.tail.tail
theorem env_of_text {W : World} (h : laidMetH Tryd.prog Rows.fnExactAddrTextRow.laid W) : Env W := env_of3 (r := []) h

end Go.Proofs.YtkcmgeoaipjhhaaDoor
