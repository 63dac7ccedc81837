/- What the rows' lists of variables give (the table of the numerals, the two errors), and a world that meets such a list. -/
import Derived.Test.YtkcmgeoaipjhhaaDoorCards
import Derived.Test.YtkcmgeoaipjhhaaDoorTie
import Derived.Test.YtkcmgeoaipjhhaaDoorLibC
import Derived.LaidMore
import Derived.Lay
import Derived.SevenTiedAt
import Derived.Stop.Joined
import Derived.Stop.LaidErr
import Derived.Deep.DeepHandedRow
import Derived.Lib.LaidTab
import Derived.Shelf.Vars
namespace Go.Proofs.YtkcmgeoaipjhhaaDoor
open Go.ChangeShapes Go.WideShapes Go.ChangeAt Go.RowKit
set_option linter.unusedVariables false

theorem gTabType : (Tryd.prog.globals[3]?).map (·.type) = some 120 := by kernel_rfl
theorem cellsTab : Tryd.prog.cellsOf 120 = 20 := by kernel_rfl
theorem cellsU64 : Tryd.prog.cellsOf 97 = 1 := by kernel_rfl
theorem env_of3 {W : World} {a b : String × DataW Unit} {r : List (String × DataW Unit)} (h : laidMet Tryd.prog (a :: b :: ("internal/strconv.uint64pow10", Lib.tabData .u64 Lib.pow10Tab) :: r) W) : Env W :=
  Lib.tabIs_of_head gTab gTabType Tryd.underlying120 Tryd.underlying97 cellsU64 cellsTab h.tail.tail
theorem env_of_text {W : World} (h : laidMetH Tryd.prog Rows.fnExactAddrTextRow.laid W) : Env W := env_of3 (r := []) h

theorem gRange : Tryd.prog.globalNamed "strconv.ErrRange" = some 2 := by kernel_rfl
theorem gSyn : Tryd.prog.globalNamed "strconv.ErrSyntax" = some 1 := by kernel_rfl
theorem gRangeT : (Tryd.prog.globals[2]?).map (·.type) = some 52 := by kernel_rfl
theorem gSynT : (Tryd.prog.globals[1]?).map (·.type) = some 52 := by kernel_rfl
theorem cellsES : Tryd.prog.cellsOf 118 = 1 := by kernel_rfl
theorem cellsStr : Tryd.prog.cellsOf 9 = 1 := by kernel_rfl
theorem star_es : "*" ++ "errors.errorString" = "*errors.errorString" := by decide
theorem row_es (u : TypeId) (h : Tryd.prog.typeName? 3 u = some "*errors.errorString") : u = 116 :=
  typeName_ptr_named (nm := "errors.errorString") (by rw [star_es]; kernel_rfl) (by kernel_rfl) (by decide) u (by rw [star_es]; exact h)
theorem envp_of {W : World} (h : laidMetH Tryd.prog Rows.fnExactParseAddrRow.laid W) (hsh : W.ShapedOpen Tryd.prog) : EnvP W := by
  have h0 : laidMet Tryd.prog Rows.fnExactParseAddrRow.laid W := by
    rw [MakeChecks.laidMetH_plain _ _ _ (by kernel_rfl)] at h
    exact h
  obtain ⟨a0, s0, hv0, -, -, -⟩ := laid_sentinel h0.tail.tail.tail.tail gRange gRangeT Tryd.underlying52 row_es Tryd.underlying116 Tryd.underlying118 rfl rfl Tryd.underlying9 cellsES cellsStr
  obtain ⟨a1, s1, hv1, -, -, -⟩ := laid_sentinel h0.tail.tail.tail.tail.tail gSyn gSynT Tryd.underlying52 row_es Tryd.underlying116 Tryd.underlying118 rfl rfl Tryd.underlying9 cellsES cellsStr
  have c1 : W.cell? ⟨1, 0, none⟩ = some (.iface 116 (.pointer (some a1))) := by have := World.var?_cell gSyn hv1 0; simpa using this
  have c2 : W.cell? ⟨2, 0, none⟩ = some (.iface 116 (.pointer (some a0))) := by have := World.var?_cell gRange hv0 0; simpa using this
  exact ⟨env_of3 h0, cell_of_shapedOpen_int (t := 3) (zero := #[.int .i64 0]) hsh (of_decide_eq_true (by kernel_rfl)) (by kernel_rfl) rfl (by kernel_rfl) (by kernel_rfl) Tryd.underlying3, ⟨_, _, c1⟩, ⟨_, _, c2⟩⟩

end Go.Proofs.YtkcmgeoaipjhhaaDoor
