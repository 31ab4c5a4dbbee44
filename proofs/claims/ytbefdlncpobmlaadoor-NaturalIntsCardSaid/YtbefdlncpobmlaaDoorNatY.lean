/- What the rows of the laws list, as the walks ask it. -/
import Derived.Test.YtbefdlncpobmlaaDoorNatT
import Derived.Test.YtbefdlncpobmlaaDoorRows
import Derived.LaidSub
import Derived.Stop.LaidErr
import Derived.Lib.LaidTab
namespace Go.Proofs.YtbefdlncpobmlaaDoor
open Go.RowKit

theorem Tryd.gPow : Tryd.prog.globalNamed "internal/strconv.uint64pow10" = some 4 := by kernel_rfl
theorem Tryd.gPowT : (Tryd.prog.globals[4]?).map (·.type) = some 122 := by kernel_rfl
theorem Tryd.cells20 : Tryd.prog.cellsOf 122 = 20 := by kernel_rfl
theorem Tryd.cells64 : Tryd.prog.cellsOf 99 = 1 := by kernel_rfl
theorem Tryd.gER : Tryd.prog.globalNamed "strconv.ErrRange" = some 1 := by kernel_rfl
theorem Tryd.gERT : (Tryd.prog.globals[1]?).map (·.type) = some 53 := by kernel_rfl
theorem Tryd.cellsES : Tryd.prog.cellsOf 130 = 1 := by kernel_rfl
theorem Tryd.cellsStr : Tryd.prog.cellsOf 9 = 1 := by kernel_rfl
theorem powData : (Rows.laid_internal_strconv_uint64pow10 : DataW Unit) = Lib.tabData .u64 Lib.pow10Tab := by kernel_rfl
theorem Tryd.star : "*" ++ "errors.errorString" = "*errors.errorString" := by decide
theorem Tryd.rowES (u : TypeId) (h : Tryd.prog.typeName? 3 u = some "*errors.errorString") : u = 128 :=
  typeName_ptr_named (nm := "errors.errorString") (by rw [Tryd.star]; kernel_rfl) (by kernel_rfl) (by decide) u (by rw [Tryd.star]; exact h)
/-- From what a row lists, in whatever order. -/
theorem lawW_of_laid {W : World} {l : List (String × DataW Unit)} (h : laidMet Tryd.prog l W)
    (h1 : (l.filter fun x => x.1 == "internal/strconv.uint64pow10") = [("internal/strconv.uint64pow10", Rows.laid_internal_strconv_uint64pow10)])
    (h2 : (l.filter fun x => x.1 == "strconv.ErrRange") = [("strconv.ErrRange", Rows.laid_strconv_ErrRange)]) : LawW W := by
  have a := h.filter fun x => x.1 == "internal/strconv.uint64pow10"
  rw [h1, powData] at a
  have b := h.filter fun x => x.1 == "strconv.ErrRange"
  rw [h2] at b
  refine ⟨Lib.tabIs_of_head Tryd.gPow Tryd.gPowT Tryd.underlying122 Tryd.underlying99 Tryd.cells64 Tryd.cells20 a, ?_⟩
  obtain ⟨a1, s1, hv1, -, -, -⟩ := laid_sentinel b Tryd.gER Tryd.gERT Tryd.underlying53 Tryd.rowES Tryd.underlying128 Tryd.underlying130 rfl rfl Tryd.underlying9 Tryd.cellsES Tryd.cellsStr
  exact ⟨_, _, hv1⟩
end Go.Proofs.YtbefdlncpobmlaaDoor
