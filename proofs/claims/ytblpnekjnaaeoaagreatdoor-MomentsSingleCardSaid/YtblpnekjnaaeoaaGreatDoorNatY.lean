/- What the rows of the laws list, as the walks ask it. -/
import Derived.Test.YtblpnekjnaaeoaaGreatDoorNatT
import Derived.Test.YtblpnekjnaaeoaaGreatDoorRows
import Derived.LaidSub
import Derived.Stop.LaidErr
import Derived.Lib.LaidTab
set_option linter.unusedVariables false
set_option linter.unusedSimpArgs false
namespace Go.Proofs.YtblpnekjnaaeoaaGreatDoor
open Go.RowKit

theorem Tryz.gPow : Tryz.prog.globalNamed "internal/strconv.uint64pow10" = some 2 := by kernel_rfl
theorem Tryz.gPowT : (Tryz.prog.globals[2]?).map (·.type) = some 182 := by kernel_rfl
theorem Tryz.cells20 : Tryz.prog.cellsOf 182 = 20 := by kernel_rfl
theorem Tryz.cells64 : Tryz.prog.cellsOf 119 = 1 := by kernel_rfl
theorem Tryz.gER : Tryz.prog.globalNamed "strconv.ErrRange" = some 4 := by kernel_rfl
theorem Tryz.gERT : (Tryz.prog.globals[4]?).map (·.type) = some 124 := by kernel_rfl
theorem Tryz.cellsES : Tryz.prog.cellsOf 204 = 1 := by kernel_rfl
theorem Tryz.cellsStr : Tryz.prog.cellsOf 9 = 1 := by kernel_rfl
theorem powData : (Rows.laid_internal_strconv_uint64pow10 : DataW Unit) = Lib.tabData .u64 Lib.pow10Tab := by kernel_rfl
theorem Tryz.star : "*" ++ "errors.errorString" = "*errors.errorString" := by decide
theorem Tryz.rowES (u : TypeId) (h : Tryz.prog.typeName? 3 u = some "*errors.errorString") : u = 202 :=
  typeName_ptr_named (nm := "errors.errorString") (by rw [Tryz.star]; kernel_rfl) (by kernel_rfl) (by decide) u (by rw [Tryz.star]; exact h)
/-- From what a row lists, in whatever order. -/
theorem lawW_of_laid {W : World} {l : List (String × DataW Unit)} (h : laidMet Tryz.prog l W)
    (h1 : (l.filter fun x => x.1 == "internal/strconv.uint64pow10") = [("internal/strconv.uint64pow10", Rows.laid_internal_strconv_uint64pow10)])
    (h2 : (l.filter fun x => x.1 == "strconv.ErrRange") = [("strconv.ErrRange", Rows.laid_strconv_ErrRange)]) : LawW W := by
  have a := h.filter fun x => x.1 == "internal/strconv.uint64pow10"
  rw [h1, powData] at a
  have b := h.filter fun x => x.1 == "strconv.ErrRange"
  rw [h2] at b
  refine ⟨Lib.tabIs_of_head Tryz.gPow Tryz.gPowT Tryz.underlying182 Tryz.underlying119 Tryz.cells64 Tryz.cells20 a, ?_⟩
  obtain ⟨a1, s1, hv1, -, -, -⟩ := laid_sentinel b Tryz.gER Tryz.gERT Tryz.underlying124 Tryz.rowES Tryz.underlying202 Tryz.underlying204 rfl rfl Tryz.underlying9 Tryz.cellsES Tryz.cellsStr
  exact ⟨_, _, hv1⟩
end Go.Proofs.YtblpnekjnaaeoaaGreatDoor
