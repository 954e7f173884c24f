/- Closed facts on how many cells a type takes. -/
import Derived.Test.YtamjhaomdfeemaaRows
import Derived.WalkKit
namespace Go.Proofs.Ytamjhaomdfeemaa
theorem Try.cells55 : Try.prog.cellsOf 55 = 1 := by kernel_rfl
theorem Try.cells5 : Try.prog.cellsOf 5 = 1 := by kernel_rfl
theorem Try.cells88 : Try.prog.cellsOf 88 = 4 := by kernel_rfl
end Go.Proofs.Ytamjhaomdfeemaa
