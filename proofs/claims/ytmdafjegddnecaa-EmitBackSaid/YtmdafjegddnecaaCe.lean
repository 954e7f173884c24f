/- Closed facts on how many cells a type takes. -/
import Derived.Test.YtmdafjegddnecaaRows
import Derived.WalkKit
namespace Go.Proofs.Ytmdafjegddnecaa
theorem Try.cells22 : Try.prog.cellsOf 22 = 1 := by kernel_rfl
theorem Try.cells5 : Try.prog.cellsOf 5 = 1 := by kernel_rfl
end Go.Proofs.Ytmdafjegddnecaa
