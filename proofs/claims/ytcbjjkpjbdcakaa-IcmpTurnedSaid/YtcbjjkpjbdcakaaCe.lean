/- Closed facts on how many cells a type takes. -/
import Derived.Test.YtcbjjkpjbdcakaaRows
import Derived.WalkKit
namespace Go.Proofs.Ytcbjjkpjbdcakaa
theorem Try.cells26 : Try.prog.cellsOf 26 = 1 := by kernel_rfl
theorem Try.cells5 : Try.prog.cellsOf 5 = 1 := by kernel_rfl
end Go.Proofs.Ytcbjjkpjbdcakaa
