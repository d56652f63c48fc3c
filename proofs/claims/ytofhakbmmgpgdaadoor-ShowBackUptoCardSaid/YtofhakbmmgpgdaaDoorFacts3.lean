/- A fact on the whole program, reckoned once by the kernel: every row's closed cells ask it. -/
import Derived.Test.YtofhakbmmgpgdaaDoorRows
namespace Go.Proofs.YtofhakbmmgpgdaaDoor
open Go
theorem fact_make : Tryd.prog.make = some Rows.valueTextsRow.make := by kernel_rfl
end Go.Proofs.YtofhakbmmgpgdaaDoor
