/- A fact on the whole program, reckoned once by the kernel: every row's closed cells ask it. -/
import Derived.Test.YtgedlbfdhekdgaaDoorRows
namespace Go.Proofs.YtgedlbfdhekdgaaDoor
open Go
theorem fact_make : Tryd.prog.make = some Rows.valueTextsRow.make := by kernel_rfl
end Go.Proofs.YtgedlbfdhekdgaaDoor
