/- Two facts on the whole program, reckoned once by the kernel: every row's closed cells ask them. -/
import Derived.Test.YtgedlbfdhekdgaaDoorRows
namespace Go.Proofs.YtgedlbfdhekdgaaDoor
open Go
theorem fact_mayEnter : Tryd.prog.mayEnter = true := by kernel_rfl
end Go.Proofs.YtgedlbfdhekdgaaDoor
