/- Two facts on the whole program, reckoned once by the kernel: every row's closed cells ask them. -/
import Derived.Test.YtofhakbmmgpgdaaRows
namespace Go.Proofs.Ytofhakbmmgpgdaa
open Go
theorem fact_mayEnter : Try.prog.mayEnter = true := by kernel_rfl
end Go.Proofs.Ytofhakbmmgpgdaa
