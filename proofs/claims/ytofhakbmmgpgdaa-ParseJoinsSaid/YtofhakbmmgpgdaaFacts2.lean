/- A fact on the whole program, reckoned once by the kernel: every row's closed cells ask it. -/
import Derived.Test.YtofhakbmmgpgdaaRows
namespace Go.Proofs.Ytofhakbmmgpgdaa
open Go
theorem fact_lifted : Try.prog.liftsFinal = false := by kernel_rfl
end Go.Proofs.Ytofhakbmmgpgdaa
