/- A fact on the whole program, reckoned once by the kernel: every row's closed cells ask it. -/
import Derived.Test.YtofhakbmmgpgdaaGreatDoorRows
namespace Go.Proofs.YtofhakbmmgpgdaaGreatDoor
open Go
theorem fact_lifted : Tryz.prog.liftsFinal = false := by kernel_rfl
end Go.Proofs.YtofhakbmmgpgdaaGreatDoor
