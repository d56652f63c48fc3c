/- Two facts on the whole program, reckoned once by the kernel: every row's closed cells ask them. -/
import Derived.Test.YtofhakbmmgpgdaaGreatDoorRows
namespace Go.Proofs.YtofhakbmmgpgdaaGreatDoor
open Go
theorem fact_mayEnter : Tryz.prog.mayEnter = true := by kernel_rfl
end Go.Proofs.YtofhakbmmgpgdaaGreatDoor
