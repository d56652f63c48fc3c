/- Two facts on the whole program, reckoned once by the kernel: every row's closed cells ask them. -/
import Derived.Test.YtpnlhnhjedopgaaRows
namespace Go.Proofs.Ytpnlhnhjedopgaa
open Go
theorem fact_mayEnter : Try.prog.mayEnter = true := by kernel_rfl
end Go.Proofs.Ytpnlhnhjedopgaa
