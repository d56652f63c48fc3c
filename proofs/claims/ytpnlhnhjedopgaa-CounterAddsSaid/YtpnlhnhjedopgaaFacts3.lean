/- A fact on the whole program, reckoned once by the kernel: every row's closed cells ask it. -/
import Derived.Test.YtpnlhnhjedopgaaRows
namespace Go.Proofs.Ytpnlhnhjedopgaa
open Go
theorem fact_make : Try.prog.make = some Rows.adminBytesRow.make := by kernel_rfl
end Go.Proofs.Ytpnlhnhjedopgaa
