/- The document's layer 31: a push. Printed by genptr.py. -/
import Derived.Test.YtpihanlillbhkaaGreatDoorPtR
set_option maxRecDepth 100000
set_option linter.unusedSimpArgs false
set_option linter.unusedVariables false
namespace Go.Proofs.YtpihanlillbhkaaGreatDoor
open Go Go.RowKit Go.Proofs

end Go.Proofs.YtpihanlillbhkaaGreatDoor
