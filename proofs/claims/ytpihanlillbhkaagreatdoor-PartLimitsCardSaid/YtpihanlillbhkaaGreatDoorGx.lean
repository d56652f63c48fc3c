/- One text out of several: PtRd, PtS. -/
import Derived.Test.YtpihanlillbhkaaGreatDoorPtR
import Derived.Test.YtpihanlillbhkaaGreatDoorPtRb
import Derived.Test.YtpihanlillbhkaaGreatDoorPtRc

section
/- The document's layer 31: the other operations. Printed by genptr.py. -/
set_option maxRecDepth 100000
set_option linter.unusedSimpArgs false
set_option linter.unusedVariables false
namespace Go.Proofs.YtpihanlillbhkaaGreatDoor
open Go Go.RowKit Go.Proofs

end Go.Proofs.YtpihanlillbhkaaGreatDoor
end

section
/- The document's layer 31: an operation done. -/
set_option maxRecDepth 100000
set_option linter.unusedSimpArgs false
set_option linter.unusedVariables false
namespace Go.Proofs.YtpihanlillbhkaaGreatDoor
open Go Go.RowKit Go.Proofs

theorem apply_len (q : PQ) (a : St31) : (applyQ q a).1.cn.length ≤ q.cn.length + 1 := by
  unfold applyQ
  repeat' split
  all_goals simp
end Go.Proofs.YtpihanlillbhkaaGreatDoor
end
