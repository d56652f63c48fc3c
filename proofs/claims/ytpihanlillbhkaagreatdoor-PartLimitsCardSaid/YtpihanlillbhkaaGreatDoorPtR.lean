/- The document's layer 31: Size, and what an operation makes of a partition. -/
import Derived.Test.YtpihanlillbhkaaGreatDoorGt
import Derived.Test.YtpihanlillbhkaaGreatDoorGu
set_option maxRecDepth 100000
set_option linter.unusedSimpArgs false
set_option linter.unusedVariables false
namespace Go.Proofs.YtpihanlillbhkaaGreatDoor
open Go Go.RowKit Go.Proofs

def PQ.av (q : PQ) : AV := .agg [.slc 92 (q.kv.map kvR), .slc 113 (q.cn.map CRw.av), .slc 115 (q.qu.map kvR), .slc 99 (q.le.map leR)]
end Go.Proofs.YtpihanlillbhkaaGreatDoor
