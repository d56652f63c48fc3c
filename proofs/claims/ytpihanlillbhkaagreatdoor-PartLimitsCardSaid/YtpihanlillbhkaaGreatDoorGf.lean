/- One text out of several: PopA. -/
import Derived.Test.YtpihanlillbhkaaGreatDoorGe
import Derived.Deep.RegionHeld3

section
/- Appends of parts of slices in a region that draws its order. -/
namespace Go.Proofs.YtpihanlillbhkaaGreatDoor
open Go Go.RowKit

end Go.Proofs.YtpihanlillbhkaaGreatDoor
end
