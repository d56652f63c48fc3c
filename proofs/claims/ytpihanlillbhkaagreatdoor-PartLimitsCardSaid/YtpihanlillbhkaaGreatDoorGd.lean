/- One text out of several: PlainV, VarA. -/
import Derived.Test.YtpihanlillbhkaaGreatDoorProg
import Derived.Test.YtpihanlillbhkaaGreatDoorBase

section
/- Chapter 1 in plain words: the bytes of a number, and the number with which bytes begin. No program in sight. -/
namespace Go.Proofs.YtpihanlillbhkaaGreatDoor

end Go.Proofs.YtpihanlillbhkaaGreatDoor
end

section
/- The walks of varint.Put, varint.Turn, varint.Back, varint.PutInt and of their twins of the document: what each hands back. -/
namespace Go.Proofs.YtpihanlillbhkaaGreatDoor
open Go Go.RowKit

theorem rowU8 : Row1 Tryz.prog 125 5 (.int .u8 0) 1 1 := ⟨by kernel_rfl, by kernel_rfl, rfl, by decide⟩

end Go.Proofs.YtpihanlillbhkaaGreatDoor
end
