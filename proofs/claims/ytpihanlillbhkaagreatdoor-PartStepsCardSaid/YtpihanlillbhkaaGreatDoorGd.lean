/- One text out of several: PlainV, VarA. -/
import Derived.Test.YtpihanlillbhkaaGreatDoorProg
import Derived.Test.YtpihanlillbhkaaGreatDoorBase

section
/- Chapter 1 in plain words: the bytes of a number, and the number with which bytes begin. No program in sight. -/
namespace Go.Proofs.YtpihanlillbhkaaGreatDoor

end Go.Proofs.YtpihanlillbhkaaGreatDoor
end

section
/- The walks of varint.Put, varint.Turn, varint.Back, varint.PutInt and of their twins of the document: what each hands back. -/
namespace Go.Proofs.YtpihanlillbhkaaGreatDoor
open Go Go.RowKit

theorem rowU8 : Row1 Tryz.prog 125 5 (.int .u8 0) 1 1 := ⟨by kernel_rfl, by kernel_rfl, rfl, by decide⟩

theorem byte_any (n : Int) (w : World) (h0 : 0 ≤ n) (h1 : n ≤ 255) :
    Calls Tryz.prog 103 #[.int .i64 n] w (Gives w (.string (S [UInt8.ofNat n.toNat]))) := by
  have hc := fun w => conv_one (P := Tryz.prog) w 125 9 5 5 n Tryz.underlying125 Tryz.underlying5 Tryz.underlying9 h0 h1
  go_enter Tryz.func103, Tryz.ntmps103
  go_wp2_with fail
  go_ret
  exact ⟨rfl, (Up.refl _).alloc _⟩

end Go.Proofs.YtpihanlillbhkaaGreatDoor
end
