/- The document's Text. Printed by genptv.py. -/
import Derived.Test.YtpihanlillbhkaaGreatDoorGy
import Derived.Test.YtpihanlillbhkaaGreatDoorPtT
import Derived.Test.YtpihanlillbhkaaGreatDoorPtR
set_option maxRecDepth 100000
set_option linter.unusedSimpArgs false
set_option linter.unusedVariables false
namespace Go.Proofs.YtpihanlillbhkaaGreatDoor
open Go Go.RowKit Go.Proofs

/-- one step of a row of lines -/
structure Ln (B : List UInt8) (word : List UInt8) (r : ByteArray → List UInt8) (ns : List ByteArray) (k : Nat) (n : ByteArray) (W : ByteArray) : Prop where
  eq : S (B ++ linesT word r (ns.take k)) ++ (W ++ S (hexT n.data.toList) ++ (⟨#[32]⟩ : ByteArray) ++ S (r n) ++ (⟨#[10]⟩ : ByteArray)) = S (B ++ linesT word r (ns.take (k + 1)))
  z0 : (S (B ++ linesT word r (ns.take k))).size = B.length + (linesT word r (ns.take k)).length
  z1 : W.size = word.length + 1
  z2 : (W ++ S (hexT n.data.toList)).size = word.length + 1 + (hexT n.data.toList).length
  z3 : (W ++ S (hexT n.data.toList) ++ (⟨#[32]⟩ : ByteArray)).size = word.length + 1 + (hexT n.data.toList).length + 1
  z4 : (W ++ S (hexT n.data.toList) ++ (⟨#[32]⟩ : ByteArray) ++ S (r n)).size = word.length + 1 + (hexT n.data.toList).length + 1 + (r n).length
  z5 : (W ++ S (hexT n.data.toList) ++ (⟨#[32]⟩ : ByteArray) ++ S (r n) ++ (⟨#[10]⟩ : ByteArray)).size = word.length + 1 + (hexT n.data.toList).length + 1 + (r n).length + 1
  zh : (S (hexT n.data.toList)).size = (hexT n.data.toList).length
  zr : (S (r n)).size = (r n).length
  le : (linesT word r (ns.take k)).length + word.length + 1 + (hexT n.data.toList).length + 1 + (r n).length + 1 ≤ (linesT word r ns).length
end Go.Proofs.YtpihanlillbhkaaGreatDoor
