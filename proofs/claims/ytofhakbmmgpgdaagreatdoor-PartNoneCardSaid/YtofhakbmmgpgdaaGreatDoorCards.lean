/-
  DERIVED. GIVEN WITH THE SEED: THE CARDS: each row of YtofhakbmmgpgdaaGreatDoorRows.lean that lists a variable, with what it lists TIED to the program's text (the seventh form; the later family's looks); each row that meets fmt, with fmt's text TOLD by the authors' own Lean function (tested against real Go, not proved from fmt's source: count such statements apart). THE CARD IS WHAT COUNTS. Prove the row's statement (the work); the ties are given (YtofhakbmmgpgdaaGreatDoorTie.lean); close each card by the builder's one call (the guide's Derived/Test/ToyasCard.lean, 'card_holds'). Laid BY PROGRAM, IN A SANDBOX (cutbox-door.mjs). By AI agents, Wed Nov 11 2026. No macro, syntax, notation, axiom, sorry.
-/
import Derived.Test.YtofhakbmmgpgdaaGreatDoorRows
import GoSem.ClaimSeven
namespace Go.Proofs.YtofhakbmmgpgdaaGreatDoor
namespace Rows

/-- THE TIED CARD OF 'concourselaw31.PartSteps'. -/
def partStepsCard : Claim7 := { stood := { row := partStepsRow, standIns := [], harness := (true, "b734da48b02b36505a3c2c06462f8548175cf8617513a0706a5a4aeda94bbf56"), looks := false }, kinds := [], alts := [], laidByText := true, laidKinds := [.data, .data, .data], laidTests := true, laidLooks := .later }
def PartStepsCardSaid : Prop := Claim7.holds Tryz.pinned (.plain (OpenSpec.ofChange partStepsSpec)) partStepsCard

/-- THE TIED CARD OF 'concourselaw31.PartLimits'. -/
def partLimitsCard : Claim7 := { stood := { row := partLimitsRow, standIns := [], harness := (true, "b734da48b02b36505a3c2c06462f8548175cf8617513a0706a5a4aeda94bbf56"), looks := false }, kinds := [], alts := [], laidByText := true, laidKinds := [.data, .data, .data], laidTests := true, laidLooks := .later }
def PartLimitsCardSaid : Prop := Claim7.holds Tryz.pinned (.plain (OpenSpec.ofChange partLimitsSpec)) partLimitsCard

/-- THE TIED CARD OF 'concourselaw31.PartNone'. -/
def partNoneCard : Claim7 := { stood := { row := partNoneRow, standIns := [], harness := (true, "b734da48b02b36505a3c2c06462f8548175cf8617513a0706a5a4aeda94bbf56"), looks := false }, kinds := [], alts := [], laidByText := true, laidKinds := [.data, .data, .data], laidTests := true, laidLooks := .later }
def PartNoneCardSaid : Prop := Claim7.holds Tryz.pinned (.plain (OpenSpec.ofChange partNoneSpec)) partNoneCard

/-- THE SECOND FORM's CARD OF 'concourselaw31.PartSteps'. -/
def partStepsUptoCard : Claim7 := { stood := { row := partStepsUptoRow, standIns := [], harness := (true, "b734da48b02b36505a3c2c06462f8548175cf8617513a0706a5a4aeda94bbf56"), looks := false }, kinds := [], alts := [], laidByText := true, laidKinds := [.data, .data, .data], laidTests := true, laidLooks := .later }
def PartStepsUptoCardSaid : Prop := Claim7.holds Tryz.pinned (.plain (OpenSpec.upto partStepsSpec)) partStepsUptoCard

/-- THE SECOND FORM's CARD OF 'concourselaw31.PartLimits'. -/
def partLimitsUptoCard : Claim7 := { stood := { row := partLimitsUptoRow, standIns := [], harness := (true, "b734da48b02b36505a3c2c06462f8548175cf8617513a0706a5a4aeda94bbf56"), looks := false }, kinds := [], alts := [], laidByText := true, laidKinds := [.data, .data, .data], laidTests := true, laidLooks := .later }
def PartLimitsUptoCardSaid : Prop := Claim7.holds Tryz.pinned (.plain (OpenSpec.upto partLimitsSpec)) partLimitsUptoCard

/-- THE SECOND FORM's CARD OF 'concourselaw31.PartNone'. -/
def partNoneUptoCard : Claim7 := { stood := { row := partNoneUptoRow, standIns := [], harness := (true, "b734da48b02b36505a3c2c06462f8548175cf8617513a0706a5a4aeda94bbf56"), looks := false }, kinds := [], alts := [], laidByText := true, laidKinds := [.data, .data, .data], laidTests := true, laidLooks := .later }
def PartNoneUptoCardSaid : Prop := Claim7.holds Tryz.pinned (.plain (OpenSpec.upto partNoneSpec)) partNoneUptoCard
end Rows
end Go.Proofs.YtofhakbmmgpgdaaGreatDoor
