/-
  DERIVED. GIVEN WITH THE SEED: THE CARDS: each row of YtpihanlillbhkaaGreatDoorRows.lean that lists a variable, with what it lists TIED to the program's text (the seventh form; the later family's looks); each row that meets fmt, with fmt's text TOLD by the authors' own Lean function (tested against real Go, not proved from fmt's source: count such statements apart). THE CARD IS WHAT COUNTS. Prove the row's statement (the work); the ties are given (YtpihanlillbhkaaGreatDoorTie.lean); close each card by the builder's one call (the guide's Derived/Test/ToyasCard.lean, 'card_holds'). Laid BY PROGRAM, IN A SANDBOX (cutbox-door.mjs). By AI agents, Wed Nov 11 2026. No macro, syntax, notation, axiom, sorry.
-/
import Derived.Test.YtpihanlillbhkaaGreatDoorRows
import GoSem.ClaimSeven
namespace Go.Proofs.YtpihanlillbhkaaGreatDoor
namespace Rows

/-- THE TIED CARD OF 'concourselaw31.PartSteps'. -/
def partStepsCard : Claim7 := { stood := { row := partStepsRow, standIns := [], harness := (true, "e0319ace99eb5fc5333ee01912081f76869fd6e1420f9f3037f1a881871f9fee"), looks := false }, kinds := [], alts := [], laidByText := true, laidKinds := [.data, .data, .data], laidTests := true, laidLooks := .later }
def PartStepsCardSaid : Prop := Claim7.holds Tryz.pinned (.plain (OpenSpec.ofChange partStepsSpec)) partStepsCard

/-- THE TIED CARD OF 'concourselaw31.PartLimits'. -/
def partLimitsCard : Claim7 := { stood := { row := partLimitsRow, standIns := [], harness := (true, "e0319ace99eb5fc5333ee01912081f76869fd6e1420f9f3037f1a881871f9fee"), looks := false }, kinds := [], alts := [], laidByText := true, laidKinds := [.data, .data, .data], laidTests := true, laidLooks := .later }
def PartLimitsCardSaid : Prop := Claim7.holds Tryz.pinned (.plain (OpenSpec.ofChange partLimitsSpec)) partLimitsCard

/-- THE SECOND FORM's CARD OF 'concourselaw31.PartSteps'. -/
def partStepsUptoCard : Claim7 := { stood := { row := partStepsUptoRow, standIns := [], harness := (true, "e0319ace99eb5fc5333ee01912081f76869fd6e1420f9f3037f1a881871f9fee"), looks := false }, kinds := [], alts := [], laidByText := true, laidKinds := [.data, .data, .data], laidTests := true, laidLooks := .later }
def PartStepsUptoCardSaid : Prop := Claim7.holds Tryz.pinned (.plain (OpenSpec.upto partStepsSpec)) partStepsUptoCard

/-- THE SECOND FORM's CARD OF 'concourselaw31.PartLimits'. -/
def partLimitsUptoCard : Claim7 := { stood := { row := partLimitsUptoRow, standIns := [], harness := (true, "e0319ace99eb5fc5333ee01912081f76869fd6e1420f9f3037f1a881871f9fee"), looks := false }, kinds := [], alts := [], laidByText := true, laidKinds := [.data, .data, .data], laidTests := true, laidLooks := .later }
def PartLimitsUptoCardSaid : Prop := Claim7.holds Tryz.pinned (.plain (OpenSpec.upto partLimitsSpec)) partLimitsUptoCard
end Rows
end Go.Proofs.YtpihanlillbhkaaGreatDoor
