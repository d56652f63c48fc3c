/-
  DERIVED. GIVEN WITH THE SEED: THE CARDS: each row of YtofhakbmmgpgdaaDoorRows.lean that lists a variable, with what it lists TIED to the program's text (the seventh form; the later family's looks); each row that meets fmt, with fmt's text TOLD by the authors' own Lean function (tested against real Go, not proved from fmt's source: count such statements apart). THE CARD IS WHAT COUNTS. Prove the row's statement (the work); the ties are given (YtofhakbmmgpgdaaDoorTie.lean); close each card by the builder's one call (the guide's Derived/Test/ToyasCard.lean, 'card_holds'). Laid BY PROGRAM, IN A SANDBOX (cutbox-door.mjs). By AI agents, Wed Nov 11 2026. No macro, syntax, notation, axiom, sorry.
-/
import Derived.Test.YtofhakbmmgpgdaaDoorRows
import GoSem.ClaimSeven
namespace Go.Proofs.YtofhakbmmgpgdaaDoor
namespace Rows

/-- THE TIED CARD OF 'concourselaw15.ValueTexts'. -/
def valueTextsCard : Claim7 := { stood := { row := valueTextsRow, standIns := [], harness := (true, "7f7760fdde504f294d5caffa4827039b26592c8ec7ae70830de51a631cc73da0"), looks := true }, kinds := [], alts := [], laidByText := true, laidKinds := [.data, .data, .data], laidTests := true, laidLooks := .later }
def ValueTextsCardSaid : Prop := Claim7.holds Tryd.pinned (.plain (OpenSpec.ofChange valueTextsSpec)) valueTextsCard

/-- THE TIED CARD OF 'concourselaw15.ValueWell'. -/
def valueWellCard : Claim7 := { stood := { row := valueWellRow, standIns := [], harness := (true, "7f7760fdde504f294d5caffa4827039b26592c8ec7ae70830de51a631cc73da0"), looks := true }, kinds := [], alts := [], laidByText := true, laidKinds := [.data, .data, .data], laidTests := true, laidLooks := .later }
def ValueWellCardSaid : Prop := Claim7.holds Tryd.pinned (.plain (OpenSpec.ofChange valueWellSpec)) valueWellCard

/-- THE TIED CARD OF 'concourselaw15.ValueSame'. -/
def valueSameCard : Claim7 := { stood := { row := valueSameRow, standIns := [], harness := (true, "7f7760fdde504f294d5caffa4827039b26592c8ec7ae70830de51a631cc73da0"), looks := true }, kinds := [], alts := [], laidByText := true, laidKinds := [.data, .data, .data], laidTests := true, laidLooks := .later }
def ValueSameCardSaid : Prop := Claim7.holds Tryd.pinned (.plain (OpenSpec.ofChange valueSameSpec)) valueSameCard

/-- THE TIED CARD OF 'concourselaw15.ValueApart'. -/
def valueApartCard : Claim7 := { stood := { row := valueApartRow, standIns := [], harness := (true, "7f7760fdde504f294d5caffa4827039b26592c8ec7ae70830de51a631cc73da0"), looks := true }, kinds := [], alts := [], laidByText := true, laidKinds := [.data, .data, .data], laidTests := true, laidLooks := .later }
def ValueApartCardSaid : Prop := Claim7.holds Tryd.pinned (.plain (OpenSpec.ofChange valueApartSpec)) valueApartCard

/-- THE TIED CARD OF 'concourselaw10.ShowBack'. -/
def showBackCard : Claim7 := { stood := { row := showBackRow, standIns := [], harness := (true, "7f7760fdde504f294d5caffa4827039b26592c8ec7ae70830de51a631cc73da0"), looks := true }, kinds := [], alts := [], laidByText := true, laidKinds := [.data, .data, .data], laidTests := true, laidLooks := .later }
def ShowBackCardSaid : Prop := Claim7.holds Tryd.pinned (.plain (OpenSpec.ofChange showBackSpec)) showBackCard

/-- THE TIED CARD OF 'concourselaw10.ShowOnce'. -/
def showOnceCard : Claim7 := { stood := { row := showOnceRow, standIns := [], harness := (true, "7f7760fdde504f294d5caffa4827039b26592c8ec7ae70830de51a631cc73da0"), looks := true }, kinds := [], alts := [], laidByText := true, laidKinds := [.data, .data, .data], laidTests := true, laidLooks := .later }
def ShowOnceCardSaid : Prop := Claim7.holds Tryd.pinned (.plain (OpenSpec.ofChange showOnceSpec)) showOnceCard

/-- THE SECOND FORM's CARD OF 'concourselaw15.ValueTexts'. -/
def valueTextsUptoCard : Claim7 := { stood := { row := valueTextsUptoRow, standIns := [], harness := (true, "7f7760fdde504f294d5caffa4827039b26592c8ec7ae70830de51a631cc73da0"), looks := true }, kinds := [], alts := [], laidByText := true, laidKinds := [.data, .data, .data], laidTests := true, laidLooks := .later }
def ValueTextsUptoCardSaid : Prop := Claim7.holds Tryd.pinned (.plain (OpenSpec.upto valueTextsSpec)) valueTextsUptoCard

/-- THE SECOND FORM's CARD OF 'concourselaw15.ValueWell'. -/
def valueWellUptoCard : Claim7 := { stood := { row := valueWellUptoRow, standIns := [], harness := (true, "7f7760fdde504f294d5caffa4827039b26592c8ec7ae70830de51a631cc73da0"), looks := true }, kinds := [], alts := [], laidByText := true, laidKinds := [.data, .data, .data], laidTests := true, laidLooks := .later }
def ValueWellUptoCardSaid : Prop := Claim7.holds Tryd.pinned (.plain (OpenSpec.upto valueWellSpec)) valueWellUptoCard

/-- THE SECOND FORM's CARD OF 'concourselaw15.ValueSame'. -/
def valueSameUptoCard : Claim7 := { stood := { row := valueSameUptoRow, standIns := [], harness := (true, "7f7760fdde504f294d5caffa4827039b26592c8ec7ae70830de51a631cc73da0"), looks := true }, kinds := [], alts := [], laidByText := true, laidKinds := [.data, .data, .data], laidTests := true, laidLooks := .later }
def ValueSameUptoCardSaid : Prop := Claim7.holds Tryd.pinned (.plain (OpenSpec.upto valueSameSpec)) valueSameUptoCard

/-- THE SECOND FORM's CARD OF 'concourselaw15.ValueApart'. -/
def valueApartUptoCard : Claim7 := { stood := { row := valueApartUptoRow, standIns := [], harness := (true, "7f7760fdde504f294d5caffa4827039b26592c8ec7ae70830de51a631cc73da0"), looks := true }, kinds := [], alts := [], laidByText := true, laidKinds := [.data, .data, .data], laidTests := true, laidLooks := .later }
def ValueApartUptoCardSaid : Prop := Claim7.holds Tryd.pinned (.plain (OpenSpec.upto valueApartSpec)) valueApartUptoCard

/-- THE SECOND FORM's CARD OF 'concourselaw10.ShowBack'. -/
def showBackUptoCard : Claim7 := { stood := { row := showBackUptoRow, standIns := [], harness := (true, "7f7760fdde504f294d5caffa4827039b26592c8ec7ae70830de51a631cc73da0"), looks := true }, kinds := [], alts := [], laidByText := true, laidKinds := [.data, .data, .data], laidTests := true, laidLooks := .later }
def ShowBackUptoCardSaid : Prop := Claim7.holds Tryd.pinned (.plain (OpenSpec.upto showBackSpec)) showBackUptoCard

/-- THE SECOND FORM's CARD OF 'concourselaw10.ShowOnce'. -/
def showOnceUptoCard : Claim7 := { stood := { row := showOnceUptoRow, standIns := [], harness := (true, "7f7760fdde504f294d5caffa4827039b26592c8ec7ae70830de51a631cc73da0"), looks := true }, kinds := [], alts := [], laidByText := true, laidKinds := [.data, .data, .data], laidTests := true, laidLooks := .later }
def ShowOnceUptoCardSaid : Prop := Claim7.holds Tryd.pinned (.plain (OpenSpec.upto showOnceSpec)) showOnceUptoCard
end Rows
end Go.Proofs.YtofhakbmmgpgdaaDoor
