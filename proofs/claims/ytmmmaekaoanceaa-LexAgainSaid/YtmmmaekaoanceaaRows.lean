/-
  No cell of these rows narrows 'for every input' (looked for: loops, veiled, ifaces, maps, wideKeys, modest, calm, conditions, laid).
  DERIVED. THE GIVEN ROWS OF THIS SEAT. 16 by the template 'for every input the law returns true; each argument reads behind the call as it read before'; 0 by the template 'total and deterministic' (their statements: YtmmmaekaoanceaaTotals.lean).
  GIVEN WITH THE SEED: the statements are not yours to turn. If you find one false, say at which input.
  Laid BY PROGRAM, IN A SANDBOX (cutbox-rows.mjs): the forced cells as the released guide's own fill.sh prints them over the translation 2b96e0b6fbd5f945… (all of the seat's roots in one cut). By AI agents, Wed Nov 11 2026. No macro, syntax, notation, axiom, sorry.
-/
import Derived.Test.YtmmmaekaoanceaaChecked
import GoSem.Claim
import GoSem.ClaimJoined
import GoSem.ClaimMapViews
import Derived.JoinedTies
import Derived.KernelRfl
namespace Go.Proofs.Ytmmmaekaoanceaa
/- THE CELL 'sum', in the pinned program and in every row, IS THE sha256 OF THE DUMP (.gsa) THAT YtmmmaekaoanceaaProg.lean LOADS. Nothing in Lean hashes anything: it is a label: what it is worth is what the hold of that sum in a sandbox is worth. -/
noncomputable def Try.pinned : Pinned := { name := "ytmmmaekaoanceaa", sum := "2b96e0b6fbd5f9453b416484ed8f19b6376bf1326d89679eb6b10335112764f1", checked := Try.checked }
namespace Rows
def none {H : Type} : Left H := { results := [], args := [] }

/-- 'concourselaw21.MacSteps': WHATEVER THE INPUT: true; the input reads as it did. -/
def macStepsSpec : ChangeSpec := { name := "macSteps", fn := fun _ => fun
  | [d] => { results := [.lit (.bool true)], args := [d] }
  | _ => none }
def macStepsRow : OpenClaim := { program := "ytmmmaekaoanceaa", sum := "2b96e0b6fbd5f9453b416484ed8f19b6376bf1326d89679eb6b10335112764f1", func := "concourse/concourselaw21.MacSteps", spec := "macSteps", apart := false }
def MacStepsSaid : Prop := macStepsRow.holds Try.pinned (OpenSpec.ofChange macStepsSpec)

/-- ITS FALSE NEIGHBOUR: 'it returns false'. Refute it at one input. -/
def macStepsWrong : ChangeSpec := { name := "macSteps", fn := fun _ => fun
  | [d] => { results := [.lit (.bool false)], args := [d] }
  | _ => none }
def MacStepsWrongFalsely : Prop := macStepsRow.holds Try.pinned (OpenSpec.ofChange macStepsWrong)

/-- 'concourselaw21.MacFresh': WHATEVER THE INPUT: true; the input reads as it did. -/
def macFreshSpec : ChangeSpec := { name := "macFresh", fn := fun _ => fun
  | [d1, d2, d3] => { results := [.lit (.bool true)], args := [d1, d2, d3] }
  | _ => none }
def macFreshRow : OpenClaim := { program := "ytmmmaekaoanceaa", sum := "2b96e0b6fbd5f9453b416484ed8f19b6376bf1326d89679eb6b10335112764f1", func := "concourse/concourselaw21.MacFresh", spec := "macFresh", apart := false }
def MacFreshSaid : Prop := macFreshRow.holds Try.pinned (OpenSpec.ofChange macFreshSpec)

/-- ITS FALSE NEIGHBOUR: 'it returns false'. Refute it at one input. -/
def macFreshWrong : ChangeSpec := { name := "macFresh", fn := fun _ => fun
  | [d1, d2, d3] => { results := [.lit (.bool false)], args := [d1, d2, d3] }
  | _ => none }
def MacFreshWrongFalsely : Prop := macFreshRow.holds Try.pinned (OpenSpec.ofChange macFreshWrong)

/-- 'concourselaw21.MacNone': WHATEVER THE INPUT: true; the input reads as it did. -/
def macNoneSpec : ChangeSpec := { name := "macNone", fn := fun _ => fun
  | [d1, d2, d3] => { results := [.lit (.bool true)], args := [d1, d2, d3] }
  | _ => none }
def macNoneRow : OpenClaim := { program := "ytmmmaekaoanceaa", sum := "2b96e0b6fbd5f9453b416484ed8f19b6376bf1326d89679eb6b10335112764f1", func := "concourse/concourselaw21.MacNone", spec := "macNone", apart := false }
def MacNoneSaid : Prop := macNoneRow.holds Try.pinned (OpenSpec.ofChange macNoneSpec)

/-- ITS FALSE NEIGHBOUR: 'it returns false'. Refute it at one input. -/
def macNoneWrong : ChangeSpec := { name := "macNone", fn := fun _ => fun
  | [d1, d2, d3] => { results := [.lit (.bool false)], args := [d1, d2, d3] }
  | _ => none }
def MacNoneWrongFalsely : Prop := macNoneRow.holds Try.pinned (OpenSpec.ofChange macNoneWrong)

/-- 'concourselaw22.HelloTakes': WHATEVER THE INPUT: true; the input reads as it did. -/
def helloTakesSpec : ChangeSpec := { name := "helloTakes", fn := fun _ => fun
  | [d1, d2] => { results := [.lit (.bool true)], args := [d1, d2] }
  | _ => none }
def helloTakesRow : OpenClaim := { program := "ytmmmaekaoanceaa", sum := "2b96e0b6fbd5f9453b416484ed8f19b6376bf1326d89679eb6b10335112764f1", func := "concourse/concourselaw22.HelloTakes", spec := "helloTakes", unfollowed := true, recurses := true, apart := false }
def HelloTakesSaid : Prop := helloTakesRow.holds Try.pinned (OpenSpec.ofChange helloTakesSpec)

/-- ITS FALSE NEIGHBOUR: 'it returns false'. Refute it at one input. -/
def helloTakesWrong : ChangeSpec := { name := "helloTakes", fn := fun _ => fun
  | [d1, d2] => { results := [.lit (.bool false)], args := [d1, d2] }
  | _ => none }
def HelloTakesWrongFalsely : Prop := helloTakesRow.holds Try.pinned (OpenSpec.ofChange helloTakesWrong)

/-- 'concourselaw22.HelloBack': WHATEVER THE INPUT: true; the input reads as it did. -/
def helloBackSpec : ChangeSpec := { name := "helloBack", fn := fun _ => fun
  | [d1, d2] => { results := [.lit (.bool true)], args := [d1, d2] }
  | _ => none }
def helloBackRow : OpenClaim := { program := "ytmmmaekaoanceaa", sum := "2b96e0b6fbd5f9453b416484ed8f19b6376bf1326d89679eb6b10335112764f1", func := "concourse/concourselaw22.HelloBack", spec := "helloBack", unfollowed := true, recurses := true, apart := false }
def HelloBackSaid : Prop := helloBackRow.holds Try.pinned (OpenSpec.ofChange helloBackSpec)

/-- ITS FALSE NEIGHBOUR: 'it returns false'. Refute it at one input. -/
def helloBackWrong : ChangeSpec := { name := "helloBack", fn := fun _ => fun
  | [d1, d2] => { results := [.lit (.bool false)], args := [d1, d2] }
  | _ => none }
def HelloBackWrongFalsely : Prop := helloBackRow.holds Try.pinned (OpenSpec.ofChange helloBackWrong)

/-- 'concourselaw43.ScriptPuts': WHATEVER THE INPUT: true; the input reads as it did. -/
def scriptPutsSpec : ChangeSpec := { name := "scriptPuts", fn := fun _ => fun
  | [d] => { results := [.lit (.bool true)], args := [d] }
  | _ => none }
def scriptPutsRow : OpenClaim := { program := "ytmmmaekaoanceaa", sum := "2b96e0b6fbd5f9453b416484ed8f19b6376bf1326d89679eb6b10335112764f1", func := "concourse/concourselaw43.ScriptPuts", spec := "scriptPuts", inPlace := ["internal/abi.NoEscape"], recurses := true, apart := false }
def ScriptPutsSaid : Prop := scriptPutsRow.holds Try.pinned (OpenSpec.ofChange scriptPutsSpec)

/-- ITS FALSE NEIGHBOUR: 'it returns false'. Refute it at one input. -/
def scriptPutsWrong : ChangeSpec := { name := "scriptPuts", fn := fun _ => fun
  | [d] => { results := [.lit (.bool false)], args := [d] }
  | _ => none }
def ScriptPutsWrongFalsely : Prop := scriptPutsRow.holds Try.pinned (OpenSpec.ofChange scriptPutsWrong)

/-- 'concourselaw37.ConfMay': WHATEVER THE INPUT: true; the input reads as it did. -/
def confMaySpec : ChangeSpec := { name := "confMay", fn := fun _ => fun
  | [d1, d2] => { results := [.lit (.bool true)], args := [d1, d2] }
  | _ => none }
def confMayRow : OpenClaim := { program := "ytmmmaekaoanceaa", sum := "2b96e0b6fbd5f9453b416484ed8f19b6376bf1326d89679eb6b10335112764f1", func := "concourse/concourselaw37.ConfMay", spec := "confMay", inPlace := ["internal/abi.NoEscape"], unfollowed := true, recurses := true, apart := false }
def ConfMaySaid : Prop := confMayRow.holds Try.pinned (OpenSpec.ofChange confMaySpec)

/-- ITS FALSE NEIGHBOUR: 'it returns false'. Refute it at one input. -/
def confMayWrong : ChangeSpec := { name := "confMay", fn := fun _ => fun
  | [d1, d2] => { results := [.lit (.bool false)], args := [d1, d2] }
  | _ => none }
def ConfMayWrongFalsely : Prop := confMayRow.holds Try.pinned (OpenSpec.ofChange confMayWrong)

/-- 'concourselaw08.LexReads': WHATEVER THE INPUT: true; the input reads as it did. -/
def lexReadsSpec : ChangeSpec := { name := "lexReads", fn := fun _ => fun
  | [d] => { results := [.lit (.bool true)], args := [d] }
  | _ => none }
def lexReadsRow : OpenClaim := { program := "ytmmmaekaoanceaa", sum := "2b96e0b6fbd5f9453b416484ed8f19b6376bf1326d89679eb6b10335112764f1", func := "concourse/concourselaw08.LexReads", spec := "lexReads", inPlace := ["internal/bytealg.IndexByteString"], unfollowed := true, recurses := true, apart := false }
def LexReadsSaid : Prop := lexReadsRow.holds Try.pinned (OpenSpec.ofChange lexReadsSpec)

/-- ITS FALSE NEIGHBOUR: 'it returns false'. Refute it at one input. -/
def lexReadsWrong : ChangeSpec := { name := "lexReads", fn := fun _ => fun
  | [d] => { results := [.lit (.bool false)], args := [d] }
  | _ => none }
def LexReadsWrongFalsely : Prop := lexReadsRow.holds Try.pinned (OpenSpec.ofChange lexReadsWrong)

/-- 'concourselaw08.LexRises': WHATEVER THE INPUT: true; the input reads as it did. -/
def lexRisesSpec : ChangeSpec := { name := "lexRises", fn := fun _ => fun
  | [d] => { results := [.lit (.bool true)], args := [d] }
  | _ => none }
def lexRisesRow : OpenClaim := { program := "ytmmmaekaoanceaa", sum := "2b96e0b6fbd5f9453b416484ed8f19b6376bf1326d89679eb6b10335112764f1", func := "concourse/concourselaw08.LexRises", spec := "lexRises", inPlace := ["internal/bytealg.IndexByteString"], unfollowed := true, recurses := true, apart := false }
def LexRisesSaid : Prop := lexRisesRow.holds Try.pinned (OpenSpec.ofChange lexRisesSpec)

/-- ITS FALSE NEIGHBOUR: 'it returns false'. Refute it at one input. -/
def lexRisesWrong : ChangeSpec := { name := "lexRises", fn := fun _ => fun
  | [d] => { results := [.lit (.bool false)], args := [d] }
  | _ => none }
def LexRisesWrongFalsely : Prop := lexRisesRow.holds Try.pinned (OpenSpec.ofChange lexRisesWrong)

/-- 'concourselaw22.HelloVerifies': WHATEVER THE INPUT: true; the input reads as it did. -/
def helloVerifiesSpec : ChangeSpec := { name := "helloVerifies", fn := fun _ => fun
  | [d1, d2] => { results := [.lit (.bool true)], args := [d1, d2] }
  | _ => none }
def helloVerifiesRow : OpenClaim := { program := "ytmmmaekaoanceaa", sum := "2b96e0b6fbd5f9453b416484ed8f19b6376bf1326d89679eb6b10335112764f1", func := "concourse/concourselaw22.HelloVerifies", spec := "helloVerifies", unfollowed := true, recurses := true, apart := false }
def HelloVerifiesSaid : Prop := helloVerifiesRow.holds Try.pinned (OpenSpec.ofChange helloVerifiesSpec)

/-- ITS FALSE NEIGHBOUR: 'it returns false'. Refute it at one input. -/
def helloVerifiesWrong : ChangeSpec := { name := "helloVerifies", fn := fun _ => fun
  | [d1, d2] => { results := [.lit (.bool false)], args := [d1, d2] }
  | _ => none }
def HelloVerifiesWrongFalsely : Prop := helloVerifiesRow.holds Try.pinned (OpenSpec.ofChange helloVerifiesWrong)

/-- 'concourselaw37.ConfBytes': WHATEVER THE INPUT: true; the input reads as it did. -/
def confBytesSpec : ChangeSpec := { name := "confBytes", fn := fun _ => fun
  | [d1, d2] => { results := [.lit (.bool true)], args := [d1, d2] }
  | _ => none }
def confBytesRow : OpenClaim := { program := "ytmmmaekaoanceaa", sum := "2b96e0b6fbd5f9453b416484ed8f19b6376bf1326d89679eb6b10335112764f1", func := "concourse/concourselaw37.ConfBytes", spec := "confBytes", inPlace := ["internal/abi.NoEscape"], unfollowed := true, recurses := true, apart := false }
def ConfBytesSaid : Prop := confBytesRow.holds Try.pinned (OpenSpec.ofChange confBytesSpec)

/-- ITS FALSE NEIGHBOUR: 'it returns false'. Refute it at one input. -/
def confBytesWrong : ChangeSpec := { name := "confBytes", fn := fun _ => fun
  | [d1, d2] => { results := [.lit (.bool false)], args := [d1, d2] }
  | _ => none }
def ConfBytesWrongFalsely : Prop := confBytesRow.holds Try.pinned (OpenSpec.ofChange confBytesWrong)

/-- 'concourselaw37.ConfBack': WHATEVER THE INPUT: true; the input reads as it did. -/
def confBackSpec : ChangeSpec := { name := "confBack", fn := fun _ => fun
  | [d1, d2] => { results := [.lit (.bool true)], args := [d1, d2] }
  | _ => none }
def confBackRow : OpenClaim := { program := "ytmmmaekaoanceaa", sum := "2b96e0b6fbd5f9453b416484ed8f19b6376bf1326d89679eb6b10335112764f1", func := "concourse/concourselaw37.ConfBack", spec := "confBack", inPlace := ["internal/abi.NoEscape"], unfollowed := true, recurses := true, apart := false }
def ConfBackSaid : Prop := confBackRow.holds Try.pinned (OpenSpec.ofChange confBackSpec)

/-- ITS FALSE NEIGHBOUR: 'it returns false'. Refute it at one input. -/
def confBackWrong : ChangeSpec := { name := "confBack", fn := fun _ => fun
  | [d1, d2] => { results := [.lit (.bool false)], args := [d1, d2] }
  | _ => none }
def ConfBackWrongFalsely : Prop := confBackRow.holds Try.pinned (OpenSpec.ofChange confBackWrong)

/-- 'concourselaw43.ScriptTakes': WHATEVER THE INPUT: true; the input reads as it did. -/
def scriptTakesSpec : ChangeSpec := { name := "scriptTakes", fn := fun _ => fun
  | [d] => { results := [.lit (.bool true)], args := [d] }
  | _ => none }
def scriptTakesRow : OpenClaim := { program := "ytmmmaekaoanceaa", sum := "2b96e0b6fbd5f9453b416484ed8f19b6376bf1326d89679eb6b10335112764f1", func := "concourse/concourselaw43.ScriptTakes", spec := "scriptTakes", inPlace := ["internal/abi.NoEscape"], apart := false }
def ScriptTakesSaid : Prop := scriptTakesRow.holds Try.pinned (OpenSpec.ofChange scriptTakesSpec)

/-- ITS FALSE NEIGHBOUR: 'it returns false'. Refute it at one input. -/
def scriptTakesWrong : ChangeSpec := { name := "scriptTakes", fn := fun _ => fun
  | [d] => { results := [.lit (.bool false)], args := [d] }
  | _ => none }
def ScriptTakesWrongFalsely : Prop := scriptTakesRow.holds Try.pinned (OpenSpec.ofChange scriptTakesWrong)

/-- 'concourselaw43.ScriptBack': WHATEVER THE INPUT: true; the input reads as it did. -/
def scriptBackSpec : ChangeSpec := { name := "scriptBack", fn := fun _ => fun
  | [d1, d2] => { results := [.lit (.bool true)], args := [d1, d2] }
  | _ => none }
def scriptBackRow : OpenClaim := { program := "ytmmmaekaoanceaa", sum := "2b96e0b6fbd5f9453b416484ed8f19b6376bf1326d89679eb6b10335112764f1", func := "concourse/concourselaw43.ScriptBack", spec := "scriptBack", inPlace := ["internal/abi.NoEscape"], apart := false }
def ScriptBackSaid : Prop := scriptBackRow.holds Try.pinned (OpenSpec.ofChange scriptBackSpec)

/-- ITS FALSE NEIGHBOUR: 'it returns false'. Refute it at one input. -/
def scriptBackWrong : ChangeSpec := { name := "scriptBack", fn := fun _ => fun
  | [d1, d2] => { results := [.lit (.bool false)], args := [d1, d2] }
  | _ => none }
def ScriptBackWrongFalsely : Prop := scriptBackRow.holds Try.pinned (OpenSpec.ofChange scriptBackWrong)

/-- 'concourselaw43.ScriptMany': WHATEVER THE INPUT: true; the input reads as it did. -/
def scriptManySpec : ChangeSpec := { name := "scriptMany", fn := fun _ => fun
  | [d1, d2] => { results := [.lit (.bool true)], args := [d1, d2] }
  | _ => none }
def scriptManyRow : OpenClaim := { program := "ytmmmaekaoanceaa", sum := "2b96e0b6fbd5f9453b416484ed8f19b6376bf1326d89679eb6b10335112764f1", func := "concourse/concourselaw43.ScriptMany", spec := "scriptMany", inPlace := ["internal/abi.NoEscape"], apart := false }
def ScriptManySaid : Prop := scriptManyRow.holds Try.pinned (OpenSpec.ofChange scriptManySpec)

/-- ITS FALSE NEIGHBOUR: 'it returns false'. Refute it at one input. -/
def scriptManyWrong : ChangeSpec := { name := "scriptMany", fn := fun _ => fun
  | [d1, d2] => { results := [.lit (.bool false)], args := [d1, d2] }
  | _ => none }
def ScriptManyWrongFalsely : Prop := scriptManyRow.holds Try.pinned (OpenSpec.ofChange scriptManyWrong)

/-- 'concourselaw08.LexAgain': WHATEVER THE INPUT: true; the input reads as it did. -/
def lexAgainSpec : ChangeSpec := { name := "lexAgain", fn := fun _ => fun
  | [d] => { results := [.lit (.bool true)], args := [d] }
  | _ => none }
def lexAgainRow : OpenClaim := { program := "ytmmmaekaoanceaa", sum := "2b96e0b6fbd5f9453b416484ed8f19b6376bf1326d89679eb6b10335112764f1", func := "concourse/concourselaw08.LexAgain", spec := "lexAgain", inPlace := ["internal/bytealg.IndexByteString", "internal/abi.NoEscape", "internal/bytealg.MakeNoZero"], unfollowed := true, recurses := true, apart := false }
def LexAgainSaid : Prop := lexAgainRow.holds Try.pinned (OpenSpec.ofChange lexAgainSpec)

/-- ITS FALSE NEIGHBOUR: 'it returns false'. Refute it at one input. -/
def lexAgainWrong : ChangeSpec := { name := "lexAgain", fn := fun _ => fun
  | [d] => { results := [.lit (.bool false)], args := [d] }
  | _ => none }
def LexAgainWrongFalsely : Prop := lexAgainRow.holds Try.pinned (OpenSpec.ofChange lexAgainWrong)

/- THE SECOND FORM. 'bulk': how many values and letters a reading holds, each counted each time it is reached (what is shared counts as often as it is met; a slice's spare places count too). A statement '..UptoSaid' is the law's where the arguments, and the package variables that the reading takes, are together of bulk at most 1048576: NARROWER than '..Said'. Prove '..Said' where nothing that the law and all that it calls make is longer than what came in: it says more and counts as full. Else prove '..UptoSaid'. A law counts once. -/
mutual
def uptoBulk {H : Type} : DataW H → Nat
  | .lit (.string bytes) => bytes.length + 1
  | .lit _ => 1
  | .nil => 1
  | .ptr d => uptoBulk d + 1
  | .slice elems spare => uptoBulkAll elems + uptoBulkAll spare + 1
  | .agg parts => uptoBulkAll parts + 1
  | .iface _ d => uptoBulk d + 1
  | .map entries => uptoBulkEntries entries + 1
  | .held _ => 1
def uptoBulkAll {H : Type} : List (DataW H) → Nat
  | [] => 0
  | d :: r => uptoBulk d + uptoBulkAll r
def uptoBulkEntries {H : Type} : List (Lit × DataW H) → Nat
  | [] => 0
  | x :: r => uptoBulkEntry x + uptoBulkEntries r
def uptoBulkEntry {H : Type} : Lit × DataW H → Nat
  | (.string bytes, d) => bytes.length + uptoBulk d + 1
  | (_, d) => uptoBulk d + 1
 end
def uptoSmall : (H : Type) → List (DataW H) → Bool := fun _ ds => decide (uptoBulkAll ds ≤ 1048576)
def OpenSpec.upto (s : _root_.Go.ChangeSpec) : _root_.Go.OpenSpec := { _root_.Go.OpenSpec.ofChange s with cond := some uptoSmall }

/-- 'concourselaw21.MacSteps', WHERE WHAT IT READS IS OF BULK AT MOST 1048576: true; the input reads as it did. -/
def macStepsUptoRow : OpenClaim := { program := "ytmmmaekaoanceaa", sum := "2b96e0b6fbd5f9453b416484ed8f19b6376bf1326d89679eb6b10335112764f1", func := "concourse/concourselaw21.MacSteps", spec := "macSteps", apart := false, narrowed := true }
def MacStepsUptoSaid : Prop := macStepsUptoRow.holds Try.pinned (OpenSpec.upto macStepsSpec)

/-- 'concourselaw21.MacFresh', WHERE WHAT IT READS IS OF BULK AT MOST 1048576: true; the input reads as it did. -/
def macFreshUptoRow : OpenClaim := { program := "ytmmmaekaoanceaa", sum := "2b96e0b6fbd5f9453b416484ed8f19b6376bf1326d89679eb6b10335112764f1", func := "concourse/concourselaw21.MacFresh", spec := "macFresh", apart := false, narrowed := true }
def MacFreshUptoSaid : Prop := macFreshUptoRow.holds Try.pinned (OpenSpec.upto macFreshSpec)

/-- 'concourselaw21.MacNone', WHERE WHAT IT READS IS OF BULK AT MOST 1048576: true; the input reads as it did. -/
def macNoneUptoRow : OpenClaim := { program := "ytmmmaekaoanceaa", sum := "2b96e0b6fbd5f9453b416484ed8f19b6376bf1326d89679eb6b10335112764f1", func := "concourse/concourselaw21.MacNone", spec := "macNone", apart := false, narrowed := true }
def MacNoneUptoSaid : Prop := macNoneUptoRow.holds Try.pinned (OpenSpec.upto macNoneSpec)

/-- 'concourselaw22.HelloTakes', WHERE WHAT IT READS IS OF BULK AT MOST 1048576: true; the input reads as it did. -/
def helloTakesUptoRow : OpenClaim := { program := "ytmmmaekaoanceaa", sum := "2b96e0b6fbd5f9453b416484ed8f19b6376bf1326d89679eb6b10335112764f1", func := "concourse/concourselaw22.HelloTakes", spec := "helloTakes", unfollowed := true, recurses := true, apart := false, narrowed := true }
def HelloTakesUptoSaid : Prop := helloTakesUptoRow.holds Try.pinned (OpenSpec.upto helloTakesSpec)

/-- 'concourselaw22.HelloBack', WHERE WHAT IT READS IS OF BULK AT MOST 1048576: true; the input reads as it did. -/
def helloBackUptoRow : OpenClaim := { program := "ytmmmaekaoanceaa", sum := "2b96e0b6fbd5f9453b416484ed8f19b6376bf1326d89679eb6b10335112764f1", func := "concourse/concourselaw22.HelloBack", spec := "helloBack", unfollowed := true, recurses := true, apart := false, narrowed := true }
def HelloBackUptoSaid : Prop := helloBackUptoRow.holds Try.pinned (OpenSpec.upto helloBackSpec)

/-- 'concourselaw43.ScriptPuts', WHERE WHAT IT READS IS OF BULK AT MOST 1048576: true; the input reads as it did. -/
def scriptPutsUptoRow : OpenClaim := { program := "ytmmmaekaoanceaa", sum := "2b96e0b6fbd5f9453b416484ed8f19b6376bf1326d89679eb6b10335112764f1", func := "concourse/concourselaw43.ScriptPuts", spec := "scriptPuts", inPlace := ["internal/abi.NoEscape"], recurses := true, apart := false, narrowed := true }
def ScriptPutsUptoSaid : Prop := scriptPutsUptoRow.holds Try.pinned (OpenSpec.upto scriptPutsSpec)

/-- 'concourselaw37.ConfMay', WHERE WHAT IT READS IS OF BULK AT MOST 1048576: true; the input reads as it did. -/
def confMayUptoRow : OpenClaim := { program := "ytmmmaekaoanceaa", sum := "2b96e0b6fbd5f9453b416484ed8f19b6376bf1326d89679eb6b10335112764f1", func := "concourse/concourselaw37.ConfMay", spec := "confMay", inPlace := ["internal/abi.NoEscape"], unfollowed := true, recurses := true, apart := false, narrowed := true }
def ConfMayUptoSaid : Prop := confMayUptoRow.holds Try.pinned (OpenSpec.upto confMaySpec)

/-- 'concourselaw08.LexReads', WHERE WHAT IT READS IS OF BULK AT MOST 1048576: true; the input reads as it did. -/
def lexReadsUptoRow : OpenClaim := { program := "ytmmmaekaoanceaa", sum := "2b96e0b6fbd5f9453b416484ed8f19b6376bf1326d89679eb6b10335112764f1", func := "concourse/concourselaw08.LexReads", spec := "lexReads", inPlace := ["internal/bytealg.IndexByteString"], unfollowed := true, recurses := true, apart := false, narrowed := true }
def LexReadsUptoSaid : Prop := lexReadsUptoRow.holds Try.pinned (OpenSpec.upto lexReadsSpec)

/-- 'concourselaw08.LexRises', WHERE WHAT IT READS IS OF BULK AT MOST 1048576: true; the input reads as it did. -/
def lexRisesUptoRow : OpenClaim := { program := "ytmmmaekaoanceaa", sum := "2b96e0b6fbd5f9453b416484ed8f19b6376bf1326d89679eb6b10335112764f1", func := "concourse/concourselaw08.LexRises", spec := "lexRises", inPlace := ["internal/bytealg.IndexByteString"], unfollowed := true, recurses := true, apart := false, narrowed := true }
def LexRisesUptoSaid : Prop := lexRisesUptoRow.holds Try.pinned (OpenSpec.upto lexRisesSpec)

/-- 'concourselaw22.HelloVerifies', WHERE WHAT IT READS IS OF BULK AT MOST 1048576: true; the input reads as it did. -/
def helloVerifiesUptoRow : OpenClaim := { program := "ytmmmaekaoanceaa", sum := "2b96e0b6fbd5f9453b416484ed8f19b6376bf1326d89679eb6b10335112764f1", func := "concourse/concourselaw22.HelloVerifies", spec := "helloVerifies", unfollowed := true, recurses := true, apart := false, narrowed := true }
def HelloVerifiesUptoSaid : Prop := helloVerifiesUptoRow.holds Try.pinned (OpenSpec.upto helloVerifiesSpec)

/-- 'concourselaw37.ConfBytes', WHERE WHAT IT READS IS OF BULK AT MOST 1048576: true; the input reads as it did. -/
def confBytesUptoRow : OpenClaim := { program := "ytmmmaekaoanceaa", sum := "2b96e0b6fbd5f9453b416484ed8f19b6376bf1326d89679eb6b10335112764f1", func := "concourse/concourselaw37.ConfBytes", spec := "confBytes", inPlace := ["internal/abi.NoEscape"], unfollowed := true, recurses := true, apart := false, narrowed := true }
def ConfBytesUptoSaid : Prop := confBytesUptoRow.holds Try.pinned (OpenSpec.upto confBytesSpec)

/-- 'concourselaw37.ConfBack', WHERE WHAT IT READS IS OF BULK AT MOST 1048576: true; the input reads as it did. -/
def confBackUptoRow : OpenClaim := { program := "ytmmmaekaoanceaa", sum := "2b96e0b6fbd5f9453b416484ed8f19b6376bf1326d89679eb6b10335112764f1", func := "concourse/concourselaw37.ConfBack", spec := "confBack", inPlace := ["internal/abi.NoEscape"], unfollowed := true, recurses := true, apart := false, narrowed := true }
def ConfBackUptoSaid : Prop := confBackUptoRow.holds Try.pinned (OpenSpec.upto confBackSpec)

/-- 'concourselaw43.ScriptTakes', WHERE WHAT IT READS IS OF BULK AT MOST 1048576: true; the input reads as it did. -/
def scriptTakesUptoRow : OpenClaim := { program := "ytmmmaekaoanceaa", sum := "2b96e0b6fbd5f9453b416484ed8f19b6376bf1326d89679eb6b10335112764f1", func := "concourse/concourselaw43.ScriptTakes", spec := "scriptTakes", inPlace := ["internal/abi.NoEscape"], apart := false, narrowed := true }
def ScriptTakesUptoSaid : Prop := scriptTakesUptoRow.holds Try.pinned (OpenSpec.upto scriptTakesSpec)

/-- 'concourselaw43.ScriptBack', WHERE WHAT IT READS IS OF BULK AT MOST 1048576: true; the input reads as it did. -/
def scriptBackUptoRow : OpenClaim := { program := "ytmmmaekaoanceaa", sum := "2b96e0b6fbd5f9453b416484ed8f19b6376bf1326d89679eb6b10335112764f1", func := "concourse/concourselaw43.ScriptBack", spec := "scriptBack", inPlace := ["internal/abi.NoEscape"], apart := false, narrowed := true }
def ScriptBackUptoSaid : Prop := scriptBackUptoRow.holds Try.pinned (OpenSpec.upto scriptBackSpec)

/-- 'concourselaw43.ScriptMany', WHERE WHAT IT READS IS OF BULK AT MOST 1048576: true; the input reads as it did. -/
def scriptManyUptoRow : OpenClaim := { program := "ytmmmaekaoanceaa", sum := "2b96e0b6fbd5f9453b416484ed8f19b6376bf1326d89679eb6b10335112764f1", func := "concourse/concourselaw43.ScriptMany", spec := "scriptMany", inPlace := ["internal/abi.NoEscape"], apart := false, narrowed := true }
def ScriptManyUptoSaid : Prop := scriptManyUptoRow.holds Try.pinned (OpenSpec.upto scriptManySpec)

/-- 'concourselaw08.LexAgain', WHERE WHAT IT READS IS OF BULK AT MOST 1048576: true; the input reads as it did. -/
def lexAgainUptoRow : OpenClaim := { program := "ytmmmaekaoanceaa", sum := "2b96e0b6fbd5f9453b416484ed8f19b6376bf1326d89679eb6b10335112764f1", func := "concourse/concourselaw08.LexAgain", spec := "lexAgain", inPlace := ["internal/bytealg.IndexByteString", "internal/abi.NoEscape", "internal/bytealg.MakeNoZero"], unfollowed := true, recurses := true, apart := false, narrowed := true }
def LexAgainUptoSaid : Prop := lexAgainUptoRow.holds Try.pinned (OpenSpec.upto lexAgainSpec)

end Rows
end Go.Proofs.Ytmmmaekaoanceaa
