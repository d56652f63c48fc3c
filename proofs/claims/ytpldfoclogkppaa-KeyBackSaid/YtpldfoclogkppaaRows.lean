/-
  No cell of these rows narrows 'for every input' (looked for: loops, veiled, ifaces, maps, wideKeys, modest, calm, conditions, laid).
  DERIVED. THE GIVEN ROWS OF THIS SEAT. 19 by the template 'for every input the law returns true; each argument reads behind the call as it read before'; 0 by the template 'total and deterministic' (their statements: YtpldfoclogkppaaTotals.lean).
  GIVEN WITH THE SEED: the statements are not yours to turn. If you find one false, say at which input.
  Laid BY PROGRAM, IN A SANDBOX (cutbox-rows.mjs): the forced cells as the released guide's own fill.sh prints them over the translation ab589a1f551c8c54… (all of the seat's roots in one cut). By AI agents, Wed Nov 11 2026. No macro, syntax, notation, axiom, sorry.
-/
import Derived.Test.YtpldfoclogkppaaChecked
import GoSem.Claim
import GoSem.ClaimJoined
import GoSem.ClaimMapViews
import Derived.JoinedTies
import Derived.KernelRfl
namespace Go.Proofs.Ytpldfoclogkppaa
/- THE CELL 'sum', in the pinned program and in every row, IS THE sha256 OF THE DUMP (.gsa) THAT YtpldfoclogkppaaProg.lean LOADS. Nothing in Lean hashes anything: it is a label: what it is worth is what the hold of that sum in a sandbox is worth. -/
noncomputable def Try.pinned : Pinned := { name := "ytpldfoclogkppaa", sum := "ab589a1f551c8c54032eac3050092b87bf586d717e0face291b21174227e957e", checked := Try.checked }
namespace Rows
def none {H : Type} : Left H := { results := [], args := [] }

/-- 'concourselaw34.CallPuts': WHATEVER THE INPUT: true; the input reads as it did. -/
def callPutsSpec : ChangeSpec := { name := "callPuts", fn := fun _ => fun
  | [d1, d2, d3] => { results := [.lit (.bool true)], args := [d1, d2, d3] }
  | _ => none }
def callPutsRow : OpenClaim := { program := "ytpldfoclogkppaa", sum := "ab589a1f551c8c54032eac3050092b87bf586d717e0face291b21174227e957e", func := "concourse/concourselaw34.CallPuts", spec := "callPuts", recurses := true, apart := false }
def CallPutsSaid : Prop := callPutsRow.holds Try.pinned (OpenSpec.ofChange callPutsSpec)

/-- ITS FALSE NEIGHBOUR: 'it returns false'. Refute it at one input. -/
def callPutsWrong : ChangeSpec := { name := "callPuts", fn := fun _ => fun
  | [d1, d2, d3] => { results := [.lit (.bool false)], args := [d1, d2, d3] }
  | _ => none }
def CallPutsWrongFalsely : Prop := callPutsRow.holds Try.pinned (OpenSpec.ofChange callPutsWrong)

/-- 'concourselaw20.DiceSteps': WHATEVER THE INPUT: true; the input reads as it did. -/
def diceStepsSpec : ChangeSpec := { name := "diceSteps", fn := fun _ => fun
  | [d] => { results := [.lit (.bool true)], args := [d] }
  | _ => none }
def diceStepsRow : OpenClaim := { program := "ytpldfoclogkppaa", sum := "ab589a1f551c8c54032eac3050092b87bf586d717e0face291b21174227e957e", func := "concourse/concourselaw20.DiceSteps", spec := "diceSteps", apart := false }
def DiceStepsSaid : Prop := diceStepsRow.holds Try.pinned (OpenSpec.ofChange diceStepsSpec)

/-- ITS FALSE NEIGHBOUR: 'it returns false'. Refute it at one input. -/
def diceStepsWrong : ChangeSpec := { name := "diceSteps", fn := fun _ => fun
  | [d] => { results := [.lit (.bool false)], args := [d] }
  | _ => none }
def DiceStepsWrongFalsely : Prop := diceStepsRow.holds Try.pinned (OpenSpec.ofChange diceStepsWrong)

/-- 'concourselaw20.DiceMixes': WHATEVER THE INPUT: true; the input reads as it did. -/
def diceMixesSpec : ChangeSpec := { name := "diceMixes", fn := fun _ => fun
  | [d1, d2] => { results := [.lit (.bool true)], args := [d1, d2] }
  | _ => none }
def diceMixesRow : OpenClaim := { program := "ytpldfoclogkppaa", sum := "ab589a1f551c8c54032eac3050092b87bf586d717e0face291b21174227e957e", func := "concourse/concourselaw20.DiceMixes", spec := "diceMixes", apart := false }
def DiceMixesSaid : Prop := diceMixesRow.holds Try.pinned (OpenSpec.ofChange diceMixesSpec)

/-- ITS FALSE NEIGHBOUR: 'it returns false'. Refute it at one input. -/
def diceMixesWrong : ChangeSpec := { name := "diceMixes", fn := fun _ => fun
  | [d1, d2] => { results := [.lit (.bool false)], args := [d1, d2] }
  | _ => none }
def DiceMixesWrongFalsely : Prop := diceMixesRow.holds Try.pinned (OpenSpec.ofChange diceMixesWrong)

/-- 'concourselaw20.DiceOrder': WHATEVER THE INPUT: true; the input reads as it did. -/
def diceOrderSpec : ChangeSpec := { name := "diceOrder", fn := fun _ => fun
  | [d] => { results := [.lit (.bool true)], args := [d] }
  | _ => none }
def diceOrderRow : OpenClaim := { program := "ytpldfoclogkppaa", sum := "ab589a1f551c8c54032eac3050092b87bf586d717e0face291b21174227e957e", func := "concourse/concourselaw20.DiceOrder", spec := "diceOrder", apart := false }
def DiceOrderSaid : Prop := diceOrderRow.holds Try.pinned (OpenSpec.ofChange diceOrderSpec)

/-- ITS FALSE NEIGHBOUR: 'it returns false'. Refute it at one input. -/
def diceOrderWrong : ChangeSpec := { name := "diceOrder", fn := fun _ => fun
  | [d] => { results := [.lit (.bool false)], args := [d] }
  | _ => none }
def DiceOrderWrongFalsely : Prop := diceOrderRow.holds Try.pinned (OpenSpec.ofChange diceOrderWrong)

/-- 'concourselaw01.VarintPuts': WHATEVER THE INPUT: true; the input reads as it did. -/
def varintPutsSpec : ChangeSpec := { name := "varintPuts", fn := fun _ => fun
  | [d1, d2] => { results := [.lit (.bool true)], args := [d1, d2] }
  | _ => none }
def varintPutsRow : OpenClaim := { program := "ytpldfoclogkppaa", sum := "ab589a1f551c8c54032eac3050092b87bf586d717e0face291b21174227e957e", func := "concourse/concourselaw01.VarintPuts", spec := "varintPuts", recurses := true, apart := false }
def VarintPutsSaid : Prop := varintPutsRow.holds Try.pinned (OpenSpec.ofChange varintPutsSpec)

/-- ITS FALSE NEIGHBOUR: 'it returns false'. Refute it at one input. -/
def varintPutsWrong : ChangeSpec := { name := "varintPuts", fn := fun _ => fun
  | [d1, d2] => { results := [.lit (.bool false)], args := [d1, d2] }
  | _ => none }
def VarintPutsWrongFalsely : Prop := varintPutsRow.holds Try.pinned (OpenSpec.ofChange varintPutsWrong)

/-- 'concourselaw01.VarintTakes': WHATEVER THE INPUT: true; the input reads as it did. -/
def varintTakesSpec : ChangeSpec := { name := "varintTakes", fn := fun _ => fun
  | [d] => { results := [.lit (.bool true)], args := [d] }
  | _ => none }
def varintTakesRow : OpenClaim := { program := "ytpldfoclogkppaa", sum := "ab589a1f551c8c54032eac3050092b87bf586d717e0face291b21174227e957e", func := "concourse/concourselaw01.VarintTakes", spec := "varintTakes", apart := false }
def VarintTakesSaid : Prop := varintTakesRow.holds Try.pinned (OpenSpec.ofChange varintTakesSpec)

/-- ITS FALSE NEIGHBOUR: 'it returns false'. Refute it at one input. -/
def varintTakesWrong : ChangeSpec := { name := "varintTakes", fn := fun _ => fun
  | [d] => { results := [.lit (.bool false)], args := [d] }
  | _ => none }
def VarintTakesWrongFalsely : Prop := varintTakesRow.holds Try.pinned (OpenSpec.ofChange varintTakesWrong)

/-- 'concourselaw01.VarintBack': WHATEVER THE INPUT: true; the input reads as it did. -/
def varintBackSpec : ChangeSpec := { name := "varintBack", fn := fun _ => fun
  | [d1, d2, d3] => { results := [.lit (.bool true)], args := [d1, d2, d3] }
  | _ => none }
def varintBackRow : OpenClaim := { program := "ytpldfoclogkppaa", sum := "ab589a1f551c8c54032eac3050092b87bf586d717e0face291b21174227e957e", func := "concourse/concourselaw01.VarintBack", spec := "varintBack", apart := false }
def VarintBackSaid : Prop := varintBackRow.holds Try.pinned (OpenSpec.ofChange varintBackSpec)

/-- ITS FALSE NEIGHBOUR: 'it returns false'. Refute it at one input. -/
def varintBackWrong : ChangeSpec := { name := "varintBack", fn := fun _ => fun
  | [d1, d2, d3] => { results := [.lit (.bool false)], args := [d1, d2, d3] }
  | _ => none }
def VarintBackWrongFalsely : Prop := varintBackRow.holds Try.pinned (OpenSpec.ofChange varintBackWrong)

/-- 'concourselaw04.KeyJoins': WHATEVER THE INPUT: true; the input reads as it did. -/
def keyJoinsSpec : ChangeSpec := { name := "keyJoins", fn := fun _ => fun
  | [d1, d2] => { results := [.lit (.bool true)], args := [d1, d2] }
  | _ => none }
def keyJoinsRow : OpenClaim := { program := "ytpldfoclogkppaa", sum := "ab589a1f551c8c54032eac3050092b87bf586d717e0face291b21174227e957e", func := "concourse/concourselaw04.KeyJoins", spec := "keyJoins", recurses := true, apart := false }
def KeyJoinsSaid : Prop := keyJoinsRow.holds Try.pinned (OpenSpec.ofChange keyJoinsSpec)

/-- ITS FALSE NEIGHBOUR: 'it returns false'. Refute it at one input. -/
def keyJoinsWrong : ChangeSpec := { name := "keyJoins", fn := fun _ => fun
  | [d1, d2] => { results := [.lit (.bool false)], args := [d1, d2] }
  | _ => none }
def KeyJoinsWrongFalsely : Prop := keyJoinsRow.holds Try.pinned (OpenSpec.ofChange keyJoinsWrong)

/-- 'concourselaw02.SpanTakes': WHATEVER THE INPUT: true; the input reads as it did. -/
def spanTakesSpec : ChangeSpec := { name := "spanTakes", fn := fun _ => fun
  | [d1, d2, d3] => { results := [.lit (.bool true)], args := [d1, d2, d3] }
  | _ => none }
def spanTakesRow : OpenClaim := { program := "ytpldfoclogkppaa", sum := "ab589a1f551c8c54032eac3050092b87bf586d717e0face291b21174227e957e", func := "concourse/concourselaw02.SpanTakes", spec := "spanTakes", recurses := true, apart := false }
def SpanTakesSaid : Prop := spanTakesRow.holds Try.pinned (OpenSpec.ofChange spanTakesSpec)

/-- ITS FALSE NEIGHBOUR: 'it returns false'. Refute it at one input. -/
def spanTakesWrong : ChangeSpec := { name := "spanTakes", fn := fun _ => fun
  | [d1, d2, d3] => { results := [.lit (.bool false)], args := [d1, d2, d3] }
  | _ => none }
def SpanTakesWrongFalsely : Prop := spanTakesRow.holds Try.pinned (OpenSpec.ofChange spanTakesWrong)

/-- 'concourselaw01.VarintOne': WHATEVER THE INPUT: true; the input reads as it did. -/
def varintOneSpec : ChangeSpec := { name := "varintOne", fn := fun _ => fun
  | [d1, d2, d3] => { results := [.lit (.bool true)], args := [d1, d2, d3] }
  | _ => none }
def varintOneRow : OpenClaim := { program := "ytpldfoclogkppaa", sum := "ab589a1f551c8c54032eac3050092b87bf586d717e0face291b21174227e957e", func := "concourse/concourselaw01.VarintOne", spec := "varintOne", apart := false }
def VarintOneSaid : Prop := varintOneRow.holds Try.pinned (OpenSpec.ofChange varintOneSpec)

/-- ITS FALSE NEIGHBOUR: 'it returns false'. Refute it at one input. -/
def varintOneWrong : ChangeSpec := { name := "varintOne", fn := fun _ => fun
  | [d1, d2, d3] => { results := [.lit (.bool false)], args := [d1, d2, d3] }
  | _ => none }
def VarintOneWrongFalsely : Prop := varintOneRow.holds Try.pinned (OpenSpec.ofChange varintOneWrong)

/-- 'concourselaw04.KeyPuts': WHATEVER THE INPUT: true; the input reads as it did. -/
def keyPutsSpec : ChangeSpec := { name := "keyPuts", fn := fun _ => fun
  | [d1, d2, d3] => { results := [.lit (.bool true)], args := [d1, d2, d3] }
  | _ => none }
def keyPutsRow : OpenClaim := { program := "ytpldfoclogkppaa", sum := "ab589a1f551c8c54032eac3050092b87bf586d717e0face291b21174227e957e", func := "concourse/concourselaw04.KeyPuts", spec := "keyPuts", recurses := true, apart := false }
def KeyPutsSaid : Prop := keyPutsRow.holds Try.pinned (OpenSpec.ofChange keyPutsSpec)

/-- ITS FALSE NEIGHBOUR: 'it returns false'. Refute it at one input. -/
def keyPutsWrong : ChangeSpec := { name := "keyPuts", fn := fun _ => fun
  | [d1, d2, d3] => { results := [.lit (.bool false)], args := [d1, d2, d3] }
  | _ => none }
def KeyPutsWrongFalsely : Prop := keyPutsRow.holds Try.pinned (OpenSpec.ofChange keyPutsWrong)

/-- 'concourselaw02.SpanBack': WHATEVER THE INPUT: true; the input reads as it did. -/
def spanBackSpec : ChangeSpec := { name := "spanBack", fn := fun _ => fun
  | [d1, d2, d3] => { results := [.lit (.bool true)], args := [d1, d2, d3] }
  | _ => none }
def spanBackRow : OpenClaim := { program := "ytpldfoclogkppaa", sum := "ab589a1f551c8c54032eac3050092b87bf586d717e0face291b21174227e957e", func := "concourse/concourselaw02.SpanBack", spec := "spanBack", unfollowed := true, recurses := true, apart := false }
def SpanBackSaid : Prop := spanBackRow.holds Try.pinned (OpenSpec.ofChange spanBackSpec)

/-- ITS FALSE NEIGHBOUR: 'it returns false'. Refute it at one input. -/
def spanBackWrong : ChangeSpec := { name := "spanBack", fn := fun _ => fun
  | [d1, d2, d3] => { results := [.lit (.bool false)], args := [d1, d2, d3] }
  | _ => none }
def SpanBackWrongFalsely : Prop := spanBackRow.holds Try.pinned (OpenSpec.ofChange spanBackWrong)

/-- 'concourselaw02.SpanNone': WHATEVER THE INPUT: true; the input reads as it did. -/
def spanNoneSpec : ChangeSpec := { name := "spanNone", fn := fun _ => fun
  | [d] => { results := [.lit (.bool true)], args := [d] }
  | _ => none }
def spanNoneRow : OpenClaim := { program := "ytpldfoclogkppaa", sum := "ab589a1f551c8c54032eac3050092b87bf586d717e0face291b21174227e957e", func := "concourse/concourselaw02.SpanNone", spec := "spanNone", unfollowed := true, recurses := true, apart := false }
def SpanNoneSaid : Prop := spanNoneRow.holds Try.pinned (OpenSpec.ofChange spanNoneSpec)

/-- ITS FALSE NEIGHBOUR: 'it returns false'. Refute it at one input. -/
def spanNoneWrong : ChangeSpec := { name := "spanNone", fn := fun _ => fun
  | [d] => { results := [.lit (.bool false)], args := [d] }
  | _ => none }
def SpanNoneWrongFalsely : Prop := spanNoneRow.holds Try.pinned (OpenSpec.ofChange spanNoneWrong)

/-- 'concourselaw02.SpanReads': WHATEVER THE INPUT: true; the input reads as it did. -/
def spanReadsSpec : ChangeSpec := { name := "spanReads", fn := fun _ => fun
  | [d1, d2] => { results := [.lit (.bool true)], args := [d1, d2] }
  | _ => none }
def spanReadsRow : OpenClaim := { program := "ytpldfoclogkppaa", sum := "ab589a1f551c8c54032eac3050092b87bf586d717e0face291b21174227e957e", func := "concourse/concourselaw02.SpanReads", spec := "spanReads", unfollowed := true, recurses := true, apart := false }
def SpanReadsSaid : Prop := spanReadsRow.holds Try.pinned (OpenSpec.ofChange spanReadsSpec)

/-- ITS FALSE NEIGHBOUR: 'it returns false'. Refute it at one input. -/
def spanReadsWrong : ChangeSpec := { name := "spanReads", fn := fun _ => fun
  | [d1, d2] => { results := [.lit (.bool false)], args := [d1, d2] }
  | _ => none }
def SpanReadsWrongFalsely : Prop := spanReadsRow.holds Try.pinned (OpenSpec.ofChange spanReadsWrong)

/-- 'concourselaw04.KeySplits': WHATEVER THE INPUT: true; the input reads as it did. -/
def keySplitsSpec : ChangeSpec := { name := "keySplits", fn := fun _ => fun
  | [d1, d2] => { results := [.lit (.bool true)], args := [d1, d2] }
  | _ => none }
def keySplitsRow : OpenClaim := { program := "ytpldfoclogkppaa", sum := "ab589a1f551c8c54032eac3050092b87bf586d717e0face291b21174227e957e", func := "concourse/concourselaw04.KeySplits", spec := "keySplits", apart := false }
def KeySplitsSaid : Prop := keySplitsRow.holds Try.pinned (OpenSpec.ofChange keySplitsSpec)

/-- ITS FALSE NEIGHBOUR: 'it returns false'. Refute it at one input. -/
def keySplitsWrong : ChangeSpec := { name := "keySplits", fn := fun _ => fun
  | [d1, d2] => { results := [.lit (.bool false)], args := [d1, d2] }
  | _ => none }
def KeySplitsWrongFalsely : Prop := keySplitsRow.holds Try.pinned (OpenSpec.ofChange keySplitsWrong)

/-- 'concourselaw04.KeyBack': WHATEVER THE INPUT: true; the input reads as it did. -/
def keyBackSpec : ChangeSpec := { name := "keyBack", fn := fun _ => fun
  | [d1, d2] => { results := [.lit (.bool true)], args := [d1, d2] }
  | _ => none }
def keyBackRow : OpenClaim := { program := "ytpldfoclogkppaa", sum := "ab589a1f551c8c54032eac3050092b87bf586d717e0face291b21174227e957e", func := "concourse/concourselaw04.KeyBack", spec := "keyBack", apart := false }
def KeyBackSaid : Prop := keyBackRow.holds Try.pinned (OpenSpec.ofChange keyBackSpec)

/-- ITS FALSE NEIGHBOUR: 'it returns false'. Refute it at one input. -/
def keyBackWrong : ChangeSpec := { name := "keyBack", fn := fun _ => fun
  | [d1, d2] => { results := [.lit (.bool false)], args := [d1, d2] }
  | _ => none }
def KeyBackWrongFalsely : Prop := keyBackRow.holds Try.pinned (OpenSpec.ofChange keyBackWrong)

/-- 'concourselaw34.CallTakes': WHATEVER THE INPUT: true; the input reads as it did. -/
def callTakesSpec : ChangeSpec := { name := "callTakes", fn := fun _ => fun
  | [d] => { results := [.lit (.bool true)], args := [d] }
  | _ => none }
def callTakesRow : OpenClaim := { program := "ytpldfoclogkppaa", sum := "ab589a1f551c8c54032eac3050092b87bf586d717e0face291b21174227e957e", func := "concourse/concourselaw34.CallTakes", spec := "callTakes", unfollowed := true, recurses := true, apart := false }
def CallTakesSaid : Prop := callTakesRow.holds Try.pinned (OpenSpec.ofChange callTakesSpec)

/-- ITS FALSE NEIGHBOUR: 'it returns false'. Refute it at one input. -/
def callTakesWrong : ChangeSpec := { name := "callTakes", fn := fun _ => fun
  | [d] => { results := [.lit (.bool false)], args := [d] }
  | _ => none }
def CallTakesWrongFalsely : Prop := callTakesRow.holds Try.pinned (OpenSpec.ofChange callTakesWrong)

/-- 'concourselaw34.CallBack': WHATEVER THE INPUT: true; the input reads as it did. -/
def callBackSpec : ChangeSpec := { name := "callBack", fn := fun _ => fun
  | [d1, d2, d3] => { results := [.lit (.bool true)], args := [d1, d2, d3] }
  | _ => none }
def callBackRow : OpenClaim := { program := "ytpldfoclogkppaa", sum := "ab589a1f551c8c54032eac3050092b87bf586d717e0face291b21174227e957e", func := "concourse/concourselaw34.CallBack", spec := "callBack", unfollowed := true, recurses := true, apart := false }
def CallBackSaid : Prop := callBackRow.holds Try.pinned (OpenSpec.ofChange callBackSpec)

/-- ITS FALSE NEIGHBOUR: 'it returns false'. Refute it at one input. -/
def callBackWrong : ChangeSpec := { name := "callBack", fn := fun _ => fun
  | [d1, d2, d3] => { results := [.lit (.bool false)], args := [d1, d2, d3] }
  | _ => none }
def CallBackWrongFalsely : Prop := callBackRow.holds Try.pinned (OpenSpec.ofChange callBackWrong)

/-- 'concourselaw34.CallOne': WHATEVER THE INPUT: true; the input reads as it did. -/
def callOneSpec : ChangeSpec := { name := "callOne", fn := fun _ => fun
  | [d] => { results := [.lit (.bool true)], args := [d] }
  | _ => none }
def callOneRow : OpenClaim := { program := "ytpldfoclogkppaa", sum := "ab589a1f551c8c54032eac3050092b87bf586d717e0face291b21174227e957e", func := "concourse/concourselaw34.CallOne", spec := "callOne", unfollowed := true, recurses := true, apart := false }
def CallOneSaid : Prop := callOneRow.holds Try.pinned (OpenSpec.ofChange callOneSpec)

/-- ITS FALSE NEIGHBOUR: 'it returns false'. Refute it at one input. -/
def callOneWrong : ChangeSpec := { name := "callOne", fn := fun _ => fun
  | [d] => { results := [.lit (.bool false)], args := [d] }
  | _ => none }
def CallOneWrongFalsely : Prop := callOneRow.holds Try.pinned (OpenSpec.ofChange callOneWrong)

/- THE SECOND FORM. 'bulk': how many values and letters a reading holds, each counted each time it is reached (what is shared counts as often as it is met; a slice's spare places count too). A statement '..UptoSaid' is the law's where the arguments, and the package variables that the reading takes, are together of bulk at most 1048576: NARROWER than '..Said'. Prove '..Said' where nothing that the law and all that it calls make is longer than what came in: it says more and counts as full. Else prove '..UptoSaid'. A law counts once. -/
mutual
def uptoBulk {H : Type} : DataW H → Nat
  | .lit (.string bytes) => bytes.length + 1
  | .lit _ => 1
  | .nil => 1
  | .ptr d => uptoBulk d + 1
  | .slice elems spare => uptoBulkAll elems + uptoBulkAll spare + 1
  | .agg parts => uptoBulkAll parts + 1
  | .iface _ d => uptoBulk d + 1
  | .map entries => uptoBulkEntries entries + 1
  | .held _ => 1
def uptoBulkAll {H : Type} : List (DataW H) → Nat
  | [] => 0
  | d :: r => uptoBulk d + uptoBulkAll r
def uptoBulkEntries {H : Type} : List (Lit × DataW H) → Nat
  | [] => 0
  | x :: r => uptoBulkEntry x + uptoBulkEntries r
def uptoBulkEntry {H : Type} : Lit × DataW H → Nat
  | (.string bytes, d) => bytes.length + uptoBulk d + 1
  | (_, d) => uptoBulk d + 1
 end
def uptoSmall : (H : Type) → List (DataW H) → Bool := fun _ ds => decide (uptoBulkAll ds ≤ 1048576)
def OpenSpec.upto (s : _root_.Go.ChangeSpec) : _root_.Go.OpenSpec := { _root_.Go.OpenSpec.ofChange s with cond := some uptoSmall }

/-- 'concourselaw34.CallPuts', WHERE WHAT IT READS IS OF BULK AT MOST 1048576: true; the input reads as it did. -/
def callPutsUptoRow : OpenClaim := { program := "ytpldfoclogkppaa", sum := "ab589a1f551c8c54032eac3050092b87bf586d717e0face291b21174227e957e", func := "concourse/concourselaw34.CallPuts", spec := "callPuts", recurses := true, apart := false, narrowed := true }
def CallPutsUptoSaid : Prop := callPutsUptoRow.holds Try.pinned (OpenSpec.upto callPutsSpec)

/-- 'concourselaw20.DiceSteps', WHERE WHAT IT READS IS OF BULK AT MOST 1048576: true; the input reads as it did. -/
def diceStepsUptoRow : OpenClaim := { program := "ytpldfoclogkppaa", sum := "ab589a1f551c8c54032eac3050092b87bf586d717e0face291b21174227e957e", func := "concourse/concourselaw20.DiceSteps", spec := "diceSteps", apart := false, narrowed := true }
def DiceStepsUptoSaid : Prop := diceStepsUptoRow.holds Try.pinned (OpenSpec.upto diceStepsSpec)

/-- 'concourselaw20.DiceMixes', WHERE WHAT IT READS IS OF BULK AT MOST 1048576: true; the input reads as it did. -/
def diceMixesUptoRow : OpenClaim := { program := "ytpldfoclogkppaa", sum := "ab589a1f551c8c54032eac3050092b87bf586d717e0face291b21174227e957e", func := "concourse/concourselaw20.DiceMixes", spec := "diceMixes", apart := false, narrowed := true }
def DiceMixesUptoSaid : Prop := diceMixesUptoRow.holds Try.pinned (OpenSpec.upto diceMixesSpec)

/-- 'concourselaw20.DiceOrder', WHERE WHAT IT READS IS OF BULK AT MOST 1048576: true; the input reads as it did. -/
def diceOrderUptoRow : OpenClaim := { program := "ytpldfoclogkppaa", sum := "ab589a1f551c8c54032eac3050092b87bf586d717e0face291b21174227e957e", func := "concourse/concourselaw20.DiceOrder", spec := "diceOrder", apart := false, narrowed := true }
def DiceOrderUptoSaid : Prop := diceOrderUptoRow.holds Try.pinned (OpenSpec.upto diceOrderSpec)

/-- 'concourselaw01.VarintPuts', WHERE WHAT IT READS IS OF BULK AT MOST 1048576: true; the input reads as it did. -/
def varintPutsUptoRow : OpenClaim := { program := "ytpldfoclogkppaa", sum := "ab589a1f551c8c54032eac3050092b87bf586d717e0face291b21174227e957e", func := "concourse/concourselaw01.VarintPuts", spec := "varintPuts", recurses := true, apart := false, narrowed := true }
def VarintPutsUptoSaid : Prop := varintPutsUptoRow.holds Try.pinned (OpenSpec.upto varintPutsSpec)

/-- 'concourselaw01.VarintTakes', WHERE WHAT IT READS IS OF BULK AT MOST 1048576: true; the input reads as it did. -/
def varintTakesUptoRow : OpenClaim := { program := "ytpldfoclogkppaa", sum := "ab589a1f551c8c54032eac3050092b87bf586d717e0face291b21174227e957e", func := "concourse/concourselaw01.VarintTakes", spec := "varintTakes", apart := false, narrowed := true }
def VarintTakesUptoSaid : Prop := varintTakesUptoRow.holds Try.pinned (OpenSpec.upto varintTakesSpec)

/-- 'concourselaw01.VarintBack', WHERE WHAT IT READS IS OF BULK AT MOST 1048576: true; the input reads as it did. -/
def varintBackUptoRow : OpenClaim := { program := "ytpldfoclogkppaa", sum := "ab589a1f551c8c54032eac3050092b87bf586d717e0face291b21174227e957e", func := "concourse/concourselaw01.VarintBack", spec := "varintBack", apart := false, narrowed := true }
def VarintBackUptoSaid : Prop := varintBackUptoRow.holds Try.pinned (OpenSpec.upto varintBackSpec)

/-- 'concourselaw04.KeyJoins', WHERE WHAT IT READS IS OF BULK AT MOST 1048576: true; the input reads as it did. -/
def keyJoinsUptoRow : OpenClaim := { program := "ytpldfoclogkppaa", sum := "ab589a1f551c8c54032eac3050092b87bf586d717e0face291b21174227e957e", func := "concourse/concourselaw04.KeyJoins", spec := "keyJoins", recurses := true, apart := false, narrowed := true }
def KeyJoinsUptoSaid : Prop := keyJoinsUptoRow.holds Try.pinned (OpenSpec.upto keyJoinsSpec)

/-- 'concourselaw02.SpanTakes', WHERE WHAT IT READS IS OF BULK AT MOST 1048576: true; the input reads as it did. -/
def spanTakesUptoRow : OpenClaim := { program := "ytpldfoclogkppaa", sum := "ab589a1f551c8c54032eac3050092b87bf586d717e0face291b21174227e957e", func := "concourse/concourselaw02.SpanTakes", spec := "spanTakes", recurses := true, apart := false, narrowed := true }
def SpanTakesUptoSaid : Prop := spanTakesUptoRow.holds Try.pinned (OpenSpec.upto spanTakesSpec)

/-- 'concourselaw01.VarintOne', WHERE WHAT IT READS IS OF BULK AT MOST 1048576: true; the input reads as it did. -/
def varintOneUptoRow : OpenClaim := { program := "ytpldfoclogkppaa", sum := "ab589a1f551c8c54032eac3050092b87bf586d717e0face291b21174227e957e", func := "concourse/concourselaw01.VarintOne", spec := "varintOne", apart := false, narrowed := true }
def VarintOneUptoSaid : Prop := varintOneUptoRow.holds Try.pinned (OpenSpec.upto varintOneSpec)

/-- 'concourselaw04.KeyPuts', WHERE WHAT IT READS IS OF BULK AT MOST 1048576: true; the input reads as it did. -/
def keyPutsUptoRow : OpenClaim := { program := "ytpldfoclogkppaa", sum := "ab589a1f551c8c54032eac3050092b87bf586d717e0face291b21174227e957e", func := "concourse/concourselaw04.KeyPuts", spec := "keyPuts", recurses := true, apart := false, narrowed := true }
def KeyPutsUptoSaid : Prop := keyPutsUptoRow.holds Try.pinned (OpenSpec.upto keyPutsSpec)

/-- 'concourselaw02.SpanBack', WHERE WHAT IT READS IS OF BULK AT MOST 1048576: true; the input reads as it did. -/
def spanBackUptoRow : OpenClaim := { program := "ytpldfoclogkppaa", sum := "ab589a1f551c8c54032eac3050092b87bf586d717e0face291b21174227e957e", func := "concourse/concourselaw02.SpanBack", spec := "spanBack", unfollowed := true, recurses := true, apart := false, narrowed := true }
def SpanBackUptoSaid : Prop := spanBackUptoRow.holds Try.pinned (OpenSpec.upto spanBackSpec)

/-- 'concourselaw02.SpanNone', WHERE WHAT IT READS IS OF BULK AT MOST 1048576: true; the input reads as it did. -/
def spanNoneUptoRow : OpenClaim := { program := "ytpldfoclogkppaa", sum := "ab589a1f551c8c54032eac3050092b87bf586d717e0face291b21174227e957e", func := "concourse/concourselaw02.SpanNone", spec := "spanNone", unfollowed := true, recurses := true, apart := false, narrowed := true }
def SpanNoneUptoSaid : Prop := spanNoneUptoRow.holds Try.pinned (OpenSpec.upto spanNoneSpec)

/-- 'concourselaw02.SpanReads', WHERE WHAT IT READS IS OF BULK AT MOST 1048576: true; the input reads as it did. -/
def spanReadsUptoRow : OpenClaim := { program := "ytpldfoclogkppaa", sum := "ab589a1f551c8c54032eac3050092b87bf586d717e0face291b21174227e957e", func := "concourse/concourselaw02.SpanReads", spec := "spanReads", unfollowed := true, recurses := true, apart := false, narrowed := true }
def SpanReadsUptoSaid : Prop := spanReadsUptoRow.holds Try.pinned (OpenSpec.upto spanReadsSpec)

/-- 'concourselaw04.KeySplits', WHERE WHAT IT READS IS OF BULK AT MOST 1048576: true; the input reads as it did. -/
def keySplitsUptoRow : OpenClaim := { program := "ytpldfoclogkppaa", sum := "ab589a1f551c8c54032eac3050092b87bf586d717e0face291b21174227e957e", func := "concourse/concourselaw04.KeySplits", spec := "keySplits", apart := false, narrowed := true }
def KeySplitsUptoSaid : Prop := keySplitsUptoRow.holds Try.pinned (OpenSpec.upto keySplitsSpec)

/-- 'concourselaw04.KeyBack', WHERE WHAT IT READS IS OF BULK AT MOST 1048576: true; the input reads as it did. -/
def keyBackUptoRow : OpenClaim := { program := "ytpldfoclogkppaa", sum := "ab589a1f551c8c54032eac3050092b87bf586d717e0face291b21174227e957e", func := "concourse/concourselaw04.KeyBack", spec := "keyBack", apart := false, narrowed := true }
def KeyBackUptoSaid : Prop := keyBackUptoRow.holds Try.pinned (OpenSpec.upto keyBackSpec)

/-- 'concourselaw34.CallTakes', WHERE WHAT IT READS IS OF BULK AT MOST 1048576: true; the input reads as it did. -/
def callTakesUptoRow : OpenClaim := { program := "ytpldfoclogkppaa", sum := "ab589a1f551c8c54032eac3050092b87bf586d717e0face291b21174227e957e", func := "concourse/concourselaw34.CallTakes", spec := "callTakes", unfollowed := true, recurses := true, apart := false, narrowed := true }
def CallTakesUptoSaid : Prop := callTakesUptoRow.holds Try.pinned (OpenSpec.upto callTakesSpec)

/-- 'concourselaw34.CallBack', WHERE WHAT IT READS IS OF BULK AT MOST 1048576: true; the input reads as it did. -/
def callBackUptoRow : OpenClaim := { program := "ytpldfoclogkppaa", sum := "ab589a1f551c8c54032eac3050092b87bf586d717e0face291b21174227e957e", func := "concourse/concourselaw34.CallBack", spec := "callBack", unfollowed := true, recurses := true, apart := false, narrowed := true }
def CallBackUptoSaid : Prop := callBackUptoRow.holds Try.pinned (OpenSpec.upto callBackSpec)

/-- 'concourselaw34.CallOne', WHERE WHAT IT READS IS OF BULK AT MOST 1048576: true; the input reads as it did. -/
def callOneUptoRow : OpenClaim := { program := "ytpldfoclogkppaa", sum := "ab589a1f551c8c54032eac3050092b87bf586d717e0face291b21174227e957e", func := "concourse/concourselaw34.CallOne", spec := "callOne", unfollowed := true, recurses := true, apart := false, narrowed := true }
def CallOneUptoSaid : Prop := callOneUptoRow.holds Try.pinned (OpenSpec.upto callOneSpec)

end Rows
end Go.Proofs.Ytpldfoclogkppaa
