/-
  No cell of these rows narrows 'for every input' (looked for: loops, veiled, ifaces, maps, wideKeys, modest, calm, conditions, laid).
  DERIVED. THE GIVEN ROWS OF THIS SEAT. 16 by the template 'for every input the law returns true; each argument reads behind the call as it read before'; 0 by the template 'total and deterministic' (their statements: YtpnlhnhjedopgaaTotals.lean).
  GIVEN WITH THE SEED: the statements are not yours to turn. If you find one false, say at which input.
  Laid BY PROGRAM, IN A SANDBOX (cutbox-rows.mjs): the forced cells as the released guide's own fill.sh prints them over the translation 4ac15a4cf1f6fd87… (all of the seat's roots in one cut). By AI agents, Wed Nov 11 2026. No macro, syntax, notation, axiom, sorry.
-/
import Derived.Test.YtpnlhnhjedopgaaChecked
import GoSem.Claim
import GoSem.ClaimJoined
import GoSem.ClaimMapViews
import Derived.JoinedTies
import Derived.KernelRfl
namespace Go.Proofs.Ytpnlhnhjedopgaa
/- THE CELL 'sum', in the pinned program and in every row, IS THE sha256 OF THE DUMP (.gsa) THAT YtpnlhnhjedopgaaProg.lean LOADS. Nothing in Lean hashes anything: it is a label: what it is worth is what the hold of that sum in a sandbox is worth. -/
noncomputable def Try.pinned : Pinned := { name := "ytpnlhnhjedopgaa", sum := "4ac15a4cf1f6fd873ed7a173288ba9bbe3f373cedf3213778c60fb2d445e46a5", checked := Try.checked }
namespace Rows
def none {H : Type} : Left H := { results := [], args := [] }

/-- 'concourselaw41.AdminBytes': WHATEVER THE INPUT: true; the input reads as it did. -/
def adminBytesSpec : ChangeSpec := { name := "adminBytes", fn := fun _ => fun
  | [d1, d2] => { results := [.lit (.bool true)], args := [d1, d2] }
  | _ => none }
def adminBytesRow : OpenClaim := { program := "ytpnlhnhjedopgaa", sum := "4ac15a4cf1f6fd873ed7a173288ba9bbe3f373cedf3213778c60fb2d445e46a5", func := "concourse/concourselaw41.AdminBytes", spec := "adminBytes", inPlace := ["internal/abi.NoEscape"], unfollowed := true, recurses := true, apart := false }
def AdminBytesSaid : Prop := adminBytesRow.holds Try.pinned (OpenSpec.ofChange adminBytesSpec)

/-- ITS FALSE NEIGHBOUR: 'it returns false'. Refute it at one input. -/
def adminBytesWrong : ChangeSpec := { name := "adminBytes", fn := fun _ => fun
  | [d1, d2] => { results := [.lit (.bool false)], args := [d1, d2] }
  | _ => none }
def AdminBytesWrongFalsely : Prop := adminBytesRow.holds Try.pinned (OpenSpec.ofChange adminBytesWrong)

/-- 'concourselaw41.AdminBack': WHATEVER THE INPUT: true; the input reads as it did. -/
def adminBackSpec : ChangeSpec := { name := "adminBack", fn := fun _ => fun
  | [d1, d2] => { results := [.lit (.bool true)], args := [d1, d2] }
  | _ => none }
def adminBackRow : OpenClaim := { program := "ytpnlhnhjedopgaa", sum := "4ac15a4cf1f6fd873ed7a173288ba9bbe3f373cedf3213778c60fb2d445e46a5", func := "concourse/concourselaw41.AdminBack", spec := "adminBack", inPlace := ["internal/abi.NoEscape"], unfollowed := true, recurses := true, apart := false }
def AdminBackSaid : Prop := adminBackRow.holds Try.pinned (OpenSpec.ofChange adminBackSpec)

/-- ITS FALSE NEIGHBOUR: 'it returns false'. Refute it at one input. -/
def adminBackWrong : ChangeSpec := { name := "adminBack", fn := fun _ => fun
  | [d1, d2] => { results := [.lit (.bool false)], args := [d1, d2] }
  | _ => none }
def AdminBackWrongFalsely : Prop := adminBackRow.holds Try.pinned (OpenSpec.ofChange adminBackWrong)

/-- 'concourselaw27.CounterAdds': WHATEVER THE INPUT: true; the input reads as it did. -/
def counterAddsSpec : ChangeSpec := { name := "counterAdds", fn := fun _ => fun
  | [d1, d2] => { results := [.lit (.bool true)], args := [d1, d2] }
  | _ => none }
def counterAddsRow : OpenClaim := { program := "ytpnlhnhjedopgaa", sum := "4ac15a4cf1f6fd873ed7a173288ba9bbe3f373cedf3213778c60fb2d445e46a5", func := "concourse/concourselaw27.CounterAdds", spec := "counterAdds", recurses := true, apart := false }
def CounterAddsSaid : Prop := counterAddsRow.holds Try.pinned (OpenSpec.ofChange counterAddsSpec)

/-- ITS FALSE NEIGHBOUR: 'it returns false'. Refute it at one input. -/
def counterAddsWrong : ChangeSpec := { name := "counterAdds", fn := fun _ => fun
  | [d1, d2] => { results := [.lit (.bool false)], args := [d1, d2] }
  | _ => none }
def CounterAddsWrongFalsely : Prop := counterAddsRow.holds Try.pinned (OpenSpec.ofChange counterAddsWrong)

/-- 'concourselaw27.CounterOrder': WHATEVER THE INPUT: true; the input reads as it did. -/
def counterOrderSpec : ChangeSpec := { name := "counterOrder", fn := fun _ => fun
  | [d1, d2] => { results := [.lit (.bool true)], args := [d1, d2] }
  | _ => none }
def counterOrderRow : OpenClaim := { program := "ytpnlhnhjedopgaa", sum := "4ac15a4cf1f6fd873ed7a173288ba9bbe3f373cedf3213778c60fb2d445e46a5", func := "concourse/concourselaw27.CounterOrder", spec := "counterOrder", recurses := true, apart := false }
def CounterOrderSaid : Prop := counterOrderRow.holds Try.pinned (OpenSpec.ofChange counterOrderSpec)

/-- ITS FALSE NEIGHBOUR: 'it returns false'. Refute it at one input. -/
def counterOrderWrong : ChangeSpec := { name := "counterOrder", fn := fun _ => fun
  | [d1, d2] => { results := [.lit (.bool false)], args := [d1, d2] }
  | _ => none }
def CounterOrderWrongFalsely : Prop := counterOrderRow.holds Try.pinned (OpenSpec.ofChange counterOrderWrong)

/-- 'concourselaw27.CounterNone': WHATEVER THE INPUT: true; the input reads as it did. -/
def counterNoneSpec : ChangeSpec := { name := "counterNone", fn := fun _ => fun
  | [d1, d2] => { results := [.lit (.bool true)], args := [d1, d2] }
  | _ => none }
def counterNoneRow : OpenClaim := { program := "ytpnlhnhjedopgaa", sum := "4ac15a4cf1f6fd873ed7a173288ba9bbe3f373cedf3213778c60fb2d445e46a5", func := "concourse/concourselaw27.CounterNone", spec := "counterNone", recurses := true, apart := false }
def CounterNoneSaid : Prop := counterNoneRow.holds Try.pinned (OpenSpec.ofChange counterNoneSpec)

/-- ITS FALSE NEIGHBOUR: 'it returns false'. Refute it at one input. -/
def counterNoneWrong : ChangeSpec := { name := "counterNone", fn := fun _ => fun
  | [d1, d2] => { results := [.lit (.bool false)], args := [d1, d2] }
  | _ => none }
def CounterNoneWrongFalsely : Prop := counterNoneRow.holds Try.pinned (OpenSpec.ofChange counterNoneWrong)

/-- 'concourselaw26.KvSteps': WHATEVER THE INPUT: true; the input reads as it did. -/
def kvStepsSpec : ChangeSpec := { name := "kvSteps", fn := fun _ => fun
  | [d] => { results := [.lit (.bool true)], args := [d] }
  | _ => none }
def kvStepsRow : OpenClaim := { program := "ytpnlhnhjedopgaa", sum := "4ac15a4cf1f6fd873ed7a173288ba9bbe3f373cedf3213778c60fb2d445e46a5", func := "concourse/concourselaw26.KvSteps", spec := "kvSteps", recurses := true, apart := false }
def KvStepsSaid : Prop := kvStepsRow.holds Try.pinned (OpenSpec.ofChange kvStepsSpec)

/-- ITS FALSE NEIGHBOUR: 'it returns false'. Refute it at one input. -/
def kvStepsWrong : ChangeSpec := { name := "kvSteps", fn := fun _ => fun
  | [d] => { results := [.lit (.bool false)], args := [d] }
  | _ => none }
def KvStepsWrongFalsely : Prop := kvStepsRow.holds Try.pinned (OpenSpec.ofChange kvStepsWrong)

/-- 'concourselaw26.KvLast': WHATEVER THE INPUT: true; the input reads as it did. -/
def kvLastSpec : ChangeSpec := { name := "kvLast", fn := fun _ => fun
  | [d] => { results := [.lit (.bool true)], args := [d] }
  | _ => none }
def kvLastRow : OpenClaim := { program := "ytpnlhnhjedopgaa", sum := "4ac15a4cf1f6fd873ed7a173288ba9bbe3f373cedf3213778c60fb2d445e46a5", func := "concourse/concourselaw26.KvLast", spec := "kvLast", recurses := true, apart := false }
def KvLastSaid : Prop := kvLastRow.holds Try.pinned (OpenSpec.ofChange kvLastSpec)

/-- ITS FALSE NEIGHBOUR: 'it returns false'. Refute it at one input. -/
def kvLastWrong : ChangeSpec := { name := "kvLast", fn := fun _ => fun
  | [d] => { results := [.lit (.bool false)], args := [d] }
  | _ => none }
def KvLastWrongFalsely : Prop := kvLastRow.holds Try.pinned (OpenSpec.ofChange kvLastWrong)

/-- 'concourselaw26.KvNone': WHATEVER THE INPUT: true; the input reads as it did. -/
def kvNoneSpec : ChangeSpec := { name := "kvNone", fn := fun _ => fun
  | [d1, d2] => { results := [.lit (.bool true)], args := [d1, d2] }
  | _ => none }
def kvNoneRow : OpenClaim := { program := "ytpnlhnhjedopgaa", sum := "4ac15a4cf1f6fd873ed7a173288ba9bbe3f373cedf3213778c60fb2d445e46a5", func := "concourse/concourselaw26.KvNone", spec := "kvNone", recurses := true, apart := false }
def KvNoneSaid : Prop := kvNoneRow.holds Try.pinned (OpenSpec.ofChange kvNoneSpec)

/-- ITS FALSE NEIGHBOUR: 'it returns false'. Refute it at one input. -/
def kvNoneWrong : ChangeSpec := { name := "kvNone", fn := fun _ => fun
  | [d1, d2] => { results := [.lit (.bool false)], args := [d1, d2] }
  | _ => none }
def KvNoneWrongFalsely : Prop := kvNoneRow.holds Try.pinned (OpenSpec.ofChange kvNoneWrong)

/-- 'concourselaw28.FifoSteps': WHATEVER THE INPUT: true; the input reads as it did. -/
def fifoStepsSpec : ChangeSpec := { name := "fifoSteps", fn := fun _ => fun
  | [d] => { results := [.lit (.bool true)], args := [d] }
  | _ => none }
def fifoStepsRow : OpenClaim := { program := "ytpnlhnhjedopgaa", sum := "4ac15a4cf1f6fd873ed7a173288ba9bbe3f373cedf3213778c60fb2d445e46a5", func := "concourse/concourselaw28.FifoSteps", spec := "fifoSteps", recurses := true, apart := false }
def FifoStepsSaid : Prop := fifoStepsRow.holds Try.pinned (OpenSpec.ofChange fifoStepsSpec)

/-- ITS FALSE NEIGHBOUR: 'it returns false'. Refute it at one input. -/
def fifoStepsWrong : ChangeSpec := { name := "fifoSteps", fn := fun _ => fun
  | [d] => { results := [.lit (.bool false)], args := [d] }
  | _ => none }
def FifoStepsWrongFalsely : Prop := fifoStepsRow.holds Try.pinned (OpenSpec.ofChange fifoStepsWrong)

/-- 'concourselaw28.FifoOrder': WHATEVER THE INPUT: true; the input reads as it did. -/
def fifoOrderSpec : ChangeSpec := { name := "fifoOrder", fn := fun _ => fun
  | [d1, d2, d3] => { results := [.lit (.bool true)], args := [d1, d2, d3] }
  | _ => none }
def fifoOrderRow : OpenClaim := { program := "ytpnlhnhjedopgaa", sum := "4ac15a4cf1f6fd873ed7a173288ba9bbe3f373cedf3213778c60fb2d445e46a5", func := "concourse/concourselaw28.FifoOrder", spec := "fifoOrder", recurses := true, apart := false }
def FifoOrderSaid : Prop := fifoOrderRow.holds Try.pinned (OpenSpec.ofChange fifoOrderSpec)

/-- ITS FALSE NEIGHBOUR: 'it returns false'. Refute it at one input. -/
def fifoOrderWrong : ChangeSpec := { name := "fifoOrder", fn := fun _ => fun
  | [d1, d2, d3] => { results := [.lit (.bool false)], args := [d1, d2, d3] }
  | _ => none }
def FifoOrderWrongFalsely : Prop := fifoOrderRow.holds Try.pinned (OpenSpec.ofChange fifoOrderWrong)

/-- 'concourselaw28.FifoNone': WHATEVER THE INPUT: true; the input reads as it did. -/
def fifoNoneSpec : ChangeSpec := { name := "fifoNone", fn := fun _ => fun
  | [d1, d2] => { results := [.lit (.bool true)], args := [d1, d2] }
  | _ => none }
def fifoNoneRow : OpenClaim := { program := "ytpnlhnhjedopgaa", sum := "4ac15a4cf1f6fd873ed7a173288ba9bbe3f373cedf3213778c60fb2d445e46a5", func := "concourse/concourselaw28.FifoNone", spec := "fifoNone", recurses := true, apart := false }
def FifoNoneSaid : Prop := fifoNoneRow.holds Try.pinned (OpenSpec.ofChange fifoNoneSpec)

/-- ITS FALSE NEIGHBOUR: 'it returns false'. Refute it at one input. -/
def fifoNoneWrong : ChangeSpec := { name := "fifoNone", fn := fun _ => fun
  | [d1, d2] => { results := [.lit (.bool false)], args := [d1, d2] }
  | _ => none }
def FifoNoneWrongFalsely : Prop := fifoNoneRow.holds Try.pinned (OpenSpec.ofChange fifoNoneWrong)

/-- 'concourselaw29.LeaseSteps': WHATEVER THE INPUT: true; the input reads as it did. -/
def leaseStepsSpec : ChangeSpec := { name := "leaseSteps", fn := fun _ => fun
  | [d] => { results := [.lit (.bool true)], args := [d] }
  | _ => none }
def leaseStepsRow : OpenClaim := { program := "ytpnlhnhjedopgaa", sum := "4ac15a4cf1f6fd873ed7a173288ba9bbe3f373cedf3213778c60fb2d445e46a5", func := "concourse/concourselaw29.LeaseSteps", spec := "leaseSteps", unfollowed := true, recurses := true, apart := false }
def LeaseStepsSaid : Prop := leaseStepsRow.holds Try.pinned (OpenSpec.ofChange leaseStepsSpec)

/-- ITS FALSE NEIGHBOUR: 'it returns false'. Refute it at one input. -/
def leaseStepsWrong : ChangeSpec := { name := "leaseSteps", fn := fun _ => fun
  | [d] => { results := [.lit (.bool false)], args := [d] }
  | _ => none }
def LeaseStepsWrongFalsely : Prop := leaseStepsRow.holds Try.pinned (OpenSpec.ofChange leaseStepsWrong)

/-- 'concourselaw29.LeaseOne': WHATEVER THE INPUT: true; the input reads as it did. -/
def leaseOneSpec : ChangeSpec := { name := "leaseOne", fn := fun _ => fun
  | [d1, d2, d3] => { results := [.lit (.bool true)], args := [d1, d2, d3] }
  | _ => none }
def leaseOneRow : OpenClaim := { program := "ytpnlhnhjedopgaa", sum := "4ac15a4cf1f6fd873ed7a173288ba9bbe3f373cedf3213778c60fb2d445e46a5", func := "concourse/concourselaw29.LeaseOne", spec := "leaseOne", unfollowed := true, recurses := true, apart := false }
def LeaseOneSaid : Prop := leaseOneRow.holds Try.pinned (OpenSpec.ofChange leaseOneSpec)

/-- ITS FALSE NEIGHBOUR: 'it returns false'. Refute it at one input. -/
def leaseOneWrong : ChangeSpec := { name := "leaseOne", fn := fun _ => fun
  | [d1, d2, d3] => { results := [.lit (.bool false)], args := [d1, d2, d3] }
  | _ => none }
def LeaseOneWrongFalsely : Prop := leaseOneRow.holds Try.pinned (OpenSpec.ofChange leaseOneWrong)

/-- 'concourselaw41.AdminDoes': WHATEVER THE INPUT: true; the input reads as it did. -/
def adminDoesSpec : ChangeSpec := { name := "adminDoes", fn := fun _ => fun
  | [d] => { results := [.lit (.bool true)], args := [d] }
  | _ => none }
def adminDoesRow : OpenClaim := { program := "ytpnlhnhjedopgaa", sum := "4ac15a4cf1f6fd873ed7a173288ba9bbe3f373cedf3213778c60fb2d445e46a5", func := "concourse/concourselaw41.AdminDoes", spec := "adminDoes", inPlace := ["internal/abi.NoEscape"], unfollowed := true, recurses := true, apart := false }
def AdminDoesSaid : Prop := adminDoesRow.holds Try.pinned (OpenSpec.ofChange adminDoesSpec)

/-- ITS FALSE NEIGHBOUR: 'it returns false'. Refute it at one input. -/
def adminDoesWrong : ChangeSpec := { name := "adminDoes", fn := fun _ => fun
  | [d] => { results := [.lit (.bool false)], args := [d] }
  | _ => none }
def AdminDoesWrongFalsely : Prop := adminDoesRow.holds Try.pinned (OpenSpec.ofChange adminDoesWrong)

/-- 'concourselaw41.AdminLives': WHATEVER THE INPUT: true; the input reads as it did. -/
def adminLivesSpec : ChangeSpec := { name := "adminLives", fn := fun _ => fun
  | [d] => { results := [.lit (.bool true)], args := [d] }
  | _ => none }
def adminLivesRow : OpenClaim := { program := "ytpnlhnhjedopgaa", sum := "4ac15a4cf1f6fd873ed7a173288ba9bbe3f373cedf3213778c60fb2d445e46a5", func := "concourse/concourselaw41.AdminLives", spec := "adminLives", inPlace := ["internal/abi.NoEscape"], unfollowed := true, recurses := true, apart := false }
def AdminLivesSaid : Prop := adminLivesRow.holds Try.pinned (OpenSpec.ofChange adminLivesSpec)

/-- ITS FALSE NEIGHBOUR: 'it returns false'. Refute it at one input. -/
def adminLivesWrong : ChangeSpec := { name := "adminLives", fn := fun _ => fun
  | [d] => { results := [.lit (.bool false)], args := [d] }
  | _ => none }
def AdminLivesWrongFalsely : Prop := adminLivesRow.holds Try.pinned (OpenSpec.ofChange adminLivesWrong)

/-- 'concourselaw41.AdminNone': WHATEVER THE INPUT: true; the input reads as it did. -/
def adminNoneSpec : ChangeSpec := { name := "adminNone", fn := fun _ => fun
  | [d] => { results := [.lit (.bool true)], args := [d] }
  | _ => none }
def adminNoneRow : OpenClaim := { program := "ytpnlhnhjedopgaa", sum := "4ac15a4cf1f6fd873ed7a173288ba9bbe3f373cedf3213778c60fb2d445e46a5", func := "concourse/concourselaw41.AdminNone", spec := "adminNone", inPlace := ["internal/abi.NoEscape"], unfollowed := true, recurses := true, apart := false }
def AdminNoneSaid : Prop := adminNoneRow.holds Try.pinned (OpenSpec.ofChange adminNoneSpec)

/-- ITS FALSE NEIGHBOUR: 'it returns false'. Refute it at one input. -/
def adminNoneWrong : ChangeSpec := { name := "adminNone", fn := fun _ => fun
  | [d] => { results := [.lit (.bool false)], args := [d] }
  | _ => none }
def AdminNoneWrongFalsely : Prop := adminNoneRow.holds Try.pinned (OpenSpec.ofChange adminNoneWrong)

/- THE SECOND FORM. 'bulk': how many values and letters a reading holds, each counted each time it is reached (what is shared counts as often as it is met; a slice's spare places count too). A statement '..UptoSaid' is the law's where the arguments, and the package variables that the reading takes, are together of bulk at most 1048576: NARROWER than '..Said'. Prove '..Said' where nothing that the law and all that it calls make is longer than what came in: it says more and counts as full. Else prove '..UptoSaid'. A law counts once. -/
mutual
def uptoBulk {H : Type} : DataW H → Nat
  | .lit (.string bytes) => bytes.length + 1
  | .lit _ => 1
  | .nil => 1
  | .ptr d => uptoBulk d + 1
  | .slice elems spare => uptoBulkAll elems + uptoBulkAll spare + 1
  | .agg parts => uptoBulkAll parts + 1
  | .iface _ d => uptoBulk d + 1
  | .map entries => uptoBulkEntries entries + 1
  | .held _ => 1
def uptoBulkAll {H : Type} : List (DataW H) → Nat
  | [] => 0
  | d :: r => uptoBulk d + uptoBulkAll r
def uptoBulkEntries {H : Type} : List (Lit × DataW H) → Nat
  | [] => 0
  | x :: r => uptoBulkEntry x + uptoBulkEntries r
def uptoBulkEntry {H : Type} : Lit × DataW H → Nat
  | (.string bytes, d) => bytes.length + uptoBulk d + 1
  | (_, d) => uptoBulk d + 1
 end
def uptoSmall : (H : Type) → List (DataW H) → Bool := fun _ ds => decide (uptoBulkAll ds ≤ 1048576)
def OpenSpec.upto (s : _root_.Go.ChangeSpec) : _root_.Go.OpenSpec := { _root_.Go.OpenSpec.ofChange s with cond := some uptoSmall }

/-- 'concourselaw41.AdminBytes', WHERE WHAT IT READS IS OF BULK AT MOST 1048576: true; the input reads as it did. -/
def adminBytesUptoRow : OpenClaim := { program := "ytpnlhnhjedopgaa", sum := "4ac15a4cf1f6fd873ed7a173288ba9bbe3f373cedf3213778c60fb2d445e46a5", func := "concourse/concourselaw41.AdminBytes", spec := "adminBytes", inPlace := ["internal/abi.NoEscape"], unfollowed := true, recurses := true, apart := false, narrowed := true }
def AdminBytesUptoSaid : Prop := adminBytesUptoRow.holds Try.pinned (OpenSpec.upto adminBytesSpec)

/-- 'concourselaw41.AdminBack', WHERE WHAT IT READS IS OF BULK AT MOST 1048576: true; the input reads as it did. -/
def adminBackUptoRow : OpenClaim := { program := "ytpnlhnhjedopgaa", sum := "4ac15a4cf1f6fd873ed7a173288ba9bbe3f373cedf3213778c60fb2d445e46a5", func := "concourse/concourselaw41.AdminBack", spec := "adminBack", inPlace := ["internal/abi.NoEscape"], unfollowed := true, recurses := true, apart := false, narrowed := true }
def AdminBackUptoSaid : Prop := adminBackUptoRow.holds Try.pinned (OpenSpec.upto adminBackSpec)

/-- 'concourselaw27.CounterAdds', WHERE WHAT IT READS IS OF BULK AT MOST 1048576: true; the input reads as it did. -/
def counterAddsUptoRow : OpenClaim := { program := "ytpnlhnhjedopgaa", sum := "4ac15a4cf1f6fd873ed7a173288ba9bbe3f373cedf3213778c60fb2d445e46a5", func := "concourse/concourselaw27.CounterAdds", spec := "counterAdds", recurses := true, apart := false, narrowed := true }
def CounterAddsUptoSaid : Prop := counterAddsUptoRow.holds Try.pinned (OpenSpec.upto counterAddsSpec)

/-- 'concourselaw27.CounterOrder', WHERE WHAT IT READS IS OF BULK AT MOST 1048576: true; the input reads as it did. -/
def counterOrderUptoRow : OpenClaim := { program := "ytpnlhnhjedopgaa", sum := "4ac15a4cf1f6fd873ed7a173288ba9bbe3f373cedf3213778c60fb2d445e46a5", func := "concourse/concourselaw27.CounterOrder", spec := "counterOrder", recurses := true, apart := false, narrowed := true }
def CounterOrderUptoSaid : Prop := counterOrderUptoRow.holds Try.pinned (OpenSpec.upto counterOrderSpec)

/-- 'concourselaw27.CounterNone', WHERE WHAT IT READS IS OF BULK AT MOST 1048576: true; the input reads as it did. -/
def counterNoneUptoRow : OpenClaim := { program := "ytpnlhnhjedopgaa", sum := "4ac15a4cf1f6fd873ed7a173288ba9bbe3f373cedf3213778c60fb2d445e46a5", func := "concourse/concourselaw27.CounterNone", spec := "counterNone", recurses := true, apart := false, narrowed := true }
def CounterNoneUptoSaid : Prop := counterNoneUptoRow.holds Try.pinned (OpenSpec.upto counterNoneSpec)

/-- 'concourselaw26.KvSteps', WHERE WHAT IT READS IS OF BULK AT MOST 1048576: true; the input reads as it did. -/
def kvStepsUptoRow : OpenClaim := { program := "ytpnlhnhjedopgaa", sum := "4ac15a4cf1f6fd873ed7a173288ba9bbe3f373cedf3213778c60fb2d445e46a5", func := "concourse/concourselaw26.KvSteps", spec := "kvSteps", recurses := true, apart := false, narrowed := true }
def KvStepsUptoSaid : Prop := kvStepsUptoRow.holds Try.pinned (OpenSpec.upto kvStepsSpec)

/-- 'concourselaw26.KvLast', WHERE WHAT IT READS IS OF BULK AT MOST 1048576: true; the input reads as it did. -/
def kvLastUptoRow : OpenClaim := { program := "ytpnlhnhjedopgaa", sum := "4ac15a4cf1f6fd873ed7a173288ba9bbe3f373cedf3213778c60fb2d445e46a5", func := "concourse/concourselaw26.KvLast", spec := "kvLast", recurses := true, apart := false, narrowed := true }
def KvLastUptoSaid : Prop := kvLastUptoRow.holds Try.pinned (OpenSpec.upto kvLastSpec)

/-- 'concourselaw26.KvNone', WHERE WHAT IT READS IS OF BULK AT MOST 1048576: true; the input reads as it did. -/
def kvNoneUptoRow : OpenClaim := { program := "ytpnlhnhjedopgaa", sum := "4ac15a4cf1f6fd873ed7a173288ba9bbe3f373cedf3213778c60fb2d445e46a5", func := "concourse/concourselaw26.KvNone", spec := "kvNone", recurses := true, apart := false, narrowed := true }
def KvNoneUptoSaid : Prop := kvNoneUptoRow.holds Try.pinned (OpenSpec.upto kvNoneSpec)

/-- 'concourselaw28.FifoSteps', WHERE WHAT IT READS IS OF BULK AT MOST 1048576: true; the input reads as it did. -/
def fifoStepsUptoRow : OpenClaim := { program := "ytpnlhnhjedopgaa", sum := "4ac15a4cf1f6fd873ed7a173288ba9bbe3f373cedf3213778c60fb2d445e46a5", func := "concourse/concourselaw28.FifoSteps", spec := "fifoSteps", recurses := true, apart := false, narrowed := true }
def FifoStepsUptoSaid : Prop := fifoStepsUptoRow.holds Try.pinned (OpenSpec.upto fifoStepsSpec)

/-- 'concourselaw28.FifoOrder', WHERE WHAT IT READS IS OF BULK AT MOST 1048576: true; the input reads as it did. -/
def fifoOrderUptoRow : OpenClaim := { program := "ytpnlhnhjedopgaa", sum := "4ac15a4cf1f6fd873ed7a173288ba9bbe3f373cedf3213778c60fb2d445e46a5", func := "concourse/concourselaw28.FifoOrder", spec := "fifoOrder", recurses := true, apart := false, narrowed := true }
def FifoOrderUptoSaid : Prop := fifoOrderUptoRow.holds Try.pinned (OpenSpec.upto fifoOrderSpec)

/-- 'concourselaw28.FifoNone', WHERE WHAT IT READS IS OF BULK AT MOST 1048576: true; the input reads as it did. -/
def fifoNoneUptoRow : OpenClaim := { program := "ytpnlhnhjedopgaa", sum := "4ac15a4cf1f6fd873ed7a173288ba9bbe3f373cedf3213778c60fb2d445e46a5", func := "concourse/concourselaw28.FifoNone", spec := "fifoNone", recurses := true, apart := false, narrowed := true }
def FifoNoneUptoSaid : Prop := fifoNoneUptoRow.holds Try.pinned (OpenSpec.upto fifoNoneSpec)

/-- 'concourselaw29.LeaseSteps', WHERE WHAT IT READS IS OF BULK AT MOST 1048576: true; the input reads as it did. -/
def leaseStepsUptoRow : OpenClaim := { program := "ytpnlhnhjedopgaa", sum := "4ac15a4cf1f6fd873ed7a173288ba9bbe3f373cedf3213778c60fb2d445e46a5", func := "concourse/concourselaw29.LeaseSteps", spec := "leaseSteps", unfollowed := true, recurses := true, apart := false, narrowed := true }
def LeaseStepsUptoSaid : Prop := leaseStepsUptoRow.holds Try.pinned (OpenSpec.upto leaseStepsSpec)

/-- 'concourselaw29.LeaseOne', WHERE WHAT IT READS IS OF BULK AT MOST 1048576: true; the input reads as it did. -/
def leaseOneUptoRow : OpenClaim := { program := "ytpnlhnhjedopgaa", sum := "4ac15a4cf1f6fd873ed7a173288ba9bbe3f373cedf3213778c60fb2d445e46a5", func := "concourse/concourselaw29.LeaseOne", spec := "leaseOne", unfollowed := true, recurses := true, apart := false, narrowed := true }
def LeaseOneUptoSaid : Prop := leaseOneUptoRow.holds Try.pinned (OpenSpec.upto leaseOneSpec)

/-- 'concourselaw41.AdminDoes', WHERE WHAT IT READS IS OF BULK AT MOST 1048576: true; the input reads as it did. -/
def adminDoesUptoRow : OpenClaim := { program := "ytpnlhnhjedopgaa", sum := "4ac15a4cf1f6fd873ed7a173288ba9bbe3f373cedf3213778c60fb2d445e46a5", func := "concourse/concourselaw41.AdminDoes", spec := "adminDoes", inPlace := ["internal/abi.NoEscape"], unfollowed := true, recurses := true, apart := false, narrowed := true }
def AdminDoesUptoSaid : Prop := adminDoesUptoRow.holds Try.pinned (OpenSpec.upto adminDoesSpec)

/-- 'concourselaw41.AdminLives', WHERE WHAT IT READS IS OF BULK AT MOST 1048576: true; the input reads as it did. -/
def adminLivesUptoRow : OpenClaim := { program := "ytpnlhnhjedopgaa", sum := "4ac15a4cf1f6fd873ed7a173288ba9bbe3f373cedf3213778c60fb2d445e46a5", func := "concourse/concourselaw41.AdminLives", spec := "adminLives", inPlace := ["internal/abi.NoEscape"], unfollowed := true, recurses := true, apart := false, narrowed := true }
def AdminLivesUptoSaid : Prop := adminLivesUptoRow.holds Try.pinned (OpenSpec.upto adminLivesSpec)

/-- 'concourselaw41.AdminNone', WHERE WHAT IT READS IS OF BULK AT MOST 1048576: true; the input reads as it did. -/
def adminNoneUptoRow : OpenClaim := { program := "ytpnlhnhjedopgaa", sum := "4ac15a4cf1f6fd873ed7a173288ba9bbe3f373cedf3213778c60fb2d445e46a5", func := "concourse/concourselaw41.AdminNone", spec := "adminNone", inPlace := ["internal/abi.NoEscape"], unfollowed := true, recurses := true, apart := false, narrowed := true }
def AdminNoneUptoSaid : Prop := adminNoneUptoRow.holds Try.pinned (OpenSpec.upto adminNoneSpec)

end Rows
end Go.Proofs.Ytpnlhnhjedopgaa
