/- A region that draws its order: one run in the text's order, and a closed look at what hangs on what, serve for all orders. -/
import Derived.Test.YtmmmaekaoanceaaAi
import Derived.Orders
namespace Go.Proofs.Ytmmmaekaoanceaa
open Go Go.RowKit

/-- operation i comes ahead of o -/
def depB (o : Oper) (i : Nat) : Bool := o.after.toList.any fun e => Region.binds .any e && e.on == i
def opTmps (o : Op) : List Tmp := o.operands.toList.filterMap fun | .tmp t => some t | _ => none
/-- what makes memory, writes it, or calls with an effect -/
def isEff (eff : List Nat) (i : Nat) (o : Op) : Bool :=
  match o with
  | .alloc _ => true
  | .box _ _ => true
  | .store _ _ _ => true
  | .buildSlice _ _ _ => true
  | .mapUpdate _ _ _ _ => true
  | .call { callee := .builtin .delete, .. } => true
  | .call { callee := .value _, .. } => eff.contains i
  | _ => false
def isCall (eff : List Nat) (i : Nat) (o : Op) : Bool :=
  match o with
  | .call { callee := .value _, .. } => !(eff.contains i)
  | _ => false
def isLoad (o : Op) : Bool :=
  match o with
  | .load _ _ => true
  | .lookup _ _ _ _ => true
  | _ => false
/-- the places that are looked at: each with the place of the last effect ahead of it -/
def okB (ops : List Oper) (eff : List Nat) : List Oper → Nat → Option Nat → Bool
  | [], _, _ => true
  | o :: r, i, last =>
    (o.after.toList.all fun e => !Region.binds .any e || decide (e.on < i)) &&
    ((opTmps o.op).all fun t => (ops.zipIdx.all fun (p, j) => p.dst != some t || (depB o j && decide (j < i)))) &&
    (match o.guard with | none => true | some (j, _) => depB o j && decide (j < i)) &&
    (match o.dst with | none => !(isLoad o.op) | some d => r.all fun p => p.dst != some d) &&
    (match isEff eff i o.op || isCall eff i o.op || isLoad o.op, last with | true, some e => depB o e | _, _ => true) &&
    (match isCall eff i o.op with | true => (match (r.zipIdx (i + 1)).find? (fun (p, j) => isEff eff j p.op) with | some (p, _) => depB p i | none => true) | false => true) &&
    okB ops eff r (i + 1) (if isEff eff i o.op then some i else last)
def drawB (ops : List Oper) (eff : List Nat) : Bool := okB ops eff ops 0 none

structure Pend where
  i : Nat
  op : Op
  dst : Tmp

section
variable (P : Program) (T : TypeId → TR)
/-- what is handed to a call in a region that draws its order -/
def giveCK (L : List LB) (v : AV) (K : AV → Prop) : Prop :=
  match v with
  | .lptr j o => nthK j L fun
    | .away b => K (.gptr b o)
    | _ => False
  | v => dat0K v K
def giveCsK (L : List LB) : List AV → (List AV → Prop) → Prop
  | [], K => K []
  | v :: r, K => giveCK L v fun v' => giveCsK L r fun l => K (v' :: l)
def give0K (L : List LB) (v : AV) (K : AV → Prop) : Prop :=
  match v with
  | .top => False
  | .agg _ => False
  | .tup _ => False
  | .fn _ _ _ => False
  | .ifc _ _ => False
  | v => giveCK L v K
def give0sK (L : List LB) : List AV → (List AV → Prop) → Prop
  | [], K => K []
  | v :: r, K => give0K L v fun v' => give0sK L r fun l => K (v' :: l)
def giveK (L : List LB) (v : AV) (K : AV → Prop) : Prop :=
  match v with
  | .fn f a b => give0sK L a fun a' => give0sK L b fun b' => K (.fn f a' b')
  | .agg cs => giveCsK L cs fun l => K (.agg l)
  | .ifc t (.agg cs) => giveCsK L cs fun l => K (.ifc t (.agg l))
  | .ifc t v => give0K L v fun v' => K (.ifc t v')
  | v => give0K L v K
def givesK (L : List LB) : List AV → (List AV → Prop) → Prop
  | [], K => K []
  | v :: r, K => giveK L v fun v' => givesK L r fun l => K (v' :: l)
def argsK (env : List AV) (L : List LB) (f : Operand) (args : List Operand) (K : FuncId → List AV → Prop) : Prop :=
  opdK env f fun
  | .fn (.func id) a b => opdsK env args fun l => givesK L a fun a' => givesK L l fun l' => givesK L b fun b' => K id (a' ++ (l' ++ b'))
  | _ => False
def recheckK (p : List Pend) (c : Cf) (K : Prop) : Prop :=
  match p with
  | [] => K
  | ⟨_, op, dst⟩ :: r => (nthK dst c.env fun u => qOp T c.L c.G c.env op fun v => v = u) ∧ recheckK r c K
/-- an operation of such a region -/
def stepK (eff : List Nat) (i : Nat) (op : Op) (c : Cf) (K : AV → Cf → Prop) : Prop :=
  match c with
  | ⟨env, L, nl, nt, G⟩ => match op with
    | .call { callee := .value f, args := args, .. } => argsK env L f args.toList fun id l => ∃ v G', CallOk P T id l G (fun x Gx => x = v ∧ Gx = G') ∧ (match eff.contains i with
      | true => K v ⟨env, L, nl, nt, G'⟩
      | false => G' = G ∧ K v ⟨env, L, nl, nt, G⟩)
    | .call { callee := .builtin .append, .. } => False
    | op => evOp0 P T op ⟨env, L, nl, nt, G⟩ K
def pendOf (eff : List Nat) (i : Nat) (o : Oper) (pend : List Pend) : List Pend :=
  match isEff eff i o.op with
  | true => pend.filter fun p => !depB o p.i
  | false => match isLoad o.op, o.dst with
    | true, some d => pend ++ [⟨i, o.op, d⟩]
    | _, _ => pend
def evDraw (all : List Oper) (eff : List Nat) : List Oper → Nat → Cf → List Pend → (Cf → Prop) → Prop
  | [], _, c, _, K => K c
  | o :: r, i, c, pend, K =>
    let go : Prop := stepK P T eff i o.op c fun v c' => putE o.dst v c' fun c'' => match isEff eff i o.op with
      | true => recheckK T (pendOf eff i o pend) c'' (evDraw all eff r (i + 1) c'' (pendOf eff i o pend) K)
      | false => evDraw all eff r (i + 1) c'' (pendOf eff i o pend) K
    let skip : Prop := putE o.dst (.tup []) c fun c'' => evDraw all eff r (i + 1) c'' pend K
    match o.guard with
    | none => go
    | some (j, want) => nthK j all fun oj => match oj.dst with
      | some d => nthK d c.env fun v => guardK v want go skip
      | none => False
end
end Go.Proofs.Ytmmmaekaoanceaa
