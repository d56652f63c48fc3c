/- An abstract run of a program: values without addresses (slices as lists, structs as rows of cells), local boxes by number, boxes that are shared by name; what a row of operations asks for, as a proposition that computes. -/
import Derived.Test.YtmmmaekaoanceaaBase
import Derived.Maps.AppendAt
namespace Go.Proofs.Ytmmmaekaoanceaa
open Go Go.RowKit

/-- an abstract value -/
inductive AV where
  | top
  | int (k : IntKind) (n : Int)
  | bool (b : Bool)
  | str (s : ByteArray)
  | agg (cs : List AV)
  | tup (vs : List AV)
  | nils
  | slc (e : TypeId) (els : List (List AV))
  | own (j : Nat) (e : TypeId) (els : List (List AV))
  | eref (cells : List AV) (off : Nat)
  | lptr (j off : Nat)
  | gptr (b off : Nat)
  | nilp
  | fn (f : Fn) (first cap : List AV)
  | nilf
  | ifc (t : TypeId) (v : AV)
  | nili
  | nilm
  | mp (b : Nat)

/-- a type's row: what it is, its cells, its bytes, its zero -/
structure TR where
  desc : TypeDesc
  cells : Nat
  bytes : Nat
  zero : Value
  eqok : Bool := false
  bld : Option TypeId := none

/-- a local box: living (perhaps in place of a shared one), lent under a name, gone -/
inductive LB where
  | live (org : Option Nat) (cells : List AV)
  | away (b : Nat)
  | dead

/-- a shared box: cells; cells of which some are rows that the box alone owns (place, element, elements); a strings.Builder; a map (of texts, or of numbers of a kind) -/
inductive GB where
  | cells (cs : List AV)
  | box (cs : List AV) (gs : List (Nat × TypeId × List (List AV)))
  | bld (s : ByteArray)
  | map (kd : Option IntKind) (m : List (AV × AV))
def cellsK : GB → (List AV → Prop) → Prop
  | .cells cs, K => K cs
  | .box cs _, K => K cs
  | _, _ => False
/-- what stands under a key -/
def keyB : AV → AV → Bool
  | .str a, .str b => decide (a = b)
  | .int _ a, .int _ b => a == b
  | _, _ => false
def mget : List (AV × AV) → AV → Option AV
  | [], _ => none
  | (k, v) :: r, x => match keyB x k with | true => some v | false => mget r x
def mput : List (AV × AV) → AV → AV → List (AV × AV)
  | [], x, y => [(x, y)]
  | (k, v) :: r, x, y => match keyB x k with | true => (x, y) :: r | false => (k, v) :: mput r x y
def mdel : List (AV × AV) → AV → List (AV × AV)
  | [], _ => []
  | (k, v) :: r, x => match keyB x k with | true => r | false => (k, v) :: mdel r x

@[reducible] def Glob := Nat → Option GB
def setG (G : Glob) (b : Nat) (x : GB) : Glob := fun i => if i = b then some x else G i
theorem setG_same (G : Glob) (b : Nat) (x : GB) : setG G b x b = some x := by simp [setG]
theorem setG_ne (G : Glob) {b i : Nat} (x : GB) (h : i ≠ b) : setG G b x i = G i := by simp [setG, h]

structure Cf where
  env : List AV
  L : List LB
  nl : Nat
  nt : Nat
  G : Glob

/-- a constant -/
def ofV1K (v : Value) (K : AV → Prop) : Prop :=
  match v with
  | .bool b => K (.bool b)
  | .int k n => K (.int k n)
  | .string s => K (.str s)
  | .pointer none => K .nilp
  | .slice none 0 0 => K .nils
  | .nilFunc => K .nilf
  | .nilIface => K .nili
  | .map none => K .nilm
  | _ => K .top
def ofVsK : List Value → (List AV → Prop) → Prop
  | [], K => K []
  | .agg _ :: _, _ => False
  | .tuple _ :: _, _ => False
  | v :: r, K => ofV1K v fun x => ofVsK r fun l => K (x :: l)
def ofVK (v : Value) (K : AV → Prop) : Prop :=
  match v with
  | .agg cs => ofVsK cs.toList fun l => K (.agg l)
  | v => ofV1K v K
def nthK {α : Type} : Nat → List α → (α → Prop) → Prop
  | _, [], _ => False
  | 0, v :: _, K => K v
  | n + 1, _ :: r, K => nthK n r K
def opdK (env : List AV) (x : Operand) (K : AV → Prop) : Prop :=
  match x with
  | .tmp t => nthK t env K
  | .const v => ofVK v K
  | .global _ => K .top
  | .func f => K (.fn (.func f) [] [])
def opdsK (env : List AV) : List Operand → (List AV → Prop) → Prop
  | [], K => K []
  | x :: r, K => opdK env x fun v => opdsK env r fun l => K (v :: l)
def oopdK (env : List AV) (x : Option Operand) (K : Option AV → Prop) : Prop :=
  match x with
  | none => K none
  | some x => opdK env x fun v => K (some v)

/-- two ways -/
def BS (t : Bool) (A B : Prop) : Prop := match t with | true => A | false => B
theorem BS_intro {t : Bool} {A B : Prop} (ha : t = true → A) (hb : t = false → B) : BS t A B := by cases t; exact hb rfl; exact ha rfl

theorem BS_t {t : Bool} {A B : Prop} (h : t = true) (a : A) : BS t A B := by subst h; exact a
theorem BS_f {t : Bool} {A B : Prop} (h : t = false) (b : B) : BS t A B := by subst h; exact b
/-- the first n of a row behind a place -/
def dropK {α : Type} : Nat → List α → (List α → Prop) → Prop
  | 0, l, K => K l
  | _ + 1, [], _ => False
  | n + 1, _ :: r, K => dropK n r K
def takeK {α : Type} : Nat → List α → (List α → Prop) → Prop
  | 0, _, K => K []
  | _ + 1, [], _ => False
  | n + 1, v :: r, K => takeK n r (fun l => K (v :: l))
/-- put a row into a row at a place -/
def putsK {α : Type} : Nat → List α → List α → (List α → Prop) → Prop
  | 0, [], l, K => K l
  | 0, _ :: _, [], _ => False
  | 0, x :: xs, _ :: r, K => putsK 0 xs r (fun l => K (x :: l))
  | _ + 1, _, [], _ => False
  | n + 1, xs, v :: r, K => putsK n xs r (fun l => K (v :: l))
def snocK {α : Type} : List α → α → (List α → Prop) → Prop
  | [], x, K => K [x]
  | v :: r, x, K => snocK r x (fun l => K (v :: l))
def isAggD : TypeDesc → Bool
  | .struct _ => true
  | .array _ _ => true
  | _ => false
def kindD : TypeDesc → Option Bool
  | .invalid => none
  | .struct _ => some true
  | .array _ _ => some true
  | _ => some false

section
variable (T : TypeId → TR)

/-- a value of a type out of cells at a place -/
def subK (t : TypeId) (cells : List AV) (off : Nat) (K : AV → Prop) : Prop :=
  match kindD (T t).desc with
  | some true => dropK off cells fun r => takeK (T t).cells r fun l => K (.agg l)
  | some false => nthK off cells K
  | none => False

/-- a pointer's place, moved on -/
def ptrK (v : AV) (d : Nat) (K : AV → Prop) : Prop :=
  match v with
  | .lptr j o => K (.lptr j (o + d))
  | .gptr b o => K (.gptr b (o + d))
  | .eref c o => K (.eref c (o + d))
  | _ => False

def byteAt (s : ByteArray) (i : Nat) : Int := ((s.data.toList.getD i 0).toNat : Int)

def binI (op : BinOp) (k : IntKind) (a b : Int) (K : AV → Prop) : Prop :=
  match op with
  | .add => K (.int k (k.wrap (a + b)))
  | .sub => K (.int k (k.wrap (a - b)))
  | .mul => K (.int k (k.wrap (a * b)))
  | .quo => b ≠ 0 ∧ K (.int k (k.wrap (a.tdiv b)))
  | .rem => b ≠ 0 ∧ K (.int k (a.tmod b))
  | .eql => K (.bool (a == b))
  | .neq => K (.bool (a != b))
  | .lss => K (.bool (a < b))
  | .leq => K (.bool (a ≤ b))
  | .gtr => K (.bool (a > b))
  | .geq => K (.bool (a ≥ b))
  | _ => False
def binS (op : BinOp) (a b : ByteArray) (K : AV → Prop) : Prop :=
  match op with
  | .add => ((a.size + b.size : Nat) : Int) ≤ IntKind.i64.max ∧ K (.str (a ++ b))
  | .eql => K (.bool (a.toList == b.toList))
  | .neq => K (.bool (!(a.toList == b.toList)))
  | .lss => K (.bool (Op.bytesLess a.toList b.toList))
  | .leq => K (.bool (Op.bytesLess a.toList b.toList || a.toList == b.toList))
  | .gtr => K (.bool (!(Op.bytesLess a.toList b.toList || a.toList == b.toList)))
  | .geq => K (.bool (!(Op.bytesLess a.toList b.toList)))
  | _ => False
/-- '==' of structs of cells that are numbers, texts, bools -/
def cellsEq : List Field → List AV → List AV → (Bool → Prop) → Prop
  | [], [], [], K => K true
  | f :: fs, x :: xs, y :: ys, K => match (T f.type).desc, x, y with
    | .int _, .int k a, .int k' b => (match decide (k = k') with
      | true => cellsEq fs xs ys fun u => K ((a == b) && u)
      | false => False)
    | .bool, .bool a, .bool b => cellsEq fs xs ys fun u => K ((a == b) && u)
    | .string, .str a, .str b => cellsEq fs xs ys fun u => K ((a.toList == b.toList) && u)
    | _, _, _ => False
  | _, _, _, _ => False
/-- the struct has fields of one cell alone, one behind the other -/
def flatF : List Field → Nat → Bool
  | [], _ => true
  | f :: r, n => f.offset == n && f.name != "_" && flatF r (n + 1)
def isNilP : AV → (Bool → Prop) → Prop
  | .nilp, K => K true
  | .lptr _ _, K => K false
  | .gptr _ _, K => K false
  | .eref _ _, K => K false
  | _, _ => False
def isNilF : AV → (Bool → Prop) → Prop
  | .nilf, K => K true
  | .fn _ _ _, K => K false
  | _, _ => False
def isNilM : AV → (Bool → Prop) → Prop
  | .nilm, K => K true
  | .mp _, K => K false
  | _, _ => False
def isNilI : AV → (Bool → Prop) → Prop
  | .ifc _ _, K => K false
  | _, _ => False
def eqK (t : TypeId) (x y : AV) (K : Bool → Prop) : Prop :=
  match (T t).desc with
  | .bool => (match x, y with
    | .bool a, .bool b => K (a == b)
    | _, _ => False)
  | .struct fs => (match x, y with
    | .agg cs, .agg ds => (match (T t).eqok, flatF fs.toList 0 with
      | true, true => cellsEq T fs.toList cs ds K
      | _, _ => False)
    | _, _ => False)
  | .pointer _ => (match x, y with
    | .nilp, y => isNilP y K
    | x, .nilp => isNilP x K
    | _, _ => False)
  | .func _ _ _ => (match x, y with
    | .nilf, y => isNilF y K
    | x, .nilf => isNilF x K
    | _, _ => False)
  | .map _ _ => (match x, y with
    | .nilm, y => isNilM y K
    | x, .nilm => isNilM x K
    | _, _ => False)
  | .interface _ => (match x, y with
    | .nili, y => isNilI y K
    | x, .nili => isNilI x K
    | _, _ => False)
  | _ => False
def othK (op : BinOp) (t : TypeId) (x y : AV) (K : AV → Prop) : Prop :=
  match op with
  | .eql => eqK T t x y fun b => K (.bool b)
  | .neq => eqK T t x y fun b => K (.bool (!b))
  | _ => False
def binK (op : BinOp) (t : TypeId) (x y : AV) (K : AV → Prop) : Prop :=
  match x, y with
  | .int k a, .int k' b => match op with
    | .shl => 0 ≤ b ∧ K (.int k (k.wrap (a * 2 ^ (min b.toNat k.bits))))
    | .shr => 0 ≤ b ∧ K (.int k (a.fdiv (2 ^ (min b.toNat k.bits))))
    | _ => match decide (k = k') with
      | true => binI op k a b K
      | false => False
  | .str a, .str b => binS op a b K
  | x, y => othK T op t x y K
def elsOf : AV → (TypeId → List (List AV) → Prop) → Prop
  | .slc e els, K => K e els
  | .own _ e els, K => K e els
  | _, _ => False
def lenK (t : TypeId) (v : AV) (K : Int → Prop) : Prop :=
  match (T t).desc with
  | .string => (match v with
    | .str s => K s.size
    | _ => False)
  | .slice _ => (match v with
    | .nils => K (0 : Nat)
    | .slc _ els => K els.length
    | .own _ _ els => K els.length
    | _ => False)
  | _ => False
def boundK (dflt : Int) : Option AV → (Int → Prop) → Prop
  | none, K => K dflt
  | some (.int _ i), K => K i
  | _, _ => False
def sliceK (t : TypeId) (v : AV) (lo hi : Option AV) (K : AV → Prop) : Prop :=
  match (T t).desc with
  | .string => (match v with
    | .str s => boundK s.size hi fun h => boundK 0 lo fun l => (0 ≤ l ∧ l ≤ h ∧ h ≤ s.size) ∧ K (.str (s.extract l.toNat h.toNat))
    | _ => False)
  | .slice e => (match kindD (T e).desc with
    | none => False
    | some _ => elsOf v fun e' els => (match decide (e = e') with
      | true => boundK els.length hi fun h => boundK 0 lo fun l => (0 ≤ l ∧ l ≤ h ∧ h ≤ els.length) ∧ K (.slc e ((els.drop l.toNat).take (h.toNat - l.toNat)))
      | false => False))
  | _ => False
def cellsOfV : AV → (List AV → Prop) → Prop
  | .agg cs, K => K cs
  | .tup _, _ => False
  | .top, _ => False
  | v, K => K [v]
/-- parts laid into cells -/
def fillK (place : Nat → Option (Nat × Nat)) : List (Nat × Operand) → List AV → List AV → (List AV → Prop) → Prop
  | [], _, cells, K => K cells
  | (i, x) :: r, env, cells, K => match place i with
    | some (off, size) => opdK env x fun v => cellsOfV v fun vs => match vs.length == size with
      | true => putsK off vs cells fun cells' => fillK place r env cells' K
      | false => False
    | none => False
def places (fs : Array Field) (i : Nat) : Option (Nat × Nat) := match fs[i]? with | some f => some (f.offset, (T f.type).cells) | none => none
def zeroK (t : TypeId) (K : List AV → Prop) : Prop := ofVsK (T t).zero.cells.toList K
def minmax (f : Int → Int → Int) : List AV → IntKind → Int → (AV → Prop) → Prop
  | [], k, a, K => K (.int k a)
  | .int _ b :: r, k, a, K => minmax f r k (f a b) K
  | _, _, _, _ => False
def boxK (L : List LB) (G : Glob) (v : AV) (K : List AV → Nat → Prop) : Prop :=
  match v with
  | .lptr j o => nthK j L fun
    | .live _ cells => K cells o
    | .away b => ∃ bx, G b = some bx ∧ cellsK bx fun cells => K cells o
    | .dead => False
  | .gptr b o => ∃ bx, G b = some bx ∧ cellsK bx fun cells => K cells o
  | .eref cells o => K cells o
  | _ => False
/-- a map's kind of keys -/
def keyKd (kt : TypeId) (k : AV) (K : Option IntKind → Prop) : Prop :=
  match (T kt).desc, k with
  | .string, .str _ => K none
  | .int q, .int q' _ => (match decide (q = q') with
    | true => K (some q)
    | false => False)
  | _, _ => False
/-- an interface's value as one of a type that is none -/
def failK (t : TypeId) (K : AV → Prop) : Prop :=
  match kindD (T t).desc with
  | none => False
  | some _ => ofVK (T t).zero fun z => K (.tup [z, .bool false])
def assertK (t : TypeId) (v : AV) (ok : Bool) (K : AV → Prop) : Prop :=
  match v with
  | .ifc t' u => (match decide (t' = t) with
    | true => (match ok with
      | true => K (.tup [u, .bool true])
      | false => K u)
    | false => (match ok with
      | true => failK T t K
      | false => False))
  | .nili => (match ok with
    | true => failK T t K
    | false => False)
  | _ => False
def notIfc : TypeDesc → Bool
  | .interface _ => false
  | .invalid => false
  | _ => true
def okK (ok : Bool) (z : AV) (b : Bool) (K : AV → Prop) : Prop :=
  match ok with
  | true => K (.tup [z, .bool b])
  | false => K z
def lookK (t : TypeId) (G : Glob) (x k : AV) (ok : Bool) (K : AV → Prop) : Prop :=
  match (T t).desc with
  | .map kt et => keyKd T kt k fun kd => (match kindD (T et).desc with
    | none => False
    | some _ => (match x with
      | .nilm => ofVK (T et).zero fun z => okK ok z false K
      | .mp b => ∃ m, G b = some (.map kd m) ∧ ∃ r, mget m k = r ∧ (match r with
        | some v => okK ok v true K
        | none => ofVK (T et).zero fun z => okK ok z false K)
      | _ => False))
  | _ => False

/-- an operation that leaves memory as it is -/
def qOp (L : List LB) (G : Glob) (env : List AV) (o : Op) (K : AV → Prop) : Prop :=
  match o with
  | .move x => opdK env x K
  | .assign x => opdK env x K
  | .pick c a b => opdK env c fun
    | .bool t => BS t (opdK env a K) (opdK env b K)
    | _ => False
  | .nilCheck x => opdK env x fun
    | .lptr j o => K (.lptr j o)
    | .gptr b o => K (.gptr b o)
    | .eref c o => K (.eref c o)
    | .fn (.func f) a b => K (.fn (.func f) a b)
    | .ifc t v => K (.ifc t v)
    | _ => False
  | .load t a => opdK env a fun p => boxK L G p fun cells o => subK T t cells o K
  | .binOp op t x y _ => opdK env x fun a => opdK env y fun b => binK T op t a b K
  | .unOp op _ x => opdK env x fun v => match op, v with
    | .neg, .int k n => K (.int k (k.wrap (0 - n)))
    | .not, .bool b => K (.bool (!b))
    | _, _ => False
  | .convert src dst x => opdK env x fun v => match kindD (T src).desc, (T dst).desc, v with
    | some _, .int k, .int _ n => K (.int k (k.wrap n))
    | some _, .string, .str s => K (.str s)
    | _, _, _ => False
  | .field t x i => opdK env x fun v => match (T t).desc, v with
    | .struct fs, .agg cs => (match fs[i]? with
      | some f => subK T f.type cs f.offset K
      | none => False)
    | _, _ => False
  | .fieldAddr t x i => match (T t).desc with
    | .struct fs => (match fs[i]? with
      | some f => (match kindD (T f.type).desc, (T f.type).cells with
        | none, _ => False
        | some _, 0 => False
        | some _, _ + 1 => opdK env x fun v => ptrK v f.offset K)
      | none => False)
    | _ => False
  | .indexAddr t x ix => opdK env ix fun
    | .int _ i => (match (T t).desc with
      | .slice e => (match kindD (T e).desc with
        | none => False
        | some _ => opdK env x fun v => elsOf v fun e' els => (match decide (e = e') with
          | true => ∃ cells, (0 ≤ i ∧ els[i.toNat]? = some cells) ∧ K (.eref cells 0)
          | false => False))
      | .array n e => (match kindD (T e).desc with
        | none => False
        | some _ => (0 ≤ i ∧ i < n) ∧ opdK env x fun v => ptrK v (i.toNat * (T e).cells) K)
      | _ => False)
    | _ => False
  | .index t x ix => opdK env ix fun iv => opdK env x fun v => match iv, v with
    | .int _ i, .str s => (match kindD (T t).desc, (T t).desc with
      | some _, .string => (0 ≤ i ∧ i < s.size) ∧ K (.int .u8 (byteAt s i.toNat))
      | _, _ => False)
    | .int _ i, .agg cs => (match (T t).desc with
      | .array n e => (match kindD (T e).desc, (T e).cells with
        | some false, 1 => (0 ≤ i ∧ i < n) ∧ ∃ v, cs[i.toNat]? = some v ∧ K v
        | _, _ => False)
      | _ => False)
    | _, _ => False
  | .slice t x lo hi none => opdK env x fun v => oopdK env lo fun l => oopdK env hi fun h => sliceK T t v l h K
  | .extract x i => opdK env x fun
    | .tup vs => nthK i vs K
    | _ => False
  | .makeFunc f first cap => opdsK env first.toList fun a => opdsK env cap.toList fun b => K (.fn f a b)
  | .makeInterface t x => match (T t).desc with
    | .interface _ => False
    | .invalid => False
    | _ => opdK env x fun v => K (.ifc t v)
  | .lookup t x k ok => opdK env k fun kv => opdK env x fun xv => lookK T t G xv kv ok K
  | .typeAssert x _ t ok => opdK env x fun v => match notIfc (T t).desc with
    | true => assertK T t v ok K
    | false => False
  | .build t parts => match (T t).desc with
    | .struct fs => (match fs.toList.all (fun f => (kindD (T f.type).desc).isSome) with
      | true => zeroK T t fun z => fillK (places T fs) parts.toList env z fun l => K (.agg l)
      | false => False)
    | .array _ e => (match kindD (T e).desc with
      | none => False
      | some _ => zeroK T t fun z => fillK (fun i => some (i * (T e).cells, (T e).cells)) parts.toList env z fun l => K (.agg l))
    | _ => False
  | .call { callee := .builtin .len, args := args, argTypes := ts } => match args.toList, ts.toList with
    | [x], [t] => opdK env x fun v => lenK T t v fun n => K (.int .i64 n)
    | _, _ => False
  | .call { callee := .builtin .min, args := args, .. } => opdsK env args.toList fun
    | .int k a :: r => minmax (fun a b => if b < a then b else a) r k a K
    | _ => False
  | .call { callee := .builtin .max, args := args, .. } => opdsK env args.toList fun
    | .int k a :: r => minmax (fun a b => if b > a then b else a) r k a K
    | _ => False
  | _ => False
end
end Go.Proofs.Ytmmmaekaoanceaa
