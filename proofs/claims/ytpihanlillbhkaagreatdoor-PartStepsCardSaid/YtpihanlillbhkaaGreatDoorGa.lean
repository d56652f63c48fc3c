/- One text out of several: Av, Ar, Aw, As, At, Au, Ama, Aq. -/
import Derived.Test.YtpihanlillbhkaaGreatDoorBase
import Derived.Maps.AppendAt
import Derived.MapKept
import Derived.Lib.AppendStr
import Derived.Laws.StructEq
import Derived.Laws.CopyRow
import Derived.Laws.Cells
import Derived.Laws.Rows
import Derived.Laws.Small
import Derived.Laws.Pointers
import Derived.Laws.Cover3
import Derived.Laws.Tables

section
/- An abstract run of a program: values without addresses (slices as lists, structs as rows of cells), local boxes by number, boxes that are shared by name; what a row of operations asks for, as a proposition that computes. -/
namespace Go.Proofs.YtpihanlillbhkaaGreatDoor
open Go Go.RowKit

/-- an abstract value -/
inductive AV where
  | top
  | int (k : IntKind) (n : Int)
  | bool (b : Bool)
  | str (s : ByteArray)
  | agg (cs : List AV)
  | tup (vs : List AV)
  | nils
  | slc (e : TypeId) (els : List (List AV))
  | own (j : Nat) (e : TypeId) (els : List (List AV))
  | eref (cells : List AV) (off : Nat)
  | lptr (j off : Nat)
  | gptr (b off : Nat)
  | nilp
  | fn (f : Fn) (first cap : List AV)
  | nilf
  | ifc (t : TypeId) (v : AV)
  | nili
  | nilm
  | mp (b : Nat)

/-- a type's row: what it is, its cells, its bytes, its zero -/
structure TR where
  desc : TypeDesc
  cells : Nat
  bytes : Nat
  zero : Value
  eqok : Bool := false
  bld : Option TypeId := none
  obld : Option TypeId := none

/-- a local box: living (perhaps in place of a shared one), lent under a name, gone -/
inductive LB where
  | live (org : Option Nat) (cells : List AV)
  | away (b : Nat)
  | dead

/-- a shared box: cells; cells of which some are rows that the box alone owns (place, element, elements); a strings.Builder; a map (of texts, or of numbers of a kind); a map of texts that the box alone holds, and a number; a block of known place that stays as it is; a struct of a type that begins with a strings.Builder, and one cell -/
inductive GB where
  | cells (cs : List AV)
  | box (cs : List AV) (gs : List (Nat × TypeId × List (List AV)))
  | bld (s : ByteArray)
  | map (kd : Option IntKind) (m : List (AV × AV))
  | cmap (n : Int) (m : List (AV × AV))
  | pin (k : Nat) (o : Obj)
  | obld (t : TypeId) (s : ByteArray) (x : AV)
def cellsK : GB → (List AV → Prop) → Prop
  | .cells cs, K => K cs
  | .box cs _, K => K cs
  | .obld _ _ x, K => K [.top, .top, x]
  | _, _ => False
/-- what stands under a key -/
def keyB : AV → AV → Bool
  | .str a, .str b => decide (a = b)
  | .int _ a, .int _ b => a == b
  | _, _ => false
def mget : List (AV × AV) → AV → Option AV
  | [], _ => none
  | (k, v) :: r, x => match keyB x k with | true => some v | false => mget r x
def mput : List (AV × AV) → AV → AV → List (AV × AV)
  | [], x, y => [(x, y)]
  | (k, v) :: r, x, y => match keyB x k with | true => (x, y) :: r | false => (k, v) :: mput r x y
def mdel : List (AV × AV) → AV → List (AV × AV)
  | [], _ => []
  | (k, v) :: r, x => match keyB x k with | true => r | false => (k, v) :: mdel r x

@[reducible] def Glob := Nat → Option GB
def setG (G : Glob) (b : Nat) (x : GB) : Glob := fun i => if i = b then some x else G i
theorem setG_same (G : Glob) (b : Nat) (x : GB) : setG G b x b = some x := by simp [setG]
theorem setG_ne (G : Glob) {b i : Nat} (x : GB) (h : i ≠ b) : setG G b x i = G i := by simp [setG, h]

structure Cf where
  env : List AV
  L : List LB
  nl : Nat
  nt : Nat
  G : Glob

/-- a constant -/
def ofV1K (v : Value) (K : AV → Prop) : Prop :=
  match v with
  | .bool b => K (.bool b)
  | .int k n => K (.int k n)
  | .string s => K (.str s)
  | .pointer none => K .nilp
  | .slice none 0 0 => K .nils
  | .nilFunc => K .nilf
  | .nilIface => K .nili
  | .map none => K .nilm
  | _ => K .top
def ofVsK : List Value → (List AV → Prop) → Prop
  | [], K => K []
  | .agg _ :: _, _ => False
  | .tuple _ :: _, _ => False
  | v :: r, K => ofV1K v fun x => ofVsK r fun l => K (x :: l)
def ofVK (v : Value) (K : AV → Prop) : Prop :=
  match v with
  | .agg cs => ofVsK cs.toList fun l => K (.agg l)
  | v => ofV1K v K
def nthK {α : Type} : Nat → List α → (α → Prop) → Prop
  | _, [], _ => False
  | 0, v :: _, K => K v
  | n + 1, _ :: r, K => nthK n r K
def opdK (env : List AV) (x : Operand) (K : AV → Prop) : Prop :=
  match x with
  | .tmp t => nthK t env K
  | .const v => ofVK v K
  | .global _ => K .top
  | .func f => K (.fn (.func f) [] [])
def opdsK (env : List AV) : List Operand → (List AV → Prop) → Prop
  | [], K => K []
  | x :: r, K => opdK env x fun v => opdsK env r fun l => K (v :: l)
def oopdK (env : List AV) (x : Option Operand) (K : Option AV → Prop) : Prop :=
  match x with
  | none => K none
  | some x => opdK env x fun v => K (some v)

/-- two ways -/
def BS (t : Bool) (A B : Prop) : Prop := match t with | true => A | false => B
theorem BS_intro {t : Bool} {A B : Prop} (ha : t = true → A) (hb : t = false → B) : BS t A B := by cases t; exact hb rfl; exact ha rfl

theorem BS_t {t : Bool} {A B : Prop} (h : t = true) (a : A) : BS t A B := by subst h; exact a
theorem BS_f {t : Bool} {A B : Prop} (h : t = false) (b : B) : BS t A B := by subst h; exact b
/-- the first n of a row behind a place -/
def dropK {α : Type} : Nat → List α → (List α → Prop) → Prop
  | 0, l, K => K l
  | _ + 1, [], _ => False
  | n + 1, _ :: r, K => dropK n r K
def takeK {α : Type} : Nat → List α → (List α → Prop) → Prop
  | 0, _, K => K []
  | _ + 1, [], _ => False
  | n + 1, v :: r, K => takeK n r (fun l => K (v :: l))
/-- put a row into a row at a place -/
def putsK {α : Type} : Nat → List α → List α → (List α → Prop) → Prop
  | 0, [], l, K => K l
  | 0, _ :: _, [], _ => False
  | 0, x :: xs, _ :: r, K => putsK 0 xs r (fun l => K (x :: l))
  | _ + 1, _, [], _ => False
  | n + 1, xs, v :: r, K => putsK n xs r (fun l => K (v :: l))
def snocK {α : Type} : List α → α → (List α → Prop) → Prop
  | [], x, K => K [x]
  | v :: r, x, K => snocK r x (fun l => K (v :: l))
def kindD : TypeDesc → Option Bool
  | .invalid => none
  | .struct _ => some true
  | .array _ _ => some true
  | _ => some false

section
variable (T : TypeId → TR)

/-- a value of a type out of cells at a place -/
def subK (t : TypeId) (cells : List AV) (off : Nat) (K : AV → Prop) : Prop :=
  match kindD (T t).desc with
  | some true => dropK off cells fun r => takeK (T t).cells r fun l => K (.agg l)
  | some false => nthK off cells K
  | none => False

/-- a pointer's place, moved on -/
def ptrK (v : AV) (d : Nat) (K : AV → Prop) : Prop :=
  match v with
  | .lptr j o => K (.lptr j (o + d))
  | .gptr b o => K (.gptr b (o + d))
  | .eref c o => K (.eref c (o + d))
  | _ => False

def byteAt (s : ByteArray) (i : Nat) : Int := ((s.data.toList.getD i 0).toNat : Int)

def binI (op : BinOp) (k : IntKind) (a b : Int) (K : AV → Prop) : Prop :=
  match op with
  | .add => K (.int k (k.wrap (a + b)))
  | .sub => K (.int k (k.wrap (a - b)))
  | .mul => K (.int k (k.wrap (a * b)))
  | .quo => b ≠ 0 ∧ K (.int k (k.wrap (a.tdiv b)))
  | .rem => b ≠ 0 ∧ K (.int k (a.tmod b))
  | .and => K (.int k (k.wrap ((BitVec.ofInt k.bits a &&& BitVec.ofInt k.bits b).toNat : Int)))
  | .eql => K (.bool (a == b))
  | .neq => K (.bool (a != b))
  | .lss => K (.bool (a < b))
  | .leq => K (.bool (a ≤ b))
  | .gtr => K (.bool (a > b))
  | .geq => K (.bool (a ≥ b))
  | _ => False
def binS (op : BinOp) (a b : ByteArray) (K : AV → Prop) : Prop :=
  match op with
  | .add => ((a.size + b.size : Nat) : Int) ≤ IntKind.i64.max ∧ K (.str (a ++ b))
  | .eql => K (.bool (a.toList == b.toList))
  | .neq => K (.bool (!(a.toList == b.toList)))
  | .lss => K (.bool (Op.bytesLess a.toList b.toList))
  | .leq => K (.bool (Op.bytesLess a.toList b.toList || a.toList == b.toList))
  | .gtr => K (.bool (!(Op.bytesLess a.toList b.toList || a.toList == b.toList)))
  | .geq => K (.bool (!(Op.bytesLess a.toList b.toList)))
  | _ => False
/-- '==' of structs of cells that are numbers, texts, bools -/
def cellsEq : List Field → List AV → List AV → (Bool → Prop) → Prop
  | [], [], [], K => K true
  | f :: fs, x :: xs, y :: ys, K => match (T f.type).desc, x, y with
    | .int _, .int k a, .int k' b => (match decide (k = k') with
      | true => cellsEq fs xs ys fun u => K ((a == b) && u)
      | false => False)
    | .bool, .bool a, .bool b => cellsEq fs xs ys fun u => K ((a == b) && u)
    | .string, .str a, .str b => cellsEq fs xs ys fun u => K ((a.toList == b.toList) && u)
    | _, _, _ => False
  | _, _, _, _ => False
/-- the struct has fields of one cell alone, one behind the other -/
def flatF : List Field → Nat → Bool
  | [], _ => true
  | f :: r, n => f.offset == n && f.name != "_" && flatF r (n + 1)
def flatC (fs : List Field) : Bool := flatF fs 0 && fs.all fun f => match kindD (T f.type).desc with | some true => false | _ => true
def eqFlat (t : TypeId) (x y : AV) (K : Bool → Prop) : Prop :=
  match (T t).desc, x, y with
  | .int _, .int k a, .int k' b => (match decide (k = k') with
    | true => K (a == b)
    | false => False)
  | .bool, .bool a, .bool b => K (a == b)
  | .string, .str a, .str b => K (a.toList == b.toList)
  | .struct gs, .agg cs, .agg ds => (match (T t).eqok, flatF gs.toList 0 with
    | true, true => cellsEq T gs.toList cs ds K
    | _, _ => False)
  | _, _, _ => False
/-- '==' of structs that hold flat structs -/
def nestEq : List Field → List AV → List AV → (Bool → Prop) → Prop
  | [], _, _, K => K true
  | f :: fs, cs, ds, K => match f.name != "_" with
    | true => subK T f.type cs f.offset fun x => subK T f.type ds f.offset fun y => eqFlat T f.type x y fun b => nestEq fs cs ds fun u => K (b && u)
    | false => False
def isNilP : AV → (Bool → Prop) → Prop
  | .nilp, K => K true
  | .lptr _ _, K => K false
  | .gptr _ _, K => K false
  | .eref _ _, K => K false
  | _, _ => False
def isNilF : AV → (Bool → Prop) → Prop
  | .nilf, K => K true
  | .fn _ _ _, K => K false
  | _, _ => False
def isNilM : AV → (Bool → Prop) → Prop
  | .nilm, K => K true
  | .mp _, K => K false
  | _, _ => False
def isNilI : AV → (Bool → Prop) → Prop
  | .ifc _ _, K => K false
  | _, _ => False
def eqK (t : TypeId) (x y : AV) (K : Bool → Prop) : Prop :=
  match (T t).desc with
  | .bool => (match x, y with
    | .bool a, .bool b => K (a == b)
    | _, _ => False)
  | .struct fs => (match x, y with
    | .agg cs, .agg ds => (match (T t).eqok, flatC T fs.toList with
      | true, true => cellsEq T fs.toList cs ds K
      | true, false => nestEq T fs.toList cs ds K
      | false, _ => False)
    | _, _ => False)
  | .pointer _ => (match x, y with
    | .nilp, y => isNilP y K
    | x, .nilp => isNilP x K
    | _, _ => False)
  | .func _ _ _ => (match x, y with
    | .nilf, y => isNilF y K
    | x, .nilf => isNilF x K
    | _, _ => False)
  | .map _ _ => (match x, y with
    | .nilm, y => isNilM y K
    | x, .nilm => isNilM x K
    | _, _ => False)
  | .interface _ => (match x, y with
    | .nili, y => isNilI y K
    | x, .nili => isNilI x K
    | _, _ => False)
  | _ => False
def othK (op : BinOp) (t : TypeId) (x y : AV) (K : AV → Prop) : Prop :=
  match op with
  | .eql => eqK T t x y fun b => K (.bool b)
  | .neq => eqK T t x y fun b => K (.bool (!b))
  | _ => False
def binK (op : BinOp) (t : TypeId) (x y : AV) (K : AV → Prop) : Prop :=
  match x, y with
  | .int k a, .int k' b => match op with
    | .shl => 0 ≤ b ∧ K (.int k (k.wrap (a * 2 ^ (min b.toNat k.bits))))
    | .shr => 0 ≤ b ∧ K (.int k (a.fdiv (2 ^ (min b.toNat k.bits))))
    | _ => match decide (k = k') with
      | true => binI op k a b K
      | false => False
  | .str a, .str b => binS op a b K
  | x, y => othK T op t x y K
def elsOf : AV → (TypeId → List (List AV) → Prop) → Prop
  | .slc e els, K => K e els
  | .own _ e els, K => K e els
  | _, _ => False
def lenK (t : TypeId) (v : AV) (K : Int → Prop) : Prop :=
  match (T t).desc with
  | .string => (match v with
    | .str s => K s.size
    | _ => False)
  | .slice _ => (match v with
    | .nils => K (0 : Nat)
    | .slc _ els => K els.length
    | .own _ _ els => K els.length
    | _ => False)
  | _ => False
def boundK (dflt : Int) : Option AV → (Int → Prop) → Prop
  | none, K => K dflt
  | some (.int _ i), K => K i
  | _, _ => False
def sliceK (t : TypeId) (v : AV) (lo hi : Option AV) (K : AV → Prop) : Prop :=
  match (T t).desc with
  | .string => (match v with
    | .str s => boundK s.size hi fun h => boundK 0 lo fun l => (0 ≤ l ∧ l ≤ h ∧ h ≤ s.size) ∧ K (.str (s.extract l.toNat h.toNat))
    | _ => False)
  | .slice e => (match kindD (T e).desc with
    | none => False
    | some _ => elsOf v fun e' els => (match decide (e = e') with
      | true => boundK els.length hi fun h => boundK 0 lo fun l => (0 ≤ l ∧ l ≤ h ∧ h ≤ els.length) ∧ K (.slc e ((els.drop l.toNat).take (h.toNat - l.toNat)))
      | false => False))
  | _ => False
def cellsOfV : AV → (List AV → Prop) → Prop
  | .agg cs, K => K cs
  | .tup _, _ => False
  | .top, _ => False
  | v, K => K [v]
/-- parts laid into cells -/
def fillK (place : Nat → Option (Nat × Nat)) : List (Nat × Operand) → List AV → List AV → (List AV → Prop) → Prop
  | [], _, cells, K => K cells
  | (i, x) :: r, env, cells, K => match place i with
    | some (off, size) => opdK env x fun v => cellsOfV v fun vs => match vs.length == size with
      | true => putsK off vs cells fun cells' => fillK place r env cells' K
      | false => False
    | none => False
def places (fs : Array Field) (i : Nat) : Option (Nat × Nat) := match fs[i]? with | some f => some (f.offset, (T f.type).cells) | none => none
def zeroK (t : TypeId) (K : List AV → Prop) : Prop := ofVsK (T t).zero.cells.toList K
def minmax (f : Int → Int → Int) : List AV → IntKind → Int → (AV → Prop) → Prop
  | [], k, a, K => K (.int k a)
  | .int _ b :: r, k, a, K => minmax f r k (f a b) K
  | _, _, _, _ => False
def boxK (L : List LB) (G : Glob) (v : AV) (K : List AV → Nat → Prop) : Prop :=
  match v with
  | .lptr j o => nthK j L fun
    | .live _ cells => K cells o
    | .away b => ∃ bx, G b = some bx ∧ cellsK bx fun cells => K cells o
    | .dead => False
  | .gptr b o => ∃ bx, G b = some bx ∧ cellsK bx fun cells => K cells o
  | .eref cells o => K cells o
  | _ => False
/-- a map's kind of keys -/
def keyKd (kt : TypeId) (k : AV) (K : Option IntKind → Prop) : Prop :=
  match (T kt).desc, k with
  | .string, .str _ => K none
  | .int q, .int q' _ => (match decide (q = q') with
    | true => K (some q)
    | false => False)
  | _, _ => False
/-- an interface's value as one of a type that is none -/
def failK (t : TypeId) (K : AV → Prop) : Prop :=
  match kindD (T t).desc with
  | none => False
  | some _ => ofVK (T t).zero fun z => K (.tup [z, .bool false])
def assertK (t : TypeId) (v : AV) (ok : Bool) (K : AV → Prop) : Prop :=
  match v with
  | .ifc t' u => (match decide (t' = t) with
    | true => (match ok with
      | true => K (.tup [u, .bool true])
      | false => K u)
    | false => (match ok with
      | true => failK T t K
      | false => False))
  | .nili => (match ok with
    | true => failK T t K
    | false => False)
  | _ => False
def notIfc : TypeDesc → Bool
  | .interface _ => false
  | .invalid => false
  | _ => true
def okK (ok : Bool) (z : AV) (b : Bool) (K : AV → Prop) : Prop :=
  match ok with
  | true => K (.tup [z, .bool b])
  | false => K z
def lookK (t : TypeId) (G : Glob) (x k : AV) (ok : Bool) (K : AV → Prop) : Prop :=
  match (T t).desc with
  | .map kt et => keyKd T kt k fun kd => (match kindD (T et).desc with
    | none => False
    | some _ => (match x with
      | .nilm => ofVK (T et).zero fun z => okK ok z false K
      | .mp b => ∃ m, G b = some (.map kd m) ∧ ∃ r, mget m k = r ∧ (match r with
        | some v => okK ok v true K
        | none => ofVK (T et).zero fun z => okK ok z false K)
      | _ => False))
  | _ => False

/-- an operation that leaves memory as it is -/
def qOp (L : List LB) (G : Glob) (env : List AV) (o : Op) (K : AV → Prop) : Prop :=
  match o with
  | .move x => opdK env x K
  | .assign x => opdK env x K
  | .pick c a b => opdK env c fun
    | .bool t => BS t (opdK env a K) (opdK env b K)
    | _ => False
  | .nilCheck x => opdK env x fun
    | .lptr j o => K (.lptr j o)
    | .gptr b o => K (.gptr b o)
    | .eref c o => K (.eref c o)
    | .fn (.func f) a b => K (.fn (.func f) a b)
    | .ifc t v => K (.ifc t v)
    | _ => False
  | .load t a => opdK env a fun p => boxK L G p fun cells o => subK T t cells o K
  | .binOp op t x y _ => opdK env x fun a => opdK env y fun b => binK T op t a b K
  | .unOp op _ x => opdK env x fun v => match op, v with
    | .neg, .int k n => K (.int k (k.wrap (0 - n)))
    | .not, .bool b => K (.bool (!b))
    | _, _ => False
  | .convert src dst x => opdK env x fun v => match kindD (T src).desc, (T dst).desc, v with
    | some _, .int k, .int _ n => K (.int k (k.wrap n))
    | some _, .string, .str s => K (.str s)
    | _, _, _ => False
  | .field t x i => opdK env x fun v => match (T t).desc, v with
    | .struct fs, .agg cs => (match fs[i]? with
      | some f => subK T f.type cs f.offset K
      | none => False)
    | _, _ => False
  | .fieldAddr t x i => match (T t).desc with
    | .struct fs => (match fs[i]? with
      | some f => (match kindD (T f.type).desc, (T f.type).cells with
        | none, _ => False
        | some _, 0 => False
        | some _, _ + 1 => opdK env x fun v => ptrK v f.offset K)
      | none => False)
    | _ => False
  | .indexAddr t x ix => opdK env ix fun
    | .int _ i => (match (T t).desc with
      | .slice e => (match kindD (T e).desc with
        | none => False
        | some _ => opdK env x fun v => elsOf v fun e' els => (match decide (e = e') with
          | true => ∃ cells, (0 ≤ i ∧ els[i.toNat]? = some cells) ∧ K (.eref cells 0)
          | false => False))
      | .array n e => (match kindD (T e).desc with
        | none => False
        | some _ => (0 ≤ i ∧ i < n) ∧ opdK env x fun v => ptrK v (i.toNat * (T e).cells) K)
      | _ => False)
    | _ => False
  | .index t x ix => opdK env ix fun iv => opdK env x fun v => match iv, v with
    | .int _ i, .str s => (match kindD (T t).desc, (T t).desc with
      | some _, .string => (0 ≤ i ∧ i < s.size) ∧ K (.int .u8 (byteAt s i.toNat))
      | _, _ => False)
    | .int _ i, .agg cs => (match (T t).desc with
      | .array n e => (match kindD (T e).desc, (T e).cells with
        | some false, 1 => (0 ≤ i ∧ i < n) ∧ ∃ v, cs[i.toNat]? = some v ∧ K v
        | _, _ => False)
      | _ => False)
    | _, _ => False
  | .slice t x lo hi none => opdK env x fun v => oopdK env lo fun l => oopdK env hi fun h => sliceK T t v l h K
  | .extract x i => opdK env x fun
    | .tup vs => nthK i vs K
    | _ => False
  | .makeFunc f first cap => opdsK env first.toList fun a => opdsK env cap.toList fun b => K (.fn f a b)
  | .makeInterface t x => match (T t).desc with
    | .interface _ => False
    | .invalid => False
    | _ => opdK env x fun v => K (.ifc t v)
  | .lookup t x k ok => opdK env k fun kv => opdK env x fun xv => lookK T t G xv kv ok K
  | .typeAssert x _ t ok => opdK env x fun v => match notIfc (T t).desc with
    | true => assertK T t v ok K
    | false => False
  | .build t parts => match (T t).desc with
    | .struct fs => (match fs.toList.all (fun f => (kindD (T f.type).desc).isSome) with
      | true => zeroK T t fun z => fillK (places T fs) parts.toList env z fun l => K (.agg l)
      | false => False)
    | .array _ e => (match kindD (T e).desc with
      | none => False
      | some _ => zeroK T t fun z => fillK (fun i => some (i * (T e).cells, (T e).cells)) parts.toList env z fun l => K (.agg l))
    | _ => False
  | .call { callee := .builtin .len, args := args, argTypes := ts } => match args.toList, ts.toList with
    | [x], [t] => opdK env x fun v => lenK T t v fun n => K (.int .i64 n)
    | _, _ => False
  | .call { callee := .builtin .min, args := args, .. } => opdsK env args.toList fun
    | .int k a :: r => minmax (fun a b => if b < a then b else a) r k a K
    | _ => False
  | .call { callee := .builtin .max, args := args, .. } => opdsK env args.toList fun
    | .int k a :: r => minmax (fun a b => if b > a then b else a) r k a K
    | _ => False
  | _ => False
end
end Go.Proofs.YtpihanlillbhkaaGreatDoor
end

section
/- What an abstract value says of a value in memory: data that nobody writes any more, rows of the call's own, boxes; who owns which block. -/
namespace Go.Proofs.YtpihanlillbhkaaGreatDoor
open Go Go.RowKit
open Go.MapKept (Stamped)

/-- whose a block is: nobody writes it; nobody but a caller does, and its first cells are data; a shared box; a local box; a row of the call's own, its first n cells being data; such a row in a shared box -/
inductive Own where
  | frz
  | prot (n : Nat)
  | gbox (b : Nat)
  | lbox (j : Nat)
  | tok (j n : Nat)
  | gtok (b off n : Nat)
def Own.lim : Own → Nat → Prop
  | .frz, _ => True
  | .prot n, i => i < n
  | .tok _ n, i => i < n
  | .gtok _ _ n, i => i < n
  | _, _ => False
/-- the block is a shared box's, or of a row that the box owns -/
def Own.ofBox : Own → Nat → Prop
  | .gbox b, c => b = c
  | .gtok b _ _, c => b = c
  | _, _ => False
def Own.kept : Own → Prop
  | .frz => True
  | .prot _ => True
  | _ => False
structure Gh where
  own : Nat → Own
  beta : Nat → Nat
  nb : Nat
  lam : Nat → Nat
  nl : Nat
  tau : Nat → Option Nat
  nt : Nat
def Gh.frz (g : Gh) (k i : Nat) : Prop := (g.own k).lim i

section
variable (T : TypeId → TR)
/-- pure data -/
inductive Dz (g : Gh) (w : World) : AV → Value → Prop
  | top (u : Value) (h : u.oneCell' = true) : Dz g w .top u
  | int (k : IntKind) (n : Int) : Dz g w (.int k n) (.int k n)
  | bool (b : Bool) : Dz g w (.bool b) (.bool b)
  | str (s : ByteArray) : Dz g w (.str s) (.string s)
  | agg (cs : List AV) (us : Array Value) (hl : cs.length = us.size) (h1 : ∀ u ∈ us, u.oneCell' = true) (h : ∀ (i : Nat) (c : AV) (u : Value), cs[i]? = some c → us[i]? = some u → Dz g w c u) : Dz g w (.agg cs) (.agg us)
  | tup (cs : List AV) (us : Array Value) (hl : cs.length = us.size) (h : ∀ (i : Nat) (c : AV) (u : Value), cs[i]? = some c → us[i]? = some u → Dz g w c u) : Dz g w (.tup cs) (.tuple us)
  | nils : Dz g w .nils (.slice none 0 0)
  | slc (e : TypeId) (els : List (List AV)) (p : Option Addr) (cap : Nat) (F : Nat → Nat → Value) (hc : els.length ≤ cap) (hm : cap ≤ maxLen) (hs : ∀ cells ∈ els, cells.length = (T e).cells)
      (hp : 0 < els.length → ∃ b off, p = some ⟨b, off, none⟩ ∧ ∀ (i : Nat) (cells : List AV), els[i]? = some cells → ∀ j, j < (T e).cells → g.frz b (off + (i * (T e).cells + j)) ∧ w.cell? ⟨b, off + (i * (T e).cells + j), none⟩ = some (F i j) ∧ (F i j).oneCell' = true)
      (hd : ∀ (i : Nat) (cells : List AV), els[i]? = some cells → ∀ (j : Nat) (x : AV), cells[j]? = some x → Dz g w x (F i j)) : Dz g w (.slc e els) (.slice p els.length cap)
  | eref (cells : List AV) (off b o : Nat) (F : Nat → Value) (hp : ∀ j, j < cells.length → g.frz b (o + j) ∧ w.cell? ⟨b, o + j, none⟩ = some (F j) ∧ (F j).oneCell' = true)
      (hd : ∀ (j : Nat) (x : AV), cells[j]? = some x → Dz g w x (F j)) : Dz g w (.eref cells off) (.pointer (some ⟨b, o + off, none⟩))
  | gptr (b off : Nat) (hb : b < g.nb) : Dz g w (.gptr b off) (.pointer (some ⟨g.beta b, off, none⟩))
  | nilp : Dz g w .nilp (.pointer none)
  | fn (f : Fn) (a b : List AV) (us vs : Array Value) (ha : a.length = us.size) (hb : b.length = vs.size) (h1 : ∀ (i : Nat) (c : AV) (u : Value), a[i]? = some c → us[i]? = some u → Dz g w c u) (h2 : ∀ (i : Nat) (c : AV) (u : Value), b[i]? = some c → vs[i]? = some u → Dz g w c u) : Dz g w (.fn f a b) (.func f us vs)
  | nilf : Dz g w .nilf .nilFunc
  | ifc (t : TypeId) (v : AV) (u : Value) (h : Dz g w v u) : Dz g w (.ifc t v) (.iface t u)
  | nili : Dz g w .nili .nilIface
  | nilm : Dz g w .nilm (.map none)
  | mp (b : Nat) (hb : b < g.nb) : Dz g w (.mp b) (.map (some (g.beta b)))

/-- a row of the call's own: nobody else writes behind it -/
def OwnAt (g : Gh) (w : World) (o : Nat → Own) (kopt : Option Nat) (e : TypeId) (els : List (List AV)) (u : Value) : Prop :=
  ∃ xs : List Value, w.ownsRow 0 e (T e).cells u els.length xs ∧ u.ownBlock = kopt ∧ (∀ k, kopt = some k → g.own k = o (els.length * (T e).cells)) ∧ (∀ cells ∈ els, cells.length = (T e).cells) ∧
    ∀ (i : Nat) (cells : List AV), els[i]? = some cells → ∀ (j : Nat) (x : AV), cells[j]? = some x → ∃ y, xs[i * (T e).cells + j]? = some y ∧ y.oneCell' = true ∧ Dz T g w x y

/-- a value within a call -/
inductive Cz (g : Gh) (w : World) : AV → Value → Prop
  | dz (v : AV) (u : Value) (h : Dz T g w v u) : Cz g w v u
  | any (u : Value) : Cz g w .top u
  | own (j : Nat) (e : TypeId) (els : List (List AV)) (u : Value) (hj : j < g.nt) (h : OwnAt T g w (.tok j) (g.tau j) e els u) : Cz g w (.own j e els) u
  | lptr (j off : Nat) (hj : j < g.nl) : Cz g w (.lptr j off) (.pointer (some ⟨g.lam j, off, none⟩))
  | agg (cs : List AV) (us : Array Value) (hl : cs.length = us.size) (h1 : ∀ u ∈ us, u.oneCell' = true) (h : ∀ (i : Nat) (c : AV) (u : Value), cs[i]? = some c → us[i]? = some u → Cz g w c u) : Cz g w (.agg cs) (.agg us)
  | tup (cs : List AV) (us : Array Value) (hl : cs.length = us.size) (h : ∀ (i : Nat) (c : AV) (u : Value), cs[i]? = some c → us[i]? = some u → Cz g w c u) : Cz g w (.tup cs) (.tuple us)
  | fn (f : Fn) (a b : List AV) (us vs : Array Value) (ha : a.length = us.size) (hb : b.length = vs.size) (h1 : ∀ (i : Nat) (c : AV) (u : Value), a[i]? = some c → us[i]? = some u → Cz g w c u) (h2 : ∀ (i : Nat) (c : AV) (u : Value), b[i]? = some c → vs[i]? = some u → Cz g w c u) : Cz g w (.fn f a b) (.func f us vs)
  | ifc (t : TypeId) (v : AV) (u : Value) (h : Cz g w v u) : Cz g w (.ifc t v) (.iface t u)

/-- a block holds cells -/
def CellsAt (w : World) (k : Nat) (R : AV → Value → Prop) (cells : List AV) : Prop :=
  ∃ us e, w.heap[k]? = some (.cells us e (0, 0)) ∧ us.size = cells.length ∧ (∀ u ∈ us, u.oneCell' = true) ∧ ∀ (i : Nat) (c : AV) (u : Value), cells[i]? = some c → us[i]? = some u → R c u
/-- a row that a box owns, at a place of its cells -/
def RowAt (g : Gh) (w : World) (b : Nat) (us : Array Value) (x : Nat × TypeId × List (List AV)) : Prop :=
  ∃ u, us[x.1]? = some u ∧ OwnAt T g w (.gtok b x.1) u.ownBlock x.2.1 x.2.2 u
def keyAt : Option IntKind → AV → Value → Prop
  | none, .str a, .string b => a = b
  | some q, .int q' a, .int q'' b => q' = q ∧ q'' = q ∧ a = b
  | _, _, _ => False
def BoxAt (g : Gh) (w : World) (b : Nat) : GB → Prop
  | .cells cs => CellsAt w (g.beta b) (Dz T g w) cs
  | .box cs gs => ∃ us e, w.heap[g.beta b]? = some (.cells us e (0, 0)) ∧ us.size = cs.length ∧ (∀ u ∈ us, u.oneCell' = true) ∧ (∀ (i : Nat) (c : AV) (u : Value), cs[i]? = some c → us[i]? = some u → Dz T g w c u) ∧ ∀ x ∈ gs, RowAt T g w b us x
  | .bld s => ∃ t e p v, (T t).bld = some e ∧ w.heap[g.beta b]? = some (.cells #[p, v] t (0, 0)) ∧ (p = .pointer none ∨ p = .pointer (some ⟨g.beta b, 0, none⟩)) ∧ w.ownsRow 0 e 1 v s.size (Lib.strCells s) ∧ v.ownBlock ≠ some (g.beta b) ∧ (∀ k, v.ownBlock = some k → g.own k = .gtok b 1 0) ∧ (s.size = 0 → v = .slice none 0 0)
  | .map kd m => ∃ es clock, w.heap[g.beta b]? = some (.map es clock) ∧ Stamped es clock ∧ es.size = m.length ∧ ∀ (i : Nat) (x : AV × AV) (y : MapEntry), m[i]? = some x → es[i]? = some y → keyAt kd x.1 y.key ∧ Dz T g w x.2 y.val
  | .cmap n m => ∃ t v, w.heap[g.beta b]? = some (.cells #[v, .int .i64 n] t (0, 0)) ∧ ((v = .map none ∧ m = []) ∨ ∃ k es clock, v = .map (some k) ∧ g.own k = .gtok b 0 0 ∧ w.heap[k]? = some (.map es clock) ∧ Stamped es clock ∧ es.size = m.length ∧ ∀ (i : Nat) (x : AV × AV) (y : MapEntry), m[i]? = some x → es[i]? = some y → keyAt none x.1 y.key ∧ Dz T g w x.2 y.val)
  | .pin k o => g.beta b = k ∧ w.heap[k]? = some o
  | .obld t s x => ∃ e p v u, (T t).obld = some e ∧ w.heap[g.beta b]? = some (.cells #[p, v, u] t (0, 0)) ∧ (p = .pointer none ∨ p = .pointer (some ⟨g.beta b, 0, none⟩)) ∧ w.ownsRow 0 e 1 v s.size (Lib.strCells s) ∧ v.ownBlock ≠ some (g.beta b) ∧ (∀ k, v.ownBlock = some k → g.own k = .gtok b 1 0) ∧ (s.size = 0 → v = .slice none 0 0) ∧ u.oneCell' = true ∧ Dz T g w x u
def LocAt (g : Gh) (w : World) (j : Nat) : LB → Prop
  | .live org cells => g.own (g.lam j) = .lbox j ∧ CellsAt w (g.lam j) (Cz T g w) cells ∧ ∀ b, org = some b → b < g.nb ∧ g.beta b = g.lam j
  | .away b => b < g.nb ∧ g.beta b = g.lam j
  | .dead => True
def GRel (g : Gh) (G : Glob) (w : World) : Prop := ∀ b bx, G b = some bx → b < g.nb ∧ g.own (g.beta b) = .gbox b ∧ BoxAt T g w b bx
structure Rel (g : Gh) (L : List LB) (nl nt : Nat) (G : Glob) (w : World) : Prop where
  glob : GRel T g G w
  loc : ∀ (j : Nat) (bx : LB), L[j]? = some bx → LocAt T g w j bx
  hL : L.length = nl
  hl : g.nl = nl
  ht : g.nt = nt
end
/-- what goes on: data stay, names stay, what is kept is as it was -/
structure Ext (g : Gh) (w : World) (g' : Gh) (w' : World) : Prop where
  cell : ∀ k i u, g.frz k i → w.cell? ⟨k, i, none⟩ = some u → g'.frz k i ∧ w'.cell? ⟨k, i, none⟩ = some u
  nb : g.nb ≤ g'.nb
  beta : ∀ b, b < g.nb → g'.beta b = g.beta b
  kept : ∀ k, k < w.heap.size → (g.own k).kept → g'.own k = g.own k ∧ w'.heap[k]? = w.heap[k]?
  size : w.heap.size ≤ w'.heap.size
  os : w'.os = w.os
  tape : w'.tape = w.tape
  output : w'.output = w.output
/-- the call hands back a value, and leaves shared boxes, so that Q -/
structure CallOk (P : Program) (T : TypeId → TR) (f : FuncId) (args : List AV) (G : Glob) (Q : AV → Glob → Prop) : Prop where
  enters : ∃ fn, P.funcs[f]? = some fn ∧ (fn.name == "runtime.NumGoroutine") = false ∧ fn.body.isNone = false
  calls : ∀ (g : Gh) (us : Array Value) (w : World), GRel T g G w → us.size = args.length → (∀ (i : Nat) (a : AV) (u : Value), args[i]? = some a → us[i]? = some u → Dz T g w a u) →
    Calls P f us w (fun e w' => ∃ u g' G' v, e = .returned u ∧ Q v G' ∧ GRel T g' G' w' ∧ Ext g w g' w' ∧ Dz T g' w' v u)
end Go.Proofs.YtpihanlillbhkaaGreatDoor
end

section
/- The abstract run of operations, of code, of a function: each is a proposition that computes as far as it can. -/
namespace Go.Proofs.YtpihanlillbhkaaGreatDoor
open Go Go.RowKit

/-- a value as data: rows of the call's own are read alone, local boxes are not named -/
def dat0 : AV → AV
  | .own _ e els => .slc e els
  | .lptr _ _ => .top
  | .agg _ => .top
  | .tup _ => .top
  | .fn _ _ _ => .top
  | .ifc _ _ => .top
  | v => v
/-- the same, worked out ahead -/
def dat0K : AV → (AV → Prop) → Prop
  | .own _ e els, K => K (.slc e els)
  | .lptr _ _, K => K .top
  | .agg _, K => K .top
  | .tup _, K => K .top
  | .fn _ _ _, K => K .top
  | .ifc _ _, K => K .top
  | v, K => K v
def dat0sK : List AV → (List AV → Prop) → Prop
  | [], K => K []
  | v :: r, K => dat0K v fun v' => dat0sK r fun l => K (v' :: l)
/-- token j has gone: what was its row is data -/
def dem0 (j : Nat) : AV → AV
  | .own i e els => match decide (i = j) with | true => .slc e els | false => .own i e els
  | .agg _ => .top
  | .tup _ => .top
  | .fn _ _ _ => .top
  | .ifc _ _ => .top
  | v => v
def dem1 (j : Nat) : AV → AV
  | .agg cs => .agg (cs.map (dem0 j))
  | .tup cs => .tup (cs.map (dem0 j))
  | .fn f a b => .fn f (a.map (dem0 j)) (b.map (dem0 j))
  | .ifc t (.agg cs) => .ifc t (.agg (cs.map (dem0 j)))
  | .ifc t v => .ifc t (dem0 j v)
  | v => dem0 j v
def demL (j : Nat) : LB → LB
  | .live org cells => .live org (cells.map (dem1 j))
  | b => b
def dem0K (j : Nat) : AV → (AV → Prop) → Prop
  | .own i e els, K => (match decide (i = j) with | true => K (.slc e els) | false => K (.own i e els))
  | .agg _, K => K .top
  | .tup _, K => K .top
  | .fn _ _ _, K => K .top
  | .ifc _ _, K => K .top
  | v, K => K v
def dem0sK (j : Nat) : List AV → (List AV → Prop) → Prop
  | [], K => K []
  | v :: r, K => dem0K j v fun v' => dem0sK j r fun l => K (v' :: l)
def dem1K (j : Nat) : AV → (AV → Prop) → Prop
  | .agg cs, K => dem0sK j cs fun l => K (.agg l)
  | .tup cs, K => dem0sK j cs fun l => K (.tup l)
  | .fn f a b, K => dem0sK j a fun a' => dem0sK j b fun b' => K (.fn f a' b')
  | .ifc t (.agg cs), K => dem0sK j cs fun l => K (.ifc t (.agg l))
  | .ifc t v, K => dem0K j v fun v' => K (.ifc t v')
  | v, K => dem0K j v K
def dem1sK (j : Nat) : List AV → (List AV → Prop) → Prop
  | [], K => K []
  | v :: r, K => dem1K j v fun v' => dem1sK j r fun l => K (v' :: l)
def demLK (j : Nat) : List LB → (List LB → Prop) → Prop
  | [], K => K []
  | .live org cells :: r, K => dem1sK j cells fun cells' => demLK j r fun l => K (.live org cells' :: l)
  | .away b :: r, K => demLK j r fun l => K (.away b :: l)
  | .dead :: r, K => demLK j r fun l => K (.dead :: l)

def setK {α : Type} : Nat → α → List α → (List α → Prop) → Prop
  | _, _, [], _ => False
  | 0, x, _ :: r, K => K (x :: r)
  | n + 1, x, v :: r, K => setK n x r fun l => K (v :: l)

/-- local box j is lent under a name -/
def lendK (j : Nat) : Cf → (Nat → Cf → Prop) → Prop
  | ⟨env, L, nl, nt, G⟩, K => nthK j L fun
    | .live (some b) cells => dat0sK cells fun cells' => setK j (.away b) L fun L' => K b ⟨env, L', nl, nt, setG G b (.cells cells')⟩
    | .live none cells => dat0sK cells fun cells' => ∀ b, G b = none → setK j (.away b) L fun L' => K b ⟨env, L', nl, nt, setG G b (.cells cells')⟩
    | .away b => K b ⟨env, L, nl, nt, G⟩
    | .dead => False
/-- a local box whose address is stored in what is shared is lent first -/
def preK (L : List LB) (p v : AV) (c : Cf) (K : Cf → Prop) : Prop :=
  match v with
  | .lptr j _ => (match p with
    | .lptr i _ => nthK i L fun
      | .live _ _ => K c
      | _ => lendK j c fun _ c' => K c'
    | _ => lendK j c fun _ c' => K c')
  | _ => K c
/-- a cell of a struct -/
def lendCK (v : AV) (c : Cf) (K : AV → Cf → Prop) : Prop :=
  match v with
  | .lptr j o => lendK j c fun b c' => K (.gptr b o) c'
  | v => dat0K v fun v' => K v' c
/-- a value of one cell -/
def lend0K (v : AV) (c : Cf) (K : AV → Cf → Prop) : Prop :=
  match v with
  | .top => False
  | .agg _ => False
  | .tup _ => False
  | .fn _ _ _ => False
  | .ifc _ _ => False
  | v => lendCK v c K
def lend0sK : List AV → Cf → (List AV → Cf → Prop) → Prop
  | [], c, K => K [] c
  | v :: r, c, K => lend0K v c fun v' c' => lend0sK r c' fun l c'' => K (v' :: l) c''
/-- a cell of a struct, a function with what it holds too -/
def lendFK (v : AV) (c : Cf) (K : AV → Cf → Prop) : Prop :=
  match v with
  | .fn f a b => lend0sK a c fun a' c' => lend0sK b c' fun b' c'' => K (.fn f a' b') c''
  | v => lendCK v c K
def lendCsK : List AV → Cf → (List AV → Cf → Prop) → Prop
  | [], c, K => K [] c
  | v :: r, c, K => lendFK v c fun v' c' => lendCsK r c' fun l c'' => K (v' :: l) c''
def lend1K (v : AV) (c : Cf) (K : AV → Cf → Prop) : Prop :=
  match v with
  | .fn f a b => lend0sK a c fun a' c' => lend0sK b c' fun b' c'' => K (.fn f a' b') c''
  | .agg cs => lendCsK cs c fun l c' => K (.agg l) c'
  | .ifc t (.agg cs) => lendCsK cs c fun l c' => K (.ifc t (.agg l)) c'
  | .ifc t v => lend0K v c fun v' c' => K (.ifc t v') c'
  | v => lend0K v c K
def lend1sK : List AV → Cf → (List AV → Cf → Prop) → Prop
  | [], c, K => K [] c
  | v :: r, c, K => lend1K v c fun v' c' => lend1sK r c' fun l c'' => K (v' :: l) c''

/-- cells, n to an element -/
def chunkK (n : Nat) : Nat → List AV → (List (List AV) → Prop) → Prop
  | 0, [], K => K []
  | 0, _ :: _, _ => False
  | m + 1, l, K => takeK n l fun c => dropK n l fun r => chunkK n m r fun els => K (c :: els)
/-- what is handed out of the call: a lent box by its name, what is not data is unknown -/
def out0K (L : List LB) (v : AV) (K : AV → Prop) : Prop :=
  match v with
  | .lptr j o => nthK j L fun
    | .away b => K (.gptr b o)
    | _ => K .top
  | v => dat0K v K
def out0sK (L : List LB) : List AV → (List AV → Prop) → Prop
  | [], K => K []
  | v :: r, K => out0K L v fun v' => out0sK L r fun l => K (v' :: l)
def out1K (L : List LB) (v : AV) (K : AV → Prop) : Prop :=
  match v with
  | .agg cs => out0sK L cs fun l => K (.agg l)
  | .top => False
  | .tup _ => False
  | .fn _ _ _ => False
  | .ifc _ _ => False
  | v => out0K L v K
/-- rows that a store of n cells does not hit -/
def dropG (o n : Nat) : List (Nat × TypeId × List (List AV)) → (List (Nat × TypeId × List (List AV)) → Prop) → Prop
  | [], K => K []
  | x :: r, K => match decide (o ≤ x.1), decide (x.1 < o + n) with
    | true, true => dropG o n r K
    | _, _ => dropG o n r fun l => K (x :: l)
/-- a store into a shared box -/
def gstoK (bx : GB) (o : Nat) (vs : List AV) (K : GB → Prop) : Prop :=
  match bx with
  | .cells cells => putsK o vs cells fun cells' => K (.cells cells')
  | .box cells gs => putsK o vs cells fun cells' => dropG o vs.length gs fun gs' => K (.box cells' gs')
  | .obld t s _ => (match o, vs with
    | 2, [y] => K (.obld t s y)
    | _, _ => False)
  | _ => False
def repK (z : List AV) : Nat → (List AV → Prop) → Prop
  | 0, K => K []
  | n + 1, K => repK z n fun l => K (z ++ l)

section
variable (P : Program) (T : TypeId → TR)
/-- what makes memory, or writes it -/
def effK (o : Op) (env : List AV) (L : List LB) (nl nt : Nat) (G : Glob) (K : AV → List LB → Nat → Nat → Glob → Prop) : Prop :=
  match o with
  | .alloc t => (match kindD (T t).desc with
    | none => False
    | some _ => zeroK T t fun z => snocK L (.live none z) fun L' => K (.lptr nl 0) L' (nl + 1) nt G)
  | .box _ x => opdK env x fun v => cellsOfV v fun cells => snocK L (.live none cells) fun L' => K (.lptr nl 0) L' (nl + 1) nt G
  | .store t a x => opdK env x fun v => cellsOfV v fun vs => match kindD (T t).desc, vs.length == (T t).cells with
    | some _, true => opdK env a fun
      | .lptr j o => nthK j L fun
        | .live org cells => putsK o vs cells fun cells' => setK j (.live org cells') L fun L' => K .top L' nl nt G
        | .away b => ∃ bx, G b = some bx ∧ out0sK L vs fun vs' => gstoK bx o vs' fun bx' => K .top L nl nt (setG G b bx')
        | .dead => False
      | .gptr b o => ∃ bx, G b = some bx ∧ out0sK L vs fun vs' => gstoK bx o vs' fun bx' => K .top L nl nt (setG G b bx')
      | _ => False
    | _, _ => False
  | .mapUpdate t m k x => opdK env k fun kv => opdK env m fun mv => opdK env x fun v => match (T t).desc, mv with
    | .map kt _, .mp b => keyKd T kt kv fun kd => out1K L v fun v' => ∃ mm, G b = some (.map kd mm) ∧ K .top L nl nt (setG G b (.map kd (mput mm kv v')))
    | _, _ => False
  | .call { callee := .builtin .delete, args := args, argTypes := ts } => (match args.toList, ts.toList with
    | [m, k], [t, _] => opdK env k fun kv => opdK env m fun mv => (match (T t).desc with
      | .map kt _ => keyKd T kt kv fun kd => (match mv with
        | .nilm => K (.tup []) L nl nt G
        | .mp b => ∃ mm, G b = some (.map kd mm) ∧ K (.tup []) L nl nt (setG G b (.map kd (mdel mm kv)))
        | _ => False)
      | _ => False)
    | _, _ => False)
  | .buildSlice t len parts => (match (T t).desc with
    | .slice e => (match (T e).cells with
      | 0 => False
      | n + 1 => (match kindD (T e).desc, decide (len * (n + 1) ≤ 16777216) with
        | some _, true => zeroK T e fun z0 => repK z0 len fun z => fillK (fun i => some (i * (n + 1), n + 1)) parts.toList env z fun cells => dat0sK cells fun cells' => chunkK (n + 1) len cells' fun els =>
          K (.own nt e els) L nl (nt + 1) G
        | _, _ => False))
    | _ => False)
  | _ => False
/-- append -/
def appK (e : TypeId) (xv sv : AV) (c : Cf) (K : AV → Cf → Prop) : Prop :=
  match c with
  | ⟨env, L, nl, nt, G⟩ => match sv with
    | .nils => elsOf xv fun e' els' => (match decide (e = e') with
      | true => (els'.length ≤ maxLen ∧ els'.length * (T e).bytes ≤ 140737488355328) ∧ K (.own nt e els') ⟨env, L, nl, nt + 1, G⟩
      | false => False)
    | .own j e1 els => elsOf xv fun e' els' => (match decide (e = e1), decide (e = e') with
      | true, true => (els.length + els'.length ≤ maxLen ∧ (els.length + els'.length) * (T e).bytes ≤ 140737488355328) ∧
          dem1sK j env fun env' => demLK j L fun L' => K (.own j e (els ++ els')) ⟨env', L', nl, nt, G⟩
      | _, _ => False)
    | _ => False
/-- the method of a type by its name: its receiver is the value itself -/
def Meth (t : TypeId) (m : String) (id : FuncId) : Prop := ∀ (w : World) (u : Value), (method (P.types.size + Made.depth) t u m).run P w = .ok (id, u) w
/-- an operation, nothing being lent for it -/
def evOp0 (o : Op) (c : Cf) (K : AV → Cf → Prop) : Prop :=
  match c with
  | ⟨env, L, nl, nt, G⟩ => match o with
    | .alloc t => effK T (.alloc t) env L nl nt G fun v L' nl' nt' G' => K v ⟨env, L', nl', nt', G'⟩
    | .box t x => effK T (.box t x) env L nl nt G fun v L' nl' nt' G' => K v ⟨env, L', nl', nt', G'⟩
    | .store t a x => effK T (.store t a x) env L nl nt G fun v L' nl' nt' G' => K v ⟨env, L', nl', nt', G'⟩
    | .mapUpdate t m k x => effK T (.mapUpdate t m k x) env L nl nt G fun v L' nl' nt' G' => K v ⟨env, L', nl', nt', G'⟩
    | .call { callee := .builtin .delete, args := args, argTypes := ts } => effK T (.call { callee := .builtin .delete, args := args, argTypes := ts }) env L nl nt G fun v L' nl' nt' G' => K v ⟨env, L', nl', nt', G'⟩
    | .buildSlice t len parts => effK T (.buildSlice t len parts) env L nl nt G fun v L' nl' nt' G' => K v ⟨env, L', nl', nt', G'⟩
    | .call { callee := .builtin .append, args := args, argTypes := ts } => (match args.toList, ts.toList with
      | [s, x], [t, t'] => (match (T t).desc, decide (t = t') with
        | .slice e, true => (match kindD (T e).desc, (T e).cells with
          | some _, _ + 1 => opdK env x fun xv => opdK env s fun sv => appK T e xv sv ⟨env, L, nl, nt, G⟩ K
          | _, _ => False)
        | _, _ => False)
      | _, _ => False)
    | .call { callee := .value f, args := args, .. } => opdK env f fun
      | .fn (.func id) a b => opdsK env args.toList fun l => lend1sK a ⟨env, L, nl, nt, G⟩ fun a' c1 => lend1sK l c1 fun l' c2 => lend1sK b c2 fun b' c3 => match c3 with
        | ⟨env3, L3, nl3, nt3, G3⟩ => CallOk P T id (a' ++ (l' ++ b')) G3 fun v G' => K v ⟨env3, L3, nl3, nt3, G'⟩
      | _ => False
    | .call { callee := .invoke r m, args := args, .. } => opdK env r fun
      | .ifc t x => opdsK env args.toList fun l => lend1K x ⟨env, L, nl, nt, G⟩ fun x' c1 => lend1sK l c1 fun l' c2 => match c2 with
        | ⟨env3, L3, nl3, nt3, G3⟩ => ∃ id, Meth P t m id ∧ CallOk P T id (x' :: l') G3 fun v G' => K v ⟨env3, L3, nl3, nt3, G'⟩
      | _ => False
    | o => qOp T L G env o fun v => K v ⟨env, L, nl, nt, G⟩

/-- an operation -/
def evOp (o : Op) (c : Cf) (K : AV → Cf → Prop) : Prop :=
  match c with
  | ⟨env, L, nl, nt, G⟩ => match o with
    | .alloc t => (match (T t).bld with
      | some _ => (match kindD (T t).desc with
        | none => False
        | some _ => zeroK T t fun z => (match z with
          | [.nilp, .nils] => ∀ b, G b = none → K (.gptr b 0) ⟨env, L, nl, nt, setG G b (.bld .empty)⟩
          | _ => False))
      | none => evOp0 P T (.alloc t) ⟨env, L, nl, nt, G⟩ K)
    | .box t x => (match (T t).obld with
      | some _ => opdK env x fun v => (match v with
        | .agg [.nilp, .nils, .bool q] => ∀ b, G b = none → K (.gptr b 0) ⟨env, L, nl, nt, setG G b (.obld t .empty (.bool q))⟩
        | _ => False)
      | none => evOp0 P T (.box t x) ⟨env, L, nl, nt, G⟩ K)
    | .store t a x => opdK env a fun p => opdK env x fun v => preK L p v ⟨env, L, nl, nt, G⟩ fun c1 => evOp0 P T (.store t a x) c1 K
    | .mapUpdate t m k x => opdK env x fun v => preK L (.mp 0) v ⟨env, L, nl, nt, G⟩ fun c1 => evOp0 P T (.mapUpdate t m k x) c1 K
    | .makeMap t none => (match (T t).desc with
      | .map kt _ => (match (T kt).desc with
        | .string => ∀ b, G b = none → K (.mp b) ⟨env, L, nl, nt, setG G b (.map none [])⟩
        | .int q => ∀ b, G b = none → K (.mp b) ⟨env, L, nl, nt, setG G b (.map (some q) [])⟩
        | _ => False)
      | _ => False)
    | o => evOp0 P T o ⟨env, L, nl, nt, G⟩ K
def putE (dst : Option Tmp) (v : AV) (c : Cf) (K : Cf → Prop) : Prop :=
  match c with
  | ⟨env, L, nl, nt, G⟩ => match dst with
    | some d => setK d v env fun env' => K ⟨env', L, nl, nt, G⟩
    | none => K ⟨env, L, nl, nt, G⟩
/-- a guard: what it hangs on may itself have been passed over -/
def guardK (v : AV) (want : Bool) (go skip : Prop) : Prop :=
  match v with
  | .bool b => (match want with
    | true => BS b go skip
    | false => BS b skip go)
  | .tup [] => skip
  | _ => False
theorem guardK_is {v : AV} {want : Bool} {go skip : Prop} (h : guardK v want go skip) : (∃ b, v = .bool b ∧ ((b = want ∧ go) ∨ (b ≠ want ∧ skip))) ∨ (v = .tup [] ∧ skip) := by
  unfold guardK at h
  split at h
  · rename_i b
    refine .inl ⟨b, rfl, ?_⟩
    cases b <;> cases want <;> first | exact .inl ⟨rfl, h⟩ | exact .inr ⟨by decide, h⟩
  · exact .inr ⟨rfl, h⟩
  · exact h.elim
/-- operations, one behind the other -/
def evOps (all : List Oper) : List Oper → Cf → (Cf → Prop) → Prop
  | [], c, K => K c
  | ⟨dst, op, _, _, _, g⟩ :: r, c, K => match g with
    | none => evOp P T op c fun v c' => putE dst v c' fun c'' => evOps all r c'' K
    | some (j, want) => nthK j all fun oj => match oj.dst with
      | some d => nthK d c.env fun v => guardK v want (evOp P T op c fun v c' => putE dst v c' fun c'' => evOps all r c'' K) (putE dst (.tup []) c fun c'' => evOps all r c'' K)
      | none => False

inductive Ex where
  | normal
  | exit (id : Nat)
  | ret

/-- a call's state in memory -/
structure St (T : TypeId → TR) (g : Gh) (w : World) (a : Act) (c : Cf) : Prop where
  rel : Rel T g c.L c.nl c.nt c.G w
  size : a.tmps.size = c.env.length
  vals : ∀ (i : Nat) (v : AV), c.env[i]? = some v → Cz T g w v (a.tmps.getD i undef)
  defers : a.defers = []
/-- what is known by c' is known by c -/
structure Weak (c' c : Cf) : Prop where
  weak : ∀ (g : Gh) (a : Act) (w : World), St T g w a c → ∃ g', St T g' w a c' ∧ Ext g w g' w
/-- a region that draws its order -/
structure DrawOk (ops : Array Oper) (c : Cf) (K : Cf → Prop) : Prop where
  draw : ∀ (g : Gh) (a : Act) (w : World), St T g w a c → ∀ (id : Nat) (Q : Exit → Act → World → Prop), (∀ g' w' a' c', K c' → St T g' w' a' c' → Ext g w g' w' → Q .normal a' w') → (Code.region id ops true).wp P Q a w

def wpC : Code → Cf → (Ex → Cf → Prop) → Prop
  | .skip, c, Q => Q .normal c
  | .region _ ops draw, c, Q => match draw with
    | true => DrawOk P T ops c (Q .normal)
    | false => evOps P T ops.toList ops.toList c (Q .normal)
  | .seq a b, c, Q => wpC a c fun e c' => match e with
    | .normal => wpC b c' Q
    | e => Q e c'
  | .cond x a b, c, Q => opdK c.env x fun
    | .bool t => BS t (wpC a c Q) (wpC b c Q)
    | _ => False
  | .block id b, c, Q => wpC b c fun e c' => match e with
    | .exit i => (match decide (i = id) with
      | true => Q .normal c'
      | false => Q (.exit i) c')
    | e => Q e c'
  | .loop b, c, Q => ∃ (ι : Type) (I : ι → Cf) (μ : ι → Nat) (i0 : ι), Weak T (I i0) c ∧ ∀ i, wpC b (I i) fun e c' => match e with
    | .normal => ∃ i', μ i' < μ i ∧ Weak T (I i') c'
    | e => Q e c'
  | .exit id, c, Q => Q (.exit id) c
  | .ret, c, Q => Q .ret c
  | .label _, c, Q => Q .normal c
  | _, _, _ => False

/-- results -/
def ressK (c : Cf) : List ResultVar → (List AV → Prop) → Prop
  | [], K => K []
  | .tmp t :: r, K => nthK t c.env fun v => ressK c r fun l => K (v :: l)
  | .cell a t :: r, K => nthK a c.env fun p => boxK c.L c.G p fun cells o => subK T t cells o fun v => ressK c r fun l => K (v :: l)
def resK (c : Cf) (rs : List ResultVar) (K : AV → Prop) : Prop :=
  ressK T c rs fun l => match l with
    | [v] => K v
    | l => K (.tup l)
def lend2K (v : AV) (c : Cf) (K : AV → Cf → Prop) : Prop :=
  match v with
  | .tup vs => lend1sK vs c fun l c' => K (.tup l) c'
  | v => lend1K v c K
/-- what stands in place of shared boxes is put back -/
def backK : Nat → Nat → Cf → (Cf → Prop) → Prop
  | 0, _, c, K => K c
  | n + 1, j, c, K => nthK j c.L fun
    | .live (some _) _ => lendK j c fun _ c' => backK n (j + 1) c' K
    | _ => backK n (j + 1) c K
def finK (rs : List ResultVar) (Q : AV → Glob → Prop) (c : Cf) : Prop :=
  resK T c rs fun v => lend2K v c fun v' c' => backK c'.nl 0 c' fun c'' => ∃ G'', (∀ b x, G'' b = some x → c''.G b = some x) ∧ Q v' G''
def topsK : Nat → (List AV → Prop) → Prop
  | 0, K => K []
  | n + 1, K => topsK n fun l => K (.top :: l)
def catK : List AV → List AV → (List AV → Prop) → Prop
  | [], l, K => K l
  | v :: r, l, K => catK r l fun l' => K (v :: l')
/-- a function's body, from its arguments on -/
def bodyK (ntmps : Nat) (rs : List ResultVar) (body : Code) (args : List AV) (G : Glob) (Q : AV → Glob → Prop) : Prop :=
  topsK (ntmps - args.length) fun tops => catK args tops fun env => wpC P T body ⟨env, [], 0, 0, G⟩ fun e c => match e with
    | .exit _ => False
    | _ => finK T rs Q c
end
end Go.Proofs.YtpihanlillbhkaaGreatDoor
end

section
/- What lasts of values in memory, and what each of the computing words says. -/
namespace Go.Proofs.YtpihanlillbhkaaGreatDoor
open Go Go.RowKit

theorem addr_add (b o j : Nat) : (⟨b, o, none⟩ : Addr).add j = ⟨b, o + j, none⟩ := by unfold Addr.add; split <;> simp_all

structure Dx (g : Gh) (w : World) (g' : Gh) (w' : World) : Prop where
  cell : ∀ k i u, g.frz k i → w.cell? ⟨k, i, none⟩ = some u → g'.frz k i ∧ w'.cell? ⟨k, i, none⟩ = some u
  nb : g.nb ≤ g'.nb
  beta : ∀ b, b < g.nb → g'.beta b = g.beta b
theorem Ext.dx {g g' : Gh} {w w' : World} (h : Ext g w g' w') : Dx g w g' w' := ⟨h.cell, h.nb, h.beta⟩
theorem Dx.refl (g : Gh) (w : World) : Dx g w g w := ⟨fun _ _ _ h1 h2 => ⟨h1, h2⟩, Nat.le_refl _, fun _ _ => rfl⟩
theorem Dx.trans {a b c : Gh} {u v w : World} (h : Dx a u b v) (k : Dx b v c w) : Dx a u c w :=
  ⟨fun i j x h1 h2 => let ⟨h3, h4⟩ := h.cell i j x h1 h2; k.cell i j x h3 h4, Nat.le_trans h.nb k.nb, fun i hi => (k.beta i (Nat.lt_of_lt_of_le hi h.nb)).trans (h.beta i hi)⟩
theorem Ext.refl (g : Gh) (w : World) : Ext g w g w := ⟨fun _ _ _ h1 h2 => ⟨h1, h2⟩, Nat.le_refl _, fun _ _ => rfl, fun _ _ _ => ⟨rfl, rfl⟩, Nat.le_refl _, rfl, rfl, rfl⟩
theorem Ext.trans {a b c : Gh} {u v w : World} (h : Ext a u b v) (k : Ext b v c w) : Ext a u c w := by
  have hd := h.dx.trans k.dx
  refine ⟨hd.cell, hd.nb, hd.beta, fun i hi hk => ?_, Nat.le_trans h.size k.size, k.os.trans h.os, k.tape.trans h.tape, k.output.trans h.output⟩
  obtain ⟨h1, h2⟩ := h.kept i hi hk
  obtain ⟨h3, h4⟩ := k.kept i (Nat.lt_of_lt_of_le hi h.size) (by rw [h1]; exact hk)
  exact ⟨h3.trans h1, h4.trans h2⟩

section
variable {T : TypeId → TR} {g g' : Gh} {w w' : World}
theorem Dz.mono {v : AV} {u : Value} (h : Dz T g w v u) (x : Dx g w g' w') : Dz T g' w' v u := by
  induction h with
  | top u h => exact .top u h
  | int k n => exact .int k n
  | bool b => exact .bool b
  | str s => exact .str s
  | agg cs us hl h1 h ih => exact .agg cs us hl h1 ih
  | tup cs us hl h ih => exact .tup cs us hl ih
  | nils => exact .nils
  | slc e els p cap F hc hm hs hp hd ih =>
    refine .slc e els p cap F hc hm hs (fun h0 => ?_) ih
    obtain ⟨b, off, rfl, h⟩ := hp h0
    refine ⟨b, off, rfl, fun i cells hi j hj => ?_⟩
    obtain ⟨h1, h2, h3⟩ := h i cells hi j hj
    exact ⟨(x.cell _ _ _ h1 h2).1, (x.cell _ _ _ h1 h2).2, h3⟩
  | eref cells off b o F hp hd ih =>
    refine .eref cells off b o F (fun j hj => ?_) ih
    obtain ⟨h1, h2, h3⟩ := hp j hj
    exact ⟨(x.cell _ _ _ h1 h2).1, (x.cell _ _ _ h1 h2).2, h3⟩
  | gptr b off hb => rw [← x.beta b hb]; exact .gptr b off (Nat.lt_of_lt_of_le hb x.nb)
  | nilp => exact .nilp
  | fn f a b us vs ha hb h1 h2 ih1 ih2 => exact .fn f a b us vs ha hb ih1 ih2
  | nilf => exact .nilf
  | ifc t v u h ih => exact .ifc t v u ih
  | nili => exact .nili
  | nilm => exact .nilm
  | mp b hb => rw [← x.beta b hb]; exact .mp b (Nat.lt_of_lt_of_le hb x.nb)

theorem OwnAt.mono {o : Nat → Own} {kopt : Option Nat} {e : TypeId} {els : List (List AV)} {u : Value} (h : OwnAt T g w o kopt e els u) (x : Dx g w g' w')
    (hk : ∀ k, kopt = some k → g'.own k = g.own k ∧ w'.heap[k]? = w.heap[k]?) : OwnAt T g' w' o kopt e els u := by
  obtain ⟨xs, h1, h2, h3, h4, h5⟩ := h
  refine ⟨xs, ?_, h2, fun k he => by rw [(hk k he).1]; exact h3 k he, h4, fun i cells hi j y hj => ?_⟩
  · refine ⟨h1.1, ?_⟩
    rcases h1.2 with h | ⟨b, cap, cur, rfl, hb, hg, r⟩
    · exact .inl h
    · refine .inr ⟨b, cap, cur, rfl, hb, ?_, r⟩
      rw [(hk b (by rw [← h2]; rfl)).2]; exact hg
  · obtain ⟨z, h6, h7, h8⟩ := h5 i cells hi j y hj
    exact ⟨z, h6, h7, h8.mono x⟩

theorem OwnAt.lt {o : Nat → Own} {k : Nat} {e : TypeId} {els : List (List AV)} {u : Value} (h : OwnAt T g w o (some k) e els u) : k < w.heap.size := by
  obtain ⟨xs, h1, h2, _⟩ := h
  exact (h1.lt k h2).2
/-- what goes on within a call -/
structure Cx (S : Nat → Prop) (g : Gh) (w : World) (g' : Gh) (w' : World) : Prop where
  dx : Dx g w g' w'
  nl : g.nl ≤ g'.nl
  lam : ∀ j, j < g.nl → g'.lam j = g.lam j
  nt : g.nt ≤ g'.nt
  tok : ∀ j, j < g.nt → ¬ S j → g'.tau j = g.tau j ∧ ∀ k n, g.tau j = some k → g.own k = .tok j n → k < w.heap.size → g'.own k = g.own k ∧ w'.heap[k]? = w.heap[k]?
theorem Cz.mono {v : AV} {u : Value} (h : Cz T g w v u) (x : Cx (fun _ => False) g w g' w') : Cz T g' w' v u := by
  induction h with
  | dz v u h => exact .dz v u (h.mono x.dx)
  | any u => exact .any u
  | own j e els u hj h =>
    obtain ⟨h1, h2⟩ := x.tok j hj (fun h => h)
    refine .own j e els u (Nat.lt_of_lt_of_le hj x.nt) ?_
    rw [h1]
    exact h.mono x.dx (fun k hk => let ⟨_, _, _, h4, _⟩ := h; h2 k _ hk (h4 k hk) (by rw [hk] at h; exact h.lt))
  | lptr j off hj => rw [← x.lam j hj]; exact .lptr j off (Nat.lt_of_lt_of_le hj x.nl)
  | agg cs us hl h1 h ih => exact .agg cs us hl h1 ih
  | tup cs us hl h ih => exact .tup cs us hl ih
  | fn f a b us vs ha hb h1 h2 ih1 ih2 => exact .fn f a b us vs ha hb ih1 ih2
  | ifc t v u h ih => exact .ifc t v u ih

/-- a row of the call's own is data too -/
theorem OwnAt.slc {o : Nat → Own} {kopt : Option Nat} {e : TypeId} {els : List (List AV)} {u : Value} (h : OwnAt T g w o kopt e els u) (ho : ∀ n i, i < n → (o n).lim i) : Dz T g w (.slc e els) u := by
  obtain ⟨xs, h1, h2, h3, h4, h5⟩ := h
  have hx : ∀ (i : Nat) (cells : List AV), els[i]? = some cells → ∀ j, j < (T e).cells → ∃ y, xs[i * (T e).cells + j]? = some y ∧ y.oneCell' = true := by
    intro i cells hi j hj
    have hl := h4 cells (List.mem_of_getElem? hi)
    obtain ⟨y, h6, h7, _⟩ := h5 i cells hi j cells[j] (List.getElem?_eq_getElem (by omega))
    exact ⟨y, h6, h7⟩
  obtain ⟨hlen, ⟨rfl, h0⟩ | ⟨b, cap, cur, rfl, hb, hg, hc, hm, hcs, htk⟩⟩ := h1
  · have : els = [] := List.eq_nil_of_length_eq_zero h0
    subst this
    exact .slc e [] none 0 (fun _ _ => undef) (Nat.le_refl _) (by decide) (fun _ h => by cases h) (fun h => by simp at h) (fun i cells h => by simp at h)
  · have hk := h3 b (by rw [← h2]; rfl)
    have hown : w.ownsRow 0 e (T e).cells (.slice (some ⟨b, 0, none⟩) els.length cap) els.length xs := ⟨hlen, .inr ⟨b, cap, cur, rfl, hb, hg, hc, hm, hcs, htk⟩⟩
    refine .slc e els _ cap (fun i j => xs.getD (i * (T e).cells + j) undef) hc hm h4 (fun h0 => ⟨b, 0, rfl, fun i cells hi j hj => ?_⟩) (fun i cells hi j x hj => ?_)
    · obtain ⟨y, h6, h7⟩ := hx i cells hi j hj
      have h8 := hown.cells (g := b) rfl _ _ h6
      rw [addr_add] at h8
      refine ⟨?_, ?_, ?_⟩
      · unfold Gh.frz
        rw [hk]
        apply ho
        have hi2 := (List.getElem?_eq_some_iff.1 hi).1
        rw [Nat.zero_add]
        calc i * (T e).cells + j < i * (T e).cells + (T e).cells := by omega
          _ = (i + 1) * (T e).cells := by rw [Nat.add_mul, Nat.one_mul]
          _ ≤ els.length * (T e).cells := Nat.mul_le_mul_right _ hi2
      · rw [h8]; simp [List.getD, h6]
      · simp [List.getD, h6, h7]
    · obtain ⟨y, h6, _, h8⟩ := h5 i cells hi j x hj
      simpa [List.getD, h6] using h8
end

/-- the temporaries -/
structure EnvR (T : TypeId → TR) (g : Gh) (w : World) (env : List AV) (a : Act) : Prop where
  size : a.tmps.size = env.length
  vals : ∀ (i : Nat) (v : AV), env[i]? = some v → Cz T g w v (a.tmps.getD i undef)
  defers : a.defers = []
/-- the table of types is the program's -/
def TOk (P : Program) (T : TypeId → TR) : Prop := ∀ t, kindD (T t).desc ≠ none → P.underlying t = some (T t).desc ∧ ∃ i, P.info? t = some i ∧ i.size = (T t).cells ∧ i.bytes = (T t).bytes ∧ i.zero = some (T t).zero ∧ (T t).zero.cells.size = (T t).cells ∧ ((T t).eqok = true → P.stoodInHeld t = false ∧ P.eqGuardType P.depth t = false)

/-- the words that compute -/
theorem nthK_iff {α : Type} {K : α → Prop} : ∀ (n : Nat) (l : List α), nthK n l K ↔ ∃ v, l[n]? = some v ∧ K v
  | _, [] => by simp [nthK]
  | 0, v :: r => by simp [nthK]
  | n + 1, v :: r => by simp [nthK, nthK_iff n r]
theorem dropK_iff {α : Type} {K : List α → Prop} : ∀ (n : Nat) (l : List α), dropK n l K ↔ n ≤ l.length ∧ K (l.drop n)
  | 0, l => by simp [dropK]
  | n + 1, [] => by simp [dropK]
  | n + 1, v :: r => by simp [dropK, dropK_iff n r]
theorem takeK_iff {α : Type} : ∀ (n : Nat) (l : List α) (K : List α → Prop), takeK n l K ↔ n ≤ l.length ∧ K (l.take n)
  | 0, l, K => by simp [takeK]
  | n + 1, [], K => by simp [takeK]
  | n + 1, v :: r, K => by simp [takeK, takeK_iff n r]
theorem putsK_iff {α : Type} : ∀ (n : Nat) (xs l : List α) (K : List α → Prop), putsK n xs l K ↔ n + xs.length ≤ l.length ∧ K (l.take n ++ xs ++ l.drop (n + xs.length))
  | 0, [], l, K => by simp [putsK]
  | 0, x :: xs, [], K => by simp [putsK]
  | 0, x :: xs, v :: r, K => by simp [putsK, putsK_iff 0 xs r]
  | n + 1, [], [], K => by simp [putsK]
  | n + 1, x :: xs, [], K => by simp [putsK]
  | n + 1, xs, v :: r, K => by
    simp only [putsK, putsK_iff n xs r, List.length_cons, List.take_succ_cons, List.cons_append]
    rw [show n + 1 + xs.length = (n + xs.length) + 1 by omega, List.drop_succ_cons]
    simp
theorem snocK_iff {α : Type} : ∀ (l : List α) (x : α) (K : List α → Prop), snocK l x K ↔ K (l ++ [x])
  | [], x, K => by simp [snocK]
  | v :: r, x, K => by simp [snocK, snocK_iff r]
theorem setK_iff {α : Type} : ∀ (n : Nat) (x : α) (l : List α) (K : List α → Prop), setK n x l K ↔ n < l.length ∧ K (l.set n x)
  | 0, x, [], K => by simp [setK]
  | n + 1, x, [], K => by simp [setK]
  | 0, x, v :: r, K => by simp [setK]
  | n + 1, x, v :: r, K => by simp [setK, setK_iff n x r]
end Go.Proofs.YtpihanlillbhkaaGreatDoor
end

section
/- What an operand, a load, a place say of memory. -/
namespace Go.Proofs.YtpihanlillbhkaaGreatDoor
open Go Go.RowKit

section
variable {P : Program} {T : TypeId → TR} {g : Gh} {w : World}

theorem ofV1_is (v : Value) : ∃ x, (∀ K : AV → Prop, ofV1K v K ↔ K x) ∧ (v.oneCell' = true → Dz T g w x v) ∧ Cz T g w x v := by
  have top : (∀ K : AV → Prop, ofV1K v K ↔ K .top) → ∃ x, (∀ K : AV → Prop, ofV1K v K ↔ K x) ∧ (v.oneCell' = true → Dz T g w x v) ∧ Cz T g w x v := fun h => ⟨.top, h, fun h1 => .top v h1, .any v⟩
  have dz : ∀ x, (∀ K : AV → Prop, ofV1K v K ↔ K x) → Dz T g w x v → ∃ x, (∀ K : AV → Prop, ofV1K v K ↔ K x) ∧ (v.oneCell' = true → Dz T g w x v) ∧ Cz T g w x v := fun x h1 h2 => ⟨x, h1, fun _ => h2, .dz x v h2⟩
  cases v with
  | bool b => exact dz _ (fun K => Iff.rfl) (.bool b)
  | int k n => exact dz _ (fun K => Iff.rfl) (.int k n)
  | string s => exact dz _ (fun K => Iff.rfl) (.str s)
  | pointer a => cases a with
    | none => exact dz _ (fun K => Iff.rfl) .nilp
    | some a => exact top (fun K => Iff.rfl)
  | slice a n c => cases a with
    | none => cases n with
      | zero => cases c with
        | zero => exact dz _ (fun K => Iff.rfl) .nils
        | succ c => exact top (fun K => Iff.rfl)
      | succ n => exact top (fun K => Iff.rfl)
    | some a => exact top (fun K => by cases n <;> cases c <;> exact Iff.rfl)
  | nilFunc => exact dz _ (fun K => Iff.rfl) .nilf
  | nilIface => exact dz _ (fun K => Iff.rfl) .nili
  | map r => cases r with
    | none => exact dz _ (fun K => Iff.rfl) .nilm
    | some r => exact top (fun K => Iff.rfl)
  | float k b => exact top (fun K => Iff.rfl)
  | complex k a b => exact top (fun K => Iff.rfl)
  | chan r => exact top (fun K => Iff.rfl)
  | func f a b => exact top (fun K => Iff.rfl)
  | iface t v => exact top (fun K => Iff.rfl)
  | agg cs => exact top (fun K => Iff.rfl)
  | tuple vs => exact top (fun K => Iff.rfl)
theorem ofVs_is : ∀ (vs : List Value) (K : List AV → Prop), ofVsK vs K → ∃ l, K l ∧ (∀ K' : List AV → Prop, K' l → ofVsK vs K') ∧ l.length = vs.length ∧ (∀ u ∈ vs, u.oneCell' = true) ∧ ∀ (i : Nat) (c : AV) (u : Value), l[i]? = some c → vs[i]? = some u → Dz T g w c u
  | [], K, h => ⟨[], h, fun _ h => h, rfl, (fun _ h => by cases h), (fun i c u h => by simp at h)⟩
  | v :: r, K, h => by
    have hone : v.oneCell' = true := by cases v <;> first | rfl | exact h.elim
    have h' : ofV1K v fun x => ofVsK r fun l => K (x :: l) := by cases v <;> first | exact h | exact h.elim
    have hb : ∀ K' : List AV → Prop, (ofV1K v fun x => ofVsK r fun l => K' (x :: l)) → ofVsK (v :: r) K' := by
      intro K' h2; cases v <;> first | exact h2 | (simp [Value.oneCell'] at hone)
    obtain ⟨x, hx, hd, _⟩ := ofV1_is (T := T) (g := g) (w := w) v
    rw [hx] at h'
    obtain ⟨l, h1, h2, h3, h4, h5⟩ := ofVs_is r _ h'
    refine ⟨x :: l, h1, fun K' hK => hb K' ((hx _).2 (h2 _ hK)), by simp [h3], fun u hu => ?_, fun i c u hc hu => ?_⟩
    · rcases List.mem_cons.1 hu with rfl | hu
      · exact hone
      · exact h4 u hu
    · cases i with
      | zero => simp at hc hu; subst hc; subst hu; exact hd hone
      | succ i => simp at hc hu; exact h5 i c u hc hu
theorem ofV_sound (v : Value) (K : AV → Prop) (h : ofVK v K) : ∃ x, K x ∧ Cz T g w x v ∧ ∀ K' : AV → Prop, K' x → ofVK v K' := by
  have gen : (∀ K : AV → Prop, ofVK v K ↔ ofV1K v K) → ∃ x, K x ∧ Cz T g w x v ∧ ∀ K' : AV → Prop, K' x → ofVK v K' := fun h0 => by
    obtain ⟨x, hx, _, hc⟩ := ofV1_is (T := T) (g := g) (w := w) v
    exact ⟨x, (hx K).1 ((h0 K).1 h), hc, fun K' hK => (h0 K').2 ((hx K').2 hK)⟩
  cases v with
  | agg cs =>
    obtain ⟨l, h1, h2, h3, h4, h5⟩ := ofVs_is (T := T) (g := g) (w := w) cs.toList _ h
    refine ⟨.agg l, h1, .dz _ _ (.agg l cs (by simpa using h3) (fun u hu => h4 u (by simpa using hu)) (fun i c u hc hu => h5 i c u hc (by simpa using hu))), fun K' hK => h2 _ hK⟩
  | _ => exact gen (fun K => Iff.rfl)
theorem opd_sound {env : List AV} {a : Act} (he : EnvR T g w env a) (x : Operand) (K : AV → Prop) (h : opdK env x K) : ∃ v, K v ∧ Cz T g w v (a.eval x) ∧ ∀ K' : AV → Prop, K' v → opdK env x K' := by
  cases x with
  | tmp t =>
    obtain ⟨v, h1, h2⟩ := (nthK_iff _ _).1 h
    exact ⟨v, h2, he.vals t v h1, fun K' hK => (nthK_iff _ _).2 ⟨v, h1, hK⟩⟩
  | const v => exact ofV_sound v K h
  | global b => exact ⟨.top, h, .any _, fun _ h => h⟩
  | func f => exact ⟨_, h, .dz _ _ (.fn _ [] [] #[] #[] rfl rfl (fun i c u h => by simp at h) (fun i c u h => by simp at h)), fun _ h => h⟩

theorem opds_sound {env : List AV} {a : Act} (he : EnvR T g w env a) : ∀ (l : List Operand) (K : List AV → Prop), opdsK env l K → ∃ vs, K vs ∧ (∀ K' : List AV → Prop, K' vs → opdsK env l K') ∧ vs.length = l.length ∧
    ∀ (i : Nat) (v : AV) (x : Operand), vs[i]? = some v → l[i]? = some x → Cz T g w v (a.eval x)
  | [], K, h => ⟨[], h, fun _ h => h, rfl, fun i v x h => by simp at h⟩
  | x :: r, K, h => by
    obtain ⟨v, h1, h2, h3⟩ := opd_sound he x _ h
    obtain ⟨vs, h4, h5, h6, h7⟩ := opds_sound he r _ h1
    refine ⟨v :: vs, h4, fun K' hK => h3 _ (h5 _ hK), by simp [h6], fun i c y hc hy => ?_⟩
    cases i with
    | zero => simp at hc hy; subst hc; subst hy; exact h2
    | succ i => simp at hc hy; exact h7 i c y hc hy
theorem oopd_sound {env : List AV} {a : Act} (he : EnvR T g w env a) (x : Option Operand) (K : Option AV → Prop) (h : oopdK env x K) : ∃ v, K v ∧ (∀ K' : Option AV → Prop, K' v → oopdK env x K') ∧
    ((x = none ∧ v = none) ∨ ∃ y c, x = some y ∧ v = some c ∧ Cz T g w c (a.eval y)) := by
  cases x with
  | none => exact ⟨none, h, fun _ h => h, .inl ⟨rfl, rfl⟩⟩
  | some y =>
    obtain ⟨v, h1, h2, h3⟩ := opd_sound he y _ h
    exact ⟨some v, h1, fun K' hK => h3 _ hK, .inr ⟨y, v, rfl, rfl, h2⟩⟩

/-- values of a shape -/
theorem cz_int {k : IntKind} {n : Int} {u : Value} (h : Cz T g w (.int k n) u) : u = .int k n := by cases h with | dz _ _ h => cases h; rfl
theorem cz_bool {b : Bool} {u : Value} (h : Cz T g w (.bool b) u) : u = .bool b := by cases h with | dz _ _ h => cases h; rfl
theorem cz_str {s : ByteArray} {u : Value} (h : Cz T g w (.str s) u) : u = .string s := by cases h with | dz _ _ h => cases h; rfl
theorem cz_nilp {u : Value} (h : Cz T g w .nilp u) : u = .pointer none := by cases h with | dz _ _ h => cases h; rfl
theorem cz_nilf {u : Value} (h : Cz T g w .nilf u) : u = .nilFunc := by cases h with | dz _ _ h => cases h; rfl
theorem cz_nili {u : Value} (h : Cz T g w .nili u) : u = .nilIface := by cases h with | dz _ _ h => cases h; rfl
theorem cz_nilm {u : Value} (h : Cz T g w .nilm u) : u = .map none := by cases h with | dz _ _ h => cases h; rfl
theorem cz_nils {u : Value} (h : Cz T g w .nils u) : u = .slice none 0 0 := by cases h with | dz _ _ h => cases h; rfl
theorem cz_mp {b : Nat} {u : Value} (h : Cz T g w (.mp b) u) : b < g.nb ∧ u = .map (some (g.beta b)) := by cases h with | dz _ _ h => cases h with | mp _ hb => exact ⟨hb, rfl⟩
theorem cz_gptr {b o : Nat} {u : Value} (h : Cz T g w (.gptr b o) u) : b < g.nb ∧ u = .pointer (some ⟨g.beta b, o, none⟩) := by cases h with | dz _ _ h => cases h with | gptr _ _ hb => exact ⟨hb, rfl⟩
theorem cz_lptr {j o : Nat} {u : Value} (h : Cz T g w (.lptr j o) u) : j < g.nl ∧ u = .pointer (some ⟨g.lam j, o, none⟩) := by
  cases h with
  | dz _ _ h => cases h
  | lptr _ _ hj => exact ⟨hj, rfl⟩
theorem cz_slc {e : TypeId} {els : List (List AV)} {u : Value} (h : Cz T g w (.slc e els) u) : Dz T g w (.slc e els) u := by cases h with | dz _ _ h => exact h
theorem cz_own {j : Nat} {e : TypeId} {els : List (List AV)} {u : Value} (h : Cz T g w (.own j e els) u) : j < g.nt ∧ OwnAt T g w (.tok j) (g.tau j) e els u := by
  cases h with
  | dz _ _ h => cases h
  | own _ _ _ _ hj h => exact ⟨hj, h⟩
theorem cz_agg {cs : List AV} {u : Value} (h : Cz T g w (.agg cs) u) : ∃ us : Array Value, u = .agg us ∧ cs.length = us.size ∧ (∀ u ∈ us, u.oneCell' = true) ∧ ∀ (i : Nat) (c : AV) (u : Value), cs[i]? = some c → us[i]? = some u → Cz T g w c u := by
  cases h with
  | dz _ _ h => cases h with | agg _ us hl h1 h => exact ⟨us, rfl, hl, h1, fun i c u hc hu => .dz _ _ (h i c u hc hu)⟩
  | agg _ us hl h1 h => exact ⟨us, rfl, hl, h1, h⟩
theorem cz_tup {cs : List AV} {u : Value} (h : Cz T g w (.tup cs) u) : ∃ us : Array Value, u = .tuple us ∧ cs.length = us.size ∧ ∀ (i : Nat) (c : AV) (u : Value), cs[i]? = some c → us[i]? = some u → Cz T g w c u := by
  cases h with
  | dz _ _ h => cases h with | tup _ us hl h => exact ⟨us, rfl, hl, fun i c u hc hu => .dz _ _ (h i c u hc hu)⟩
  | tup _ us hl h => exact ⟨us, rfl, hl, h⟩
theorem cz_fn {f : Fn} {x y : List AV} {u : Value} (h : Cz T g w (.fn f x y) u) : ∃ us vs : Array Value, u = .func f us vs ∧ x.length = us.size ∧ y.length = vs.size ∧
    (∀ (i : Nat) (c : AV) (u : Value), x[i]? = some c → us[i]? = some u → Cz T g w c u) ∧ ∀ (i : Nat) (c : AV) (u : Value), y[i]? = some c → vs[i]? = some u → Cz T g w c u := by
  cases h with
  | dz _ _ h => cases h with | fn _ _ _ us vs ha hb h1 h2 => exact ⟨us, vs, rfl, ha, hb, fun i c u hc hu => .dz _ _ (h1 i c u hc hu), fun i c u hc hu => .dz _ _ (h2 i c u hc hu)⟩
  | fn _ _ _ us vs ha hb h1 h2 => exact ⟨us, vs, rfl, ha, hb, h1, h2⟩
theorem cz_ifc {t : TypeId} {v : AV} {u : Value} (h : Cz T g w (.ifc t v) u) : ∃ x, u = .iface t x ∧ Cz T g w v x := by
  cases h with
  | dz _ _ h => cases h with | ifc _ _ u h => exact ⟨u, rfl, .dz _ _ h⟩
  | ifc _ _ u h => exact ⟨u, rfl, h⟩

/-- a value points to a place within cells that can be read -/
def ReadAt (T : TypeId → TR) (g : Gh) (w : World) (cells : List AV) (o : Nat) (u : Value) : Prop :=
  ∃ (k base : Nat) (F : Nat → Value), u = .pointer (some ⟨k, base + o, none⟩) ∧ ∀ (j : Nat) (x : AV), cells[j]? = some x → w.cell? ⟨k, base + j, none⟩ = some (F j) ∧ (F j).oneCell' = true ∧ Cz T g w x (F j)
theorem CellsAt.read {R : AV → Value → Prop} {k : Nat} {cells : List AV} (h : CellsAt w k R cells) (hR : ∀ c u, R c u → Cz T g w c u) (o : Nat) : ReadAt T g w cells o (.pointer (some ⟨k, o, none⟩)) := by
  obtain ⟨us, e, h1, h2, h3, h4⟩ := h
  refine ⟨k, 0, fun j => us.getD j undef, by simp, fun j x hj => ?_⟩
  have hl := (List.getElem?_eq_some_iff.1 hj).1
  have hu : us[j]? = some us[j] := Array.getElem?_eq_getElem (by omega)
  rw [Nat.zero_add, blk_cell h1, hu]
  refine ⟨by simp [Array.getD, show j < us.size by omega], ?_, ?_⟩
  · simp [Array.getD, show j < us.size by omega]; exact h3 _ (Array.getElem_mem _)
  · simp [Array.getD, show j < us.size by omega]; exact hR _ _ (h4 j x _ hj hu)
def OfCells (bx : GB) (cells : List AV) : Prop := bx = .cells cells ∨ (∃ gs, bx = .box cells gs) ∨ ∃ t s x, bx = .obld t s x ∧ cells = [.top, .top, x]
theorem cellsK_is {bx : GB} {K : List AV → Prop} (h : cellsK bx K) : ∃ cells, K cells ∧ OfCells bx cells ∧ ∀ K' : List AV → Prop, K' cells → cellsK bx K' := by
  cases bx with
  | cells cs => exact ⟨cs, h, .inl rfl, fun _ h => h⟩
  | box cs gs => exact ⟨cs, h, .inr (.inl ⟨gs, rfl⟩), fun _ h => h⟩
  | bld s => exact h.elim
  | map kd m => exact h.elim
  | cmap n m => exact h.elim
  | pin k o => exact h.elim
  | obld t s x => exact ⟨_, h, .inr (.inr ⟨t, s, x, rfl, rfl⟩), fun _ h => h⟩
theorem BoxAt.cellsAt {b : Nat} {bx : GB} {cells : List AV} (h : BoxAt T g w b bx) (hc : OfCells bx cells) : CellsAt w (g.beta b) (Dz T g w) cells := by
  rcases hc with rfl | ⟨gs, rfl⟩ | ⟨t, s, x, rfl, rfl⟩
  · exact h
  · obtain ⟨us, e, h1, h2, h3, h4, _⟩ := h
    exact ⟨us, e, h1, h2, h3, h4⟩
  · obtain ⟨e, p, v, u, h0, h1, h2, h3, _, _, _, h7, h8⟩ := h
    have hp : p.oneCell' = true := by rcases h2 with rfl | rfl <;> rfl
    have hv : v.oneCell' = true := by rcases h3.2 with ⟨rfl, _⟩ | ⟨_, _, _, rfl, _⟩ <;> rfl
    refine ⟨_, _, h1, rfl, fun y hy => ?_, fun i c y hc hy => ?_⟩
    · simp at hy
      rcases hy with rfl | rfl | rfl
      · exact hp
      · exact hv
      · exact h7
    · match i with
      | 0 => simp at hc hy; subst hc hy; exact .top _ hp
      | 1 => simp at hc hy; subst hc hy; exact .top _ hv
      | 2 => simp at hc hy; subst hc hy; exact h8
      | i + 3 => simp at hc
theorem box_sound {L : List LB} {nl nt : Nat} {G : Glob} (hr : Rel T g L nl nt G w) {p : AV} {u : Value} (hp : Cz T g w p u) (K : List AV → Nat → Prop) (h : boxK L G p K) :
    ∃ cells o, K cells o ∧ ReadAt T g w cells o u ∧ ∀ K' : List AV → Nat → Prop, K' cells o → boxK L G p K' := by
  have glob : ∀ b o bx cells, G b = some bx → OfCells bx cells → ReadAt T g w cells o (.pointer (some ⟨g.beta b, o, none⟩)) := by
    intro b o bx cells hG hc
    obtain ⟨_, _, hb⟩ := hr.glob b _ hG
    exact CellsAt.read (hb.cellsAt hc) (fun c u h => .dz _ _ h) o
  cases p with
  | lptr j o =>
    obtain ⟨bx, hj, h⟩ := (nthK_iff _ _).1 h
    obtain ⟨_, rfl⟩ := cz_lptr hp
    have hl := hr.loc j bx hj
    cases bx with
    | live org cells =>
      exact ⟨cells, o, h, CellsAt.read hl.2.1 (fun _ _ h => h) o, fun K' hK => (nthK_iff _ _).2 ⟨_, hj, hK⟩⟩
    | away b =>
      obtain ⟨bx, hG, h⟩ := h
      obtain ⟨cells, hK, hc, hb⟩ := cellsK_is h
      refine ⟨cells, o, hK, ?_, fun K' hK => (nthK_iff _ _).2 ⟨_, hj, bx, hG, hb _ hK⟩⟩
      rw [← hl.2]; exact glob b o bx cells hG hc
    | dead => exact h.elim
  | gptr b o =>
    obtain ⟨bx, hG, h⟩ := h
    obtain ⟨cells, hK, hc, hb⟩ := cellsK_is h
    obtain ⟨_, rfl⟩ := cz_gptr hp
    exact ⟨cells, o, hK, glob b o bx cells hG hc, fun K' hK => ⟨bx, hG, hb _ hK⟩⟩
  | eref cells o =>
    refine ⟨cells, o, h, ?_, fun _ h => h⟩
    cases hp with | dz _ _ hp => cases hp with | eref _ _ b off F hp hd => exact ⟨b, off, F, rfl, fun j x hj => ⟨(hp j (List.getElem?_eq_some_iff.1 hj).1).2.1, (hp j (List.getElem?_eq_some_iff.1 hj).1).2.2, .dz _ _ (hd j x hj)⟩⟩
  | _ => exact h.elim

theorem run_isAgg {t : TypeId} {d : TypeDesc} {b : Bool} (hu : P.underlying t = some d) (hk : kindD d = some b) : (isAgg t).run P w = .ok b w := by
  unfold isAgg
  rw [Sem.run_bind, run_underlying hu w]
  cases d <;> simp_all [kindD]
theorem sub_sound (TO : TOk P T) {cells : List AV} {o : Nat} {u : Value} (hR : ReadAt T g w cells o u) (t : TypeId) (K : AV → Prop) (h : subK T t cells o K) :
    ∃ v x ad, K v ∧ Cz T g w v x ∧ u = .pointer (some ad) ∧ (loadVar t ad).run P w = .ok x w ∧ ∀ K' : AV → Prop, K' v → subK T t cells o K' := by
  obtain ⟨k, base, F, rfl, hF⟩ := hR
  unfold subK at h
  cases hk : kindD (T t).desc with
  | none => rw [hk] at h; exact h.elim
  | some b =>
    obtain ⟨hu, i, hi, hs, _⟩ := TO t (by rw [hk]; simp)
    rw [hk] at h
    cases b with
    | true =>
      obtain ⟨h1, h2⟩ := (dropK_iff _ _).1 h
      obtain ⟨h3, h4⟩ := (takeK_iff _ _ _).1 h2
      simp only [List.length_drop] at h3
      have hcell : ∀ j, j < (T t).cells → w.cell? ⟨k, base + o + j, none⟩ = some (F (o + j)) := fun j hj => by
        have := hF (o + j) cells[o + j] (List.getElem?_eq_getElem (by omega))
        rw [Nat.add_assoc]; exact this.1
      have hload := run_loadCells (P := P) w ⟨k, base + o, none⟩ (T t).cells (fun j => F (o + j)) (fun j hj => by rw [addr_add]; exact hcell j hj)
      refine ⟨_, .agg ((List.range (T t).cells).map fun j => F (o + j)).toArray, _, h4, .agg _ _ (by simp; omega) ?_ ?_, rfl, ?_, fun K' hK => ?_⟩
      · intro u hu
        simp at hu
        obtain ⟨j, hj, rfl⟩ := hu
        exact (hF (o + j) cells[o + j] (List.getElem?_eq_getElem (by omega))).2.1
      · intro i c u hc hu
        have hil : i < (T t).cells := by
          have := (List.getElem?_eq_some_iff.1 hc).1
          simp at this; omega
        rw [List.getElem?_take_of_lt hil, List.getElem?_drop] at hc
        simp [hil] at hu
        subst hu
        exact (hF (o + i) c hc).2.2
      · simp only [loadVar, Sem.run_bind, run_isAgg hu hk, Result.andThen_ok, sizeOf, typeInfo, run_program, hi, Sem.run_pure, hs, hload, if_true]
      · unfold subK
        rw [hk]
        exact (dropK_iff _ _).2 ⟨h1, (takeK_iff _ _ _).2 ⟨by simp; omega, hK⟩⟩
    | false =>
      obtain ⟨v, hv, h⟩ := (nthK_iff _ _).1 h
      obtain ⟨h1, _, h3⟩ := hF o v hv
      refine ⟨v, F o, _, h, h3, rfl, ?_, fun K' hK => ?_⟩
      · simp [loadVar, Sem.run_bind, run_isAgg hu hk, h1]
      · unfold subK
        rw [hk]
        exact (nthK_iff _ _).2 ⟨v, hv, hK⟩
end
end Go.Proofs.YtpihanlillbhkaaGreatDoor
end

section
/- Operations that leave memory as it is: what each yields. -/
namespace Go.Proofs.YtpihanlillbhkaaGreatDoor
open Go Go.RowKit

section
variable {P : Program} {T : TypeId → TR} {g : Gh} {w : World}

theorem und (TO : TOk P T) {t : TypeId} {d : TypeDesc} (h : (T t).desc = d) (hk : kindD d ≠ none) : P.underlying t = some d := by
  have := (TO t (by rw [h]; exact hk)).1
  rw [h] at this; exact this
theorem guard_plain (op : BinOp) (t : TypeId) (x y : Operand) (u v : Value) (h : ∀ a b, u = .agg a → v = .agg b → False) (h2 : u = .nilIface → v = .nilIface → False) : (eqGuard op t x y u v).run P w = .ok () w := by
  unfold eqGuard
  cases op <;> first | rfl | (cases u <;> first | rfl | (cases v <;> first | rfl | exact (h _ _ rfl rfl).elim | exact (h2 rfl rfl).elim))
theorem bin_int (op : BinOp) (t : TypeId) (k : IntKind) (a b : Int) (K : AV → Prop) (h1 : op ≠ .shl) (h2 : op ≠ .shr) (h : binI op k a b K) :
    ∃ v u, K v ∧ Dz T g w v u ∧ (binOp op t (.int k a) (.int k b)).run P w = .ok u w ∧ ∀ K' : AV → Prop, K' v → binI op k a b K' := by
  have hb : ∀ K' : AV → Prop, ∀ s : Sem Value, (binOp op t (.int k a) (.int k b)) = s → (binOp op t (.int k a) (.int k b)).run P w = s.run P w := fun _ s h => by rw [h]
  cases op <;> first | exact absurd rfl h1 | exact absurd rfl h2 | exact h.elim | skip
  case add => exact ⟨_, _, h, .int _ _, by simp [binOp, Op.intArith], fun _ h => h⟩
  case sub => exact ⟨_, _, h, .int _ _, by simp [binOp, Op.intArith], fun _ h => h⟩
  case mul => exact ⟨_, _, h, .int _ _, by simp [binOp, Op.intArith], fun _ h => h⟩
  case quo => exact ⟨_, _, h.2, .int _ _, by simp [binOp, Op.intDiv, h.1], fun _ h' => ⟨h.1, h'⟩⟩
  case rem => exact ⟨_, _, h.2, .int _ _, by simp [binOp, Op.intDiv, h.1], fun _ h' => ⟨h.1, h'⟩⟩
  case and => exact ⟨_, _, h, .int _ _, by simp [binOp, Op.intBits], fun _ h => h⟩
  case eql => exact ⟨_, _, h, .bool _, by simp [binOp, Op.intCmp], fun _ h => h⟩
  case neq => exact ⟨_, _, h, .bool _, by simp [binOp, Op.intCmp], fun _ h => h⟩
  case lss => exact ⟨_, _, h, .bool _, by simp [binOp, Op.intCmp], fun _ h => h⟩
  case leq => exact ⟨_, _, h, .bool _, by simp [binOp, Op.intCmp], fun _ h => h⟩
  case gtr => exact ⟨_, _, h, .bool _, by simp [binOp, Op.intCmp], fun _ h => h⟩
  case geq => exact ⟨_, _, h, .bool _, by simp [binOp, Op.intCmp], fun _ h => h⟩
theorem bin_str (op : BinOp) (t : TypeId) (a b : ByteArray) (K : AV → Prop) (h : binS op a b K) :
    ∃ v u, K v ∧ Dz T g w v u ∧ (binOp op t (.string a) (.string b)).run P w = .ok u w ∧ ∀ K' : AV → Prop, K' v → binS op a b K' := by
  cases op <;> first | exact h.elim | skip
  case add =>
    obtain ⟨h1, h2⟩ := h
    exact ⟨_, _, h2, .str _, by simp only [binOp, Op.stringOp]; rw [if_neg (by omega)]; rfl, fun _ h' => ⟨h1, h'⟩⟩
  all_goals exact ⟨_, _, h, .bool _, by simp [binOp, Op.stringOp], fun _ h => h⟩
theorem eqFields_run (TO : TOk P T) (d : Nat) : ∀ (fs : List Field) (n : Nat) (cs ds : List AV) (xs ys : Array Value) (K : Bool → Prop), flatF fs n = true → cellsEq T fs cs ds K →
    (∀ (i : Nat) (c : AV) (u : Value), cs[i]? = some c → xs[n + i]? = some u → Cz T g w c u) → (∀ (i : Nat) (c : AV) (u : Value), ds[i]? = some c → ys[n + i]? = some u → Cz T g w c u) →
    n + cs.length ≤ xs.size → n + ds.length ≤ ys.size →
    ∃ b, K b ∧ (Op.eqFields (d + 1) xs ys fs).run P w = .ok b w ∧ ∀ K' : Bool → Prop, K' b → cellsEq T fs cs ds K'
  | [], n, cs, ds, xs, ys, K, _, h, _, _, _, _ => by
    cases cs <;> cases ds <;> first | exact ⟨true, h, rfl, fun _ h => h⟩ | exact h.elim
  | f :: fs, n, cs, ds, xs, ys, K, hf, h, h1, h2, h3, h4 => by
    simp only [flatF, Bool.and_eq_true, beq_iff_eq, bne_iff_ne] at hf
    obtain ⟨⟨hoff, hname⟩, hf⟩ := hf
    cases cs with
    | nil => exact h.elim
    | cons x cs => cases ds with
      | nil => exact h.elim
      | cons y ds =>
        simp only [List.length_cons] at h3 h4
        have hx : xs[n]? = some xs[n] := Array.getElem?_eq_getElem (by omega)
        have hy : ys[n]? = some ys[n] := Array.getElem?_eq_getElem (by omega)
        have cx := h1 0 x _ rfl hx
        have cy := h2 0 y _ rfl hy
        have h1' : ∀ (i : Nat) (c : AV) (u : Value), cs[i]? = some c → xs[n + 1 + i]? = some u → Cz T g w c u := fun i c u hc hu => h1 (i + 1) c u (by simpa using hc) (by rw [show n + (i + 1) = n + 1 + i by omega]; exact hu)
        have h2' : ∀ (i : Nat) (c : AV) (u : Value), ds[i]? = some c → ys[n + 1 + i]? = some u → Cz T g w c u := fun i c u hc hu => h2 (i + 1) c u (by simpa using hc) (by rw [show n + (i + 1) = n + 1 + i by omega]; exact hu)
        have go : ∀ (r : Bool) (k : TypeDesc), (T f.type).desc = k → kindD k = some false → (Op.equalIn (d + 1) f.type xs[n] ys[n]).run P w = .ok r w → (cellsEq T fs cs ds fun u => K (r && u)) →
            ∃ b, K b ∧ (Op.eqFields (d + 1) xs ys (f :: fs)).run P w = .ok b w ∧ ∀ K' : Bool → Prop, K' b → cellsEq T fs cs ds fun u => K' (r && u) := by
          intro r k hd hk he hc
          obtain ⟨b, hb1, hb2, hb3⟩ := eqFields_run TO d fs (n + 1) cs ds xs ys _ hf hc h1' h2' (by omega) (by omega)
          refine ⟨r && b, hb1, ?_, fun K' hK => hb3 _ hK⟩
          have hu := und TO hd (by rw [hk]; simp)
          have p1 : (part f.type xs f.offset).run P w = .ok xs[n] w := by simp [part, run_isAgg hu hk, hoff, hx]
          have p2 : (part f.type ys f.offset).run P w = .ok ys[n] w := by simp [part, run_isAgg hu hk, hoff, hy]
          simp only [Op.eqFields, ne_eq, hname, not_false_eq_true, if_true, Sem.run_bind, p1, p2, he, Result.andThen_ok]
          cases r
          · simp
          · simpa using hb2
        unfold cellsEq at h ⊢
        cases hd : (T f.type).desc <;> rw [hd] at h <;> first | exact h.elim | skip
        case int k0 =>
          cases x <;> first | exact h.elim | skip
          rename_i k1 a1
          cases y <;> first | exact h.elim | skip
          rename_i k2 a2
          by_cases hk : k1 = k2
          · subst hk
            simp only [decide_true] at h ⊢
            have e1 := cz_int cx; have e2 := cz_int cy
            exact go (a1 == a2) _ hd rfl (by rw [e1, e2]; exact run_equalIn_int w d _ _ _ _ _ (und TO hd (by simp [kindD]))) h
          · simp only [decide_eq_false hk] at h
        case bool =>
          cases x <;> first | exact h.elim | skip
          cases y <;> first | exact h.elim | skip
          have e1 := cz_bool cx; have e2 := cz_bool cy
          exact go _ _ hd rfl (by rw [e1, e2]; exact run_equalIn_bool w d _ _ _ (und TO hd (by simp [kindD]))) h
        case string =>
          cases x <;> first | exact h.elim | skip
          cases y <;> first | exact h.elim | skip
          have e1 := cz_str cx; have e2 := cz_str cy
          exact go _ _ hd rfl (by rw [e1, e2]; exact run_equalIn_string w d _ _ _ (und TO hd (by simp [kindD]))) h

theorem part_sound0 (TO : TOk P T) {cs : List AV} {us : Array Value} (hl : cs.length = us.size) (h1 : ∀ u ∈ us, u.oneCell' = true) (hp : ∀ (i : Nat) (c : AV) (u : Value), cs[i]? = some c → us[i]? = some u → Cz T g w c u) (t : TypeId) (off : Nat) (K : AV → Prop) (h : subK T t cs off K) :
    ∃ v u, K v ∧ Cz T g w v u ∧ (part t us off).run P w = .ok u w ∧ ∀ K' : AV → Prop, K' v → subK T t cs off K' := by
  unfold subK at h ⊢
  cases hk : kindD (T t).desc with
  | none => rw [hk] at h; exact h.elim
  | some b =>
    obtain ⟨hu, i, hi, hs, _⟩ := TO t (by rw [hk]; simp)
    rw [hk] at h
    cases b with
    | true =>
      obtain ⟨g1, g2⟩ := (dropK_iff _ _).1 h
      obtain ⟨g3, g4⟩ := (takeK_iff _ _ _).1 g2
      simp only [List.length_drop] at g3
      refine ⟨_, .agg (us.extract off (off + (T t).cells)), g4, .agg _ _ (by simp; omega) ?_ ?_, ?_, fun K' hK => (dropK_iff _ _).2 ⟨g1, (takeK_iff _ _ _).2 ⟨by simp; omega, hK⟩⟩⟩
      · intro u hu
        obtain ⟨j, hj, rfl⟩ := Array.mem_iff_getElem.1 hu
        rw [Array.getElem_extract]; exact h1 _ (Array.getElem_mem _)
      · intro j c u hc hu
        have hjl : j < (T t).cells := by
          have := (List.getElem?_eq_some_iff.1 hc).1
          simp at this; omega
        rw [List.getElem?_take_of_lt hjl, List.getElem?_drop] at hc
        refine hp (off + j) c u hc ?_
        rw [Array.getElem?_extract] at hu
        split at hu
        · exact hu
        · cases hu
      · simp only [part, Sem.run_bind, run_isAgg hu hk, Result.andThen_ok, if_true, sizeOf, typeInfo, run_program, hi, Sem.run_pure, hs]
    | false =>
      obtain ⟨v, hv, h⟩ := (nthK_iff _ _).1 h
      have hlt : off < us.size := by have := (List.getElem?_eq_some_iff.1 hv).1; omega
      have hu' : us[off]? = some us[off] := Array.getElem?_eq_getElem hlt
      exact ⟨v, us[off], h, hp off v _ hv hu', by simp [part, run_isAgg hu hk, hu'], fun K' hK => (nthK_iff _ _).2 ⟨v, hv, hK⟩⟩
theorem eqFlat_run (TO : TOk P T) (d : Nat) {t : TypeId} {x y : AV} {u v : Value} (cx : Cz T g w x u) (cy : Cz T g w y v) (K : Bool → Prop) (h : eqFlat T t x y K) :
    ∃ b, K b ∧ (Op.equalIn (d + 2) t u v).run P w = .ok b w ∧ ∀ K' : Bool → Prop, K' b → eqFlat T t x y K' := by
  unfold eqFlat at h ⊢
  cases hd : (T t).desc <;> rw [hd] at h <;> first | exact h.elim | skip
  case int k0 =>
    cases x <;> first | exact h.elim | skip
    rename_i k1 a1
    cases y <;> first | exact h.elim | skip
    rename_i k2 a2
    by_cases hk : k1 = k2
    · subst hk
      simp only [decide_true] at h ⊢
      have e1 := cz_int cx; have e2 := cz_int cy
      exact ⟨_, h, by rw [e1, e2]; exact run_equalIn_int w (d + 1) _ _ _ _ _ (und TO hd (by simp [kindD])), fun _ h => h⟩
    · simp only [decide_eq_false hk] at h
  case bool =>
    cases x <;> first | exact h.elim | skip
    cases y <;> first | exact h.elim | skip
    have e1 := cz_bool cx; have e2 := cz_bool cy
    exact ⟨_, h, by rw [e1, e2]; exact run_equalIn_bool w (d + 1) _ _ _ (und TO hd (by simp [kindD])), fun _ h => h⟩
  case string =>
    cases x <;> first | exact h.elim | skip
    cases y <;> first | exact h.elim | skip
    have e1 := cz_str cx; have e2 := cz_str cy
    exact ⟨_, h, by rw [e1, e2]; exact run_equalIn_string w (d + 1) _ _ _ (und TO hd (by simp [kindD])), fun _ h => h⟩
  case struct gs =>
    have ht := und TO hd (by simp [kindD])
    cases x <;> first | exact h.elim | skip
    rename_i cs
    cases y <;> first | exact h.elim | skip
    rename_i ds
    have hq : (T t).eqok = true ∧ flatF gs.toList 0 = true ∧ cellsEq T gs.toList cs ds K := by
      cases hq1 : (T t).eqok <;> cases hq2 : flatF gs.toList 0 <;> simp only [hq1, hq2] at h <;> first | exact h.elim | exact ⟨rfl, rfl, h⟩
    obtain ⟨q1, q2, q3⟩ := hq
    obtain ⟨hu, i, hi, _, _, _, _, hs⟩ := TO t (by rw [hd]; simp [kindD])
    obtain ⟨s1, s2⟩ := hs q1
    obtain ⟨us, rfl, hl1, _, hp1⟩ := cz_agg cx
    obtain ⟨vs, rfl, hl2, _, hp2⟩ := cz_agg cy
    have hf : P.fieldsOf t = gs := by simp [Program.fieldsOf, ht]
    obtain ⟨b, b1, b2, b3⟩ := eqFields_run (g := g) (w := w) TO d gs.toList 0 cs ds us vs K q2 q3 (fun i c u hc hu => hp1 i c u hc (by simpa using hu)) (fun i c u hc hu => hp2 i c u hc (by simpa using hu)) (by omega) (by omega)
    refine ⟨b, b1, ?_, fun K' hK => ?_⟩
    · rw [run_equalIn_struct w (d + 1) t us vs (by rw [hf]; exact ht) s1, hf]
      exact b2
    · simp only [q1, q2]; exact b3 K' hK
theorem nest_run (TO : TOk P T) (d : Nat) {cs ds : List AV} {us vs : Array Value} (hl1 : cs.length = us.size) (hl2 : ds.length = vs.size) (ho1 : ∀ u ∈ us, u.oneCell' = true) (ho2 : ∀ u ∈ vs, u.oneCell' = true)
    (hp1 : ∀ (i : Nat) (c : AV) (u : Value), cs[i]? = some c → us[i]? = some u → Cz T g w c u) (hp2 : ∀ (i : Nat) (c : AV) (u : Value), ds[i]? = some c → vs[i]? = some u → Cz T g w c u) :
    ∀ (fs : List Field) (K : Bool → Prop), nestEq T fs cs ds K → ∃ b, K b ∧ (Op.eqFields (d + 2) us vs fs).run P w = .ok b w ∧ ∀ K' : Bool → Prop, K' b → nestEq T fs cs ds K'
  | [], K, h => ⟨true, h, rfl, fun _ h => h⟩
  | f :: fs, K, h => by
    unfold nestEq at h ⊢
    cases hn : f.name != "_" with
    | false => rw [hn] at h; exact h.elim
    | true =>
      rw [hn] at h
      simp only at h ⊢
      obtain ⟨x, u, h1, cx, p1, k1⟩ := part_sound0 TO hl1 ho1 hp1 f.type f.offset _ h
      obtain ⟨y, v, h2, cy, p2, k2⟩ := part_sound0 TO hl2 ho2 hp2 f.type f.offset _ h1
      obtain ⟨b, h3, q, k3⟩ := eqFlat_run TO d cx cy _ h2
      obtain ⟨b2, h4, q4, k4⟩ := nest_run TO d hl1 hl2 ho1 ho2 hp1 hp2 fs _ h3
      refine ⟨b && b2, h4, ?_, fun K' hK => k1 _ (k2 _ (k3 _ (k4 _ hK)))⟩
      have hname : f.name ≠ "_" := by simpa using hn
      simp only [Op.eqFields, ne_eq, hname, not_false_eq_true, if_true, Sem.run_bind, p1, p2, q, Result.andThen_ok]
      cases b
      · simp
      · simpa using q4

theorem eqIn_ptr (d : Nat) (t e : TypeId) (p q : Option Addr) (h : P.underlying t = some (.pointer e)) (hpq : p = none ∨ q = none) : (Op.equalIn (d + 1) t (.pointer p) (.pointer q)).run P w = .ok (p.isNone && q.isNone) w := by
  rcases hpq with rfl | rfl
  · cases q <;> simp [Op.equalIn, run_underlying h]
  · cases p <;> simp [Op.equalIn, run_underlying h]
theorem eqIn_ff (d : Nat) (t : TypeId) (ps rs : Array TypeId) (vd : Bool) (h : P.underlying t = some (.func ps rs vd)) : (Op.equalIn (d + 1) t .nilFunc .nilFunc).run P w = .ok true w := by simp [Op.equalIn, run_underlying h]
theorem eqIn_fl (d : Nat) (t : TypeId) (ps rs : Array TypeId) (vd : Bool) (h : P.underlying t = some (.func ps rs vd)) (f : Fn) (a b : Array Value) : (Op.equalIn (d + 1) t .nilFunc (.func f a b)).run P w = .ok false w := by simp [Op.equalIn, run_underlying h]
theorem eqIn_fr (d : Nat) (t : TypeId) (ps rs : Array TypeId) (vd : Bool) (h : P.underlying t = some (.func ps rs vd)) (f : Fn) (a b : Array Value) : (Op.equalIn (d + 1) t (.func f a b) .nilFunc).run P w = .ok false w := by simp [Op.equalIn, run_underlying h]
theorem eqIn_map (d : Nat) (t k e : TypeId) (p q : Option Nat) (h : P.underlying t = some (.map k e)) (hpq : p = none ∨ q = none) : (Op.equalIn (d + 1) t (.map p) (.map q)).run P w = .ok (p.isNone && q.isNone) w := by
  rcases hpq with rfl | rfl
  · cases q <;> simp [Op.equalIn, run_underlying h]
  · cases p <;> simp [Op.equalIn, run_underlying h]
theorem eqIn_il (d : Nat) (t : TypeId) (ms : Array (String × TypeId)) (h : P.underlying t = some (.interface ms)) (c : TypeId) (v : Value) : (Op.equalIn (d + 1) t .nilIface (.iface c v)).run P w = .ok false w := by simp [Op.equalIn, run_underlying h]
theorem eqIn_ir (d : Nat) (t : TypeId) (ms : Array (String × TypeId)) (h : P.underlying t = some (.interface ms)) (c : TypeId) (v : Value) : (Op.equalIn (d + 1) t (.iface c v) .nilIface).run P w = .ok false w := by simp [Op.equalIn, run_underlying h]
theorem eq_sound (TO : TOk P T) {t : TypeId} {x y : AV} {u v : Value} (cx : Cz T g w x u) (cy : Cz T g w y v) (K : Bool → Prop) (h : eqK T t x y K) (o1 o2 : Operand) (op : BinOp) :
    ∃ b, K b ∧ (Op.equal t u v).run P w = .ok b w ∧ (eqGuard op t o1 o2 u v).run P w = .ok () w ∧ (binOp .eql t u v = (do pure (.bool (← Op.equal t u v)))) ∧ (binOp .neq t u v = (do pure (.bool (!(← Op.equal t u v))))) ∧ ∀ K' : Bool → Prop, K' b → eqK T t x y K' := by
  have keep : ∀ b, (∀ K' : Bool → Prop, eqK T t x y K' ↔ K' b) → (Op.equal t u v).run P w = .ok b w → (eqGuard op t o1 o2 u v).run P w = .ok () w → (binOp .eql t u v = (do pure (.bool (← Op.equal t u v)))) → (binOp .neq t u v = (do pure (.bool (!(← Op.equal t u v))))) →
      ∃ b, K b ∧ (Op.equal t u v).run P w = .ok b w ∧ (eqGuard op t o1 o2 u v).run P w = .ok () w ∧ (binOp .eql t u v = (do pure (.bool (← Op.equal t u v)))) ∧ (binOp .neq t u v = (do pure (.bool (!(← Op.equal t u v))))) ∧ ∀ K' : Bool → Prop, K' b → eqK T t x y K' :=
    fun b h1 h2 h3 h4 h5 => ⟨b, (h1 K).1 h, h2, h3, h4, h5, fun K' hK => (h1 K').2 hK⟩
  unfold eqK at h keep ⊢
  cases hd : (T t).desc <;> rw [hd] at h keep <;> first | exact h.elim | skip
  case bool =>
    have ht := und TO hd (by simp [kindD])
    cases x <;> first | exact h.elim | skip
    cases y <;> first | exact h.elim | skip
    have e1 := cz_bool cx; have e2 := cz_bool cy
    subst e1; subst e2
    exact keep _ (fun _ => Iff.rfl) (run_equal_bool w t _ _ ht) (guard_plain _ _ _ _ _ _ (fun _ _ h => by cases h) (fun h => by cases h)) rfl rfl
  case struct fs =>
    have ht := und TO hd (by simp [kindD])
    cases x <;> first | exact h.elim | skip
    rename_i cs
    cases y <;> first | exact h.elim | skip
    rename_i ds
    have hq : (T t).eqok = true ∧ ((flatC T fs.toList = true ∧ cellsEq T fs.toList cs ds K) ∨ (flatC T fs.toList = false ∧ nestEq T fs.toList cs ds K)) := by
      cases hq1 : (T t).eqok <;> cases hq2 : flatC T fs.toList <;> simp only [hq1, hq2] at h <;> first | exact h.elim | exact ⟨rfl, .inl ⟨rfl, h⟩⟩ | exact ⟨rfl, .inr ⟨rfl, h⟩⟩
    obtain ⟨q1, hq⟩ := hq
    obtain ⟨hu, i, hi, _, _, _, _, hs⟩ := TO t (by rw [hd]; simp [kindD])
    obtain ⟨s1, s2⟩ := hs q1
    obtain ⟨us, rfl, hl1, ho1, hp1⟩ := cz_agg cx
    obtain ⟨vs, rfl, hl2, ho2, hp2⟩ := cz_agg cy
    have hf : P.fieldsOf t = fs := by simp [Program.fieldsOf, ht]
    rcases hq with ⟨q2, q3⟩ | ⟨q2, q3⟩
    · obtain ⟨b, b1, b2, b3⟩ := eqFields_run (g := g) (w := w) TO 9998 fs.toList 0 cs ds us vs K (by unfold flatC at q2; simp only [Bool.and_eq_true] at q2; exact q2.1) q3 (fun i c u hc hu => hp1 i c u hc (by simpa using hu)) (fun i c u hc hu => hp2 i c u hc (by simpa using hu)) (by omega) (by omega)
      refine ⟨b, b1, ?_, run_eqGuard_agg w _ _ _ _ _ _ s2, rfl, rfl, fun K' hK => ?_⟩
      · unfold Op.equal Op.maxDepth
        rw [run_equalIn_struct w 9999 t us vs (by rw [hf]; exact ht) s1, hf]
        exact b2
      · simp only [q1, q2]; exact b3 K' hK
    · obtain ⟨b, b1, b2, b3⟩ := nest_run (g := g) (w := w) TO 9997 hl1 hl2 ho1 ho2 hp1 hp2 fs.toList K q3
      refine ⟨b, b1, ?_, run_eqGuard_agg w _ _ _ _ _ _ s2, rfl, rfl, fun K' hK => ?_⟩
      · unfold Op.equal Op.maxDepth
        rw [run_equalIn_struct w 9999 t us vs (by rw [hf]; exact ht) s1, hf]
        exact b2
      · simp only [q1, q2]; exact b3 K' hK
  case pointer e =>
    have ht := und TO hd (by simp [kindD])
    have nn : ∀ p : Option Addr, (Op.equal t (.pointer none) (.pointer p)).run P w = .ok p.isNone w := fun p => by have := eqIn_ptr (P := P) (w := w) 9999 t e none p ht (.inl rfl); simp only [Option.isNone_none, Bool.true_and] at this; exact this
    have nn' : ∀ p : Option Addr, (Op.equal t (.pointer p) (.pointer none)).run P w = .ok p.isNone w := fun p => by have := eqIn_ptr (P := P) (w := w) 9999 t e p none ht (.inr rfl); simp only [Option.isNone_none, Bool.and_true] at this; exact this
    have gp : ∀ p q : Option Addr, (eqGuard op t o1 o2 (.pointer p) (.pointer q)).run P w = .ok () w := fun p q => guard_plain _ _ _ _ _ _ (fun _ _ h => by cases h) (fun h => by cases h)
    have rd : ∀ {z : AV} {u : Value}, Cz T g w z u → isNilP z K → ∃ p : Option Addr, u = .pointer p ∧ ∀ K' : Bool → Prop, isNilP z K' ↔ K' p.isNone := by
      intro z u hc hn
      cases z <;> first | exact hn.elim | skip
      · cases hc with | dz _ _ hc => cases hc with | eref => exact ⟨_, rfl, fun _ => Iff.rfl⟩
      · exact ⟨_, (cz_lptr hc).2, fun _ => Iff.rfl⟩
      · exact ⟨_, (cz_gptr hc).2, fun _ => Iff.rfl⟩
      · exact ⟨_, cz_nilp hc, fun _ => Iff.rfl⟩
    have left : x = .nilp → ∃ b, (∀ K' : Bool → Prop, (match x, y with | .nilp, y => isNilP y K' | x, .nilp => isNilP x K' | _, _ => False) ↔ K' b) ∧ (Op.equal t u v).run P w = .ok b w ∧ (eqGuard op t o1 o2 u v).run P w = .ok () w ∧ (binOp .eql t u v = (do pure (.bool (← Op.equal t u v)))) ∧ (binOp .neq t u v = (do pure (.bool (!(← Op.equal t u v))))) := by
      rintro rfl
      have e1 := cz_nilp cx; subst e1
      obtain ⟨p, rfl, hp⟩ := rd cy h
      exact ⟨_, hp, nn p, gp _ _, rfl, rfl⟩
    have right : x ≠ .nilp → y = .nilp → ∃ b, (∀ K' : Bool → Prop, (match x, y with | .nilp, y => isNilP y K' | x, .nilp => isNilP x K' | _, _ => False) ↔ K' b) ∧ (Op.equal t u v).run P w = .ok b w ∧ (eqGuard op t o1 o2 u v).run P w = .ok () w ∧ (binOp .eql t u v = (do pure (.bool (← Op.equal t u v)))) ∧ (binOp .neq t u v = (do pure (.bool (!(← Op.equal t u v))))) := by
      rintro hx rfl
      have e1 := cz_nilp cy; subst e1
      have h' : isNilP x K := by cases x <;> first | exact absurd rfl hx | exact h
      obtain ⟨p, rfl, hp⟩ := rd cx h'
      exact ⟨_, fun K' => by rw [← hp K']; cases x <;> first | exact absurd rfl hx | exact Iff.rfl, nn' p, gp _ _, rfl, rfl⟩
    by_cases hx : x = .nilp
    · obtain ⟨b, q1, q2, q3, q4, q5⟩ := left hx
      exact keep b q1 q2 q3 q4 q5
    · have hy : y = .nilp := by revert h; cases x <;> first | exact absurd rfl hx | (cases y <;> intro h <;> first | exact h.elim | rfl)
      obtain ⟨b, q1, q2, q3, q4, q5⟩ := right hx hy
      exact keep b q1 q2 q3 q4 q5
  case func ps rs vd =>
    have ht := und TO hd (by simp [kindD])
    cases x <;> first | exact h.elim | skip
    case nilf =>
      have e1 := cz_nilf cx; subst e1
      cases y <;> first | exact h.elim | skip
      · obtain ⟨us, vs, rfl, _⟩ := cz_fn cy
        exact keep false (fun _ => Iff.rfl) (eqIn_fl 9999 t ps rs vd ht _ _ _) (guard_plain _ _ _ _ _ _ (fun _ _ h => by cases h) (fun h => by cases h)) rfl rfl
      · have e2 := cz_nilf cy; subst e2
        exact keep true (fun _ => Iff.rfl) (eqIn_ff 9999 t ps rs vd ht) (guard_plain _ _ _ _ _ _ (fun _ _ h => by cases h) (fun h => by cases h)) rfl rfl
    all_goals
      cases y <;> first | exact h.elim | skip
    case fn.nilf =>
      have e2 := cz_nilf cy; subst e2
      obtain ⟨us, vs, rfl, _⟩ := cz_fn cx
      exact keep false (fun _ => Iff.rfl) (eqIn_fr 9999 t ps rs vd ht _ _ _) (guard_plain _ _ _ _ _ _ (fun _ _ h => by cases h) (fun h => by cases h)) rfl rfl
  case map k e =>
    have ht := und TO hd (by simp [kindD])
    cases x <;> first | exact h.elim | skip
    case nilm =>
      have e1 := cz_nilm cx; subst e1
      cases y <;> first | exact h.elim | skip
      · have e2 := cz_nilm cy; subst e2
        exact keep true (fun _ => Iff.rfl) (eqIn_map 9999 t k e none none ht (.inl rfl)) (guard_plain _ _ _ _ _ _ (fun _ _ h => by cases h) (fun h => by cases h)) rfl rfl
      · obtain ⟨_, rfl⟩ := cz_mp cy
        exact keep false (fun _ => Iff.rfl) (eqIn_map 9999 t k e none _ ht (.inl rfl)) (guard_plain _ _ _ _ _ _ (fun _ _ h => by cases h) (fun h => by cases h)) rfl rfl
    all_goals
      cases y <;> first | exact h.elim | skip
    case mp.nilm =>
      have e2 := cz_nilm cy; subst e2
      obtain ⟨_, rfl⟩ := cz_mp cx
      exact keep false (fun _ => Iff.rfl) (eqIn_map 9999 t k e _ none ht (.inr rfl)) (guard_plain _ _ _ _ _ _ (fun _ _ h => by cases h) (fun h => by cases h)) rfl rfl
  case interface ms =>
    have ht := und TO hd (by simp [kindD])
    cases x <;> first | exact h.elim | skip
    case nili =>
      have e1 := cz_nili cx; subst e1
      cases y <;> first | exact h.elim | skip
      obtain ⟨_, rfl, _⟩ := cz_ifc cy
      exact keep false (fun _ => Iff.rfl) (eqIn_il 9999 t ms ht _ _) (guard_plain _ _ _ _ _ _ (fun _ _ h => by cases h) (fun _ h => by cases h)) rfl rfl
    all_goals
      cases y <;> first | exact h.elim | skip
    case ifc.nili =>
      have e2 := cz_nili cy; subst e2
      obtain ⟨_, rfl, _⟩ := cz_ifc cx
      exact keep false (fun _ => Iff.rfl) (eqIn_ir 9999 t ms ht _ _) (guard_plain _ _ _ _ _ _ (fun _ _ h => by cases h) (fun h => by cases h)) rfl rfl
theorem bin_sound (TO : TOk P T) {t : TypeId} {x y : AV} {u v : Value} (cx : Cz T g w x u) (cy : Cz T g w y v) (op : BinOp) (K : AV → Prop) (h : binK T op t x y K) (o1 o2 : Operand) :
    ∃ z r, K z ∧ Cz T g w z r ∧ (do eqGuard op t o1 o2 u v; binOp op t u v : Sem Value).run P w = .ok r w ∧ ∀ K' : AV → Prop, K' z → binK T op t x y K' := by
  have eqs : ∀ b : Bool, (op = .eql ∧ b = true) ∨ (op = .neq ∧ b = false) → (eqK T t x y fun c => K (.bool (c == b))) → (∀ K' : AV → Prop, binK T op t x y K' ↔ eqK T t x y fun c => K' (.bool (c == b))) →
      ∃ z r, K z ∧ Cz T g w z r ∧ (do eqGuard op t o1 o2 u v; binOp op t u v : Sem Value).run P w = .ok r w ∧ ∀ K' : AV → Prop, K' z → binK T op t x y K' := by
    intro b hb h hk
    obtain ⟨c, c1, c2, c3, c4, c5, c6⟩ := eq_sound TO cx cy _ h o1 o2 op
    refine ⟨_, .bool (c == b), c1, .dz _ _ (.bool _), ?_, fun K' hK => (hk K').2 (c6 _ hK)⟩
    rcases hb with ⟨rfl, rfl⟩ | ⟨rfl, rfl⟩
    · simp only [Sem.run_bind, c3, Result.andThen_ok, c4, c2, Sem.run_pure]; cases c <;> rfl
    · simp only [Sem.run_bind, c3, Result.andThen_ok, c5, c2, Sem.run_pure]; cases c <;> rfl
  have other : (∀ K' : AV → Prop, binK T op t x y K' ↔ othK T op t x y K') → ∃ z r, K z ∧ Cz T g w z r ∧ (do eqGuard op t o1 o2 u v; binOp op t u v : Sem Value).run P w = .ok r w ∧ ∀ K' : AV → Prop, K' z → binK T op t x y K' := by
    intro he
    rw [he] at h
    cases op <;> first | exact h.elim | skip
    · refine eqs true (.inl ⟨rfl, rfl⟩) (by simpa [othK] using h) (fun K' => by rw [he]; simp [othK])
    · refine eqs false (.inr ⟨rfl, rfl⟩) (by simpa [othK] using h) (fun K' => by rw [he]; simp [othK])
  cases x with
  | int k a =>
    cases y with
    | int k' b =>
      have e1 := cz_int cx; have e2 := cz_int cy
      subst e1; subst e2
      have hg : (eqGuard op t o1 o2 (.int k a) (.int k' b)).run P w = .ok () w := guard_plain _ _ _ _ _ _ (fun _ _ h => by cases h) (fun h => by cases h)
      by_cases h1 : op = .shl
      · subst h1
        obtain ⟨h2, h3⟩ := h
        exact ⟨_, _, h3, .dz _ _ (.int _ _), by simp only [Sem.run_bind, hg, Result.andThen_ok, binOp, Op.shift]; rw [if_neg (by omega)]; rfl, fun _ h' => ⟨h2, h'⟩⟩
      · by_cases h1' : op = .shr
        · subst h1'
          obtain ⟨h2, h3⟩ := h
          exact ⟨_, _, h3, .dz _ _ (.int _ _), by simp only [Sem.run_bind, hg, Result.andThen_ok, binOp, Op.shift]; rw [if_neg (by omega)]; rfl, fun _ h' => ⟨h2, h'⟩⟩
        · have hk : ∀ K' : AV → Prop, binK T op t (.int k a) (.int k' b) K' ↔ (match decide (k = k') with | true => binI op k a b K' | false => False) := by
            intro K'; cases op <;> first | exact absurd rfl h1 | exact absurd rfl h1' | exact Iff.rfl
          by_cases hkk : k = k'
          · subst hkk
            rw [hk] at h
            simp only [decide_true] at h
            obtain ⟨z, r, q1, q2, q3, q4⟩ := bin_int (g := g) (w := w) (T := T) (P := P) op t k a b K h1 h1' h
            exact ⟨z, r, q1, .dz _ _ q2, by simp only [Sem.run_bind, hg, Result.andThen_ok, q3], fun K' hK => by rw [hk]; simp only [decide_true]; exact q4 K' hK⟩
          · rw [hk, decide_eq_false hkk] at h; exact h.elim
    | _ => exact other (fun _ => Iff.rfl)
  | str a =>
    cases y with
    | str b =>
      have e1 := cz_str cx; have e2 := cz_str cy
      subst e1; subst e2
      have hg : (eqGuard op t o1 o2 (.string a) (.string b)).run P w = .ok () w := guard_plain _ _ _ _ _ _ (fun _ _ h => by cases h) (fun h => by cases h)
      obtain ⟨z, r, q1, q2, q3, q4⟩ := bin_str (g := g) (w := w) (T := T) (P := P) op t a b K h
      exact ⟨z, r, q1, .dz _ _ q2, by simp only [Sem.run_bind, hg, Result.andThen_ok, q3], q4⟩
    | _ => exact other (fun _ => Iff.rfl)
  | _ => exact other (fun _ => by cases y <;> exact Iff.rfl)
end
end Go.Proofs.YtpihanlillbhkaaGreatDoor
end

section
/- Maps: what stands under a key, in the abstract list and in the block's entries. -/
namespace Go.Proofs.YtpihanlillbhkaaGreatDoor
open Go Go.RowKit Go.MapKept

def kdD : Option IntKind → TypeDesc
  | none => .string
  | some q => .int q
theorem keyAt_isKey {kd : Option IntKind} {k : AV} {u : Value} (h : keyAt kd k u) : IsKey (kdD kd) u := by
  cases kd <;> cases k <;> cases u <;> first | exact h.elim | exact trivial | exact h.2.1
theorem keyAt_same {kd : Option IntKind} {k x : AV} {u v : Value} (h : keyAt kd k u) (h' : keyAt kd x v) : (keyB k x = true ↔ u = v) := by
  cases kd <;> cases k <;> cases u <;> first | exact h.elim | skip
  all_goals cases x <;> cases v <;> first | exact h'.elim | skip
  · simp only [keyAt] at h h'; subst h h'; simp [keyB]
  · simp only [keyAt] at h h'
    obtain ⟨rfl, h2, rfl⟩ := h
    obtain ⟨rfl, h3, rfl⟩ := h'
    subst h2 h3
    simp [keyB]
/-- a key's place, if it is there: in the list, and among the entries -/
theorem mfind {kd : Option IntKind} {k : AV} {u : Value} (hk : keyAt kd k u) : ∀ (m : List (AV × AV)) (es : List MapEntry) (i : Nat), es.length = m.length → (∀ (i : Nat) (x : AV × AV) (y : MapEntry), m[i]? = some x → es[i]? = some y → keyAt kd x.1 y.key) →
    (mget m k = none ∧ (∀ v, mput m k v = m ++ [(k, v)]) ∧ mdel m k = m ∧ Instr.findNow (kdD kd) u es i = some none ∧ ∀ e ∈ es, e.key ≠ u) ∨
    ∃ j x e, m[j]? = some x ∧ es[j]? = some e ∧ mget m k = some x.2 ∧ (∀ v, mput m k v = m.set j (k, v)) ∧ mdel m k = m.eraseIdx j ∧ Instr.findNow (kdD kd) u es i = some (some (i + j, e.val)) ∧ e.key = u
  | [], [], i, _, _ => .inl ⟨rfl, fun _ => rfl, rfl, rfl, fun e h => by cases h⟩
  | [], _ :: _, i, h, _ => by simp at h
  | _ :: _, [], i, h, _ => by simp at h
  | (k0, v0) :: m, e :: es, i, hl, hp => by
    have h0 : keyAt kd k0 e.key := hp 0 _ _ rfl rfl
    obtain ⟨r, hr, hiff⟩ := sameNow_of_keys (keyAt_isKey hk) (keyAt_isKey h0)
    have hs := keyAt_same hk h0
    have hrb : keyB k k0 = r := by
      rw [Bool.eq_iff_iff, hs, hiff]
    cases r with
    | true =>
      refine .inr ⟨0, (k0, v0), e, rfl, rfl, ?_, fun v => ?_, ?_, ?_, (hiff.1 rfl).symm⟩
      · simp only [mget, hrb]
      · simp only [mput, hrb]; rfl
      · simp only [mdel, hrb]; rfl
      · simp [Instr.findNow, hr]
    | false =>
      have hne : e.key ≠ u := fun q => by have := hiff.2 q.symm; cases this
      rcases mfind hk m es (i + 1) (by simpa using hl) (fun i x y hx hy => hp (i + 1) x y (by simpa using hx) (by simpa using hy)) with ⟨h1, h2, h3, h4, h5⟩ | ⟨j, x, e', h1, h2, h3, h4, h5, h6, h7⟩
      · refine .inl ⟨?_, fun v => ?_, ?_, ?_, fun y hy => ?_⟩
        · simp only [mget, hrb]; exact h1
        · simp only [mput, hrb, h2]; rfl
        · simp only [mdel, hrb, h3]
        · simp [Instr.findNow, hr, h4]
        · rcases List.mem_cons.1 hy with rfl | hy
          · exact hne
          · exact h5 y hy
      · refine .inr ⟨j + 1, x, e', by simpa using h1, by simpa using h2, ?_, fun v => ?_, ?_, ?_, h7⟩
        · simp only [mget, hrb]; exact h3
        · simp only [mput, hrb, h4]; rfl
        · simp only [mdel, hrb, h5]; rfl
        · simp [Instr.findNow, hr, h6]; omega
section
variable {P : Program} {T : TypeId → TR} {g : Gh} {w : World}
theorem key_sound (TO : TOk P T) {kt : TypeId} {k : AV} {u : Value} (hc : Cz T g w k u) (K : Option IntKind → Prop) (h : keyKd T kt k K) : ∃ kd, K kd ∧ (∀ K' : Option IntKind → Prop, K' kd → keyKd T kt k K') ∧ P.underlying kt = some (kdD kd) ∧ keyAt kd k u := by
  unfold keyKd at h ⊢
  cases hd : (T kt).desc <;> simp only [hd] at h ⊢ <;> first | exact h.elim | skip
  · rename_i q
    cases k <;> simp only at h ⊢ <;> first | exact h.elim | skip
    rename_i q' n
    by_cases hq : q = q'
    · subst hq
      rw [decide_eq_true rfl] at h
      refine ⟨some q, h, fun K' hK => ?_, show P.underlying kt = some (.int q) from und TO hd (by simp [kindD]), ?_⟩
      · rw [decide_eq_true rfl]; exact hK
      · rw [cz_int hc]; exact ⟨rfl, rfl, rfl⟩
    · rw [decide_eq_false hq] at h; exact h.elim
  · cases k <;> simp only at h ⊢ <;> first | exact h.elim | skip
    refine ⟨none, h, fun _ h => h, show P.underlying kt = some .string from und TO hd (by simp [kindD]), ?_⟩
    rw [cz_str hc]; exact rfl
theorem map_shape {b : Nat} {kd : Option IntKind} {m : List (AV × AV)} (h : BoxAt T g w b (.map kd m)) : ∃ es clock, w.heap[g.beta b]? = some (.map es clock) ∧ Stamped es clock ∧ es.toList.length = m.length ∧
    (∀ (i : Nat) (x : AV × AV) (y : MapEntry), m[i]? = some x → es.toList[i]? = some y → keyAt kd x.1 y.key) ∧ ∀ (i : Nat) (x : AV × AV) (y : MapEntry), m[i]? = some x → es.toList[i]? = some y → Dz T g w x.2 y.val := by
  obtain ⟨es, clock, h1, h2, h3, h4⟩ := h
  exact ⟨es, clock, h1, h2, by simpa using h3, fun i x y hx hy => (h4 i x y hx (by simpa using hy)).1, fun i x y hx hy => (h4 i x y hx (by simpa using hy)).2⟩
theorem run_zero (TO : TOk P T) {t : TypeId} (hk : kindD (T t).desc ≠ none) : (zeroValue t).run P w = .ok (T t).zero w := by
  obtain ⟨_, i, hi, _, _, hz, _⟩ := TO t hk
  simp [zeroValue, typeInfo, hi, hz]
theorem look_sound (TO : TOk P T) {L : List LB} {nl nt : Nat} {G : Glob} (hr : Rel T g L nl nt G w) {t : TypeId} {x k : AV} {u v : Value} (hx : Cz T g w x u) (hk : Cz T g w k v) (ok : Bool) (K : AV → Prop) (h : lookK T t G x k ok K) :
    ∃ z y, K z ∧ Cz T g w z y ∧ (Instr.lookup t u v ok).run P w = .ok y w ∧ ∀ K' : AV → Prop, K' z → lookK T t G x k ok K' := by
  unfold lookK at h ⊢
  cases hd : (T t).desc <;> simp only [hd] at h ⊢ <;> first | exact h.elim | skip
  rename_i kt et
  have hu := und TO hd (by simp [kindD])
  obtain ⟨kd, h1, h2, h3, h4⟩ := key_sound TO hk _ h
  have ik := keyAt_isKey h4
  cases he : kindD (T et).desc with
  | none => simp only [he] at h1
  | some kb =>
    simp only [he] at h1 h2 ⊢
    have hz := run_zero (w := w) TO (t := et) (by rw [he]; simp)
    -- nothing stands there
    have none_ok : ∀ (K : AV → Prop), (ofVK (T et).zero fun z => okK ok z false K) → ∃ z y, K z ∧ Cz T g w z y ∧ y = (if ok = true then .tuple #[(T et).zero, .bool false] else (T et).zero) ∧
        ∀ K' : AV → Prop, K' z → (ofVK (T et).zero fun z => okK ok z false K') := fun K hK => by
      obtain ⟨z, q1, q2, q3⟩ := ofV_sound (T := T) (g := g) (w := w) _ _ hK
      cases ok with
      | true =>
        refine ⟨_, _, q1, .tup _ #[(T et).zero, .bool false] rfl (fun i c u hc hu => ?_), rfl, fun K' hK' => q3 _ hK'⟩
        match i with
        | 0 => simp at hc hu; subst hc hu; exact q2
        | 1 => simp at hc hu; subst hc hu; exact .dz _ _ (.bool _)
        | i + 2 => simp at hc
      | false => exact ⟨_, _, q1, q2, rfl, fun K' hK' => q3 _ hK'⟩
    cases x <;> simp only at h1 <;> first | exact h1.elim | skip
    · obtain ⟨z, y, q1, q2, q3, q4⟩ := none_ok K h1
      refine ⟨z, y, q1, q2, ?_, fun K' hK => h2 _ (by simp only; exact q4 K' hK)⟩
      rw [cz_nilm hx, q3]
      have hf : (Instr.findKey kt v []).run P w = .ok none w := run_findKey h3 rfl
      simp [Instr.lookup, run_underlying hu, run_checkKey h3 ik, hf, hz, Result.andThen]
    · rename_i b
      obtain ⟨m, hG, r, hr0, h1⟩ := h1
      obtain ⟨hbn, rfl⟩ := cz_mp hx
      obtain ⟨es, clock, g1, g2, g3, g4, g5⟩ := map_shape (hr.glob b _ hG).2.2
      rcases mfind h4 m es.toList 0 g3 g4 with ⟨p1, _, _, p4, _⟩ | ⟨j, x0, e0, p1, p2, p3, _, _, p6, _⟩
      · rw [p1] at hr0
        subst hr0
        obtain ⟨z, y, q1, q2, q3, q4⟩ := none_ok K h1
        refine ⟨z, y, q1, q2, ?_, fun K' hK => h2 _ (by simp only; exact ⟨m, hG, none, p1, q4 K' hK⟩)⟩
        rw [q3]
        simp [Instr.lookup, run_underlying hu, MapKept.run_getObj_map g1, run_checkKey h3 ik, run_findKey h3 p4, hz, Result.andThen]
      · rw [p3] at hr0
        subst hr0
        simp only at h1
        have hv : Cz T g w x0.2 e0.val := .dz _ _ (g5 j x0 e0 p1 p2)
        rw [Nat.zero_add] at p6
        have run : (Instr.lookup t (.map (some (g.beta b))) v ok).run P w = .ok (if ok = true then .tuple #[e0.val, .bool true] else e0.val) w := by
          simp [Instr.lookup, run_underlying hu, MapKept.run_getObj_map g1, run_checkKey h3 ik, run_findKey h3 p6, Result.andThen]
        cases ok with
        | true =>
          refine ⟨_, _, h1, .tup _ #[e0.val, .bool true] rfl (fun i c u hc hu => ?_), by rw [run]; rfl, fun K' hK => h2 _ (by simp only; exact ⟨m, hG, _, p3, hK⟩)⟩
          match i with
          | 0 => simp at hc hu; subst hc hu; exact hv
          | 1 => simp at hc hu; subst hc hu; exact .dz _ _ (.bool _)
          | i + 2 => simp at hc
        | false => exact ⟨_, _, h1, hv, by rw [run]; rfl, fun K' hK => h2 _ (by simp only; exact ⟨m, hG, _, p3, hK⟩)⟩
end
end Go.Proofs.YtpihanlillbhkaaGreatDoor
end

section
/- Every operation that leaves memory as it is: what it yields in the run of the program is what the abstract run says. -/
namespace Go.Proofs.YtpihanlillbhkaaGreatDoor
open Go Go.RowKit

section
variable {P : Program} {T : TypeId → TR} {g : Gh} {w : World}

/-- what is said of an operation that leaves memory as it is -/
def QS (P : Program) (T : TypeId → TR) (g : Gh) (w : World) (a : Act) (o : Oper) (F : (AV → Prop) → Prop) : Prop :=
  ∀ K, F K → ∃ v u, K v ∧ Cz T g w v u ∧ (execOp a.eval o).run P w = .ok (.value u) w ∧ ∀ K' : AV → Prop, K' v → F K'
theorem run_v {s : Sem Value} {u : Value} (h : s.run P w = .ok u w) : (do pure (.value (← s)) : Sem Next).run P w = .ok (.value u) w := by
  simp only [Sem.run_bind, h, Result.andThen_ok, Sem.run_pure]

variable {a : Act} {env : List AV} {L : List LB} {nl nt : Nat} {G : Glob} {o : Oper}
theorem q_move (he : EnvR T g w env a) (x : Operand) (ho : execOp a.eval o = pure (.value (a.eval x))) : QS P T g w a o (opdK env x) := by
  intro K h
  obtain ⟨v, h1, h2, h3⟩ := opd_sound he x K h
  exact ⟨v, _, h1, h2, by rw [ho]; rfl, h3⟩
theorem q_pick (he : EnvR T g w env a) (c x y : Operand) (ho : o.op = .pick c x y) : QS P T g w a o (qOp T L G env o.op) := by
  intro K h
  rw [ho] at h ⊢
  obtain ⟨v, h1, h2, h3⟩ := opd_sound he c _ h
  cases v <;> first | exact h1.elim | skip
  rename_i t
  have e := cz_bool h2
  cases t
  · obtain ⟨v, g1, g2, g3⟩ := opd_sound he y _ h1
    exact ⟨v, _, g1, g2, by simp [execOp, ho, e, asBool], fun K' hK => h3 _ (g3 _ hK)⟩
  · obtain ⟨v, g1, g2, g3⟩ := opd_sound he x _ h1
    exact ⟨v, _, g1, g2, by simp [execOp, ho, e, asBool], fun K' hK => h3 _ (g3 _ hK)⟩
theorem q_nilCheck (he : EnvR T g w env a) (x : Operand) (ho : o.op = .nilCheck x) : QS P T g w a o (qOp T L G env o.op) := by
  intro K h
  rw [ho] at h ⊢
  obtain ⟨v, h1, h2, h3⟩ := opd_sound he x _ h
  cases v <;> first | exact h1.elim | skip
  case eref c o' =>
    have e : ∃ ad, a.eval x = .pointer (some ad) := by
      revert h2; generalize a.eval x = u; intro h2
      cases h2 with | dz _ _ h2 => cases h2 with | eref => exact ⟨_, rfl⟩
    obtain ⟨ad, e⟩ := e
    exact ⟨_, _, h1, h2, by simp [execOp, ho, e], fun K' hK => h3 _ hK⟩
  case lptr j o' =>
    have e := (cz_lptr h2).2
    exact ⟨_, _, h1, h2, by simp [execOp, ho, e], fun K' hK => h3 _ hK⟩
  case gptr b o' =>
    have e := (cz_gptr h2).2
    exact ⟨_, _, h1, h2, by simp [execOp, ho, e], fun K' hK => h3 _ hK⟩
  case fn f p q =>
    cases f <;> first | exact h1.elim | skip
    obtain ⟨us, vs, e, _⟩ := cz_fn h2
    exact ⟨_, _, h1, h2, by simp [execOp, ho, e], fun K' hK => h3 _ hK⟩
  case ifc t v =>
    obtain ⟨z, e, _⟩ := cz_ifc h2
    exact ⟨_, _, h1, h2, by simp [execOp, ho, e], fun K' hK => h3 _ hK⟩
theorem q_load (TO : TOk P T) (hr : Rel T g L nl nt G w) (he : EnvR T g w env a) (t : TypeId) (x : Operand) (ho : o.op = .load t x) : QS P T g w a o (qOp T L G env o.op) := by
  intro K h
  rw [ho] at h ⊢
  obtain ⟨p, h1, h2, h3⟩ := opd_sound he x _ h
  obtain ⟨cells, of, h4, h5, h6⟩ := box_sound hr h2 _ h1
  obtain ⟨v, y, ad, g1, g2, g3, g4, g5⟩ := sub_sound TO h5 t K h4
  exact ⟨v, y, g1, g2, by simp only [execOp, ho, g3]; exact run_v (by simp only [Instr.loadAt, Instr.sureAddr, Sem.run_bind, Sem.run_pure, Result.andThen_ok, g4]), fun K' hK => h3 _ (h6 _ (g5 _ hK))⟩
theorem q_bin (TO : TOk P T) (he : EnvR T g w env a) (op : BinOp) (t : TypeId) (x y : Operand) (t' : TypeId) (ho : o.op = .binOp op t x y t') : QS P T g w a o (qOp T L G env o.op) := by
  intro K h
  rw [ho] at h ⊢
  obtain ⟨p, h1, h2, h3⟩ := opd_sound he x _ h
  obtain ⟨q, h4, h5, h6⟩ := opd_sound he y _ h1
  obtain ⟨z, r, g1, g2, g3, g4⟩ := bin_sound TO h2 h5 op K h4 x y
  exact ⟨z, r, g1, g2, by simp only [execOp, ho]; exact run_v g3, fun K' hK => h3 _ (h6 _ (g4 _ hK))⟩
theorem q_un (he : EnvR T g w env a) (op : UnOp) (t : TypeId) (x : Operand) (ho : o.op = .unOp op t x) : QS P T g w a o (qOp T L G env o.op) := by
  intro K h
  rw [ho] at h ⊢
  obtain ⟨p, h1, h2, h3⟩ := opd_sound he x _ h
  cases op <;> cases p <;> first | exact h1.elim | skip
  · have e := cz_int h2
    exact ⟨_, _, h1, .dz _ _ (.int _ _), by simp [execOp, ho, e, Op.unary, Op.intArith], fun K' hK => h3 _ hK⟩
  · have e := cz_bool h2
    exact ⟨_, _, h1, .dz _ _ (.bool _), by simp [execOp, ho, e, Op.unary], fun K' hK => h3 _ hK⟩
theorem q_conv (TO : TOk P T) (he : EnvR T g w env a) (src dst : TypeId) (x : Operand) (ho : o.op = .convert src dst x) : QS P T g w a o (qOp T L G env o.op) := by
  intro K h
  rw [ho] at h ⊢
  obtain ⟨p, h1, h2, h3⟩ := opd_sound he x _ h
  cases hs : kindD (T src).desc with
  | none => simp only [hs] at h1
  | some b =>
    have hu := (TO src (by rw [hs]; simp)).1
    simp only [hs] at h1
    cases hd : (T dst).desc <;> simp only [hd] at h1 <;> first | exact h1.elim | skip
    case int k =>
      cases p <;> first | exact h1.elim | skip
      have hv := und TO hd (by simp [kindD])
      have e := cz_int h2
      refine ⟨_, _, h1, .dz _ _ (.int _ _), ?_, fun K' hK => h3 _ (by simp only [hs, hd]; exact hK)⟩
      simp only [execOp, ho, e]
      exact run_v (by simp [convert, run_underlying hu, run_underlying hv, Conv.intToInt])
    case string =>
      cases p <;> first | exact h1.elim | skip
      have hv := und TO hd (by simp [kindD])
      have e := cz_str h2
      refine ⟨_, _, h1, .dz _ _ (.str _), ?_, fun K' hK => h3 _ (by simp only [hs, hd]; exact hK)⟩
      simp only [execOp, ho, e]
      exact run_v (by simp [convert, run_underlying hu, run_underlying hv])
theorem part_sound (TO : TOk P T) {cs : List AV} {us : Array Value} (hl : cs.length = us.size) (h1 : ∀ u ∈ us, u.oneCell' = true) (hp : ∀ (i : Nat) (c : AV) (u : Value), cs[i]? = some c → us[i]? = some u → Cz T g w c u) (t : TypeId) (off : Nat) (K : AV → Prop) (h : subK T t cs off K) :
    ∃ v u, K v ∧ Cz T g w v u ∧ (part t us off).run P w = .ok u w ∧ ∀ K' : AV → Prop, K' v → subK T t cs off K' := by
  unfold subK at h ⊢
  cases hk : kindD (T t).desc with
  | none => rw [hk] at h; exact h.elim
  | some b =>
    obtain ⟨hu, i, hi, hs, _⟩ := TO t (by rw [hk]; simp)
    rw [hk] at h
    cases b with
    | true =>
      obtain ⟨g1, g2⟩ := (dropK_iff _ _).1 h
      obtain ⟨g3, g4⟩ := (takeK_iff _ _ _).1 g2
      simp only [List.length_drop] at g3
      refine ⟨_, .agg (us.extract off (off + (T t).cells)), g4, .agg _ _ (by simp; omega) ?_ ?_, ?_, fun K' hK => (dropK_iff _ _).2 ⟨g1, (takeK_iff _ _ _).2 ⟨by simp; omega, hK⟩⟩⟩
      · intro u hu
        obtain ⟨j, hj, rfl⟩ := Array.mem_iff_getElem.1 hu
        rw [Array.getElem_extract]; exact h1 _ (Array.getElem_mem _)
      · intro j c u hc hu
        have hjl : j < (T t).cells := by
          have := (List.getElem?_eq_some_iff.1 hc).1
          simp at this; omega
        rw [List.getElem?_take_of_lt hjl, List.getElem?_drop] at hc
        refine hp (off + j) c u hc ?_
        rw [Array.getElem?_extract] at hu
        split at hu
        · exact hu
        · cases hu
      · simp only [part, Sem.run_bind, run_isAgg hu hk, Result.andThen_ok, if_true, sizeOf, typeInfo, run_program, hi, Sem.run_pure, hs]
    | false =>
      obtain ⟨v, hv, h⟩ := (nthK_iff _ _).1 h
      have hlt : off < us.size := by have := (List.getElem?_eq_some_iff.1 hv).1; omega
      have hu' : us[off]? = some us[off] := Array.getElem?_eq_getElem hlt
      exact ⟨v, us[off], h, hp off v _ hv hu', by simp [part, run_isAgg hu hk, hu'], fun K' hK => (nthK_iff _ _).2 ⟨v, hv, hK⟩⟩
theorem q_field (TO : TOk P T) (he : EnvR T g w env a) (t : TypeId) (x : Operand) (i : Nat) (ho : o.op = .field t x i) : QS P T g w a o (qOp T L G env o.op) := by
  intro K h
  rw [ho] at h ⊢
  obtain ⟨p, h1, h2, h3⟩ := opd_sound he x _ h
  cases hd : (T t).desc <;> simp only [hd] at h1 <;> first | exact h1.elim | skip
  rename_i fs
  cases p <;> first | exact h1.elim | skip
  rename_i cs
  obtain ⟨us, e, hl, h4, h5⟩ := cz_agg h2
  have hv := und TO hd (by simp [kindD])
  cases hf : fs[i]? with
  | none => simp only [hf] at h1
  | some f =>
    simp only [hf] at h1
    obtain ⟨v, u, g1, g2, g3, g4⟩ := part_sound TO hl h4 h5 f.type f.offset K h1
    refine ⟨v, u, g1, g2, ?_, fun K' hK => h3 _ (by simp only [hd, hf]; exact g4 K' hK)⟩
    simp only [execOp, ho, e]
    exact run_v (by simp [Instr.field, run_underlying hv, hf, asAgg, g3])
theorem ptr_sound {v : AV} {u : Value} (hc : Cz T g w v u) (d : Nat) (K : AV → Prop) (h : ptrK v d K) : ∃ z ad, K z ∧ u = .pointer (some ad) ∧ Cz T g w z (.pointer (some (ad.add d))) ∧ ∀ K' : AV → Prop, K' z → ptrK v d K' := by
  cases v <;> first | exact h.elim | skip
  case eref c o' =>
    cases hc with | dz _ _ hc => cases hc with | eref _ _ b o F hp hd =>
      refine ⟨_, _, h, rfl, ?_, fun _ h => h⟩
      rw [addr_add, Nat.add_assoc]
      exact .dz _ _ (.eref _ _ b o F hp hd)
  case lptr j o' =>
    obtain ⟨hj, e⟩ := cz_lptr hc
    exact ⟨_, _, h, e, by rw [addr_add]; exact .lptr _ _ hj, fun _ h => h⟩
  case gptr b o' =>
    obtain ⟨hj, e⟩ := cz_gptr hc
    exact ⟨_, _, h, e, by rw [addr_add]; exact .dz _ _ (.gptr _ _ hj), fun _ h => h⟩
theorem q_fieldAddr (TO : TOk P T) (he : EnvR T g w env a) (t : TypeId) (x : Operand) (i : Nat) (ho : o.op = .fieldAddr t x i) : QS P T g w a o (qOp T L G env o.op) := by
  intro K h
  rw [ho] at h ⊢
  unfold qOp at h ⊢
  cases hd : (T t).desc <;> simp only [hd] at h ⊢ <;> first | exact h.elim | skip
  rename_i fs
  have hv := und TO hd (by simp [kindD])
  cases hf : fs[i]? with
  | none => simp only [hf] at h
  | some f =>
    simp only [hf] at h ⊢
    cases hk : kindD (T f.type).desc with
    | none => simp only [hk] at h
    | some kb =>
      cases hc : (T f.type).cells with
      | zero => simp only [hk, hc] at h
      | succ n =>
        simp only [hk, hc] at h ⊢
        obtain ⟨p, h1, h2, h3⟩ := opd_sound he x _ h
        obtain ⟨z, ad, g1, g2, g3, g4⟩ := ptr_sound h2 _ _ h1
        refine ⟨z, _, g1, g3, ?_, fun K' hK => h3 _ (g4 _ hK)⟩
        obtain ⟨_, i', hi, hs, _⟩ := TO f.type (by rw [hk]; simp)
        simp only [execOp, ho, g2]
        exact run_v (by simp [Instr.fieldAt, run_underlying hv, hf, Instr.sureAddr, fieldPlace, sizeOf, typeInfo, hi, hs, hc])
theorem els_sound {v : AV} {u : Value} (hc : Cz T g w v u) (K : TypeId → List (List AV) → Prop) (h : elsOf v K) : ∃ e els, K e els ∧ Dz T g w (.slc e els) u ∧ ∀ K' : TypeId → List (List AV) → Prop, K' e els → elsOf v K' := by
  cases v <;> first | exact h.elim | skip
  · exact ⟨_, _, h, cz_slc hc, fun _ h => h⟩
  · exact ⟨_, _, h, (cz_own hc).2.slc (fun n i hi => hi), fun _ h => h⟩
theorem slc_cells {e : TypeId} {els : List (List AV)} {u : Value} (h : Dz T g w (.slc e els) u) : ∃ p cap, u = .slice p els.length cap ∧ els.length ≤ cap ∧ cap ≤ maxLen ∧ (∀ cells ∈ els, cells.length = (T e).cells) ∧
    (0 < els.length → ∃ (b off : Nat) (F : Nat → Nat → Value), p = some ⟨b, off, none⟩ ∧ ∀ (i : Nat) (cells : List AV), els[i]? = some cells → ∀ j, j < (T e).cells → g.frz b (off + (i * (T e).cells + j)) ∧ w.cell? ⟨b, off + (i * (T e).cells + j), none⟩ = some (F i j) ∧ (F i j).oneCell' = true ∧ ∀ x, cells[j]? = some x → Dz T g w x (F i j)) := by
  cases h with
  | slc _ _ p cap F hc hm hs hp hd =>
    refine ⟨p, cap, rfl, hc, hm, hs, fun h0 => ?_⟩
    obtain ⟨b, off, h1, h2⟩ := hp h0
    refine ⟨b, off, F, h1, fun i cells hi j hj => ?_⟩
    obtain ⟨q1, q2, q3⟩ := h2 i cells hi j hj
    exact ⟨q1, q2, q3, fun x hx => hd i cells hi j x hx⟩
theorem q_indexAddr (TO : TOk P T) (he : EnvR T g w env a) (t : TypeId) (x ix : Operand) (ho : o.op = .indexAddr t x ix) : QS P T g w a o (qOp T L G env o.op) := by
  intro K h
  rw [ho] at h ⊢
  obtain ⟨iv, h1, h2, h3⟩ := opd_sound he ix _ h
  cases iv <;> first | exact h1.elim | skip
  rename_i k i
  have e := cz_int h2
  cases hd : (T t).desc <;> simp only [hd] at h1 <;> first | exact h1.elim | skip
  case array n el =>
    have hv := und TO hd (by simp [kindD])
    cases hk : kindD (T el).desc with
    | none => simp only [hk] at h1
    | some kb =>
      simp only [hk] at h1
      obtain ⟨⟨i0, i1⟩, h1⟩ := h1
      obtain ⟨p, h4, h5, h6⟩ := opd_sound he x _ h1
      obtain ⟨z, ad, g1, g2, g3, g4⟩ := ptr_sound h5 _ _ h4
      obtain ⟨_, i', hi, hs, _⟩ := TO el (by rw [hk]; simp)
      refine ⟨z, _, g1, g3, ?_, fun K' hK => h3 _ (by simp only [hd, hk]; exact ⟨⟨i0, i1⟩, h6 _ (g4 _ hK)⟩)⟩
      simp only [execOp, ho, g2, e]
      exact run_v (by simp [Instr.indexAt, run_underlying hv, asIntOf, Instr.sureAddr, i0, i1, sizeOf, typeInfo, hi, hs])
  case slice el =>
    have hv := und TO hd (by simp [kindD])
    cases hk : kindD (T el).desc with
    | none => simp only [hk] at h1
    | some kb =>
      simp only [hk] at h1
      obtain ⟨p, h4, h5, h6⟩ := opd_sound he x _ h1
      obtain ⟨e', els, g1, g2, g3⟩ := els_sound h5 _ h4
      by_cases hee : el = e'
      · subst hee
        simp only [decide_true] at g1
        obtain ⟨cells, ⟨i0, hi0⟩, hK⟩ := g1
        obtain ⟨p', cap, q1, q2, q3, q4, q5⟩ := slc_cells g2
        have hil := (List.getElem?_eq_some_iff.1 hi0).1
        obtain ⟨b, off, F, rfl, hF⟩ := q5 (by omega)
        obtain ⟨_, i', hi, hs, _⟩ := TO el (by rw [hk]; simp)
        have hcl := q4 cells (List.mem_of_getElem? hi0)
        refine ⟨.eref cells 0, .pointer (some ⟨b, (off + i.toNat * (T el).cells) + 0, none⟩), hK, .dz _ _ (.eref cells 0 b (off + i.toNat * (T el).cells) (F i.toNat) (fun j hj => ?_) (fun j c hj => ?_)), ?_, fun K' hK' => h3 _ (by simp only [hd, hk]; exact h6 _ (g3 _ (by simp only [decide_true]; exact ⟨cells, ⟨i0, hi0⟩, hK'⟩)))⟩
        · obtain ⟨f1, f2, f3, _⟩ := hF i.toNat cells hi0 j (by omega)
          rw [Nat.add_assoc]; exact ⟨f1, f2, f3⟩
        · have hjl := (List.getElem?_eq_some_iff.1 hj).1
          exact (hF i.toNat cells hi0 j (by omega)).2.2.2 c hj
        · simp only [execOp, ho, q1, e]
          have i1 : i < els.length := by omega
          exact run_v (by simp [Instr.indexAt, run_underlying hv, asIntOf, i0, i1, sizeOf, typeInfo, hi, hs, addr_add])
      · rw [decide_eq_false hee] at g1; exact g1.elim
theorem byteAt_eq (s : ByteArray) (i : Nat) (h : i < s.size) : s[i]? = some (s.data.toList.getD i 0) := by
  have hd : i < s.data.size := h
  rw [getElem?_pos s i h]
  simp [ByteArray.getElem_eq_getElem_data, List.getD, Array.getElem?_eq_getElem hd]
theorem q_index (TO : TOk P T) (he : EnvR T g w env a) (t : TypeId) (x ix : Operand) (ho : o.op = .index t x ix) : QS P T g w a o (qOp T L G env o.op) := by
  intro K h
  rw [ho] at h ⊢
  obtain ⟨iv, h1, h2, h3⟩ := opd_sound he ix _ h
  obtain ⟨v, h4, h5, h6⟩ := opd_sound he x _ h1
  cases iv <;> first | exact h4.elim | (cases v <;> first | exact h4.elim | skip)
  case int.str k i s =>
    have e1 := cz_int h2; have e2 := cz_str h5
    cases hd : kindD (T t).desc with
    | none => simp only [hd] at h4
    | some kb =>
      simp only [hd] at h4
      cases hd' : (T t).desc <;> simp only [hd'] at h4 <;> first | exact h4.elim | skip
      have hv := und TO hd' (by simp [kindD])
      obtain ⟨⟨i0, i1⟩, hK⟩ := h4
      refine ⟨_, _, hK, .dz _ _ (.int _ _), ?_, fun K' hK' => h3 _ (h6 _ (by simp only [hd']; exact ⟨⟨i0, i1⟩, hK'⟩))⟩
      simp only [execOp, ho, e1, e2]
      have hb := byteAt_eq s i.toNat (by omega)
      exact run_v (by simp [Instr.index, run_underlying hv, asIntOf, i0, hb, byteAt])
  case int.agg k i cs =>
    have e1 := cz_int h2
    obtain ⟨us, e2, hl, g1, g2⟩ := cz_agg h5
    cases hd : (T t).desc <;> simp only [hd] at h4 <;> first | exact h4.elim | skip
    rename_i n el
    have hv := und TO hd (by simp [kindD])
    cases hk : kindD (T el).desc with
    | none => simp only [hk] at h4
    | some kb =>
      cases kb with
      | true => simp only [hk] at h4
      | false =>
        obtain ⟨hu, i', hi, hs, _⟩ := TO el (by rw [hk]; simp)
        have hc1 : (T el).cells = 1 := by
          simp only [hk] at h4
          revert h4; generalize (T el).cells = c; intro h4
          match c, h4 with
          | 1, _ => rfl
        simp only [hk, hc1] at h4
        obtain ⟨⟨i0, i1⟩, z, hz, hK⟩ := h4
        have hlt : i.toNat < us.size := by have := (List.getElem?_eq_some_iff.1 hz).1; omega
        have hu' : us[i.toNat]? = some us[i.toNat] := Array.getElem?_eq_getElem hlt
        refine ⟨z, us[i.toNat], hK, g2 _ _ _ hz hu', ?_, fun K' hK' => h3 _ (h6 _ (by simp only [hd, hk, hc1]; exact ⟨⟨i0, i1⟩, z, hz, hK'⟩))⟩
        simp only [execOp, ho, e1, e2]
        exact run_v (by simp [Instr.index, run_underlying hv, asIntOf, i0, i1, sizeOf, typeInfo, hi, hs, hc1, part, run_isAgg hu hk, hu'])
theorem q_extract (he : EnvR T g w env a) (x : Operand) (i : Nat) (ho : o.op = .extract x i) : QS P T g w a o (qOp T L G env o.op) := by
  intro K h
  rw [ho] at h ⊢
  obtain ⟨v, h1, h2, h3⟩ := opd_sound he x _ h
  cases v <;> first | exact h1.elim | skip
  obtain ⟨us, e, hl, hp⟩ := cz_tup h2
  obtain ⟨z, hz, hK⟩ := (nthK_iff _ _).1 h1
  have hlt : i < us.size := by have := (List.getElem?_eq_some_iff.1 hz).1; omega
  have hu' : us[i]? = some us[i] := Array.getElem?_eq_getElem hlt
  refine ⟨z, us[i], hK, hp _ _ _ hz hu', ?_, fun K' hK' => h3 _ ((nthK_iff _ _).2 ⟨z, hz, hK'⟩)⟩
  simp only [execOp, ho, e]
  exact run_v (by simp [Instr.extract, hu'])
theorem q_makeFunc (he : EnvR T g w env a) (f : Fn) (x y : Array Operand) (ho : o.op = .makeFunc f x y) : QS P T g w a o (qOp T L G env o.op) := by
  intro K h
  rw [ho] at h ⊢
  obtain ⟨vs, h1, h2, h3, h4⟩ := opds_sound he x.toList _ h
  obtain ⟨us, h5, h6, h7, h8⟩ := opds_sound he y.toList _ h1
  refine ⟨_, .func f (x.map a.eval) (y.map a.eval), h5, .fn _ _ _ _ _ (by simpa using h3) (by simpa using h7) (fun i c u hc hu => ?_) (fun i c u hc hu => ?_), ?_, fun K' hK => h2 _ (h6 _ hK)⟩
  · simp at hu
    obtain ⟨z, hz, rfl⟩ := hu
    exact h4 i c z hc (by simpa using hz)
  · simp at hu
    obtain ⟨z, hz, rfl⟩ := hu
    exact h8 i c z hc (by simpa using hz)
  · simp only [execOp, ho]
    exact run_v (by simp [Instr.makeFunc])
theorem q_makeInterface (TO : TOk P T) (he : EnvR T g w env a) (t : TypeId) (x : Operand) (ho : o.op = .makeInterface t x) : QS P T g w a o (qOp T L G env o.op) := by
  intro K h
  rw [ho] at h ⊢
  simp only [qOp] at h ⊢
  have hk : kindD (T t).desc ≠ none ∧ (∀ ms, (T t).desc ≠ .interface ms) ∧ (opdK env x fun v => K (.ifc t v)) ∧ ∀ K' : AV → Prop, (opdK env x fun v => K' (.ifc t v)) → (match (T t).desc with
    | .interface _ => False
    | .invalid => False
    | _ => opdK env x fun v => K' (.ifc t v)) := by
    revert h
    cases (T t).desc <;> intro h <;> first | exact h.elim | exact ⟨by simp [kindD], (fun _ h => by cases h), h, (fun _ h => h)⟩
  obtain ⟨k1, k2, k3, k4⟩ := hk
  obtain ⟨v, h1, h2, h3⟩ := opd_sound he x _ k3
  refine ⟨_, _, h1, .ifc t v _ h2, ?_, fun K' hK => k4 K' (h3 _ hK)⟩
  have hu := (TO t k1).1
  simp only [execOp, ho]
  refine run_v ?_
  simp only [Instr.makeInterface, Sem.run_bind, run_underlying hu, Result.andThen_ok]
  revert k2
  cases (T t).desc <;> intro k2 <;> first | rfl | exact absurd rfl (k2 _)
theorem bound_sound {x : Option AV} {y : Option Operand} (hx : (y = none ∧ x = none) ∨ ∃ z c, y = some z ∧ x = some c ∧ Cz T g w c (a.eval z)) (d : Int) (K : Int → Prop) (h : boundK d x K) :
    ∃ i, K i ∧ (∀ K' : Int → Prop, K' i → boundK d x K') ∧ ((y.map a.eval = none ∧ i = d) ∨ ∃ k, y.map a.eval = some (.int k i)) := by
  rcases hx with ⟨rfl, rfl⟩ | ⟨z, c, rfl, rfl, hc⟩
  · exact ⟨d, h, fun _ h => h, .inl ⟨rfl, rfl⟩⟩
  · cases c <;> first | exact h.elim | skip
    exact ⟨_, h, fun _ h => h, .inr ⟨_, by rw [Option.map_some, cz_int hc]⟩⟩
theorem run_bounds {lo hi : Option Value} {l h : Int} {len cap : Nat} (sl : Bool) (hl : (lo = none ∧ l = 0) ∨ ∃ k, lo = some (.int k l)) (hh : (hi = none ∧ h = len) ∨ ∃ k, hi = some (.int k h)) (h0 : 0 ≤ l) (h1 : l ≤ h) (h2 : h ≤ cap) (w : World) :
    (Instr.sliceBounds sl len cap lo hi none).run P w = .ok (l.toNat, h.toNat, cap) w := by
  have e1 : (0 : Int) ≤ h := by omega
  have e2 : (h.toNat : Int) = h := by omega
  have e4 : l ≤ (h.toNat : Int) := by omega
  rcases hl with ⟨rfl, rfl⟩ | ⟨k, rfl⟩ <;> rcases hh with ⟨rfl, rfl⟩ | ⟨k', rfl⟩ <;> simp_all [Instr.sliceBounds, Instr.sliceBound, asIntOf]
theorem slc_mk {e : TypeId} (els : List (List AV)) {p : Option Addr} {cap n : Nat} (F : Nat → Nat → Value) (hn : n = els.length) (hc : els.length ≤ cap) (hm : cap ≤ maxLen) (hs : ∀ cells ∈ els, cells.length = (T e).cells)
    (hp : 0 < els.length → ∃ b off, p = some ⟨b, off, none⟩ ∧ ∀ (i : Nat) (cells : List AV), els[i]? = some cells → ∀ j, j < (T e).cells → g.frz b (off + (i * (T e).cells + j)) ∧ w.cell? ⟨b, off + (i * (T e).cells + j), none⟩ = some (F i j) ∧ (F i j).oneCell' = true)
    (hd : ∀ (i : Nat) (cells : List AV), els[i]? = some cells → ∀ (j : Nat) (x : AV), cells[j]? = some x → Dz T g w x (F i j)) : Dz T g w (.slc e els) (.slice p n cap) := by
  subst hn; exact .slc e els p cap F hc hm hs hp hd
theorem slc_sub {e : TypeId} {els : List (List AV)} {p : Option Addr} {cap : Nat} (h : Dz T g w (.slc e els) (.slice p els.length cap)) (l h' : Nat) (h1 : l ≤ h') (h2 : h' ≤ els.length) :
    Dz T g w (.slc e ((els.drop l).take (h' - l))) (.slice (if cap = l then p else p.map (·.add (l * (T e).cells))) (h' - l) (cap - l)) := by
  obtain ⟨p', cap', e1, q2, q3, q4, q5⟩ := slc_cells h
  simp only [Value.slice.injEq, true_and] at e1
  obtain ⟨rfl, rfl⟩ := e1
  have hlen : ((els.drop l).take (h' - l)).length = h' - l := by simp; omega
  by_cases hpos : 0 < els.length
  · obtain ⟨b, off, F, rfl, hF⟩ := q5 hpos
    refine slc_mk _ (fun i j => F (l + i) j) hlen.symm (by rw [hlen]; omega) (by omega) (fun cells hc => q4 cells ?_) (fun h0 => ?_) (fun i cells hi j x hj => ?_)
    · exact List.mem_of_mem_drop (List.mem_of_mem_take hc)
    · rw [hlen] at h0
      refine ⟨b, off + l * (T e).cells, by rw [if_neg (by omega)]; simp [addr_add], fun i cells hi j hj => ?_⟩
      have hil := (List.getElem?_eq_some_iff.1 hi).1
      rw [hlen] at hil
      rw [List.getElem?_take_of_lt (by omega), List.getElem?_drop] at hi
      obtain ⟨f1, f2, f3, _⟩ := hF (l + i) cells hi j hj
      rw [show off + l * (T e).cells + (i * (T e).cells + j) = off + ((l + i) * (T e).cells + j) by rw [Nat.add_mul]; omega]
      exact ⟨f1, f2, f3⟩
    · have hil := (List.getElem?_eq_some_iff.1 hi).1
      rw [hlen] at hil
      rw [List.getElem?_take_of_lt (by omega), List.getElem?_drop] at hi
      have hjl : j < (T e).cells := by have := (List.getElem?_eq_some_iff.1 hj).1; rw [q4 cells (List.mem_of_getElem? hi)] at this; exact this
      exact (hF (l + i) cells hi j hjl).2.2.2 x hj
  · have h0 : h' - l = 0 := by omega
    rw [h0]
    exact slc_mk _ (fun _ _ => undef) (by simp) (by simp) (by omega) (fun c hc => by simp at hc) (fun h => by simp at h) (fun i c hi => by simp at hi)
theorem q_slice (TO : TOk P T) (he : EnvR T g w env a) (t : TypeId) (x : Operand) (lo hi : Option Operand) (ho : o.op = .slice t x lo hi none) : QS P T g w a o (qOp T L G env o.op) := by
  intro K h
  rw [ho] at h ⊢
  obtain ⟨v, h1, h2, h3⟩ := opd_sound he x _ h
  obtain ⟨l, h4, h5, h6⟩ := oopd_sound he lo _ h1
  obtain ⟨hh, h7, h8, h9⟩ := oopd_sound he hi _ h4
  have back : ∀ K' : AV → Prop, sliceK T t v l hh K' → qOp T L G env (.slice t x lo hi none) K' := fun K' hK => h3 _ (h5 _ (h8 _ hK))
  cases hk : (T t).desc <;> simp only [sliceK, hk] at h7 <;> first | exact h7.elim | skip
  case string =>
    have hv := und TO hk (by simp [kindD])
    cases v <;> first | exact h7.elim | skip
    rename_i s
    have e1 := cz_str h2
    obtain ⟨i, g1, g2, g3⟩ := bound_sound h9 _ _ h7
    obtain ⟨j, g4, g5, g6⟩ := bound_sound h6 _ _ g1
    obtain ⟨⟨b0, b1, b2⟩, hK⟩ := g4
    refine ⟨_, _, hK, .dz _ _ (.str _), ?_, fun K' hK' => back K' (by simp only [sliceK, hk]; exact g2 _ (g5 _ ⟨⟨b0, b1, b2⟩, hK'⟩))⟩
    simp only [execOp, ho, e1]
    have hr := run_bounds (P := P) (len := s.size) (cap := s.size) false g6 g3 b0 b1 b2 w
    exact run_v (by simp [Instr.sliceAt, run_underlying hv, Instr.slice, hr])
  case slice el =>
    have hv := und TO hk (by simp [kindD])
    cases hke : kindD (T el).desc with
    | none => simp only [hke] at h7
    | some kb =>
      simp only [hke] at h7
      obtain ⟨e', els, g0, g1, g2⟩ := els_sound h2 _ h7
      by_cases hee : el = e'
      · subst hee
        simp only [decide_true] at g0
        obtain ⟨i, q1, q2, q3⟩ := bound_sound h9 _ _ g0
        obtain ⟨j, q4, q5, q6⟩ := bound_sound h6 _ _ q1
        obtain ⟨⟨b0, b1, b2⟩, hK⟩ := q4
        obtain ⟨p, cap, e1, c1, c2, c3, _⟩ := slc_cells g1
        obtain ⟨_, i', hi', hs, _⟩ := TO el (by rw [hke]; simp)
        rw [e1] at g1
        have hsub := slc_sub g1 j.toNat i.toNat (by omega) (by omega)
        refine ⟨_, _, hK, .dz _ _ hsub, ?_, fun K' hK' => back K' (by simp only [sliceK, hk, hke]; exact g2 _ (by simp only [decide_true]; exact q2 _ (q5 _ ⟨⟨b0, b1, b2⟩, hK'⟩)))⟩
        simp only [execOp, ho, e1]
        have hr := run_bounds (P := P) (len := els.length) (cap := cap) true q6 q3 b0 b1 (by omega) w
        exact run_v (by simp [Instr.sliceAt, run_underlying hv, Instr.slice, hr, sizeOf, typeInfo, hi', hs])
      · rw [decide_eq_false hee] at g0; exact g0.elim
theorem len_sound (TO : TOk P T) {t : TypeId} {v : AV} {u : Value} (hc : Cz T g w v u) (K : Int → Prop) (h : lenK T t v K) : ∃ n, K n ∧ (Builtin.len_ #[t] o.type #[u]).run P w = .ok (.int .i64 n) w ∧ ∀ K' : Int → Prop, K' n → lenK T t v K' := by
  unfold lenK at h ⊢
  cases hd : (T t).desc <;> rw [hd] at h <;> first | exact h.elim | skip
  case string =>
    have hv := und TO hd (by simp [kindD])
    cases v <;> first | exact h.elim | skip
    have e := cz_str hc; subst e
    exact ⟨_, h, by simp [Builtin.len_, run_underlying hv, goInt], fun _ h => h⟩
  case slice el =>
    have hv := und TO hd (by simp [kindD])
    cases v <;> first | exact h.elim | skip
    · have e := cz_nils hc; subst e
      exact ⟨_, h, by simp [Builtin.len_, run_underlying hv, goInt], fun _ h => h⟩
    · obtain ⟨p, cap, rfl, _⟩ := slc_cells (cz_slc hc)
      exact ⟨_, h, by simp [Builtin.len_, run_underlying hv, goInt], fun _ h => h⟩
    · obtain ⟨p, cap, rfl, _⟩ := slc_cells ((cz_own hc).2.slc (fun n i hi => hi))
      exact ⟨_, h, by simp [Builtin.len_, run_underlying hv, goInt], fun _ h => h⟩
theorem q_len (TO : TOk P T) (he : EnvR T g w env a) (args : Array Operand) (ts : Array TypeId) (ho : o.op = .call { callee := .builtin .len, args := args, argTypes := ts }) : QS P T g w a o (qOp T L G env o.op) := by
  intro K h
  rw [ho] at h ⊢
  simp only [qOp] at h ⊢
  obtain ⟨l⟩ := args
  obtain ⟨l2⟩ := ts
  match l, l2, h with
  | [x], [t], h =>
    obtain ⟨v, h1, h2, h3⟩ := opd_sound he x _ h
    obtain ⟨n, h4, h5, h6⟩ := len_sound (o := o) TO h2 _ h1
    refine ⟨_, _, h4, .dz _ _ (.int _ _), ?_, fun K' hK => h3 _ (h6 _ hK)⟩
    simp [execOp, ho, resolve, invoke, builtin, h5]
theorem mm_sound {f : Int → Int → Int} {run2 : Value → Value → Sem Value} (hf : ∀ k x k' y, run2 (.int k x) (.int k' y) = pure (.int k (f x y))) : ∀ (vs : List AV) (xs : List Value) (k : IntKind) (n : Int) (K : AV → Prop), vs.length = xs.length →
    (∀ (i : Nat) (v : AV) (x : Value), vs[i]? = some v → xs[i]? = some x → Cz T g w v x) → minmax f vs k n K → ∃ m, K (.int k m) ∧ (xs.foldlM run2 (.int k n) : Sem Value).run P w = .ok (.int k m) w ∧ ∀ K' : AV → Prop, K' (.int k m) → minmax f vs k n K'
  | [], [], k, n, K, _, _, h => ⟨n, h, rfl, fun _ h => h⟩
  | v :: vs, x :: xs, k, n, K, hl, hp, h => by
    cases v <;> first | exact h.elim | skip
    have e := cz_int (hp 0 _ _ rfl rfl)
    subst e
    obtain ⟨m, h1, h2, h3⟩ := mm_sound hf vs xs k _ K (by simpa using hl) (fun i v x hv hx => hp (i + 1) v x (by simpa using hv) (by simpa using hx)) h
    refine ⟨m, h1, ?_, h3⟩
    simp only [List.foldlM_cons, Sem.run_bind, hf, Sem.run_pure, Result.andThen_ok]
    exact h2
theorem q_mm (he : EnvR T g w env a) (b : Builtin) (f : Int → Int → Int) (run2 : Value → Value → Sem Value) (hf : ∀ k x k' y, run2 (.int k x) (.int k' y) = pure (.int k (f x y))) (args : Array Operand) (ts : Array TypeId) (ho : o.op = .call { callee := .builtin b, args := args, argTypes := ts })
    (hb : ∀ consts x xs, builtin b ts o.type consts (x :: xs : List Value).toArray = (do pure (.value (← (xs.foldlM run2 x : Sem Value))))) :
    QS P T g w a o (fun K => opdsK env args.toList fun | .int k n :: r => minmax f r k n K | _ => False) := by
  intro K h
  obtain ⟨vs, h1, h2, h3, h4⟩ := opds_sound he _ _ h
  match vs, h1, h2, h3, h4 with
  | v :: vs, h1, h2, h3, h4 =>
    cases v <;> first | exact h1.elim | skip
    rename_i k n
    obtain ⟨l⟩ := args
    match l, h3, h4 with
    | x :: xs, h3, h4 =>
      have e := cz_int (h4 0 _ _ rfl rfl)
      obtain ⟨m, q1, q2, q3⟩ := mm_sound (P := P) hf vs (xs.map a.eval) k n K (by simpa using h3) (fun i v y hv hy => by
        simp at hy
        obtain ⟨z, hz, rfl⟩ := hy
        exact h4 (i + 1) v z (by simpa using hv) (by simpa using hz)) h1
      refine ⟨_, _, q1, .dz _ _ (.int _ _), ?_, fun K' hK => h2 _ (q3 _ hK)⟩
      simp only [execOp, ho, resolve, invoke, Sem.run_bind, Sem.run_pure, Result.andThen_ok, List.map_toArray, List.map_cons, e]
      rw [hb]
      exact run_v q2
/-- parts laid into cells -/
theorem cellsOf_sound {v : AV} {u : Value} (hc : Cz T g w v u) (K : List AV → Prop) (h : cellsOfV v K) : ∃ cs, K cs ∧ (∀ K' : List AV → Prop, K' cs → cellsOfV v K') ∧ cs.length = u.cells.size ∧ (∀ x ∈ u.cells, x.oneCell' = true) ∧ ∀ (i : Nat) (c : AV) (x : Value), cs[i]? = some c → u.cells[i]? = some x → Cz T g w c x := by
  have one : ∀ x : AV, (∀ us, x ≠ .agg us) → x ≠ .top → (∀ us, x ≠ .tup us) → Cz T g w x u → u.oneCell' = true ∧ u.cells = #[u] := by
    intro x h1 h2 h3 hx
    cases hx with
    | dz _ _ hx => cases hx <;> first | exact ⟨rfl, rfl⟩ | exact absurd rfl h2 | exact absurd rfl (h1 _) | exact absurd rfl (h3 _)
    | any => exact absurd rfl h2
    | own _ _ _ _ _ hx => obtain ⟨xs, hx, _⟩ := hx; rcases hx.2 with ⟨rfl, _⟩ | ⟨_, _, _, rfl, _⟩ <;> exact ⟨rfl, rfl⟩
    | lptr => exact ⟨rfl, rfl⟩
    | agg => exact absurd rfl (h1 _)
    | tup => exact absurd rfl (h3 _)
    | fn => exact ⟨rfl, rfl⟩
    | ifc => exact ⟨rfl, rfl⟩
  have single : ∀ (_ : ∀ us, v ≠ .agg us) (_ : v ≠ .top) (_ : ∀ us, v ≠ .tup us), (∀ K' : List AV → Prop, cellsOfV v K' ↔ K' [v]) → ∃ cs, K cs ∧ (∀ K' : List AV → Prop, K' cs → cellsOfV v K') ∧ cs.length = u.cells.size ∧ (∀ x ∈ u.cells, x.oneCell' = true) ∧ ∀ (i : Nat) (c : AV) (x : Value), cs[i]? = some c → u.cells[i]? = some x → Cz T g w c x := by
    intro h1 h2 h3 hk
    obtain ⟨o1, o2⟩ := one v h1 h2 h3 hc
    refine ⟨[v], (hk K).1 h, fun K' hK => (hk K').2 hK, by rw [o2]; rfl, fun x hx => by rw [o2] at hx; simp at hx; rw [hx]; exact o1, fun i c x hc' hx => ?_⟩
    rw [o2] at hx
    cases i with
    | zero => simp at hc' hx; subst hc'; subst hx; exact hc
    | succ i => simp at hc'
  cases v with
  | agg cs =>
    obtain ⟨us, rfl, hl, h1, h2⟩ := cz_agg hc
    exact ⟨cs, h, fun _ h => h, hl, h1, h2⟩
  | top => exact h.elim
  | tup vs => exact h.elim
  | _ => exact single (fun _ h => by cases h) (fun h => by cases h) (fun _ h => by cases h) (fun _ => Iff.rfl)
theorem puts_at {α : Type} (l xs : List α) (n : Nat) (h : n + xs.length ≤ l.length) (i : Nat) : (l.take n ++ xs ++ l.drop (n + xs.length))[i]? = if n ≤ i ∧ i < n + xs.length then xs[i - n]? else l[i]? := by
  rw [List.append_assoc]
  have hl : (l.take n).length = n := by simp; omega
  by_cases h1 : i < n
  · rw [if_neg (by omega), List.getElem?_append_left (by omega), List.getElem?_take_of_lt h1]
  · rw [List.getElem?_append_right (by omega), hl]
    by_cases h2 : i < n + xs.length
    · rw [if_pos ⟨by omega, h2⟩, List.getElem?_append_left (by omega)]
    · rw [if_neg (by omega), List.getElem?_append_right (by omega), List.getElem?_drop]
      congr 1
      omega
theorem fold_puts (vs : List Value) : ∀ (j : Nat) (cells : Array Value) (off : Nat), off + j + vs.length ≤ cells.size → ((vs.zipIdx j).foldl (fun cs (c, j) => cs.setIfInBounds (off + j) c) cells).toList = cells.toList.take (off + j) ++ vs ++ cells.toList.drop (off + j + vs.length) := by
  induction vs with
  | nil => intro j cells off _; simp
  | cons v r ih =>
    intro j cells off h
    simp only [List.length_cons] at h
    rw [List.zipIdx_cons, List.foldl_cons, ih (j + 1) _ off (by simp; omega)]
    apply List.ext_getElem?
    intro i
    have hA := puts_at (cells.setIfInBounds (off + j) v).toList r (off + (j + 1)) (by simp; omega) i
    have hB := puts_at cells.toList (v :: r) (off + j) (by simp; omega) i
    simp only [List.length_cons] at hB ⊢
    rw [hA, hB]
    simp only [Array.toList_setIfInBounds]
    by_cases h1 : off + (j + 1) ≤ i ∧ i < off + (j + 1) + r.length
    · rw [if_pos h1, if_pos (by omega), show i - (off + j) = (i - (off + (j + 1))) + 1 by omega]; simp
    · rw [if_neg h1]
      by_cases h2 : i = off + j
      · subst h2
        rw [if_pos (by omega), List.getElem?_set_self (by simp; omega), Nat.sub_self]
        rfl
      · rw [if_neg (by omega), List.getElem?_set_ne (by omega)]
theorem fill_sound (he : EnvR T g w env a) (place : Nat → Option (Nat × Nat)) : ∀ (parts : List (Nat × Operand)) (cells : List AV) (us : Array Value) (K : List AV → Prop), cells.length = us.size → (∀ x ∈ us, x.oneCell' = true) → (∀ (i : Nat) (c : AV) (x : Value), cells[i]? = some c → us[i]? = some x → Cz T g w c x) →
    fillK place parts env cells K → ∃ cs xs, K cs ∧ (∀ K' : List AV → Prop, K' cs → fillK place parts env cells K') ∧ Instr.fill place us (parts.map fun p => (p.1, a.eval p.2)) = some xs ∧ cs.length = xs.size ∧ xs.size = us.size ∧ (∀ x ∈ xs, x.oneCell' = true) ∧ ∀ (i : Nat) (c : AV) (x : Value), cs[i]? = some c → xs[i]? = some x → Cz T g w c x
  | [], cells, us, K, hl, h1, h2, h => ⟨cells, us, h, fun _ h => h, rfl, hl, rfl, h1, h2⟩
  | (i, x) :: r, cells, us, K, hl, h1, h2, h => by
    unfold fillK at h
    cases hp : place i with
    | none => rw [hp] at h; exact h.elim
    | some os =>
      obtain ⟨off, size⟩ := os
      rw [hp] at h
      simp only at h
      obtain ⟨v, g1, g2, g3⟩ := opd_sound he x _ h
      obtain ⟨cs, g4, g5, g6, g7, g8⟩ := cellsOf_sound g2 _ g1
      by_cases hsz : cs.length = size
      · rw [show (cs.length == size) = true by simpa using hsz] at g4
        obtain ⟨p1, p2⟩ := (putsK_iff _ _ _ _).1 g4
        have hput : ((a.eval x).cells.zipIdx.foldl (fun cs (c, j) => cs.setIfInBounds (off + j) c) us).toList = us.toList.take off ++ (a.eval x).cells.toList ++ us.toList.drop (off + (a.eval x).cells.size) := by
          have := fold_puts (a.eval x).cells.toList 0 us off (by simp; omega)
          simp only [Nat.add_zero, Array.length_toList] at this
          rw [← this, ← Array.foldl_toList]
          simp
        generalize hX : ((a.eval x).cells.zipIdx.foldl (fun cs (c, j) => cs.setIfInBounds (off + j) c) us) = X at hput
        have hXs : X.size = us.size := by rw [← hX]; exact (by
          have h0 := congrArg List.length hput
          rw [hX]
          simp at h0
          omega)
        have hget : ∀ j, X[j]? = if off ≤ j ∧ j < off + (a.eval x).cells.size then (a.eval x).cells[j - off]? else us[j]? := by
          intro j
          have h0 := puts_at us.toList (a.eval x).cells.toList off (by simp; omega) j
          simp only [Array.length_toList, Array.getElem?_toList] at h0
          rw [← h0, ← hput, Array.getElem?_toList]
        obtain ⟨ds, xs, q1, q2, q3, q4, q5, q6, q7⟩ := fill_sound he place r _ X K (by simp; omega) (fun y hy => by
            obtain ⟨j, hj, rfl⟩ := Array.mem_iff_getElem.1 hy
            have h0 := hget j
            rw [Array.getElem?_eq_getElem hj] at h0
            split at h0
            · exact g7 _ (Array.mem_of_getElem? h0.symm)
            · exact h1 _ (Array.mem_of_getElem? h0.symm)) (fun j c y hc hy => by
            rw [hget] at hy
            rw [puts_at cells cs off p1 j, g6] at hc
            split at hc
            · rename_i hin; rw [if_pos hin] at hy; exact g8 _ _ _ hc hy
            · rename_i hin; rw [if_neg hin] at hy; exact h2 _ _ _ hc hy) p2
        refine ⟨ds, xs, q1, fun K' hK => ?_, ?_, q4, by rw [q5, hXs], q6, q7⟩
        · unfold fillK
          rw [hp]
          refine g3 _ (g5 _ ?_)
          rw [show (cs.length == size) = true by simpa using hsz]
          exact (putsK_iff _ _ _ _).2 ⟨p1, q2 _ hK⟩
        · simp only [List.map_cons, Instr.fill, hp]
          rw [if_neg (by simp; omega), hX]
          exact q3
      · rw [show (cs.length == size) = false by simpa using hsz] at g4; exact g4.elim
theorem zero_sound (TO : TOk P T) {t : TypeId} (hk : kindD (T t).desc ≠ none) (K : List AV → Prop) (h : zeroK T t K) : ∃ cs, K cs ∧ (∀ K' : List AV → Prop, K' cs → zeroK T t K') ∧ (zeroValue t).run P w = .ok (T t).zero w ∧ cs.length = (T t).zero.cells.size ∧ (∀ x ∈ (T t).zero.cells, x.oneCell' = true) ∧ ∀ (i : Nat) (c : AV) (x : Value), cs[i]? = some c → (T t).zero.cells[i]? = some x → Dz T g w c x := by
  obtain ⟨l, h1, h2, h3, h4, h5⟩ := ofVs_is (T := T) (g := g) (w := w) _ K h
  obtain ⟨_, i, hi, _, _, hz, _⟩ := TO t hk
  exact ⟨l, h1, h2, by simp [zeroValue, typeInfo, hi, hz], by simpa using h3, fun x hx => h4 x (by simpa using hx), fun i c x hc hx => h5 i c x hc (by simpa using hx)⟩
theorem places_some (TO : TOk P T) : ∀ fs : List Field, fs.all (fun f => (kindD (T f.type).desc).isSome) = true → fs.mapM (fun f => (P.info? f.type).map fun i => (f.offset, i.size)) = some (fs.map fun f => (f.offset, (T f.type).cells))
  | [], _ => rfl
  | f :: r, h => by
    simp only [List.all_cons, Bool.and_eq_true] at h
    obtain ⟨_, i, hi, hs, _⟩ := TO f.type (by intro hk; rw [hk] at h; simp at h)
    simp [List.mapM_cons, hi, hs, places_some TO r h.2]
theorem q_build (TO : TOk P T) (he : EnvR T g w env a) (t : TypeId) (parts : Array (Nat × Operand)) (ho : o.op = .build t parts) : QS P T g w a o (qOp T L G env o.op) := by
  intro K h
  rw [ho] at h ⊢
  simp only [qOp] at h ⊢
  have pl : (parts.map fun (i, x) => (i, a.eval x)).toList = parts.toList.map fun p => (p.1, a.eval p.2) := by simp
  cases hd : (T t).desc <;> simp only [hd] at h <;> first | exact h.elim | skip
  case array n el =>
    have hv := und TO hd (by simp [kindD])
    cases hk : kindD (T el).desc with
    | none => simp only [hk] at h
    | some kb =>
      simp only [hk] at h ⊢
      obtain ⟨_, i', hi', hs', _⟩ := TO el (by rw [hk]; simp)
      obtain ⟨z, g1, g2, g3, g4, g5, g6⟩ := zero_sound (w := w) (g := g) TO (t := t) (by rw [hd]; simp [kindD]) _ h
      obtain ⟨cs, xs, q1, q2, q3, q4, _, q6, q7⟩ := fill_sound he _ _ z _ _ g4 g5 (fun i c x hc hx => .dz _ _ (g6 i c x hc hx)) g1
      refine ⟨_, .agg xs, q1, .agg _ _ q4 q6 q7, ?_, fun K' hK => g2 _ (q2 _ hK)⟩
      simp only [execOp, ho]
      exact run_v (by simp only [Instr.build, Sem.run_bind, g3, Result.andThen_ok, run_underlying hv, sizeOf, typeInfo, run_program, hi', Sem.run_pure, hs', pl, q3])
  case struct fs =>
    have hv := und TO hd (by simp [kindD])
    by_cases hall : fs.toList.all (fun f => (kindD (T f.type).desc).isSome) = true
    · simp only [hall] at h ⊢
      obtain ⟨z, g1, g2, g3, g4, g5, g6⟩ := zero_sound (w := w) (g := g) TO (t := t) (by rw [hd]; simp [kindD]) _ h
      obtain ⟨cs, xs, q1, q2, q3, q4, _, q6, q7⟩ := fill_sound he _ _ z _ _ g4 g5 (fun i c x hc hx => .dz _ _ (g6 i c x hc hx)) g1
      refine ⟨_, .agg xs, q1, .agg _ _ q4 q6 q7, ?_, fun K' hK => g2 _ (q2 _ hK)⟩
      simp only [execOp, ho]
      have hpl := run_places (P := P) w _ _ (places_some TO fs.toList hall)
      have hplace : (fun i => (fs.toList.map fun f => (f.offset, (T f.type).cells))[i]?) = places T fs := by
        funext i
        unfold places
        rw [List.getElem?_map, Array.getElem?_toList]
        cases fs[i]? <;> rfl
      refine run_v ?_
      have q3' := q3
      rw [← hplace] at q3'
      simp [Instr.build, g3, run_underlying hv, Array.mapM_eq_mapM_toList, hpl]
      simp at q3'
      rw [q3']
      rfl
    · rw [Bool.not_eq_true] at hall; simp only [hall] at h
theorem q_lookup (TO : TOk P T) (hr : Rel T g L nl nt G w) (he : EnvR T g w env a) (t : TypeId) (x k : Operand) (ok : Bool) (ho : o.op = .lookup t x k ok) : QS P T g w a o (qOp T L G env o.op) := by
  intro K h
  rw [ho] at h ⊢
  obtain ⟨kv, h1, h2, h3⟩ := opd_sound he k _ h
  obtain ⟨xv, h4, h5, h6⟩ := opd_sound he x _ h1
  obtain ⟨z, y, q1, q2, q3, q4⟩ := look_sound TO hr h5 h2 ok K h4
  refine ⟨z, y, q1, q2, ?_, fun K' hK => h3 _ (h6 _ (q4 K' hK))⟩
  simp only [execOp, ho]
  exact run_v q3
theorem fail_sound (TO : TOk P T) {t : TypeId} {K : AV → Prop} (h : failK T t K) : ∃ z, K (.tup [z, .bool false]) ∧ (zeroValue t).run P w = .ok (T t).zero w ∧ Cz T g w (.tup [z, .bool false]) (.tuple #[(T t).zero, .bool false]) ∧ ∀ K' : AV → Prop, K' (.tup [z, .bool false]) → failK T t K' := by
  unfold failK at h ⊢
  cases hk : kindD (T t).desc with
  | none => simp only [hk] at h
  | some kb =>
    simp only [hk] at h ⊢
    obtain ⟨z, q1, q2, q3⟩ := ofV_sound (T := T) (g := g) (w := w) _ _ h
    refine ⟨z, q1, run_zero TO (by rw [hk]; simp), .tup _ _ rfl (fun i c u hc hu => ?_), fun K' hK' => q3 _ hK'⟩
    match i with
    | 0 => simp at hc hu; subst hc hu; exact q2
    | 1 => simp at hc hu; subst hc hu; exact .dz _ _ (.bool _)
    | i + 2 => simp at hc
theorem run_assert {xt t : TypeId} {d : TypeDesc} (hd : notIfc d = true) (hu : P.underlying t = some d) (t' : TypeId) (u : Value) (ok : Bool) {z : Value} (hz : (zeroValue t).run P w = .ok z w ∨ t' = t) (hok : ok = true ∨ t' = t) :
    (Instr.typeAssert (.iface t' u) xt t ok).run P w = .ok (if t' = t then (if ok = true then .tuple #[u, .bool true] else u) else .tuple #[z, .bool false]) w := by
  by_cases ht : t' = t
  · cases d <;> first | (simp [Instr.typeAssert, run_underlying hu, ht, Result.andThen]; done) | (cases ok <;> simp [Instr.typeAssert, run_underlying hu, ht, Result.andThen]; done) | (simp [notIfc] at hd; done)
  · have hz := hz.resolve_right ht
    have hok := hok.resolve_right ht
    cases d <;> first | (simp [Instr.typeAssert, run_underlying hu, ht, hok, hz, Result.andThen]; done) | (simp [notIfc] at hd; done)
theorem run_assert_nil {xt t : TypeId} {d : TypeDesc} (hd : notIfc d = true) (hu : P.underlying t = some d) {z : Value} (hz : (zeroValue t).run P w = .ok z w) : (Instr.typeAssert .nilIface xt t true).run P w = .ok (.tuple #[z, .bool false]) w := by
  cases d <;> first | (simp [Instr.typeAssert, run_underlying hu, hz, Result.andThen]; done) | (simp [notIfc] at hd; done)
theorem assert_sound (TO : TOk P T) {xt t : TypeId} {v : AV} {u : Value} (hn : notIfc (T t).desc = true) (hc : Cz T g w v u) (ok : Bool) {K : AV → Prop} (h : assertK T t v ok K) : ∃ z y, K z ∧ Cz T g w z y ∧ (Instr.typeAssert u xt t ok).run P w = .ok y w ∧ ∀ K' : AV → Prop, K' z → assertK T t v ok K' := by
  have hu := und TO (t := t) rfl (by revert hn; cases (T t).desc <;> simp [notIfc, kindD])
  cases v <;> first | exact h.elim | skip
  case ifc t' y =>
    obtain ⟨x, rfl, hx⟩ := cz_ifc hc
    unfold assertK at h ⊢
    by_cases ht : t' = t
    · simp only [decide_eq_true ht] at h ⊢
      have hr := run_assert (P := P) (w := w) (xt := xt) (z := undef) hn hu t' x ok (.inr ht) (.inr ht)
      rw [if_pos ht] at hr
      cases ok with
      | true =>
        refine ⟨_, _, h, .tup _ #[x, .bool true] rfl (fun i c u' hc' hu' => ?_), hr, fun K' hK => hK⟩
        match i with
        | 0 => simp at hc' hu'; subst hc' hu'; exact hx
        | 1 => simp at hc' hu'; subst hc' hu'; exact .dz _ _ (.bool _)
        | i + 2 => simp at hc'
      | false => exact ⟨_, _, h, hx, hr, fun K' hK => hK⟩
    · simp only [decide_eq_false ht] at h ⊢
      cases ok with
      | true =>
        obtain ⟨z, q1, q2, q3, q4⟩ := fail_sound (g := g) (w := w) TO h
        have hr := run_assert (P := P) (w := w) (xt := xt) hn hu t' x true (.inl q2) (.inl rfl)
        rw [if_neg ht] at hr
        exact ⟨_, _, q1, q3, hr, fun K' hK => q4 K' hK⟩
      | false => exact h.elim
  case nili =>
    cases cz_nili hc
    cases ok with
    | true =>
      obtain ⟨z, q1, q2, q3, q4⟩ := fail_sound (g := g) (w := w) TO h
      exact ⟨_, _, q1, q3, run_assert_nil hn hu q2, fun K' hK => q4 K' hK⟩
    | false => exact h.elim
theorem q_typeAssert (TO : TOk P T) (he : EnvR T g w env a) (x : Operand) (xt t : TypeId) (ok : Bool) (ho : o.op = .typeAssert x xt t ok) : QS P T g w a o (qOp T L G env o.op) := by
  intro K h
  rw [ho] at h ⊢
  obtain ⟨v, h1, h2, h3⟩ := opd_sound he x _ h
  cases hn : notIfc (T t).desc with
  | false => simp only [hn] at h1
  | true =>
    simp only [hn] at h1
    obtain ⟨z, y, q1, q2, q3, q4⟩ := assert_sound (xt := xt) TO hn h2 ok h1
    refine ⟨z, y, q1, q2, ?_, fun K' hK => h3 _ (by simp only [hn]; exact q4 K' hK)⟩
    simp only [execOp, ho]
    exact run_v q3
theorem qOp_sound (TO : TOk P T) (hr : Rel T g L nl nt G w) (he : EnvR T g w env a) (o : Oper) : QS P T g w a o (qOp T L G env o.op) := by
  cases hop : o.op
  case move x => exact q_move he x (by simp [execOp, hop])
  case assign x => exact q_move he x (by simp [execOp, hop])
  case pick c x y => rw [← hop]; exact q_pick he c x y hop
  case nilCheck x => rw [← hop]; exact q_nilCheck he x hop
  case load t x => rw [← hop]; exact q_load TO hr he t x hop
  case binOp op t x y t' => rw [← hop]; exact q_bin TO he op t x y t' hop
  case unOp op t x => rw [← hop]; exact q_un he op t x hop
  case convert s d x => rw [← hop]; exact q_conv TO he s d x hop
  case field t x i => rw [← hop]; exact q_field TO he t x i hop
  case fieldAddr t x i => rw [← hop]; exact q_fieldAddr TO he t x i hop
  case indexAddr t x i => rw [← hop]; exact q_indexAddr TO he t x i hop
  case index t x i => rw [← hop]; exact q_index TO he t x i hop
  case slice t x lo hi mx =>
    cases mx with
    | none => rw [← hop]; exact q_slice TO he t x lo hi hop
    | some m => intro K h; exact h.elim
  case extract x i => rw [← hop]; exact q_extract he x i hop
  case makeFunc f x y => rw [← hop]; exact q_makeFunc he f x y hop
  case makeInterface t x => rw [← hop]; exact q_makeInterface TO he t x hop
  case build t parts => rw [← hop]; exact q_build TO he t parts hop
  case lookup t x k ok => rw [← hop]; exact q_lookup TO hr he t x k ok hop
  case typeAssert x xt t ok => rw [← hop]; exact q_typeAssert TO he x xt t ok hop
  case call c =>
    obtain ⟨callee, args, ts⟩ := c
    cases callee with
    | builtin b =>
      cases b <;> first | (intro K h; exact h.elim) | skip
      case len => rw [← hop]; exact q_len TO he args ts hop
      case max => exact q_mm he .max (fun a b => if b > a then b else a) Builtin.max2 (fun _ _ _ _ => rfl) args ts hop (fun _ _ _ => by simp [builtin, Builtin.max_])
      case min => exact q_mm he .min (fun a b => if b < a then b else a) Builtin.min2 (fun _ _ _ _ => rfl) args ts hop (fun _ _ _ => by simp [builtin, Builtin.min_])
    | value f => intro K h; exact h.elim
    | invoke r m => intro K h; exact h.elim
  all_goals (intro K h; exact h.elim)
end
end Go.Proofs.YtpihanlillbhkaaGreatDoor
end
