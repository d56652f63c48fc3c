/- The abstract run of operations, of code, of a function: each is a proposition that computes as far as it can. -/
import Derived.Test.YtmmmaekaoanceaaAr
namespace Go.Proofs.Ytmmmaekaoanceaa
open Go Go.RowKit

/-- a value as data: rows of the call's own are read alone, local boxes are not named -/
def dat0 : AV → AV
  | .own _ e els => .slc e els
  | .lptr _ _ => .top
  | .agg _ => .top
  | .tup _ => .top
  | .fn _ _ _ => .top
  | .ifc _ _ => .top
  | v => v
def dat1 : AV → AV
  | .agg cs => .agg (cs.map dat0)
  | .fn f a b => .fn f (a.map dat0) (b.map dat0)
  | .ifc t (.agg cs) => .ifc t (.agg (cs.map dat0))
  | .ifc t v => .ifc t (dat0 v)
  | v => dat0 v
def dat : AV → AV
  | .tup vs => .tup (vs.map dat1)
  | v => dat1 v
/-- the same, worked out ahead -/
def dat0K : AV → (AV → Prop) → Prop
  | .own _ e els, K => K (.slc e els)
  | .lptr _ _, K => K .top
  | .agg _, K => K .top
  | .tup _, K => K .top
  | .fn _ _ _, K => K .top
  | .ifc _ _, K => K .top
  | v, K => K v
def dat0sK : List AV → (List AV → Prop) → Prop
  | [], K => K []
  | v :: r, K => dat0K v fun v' => dat0sK r fun l => K (v' :: l)
def dat1K : AV → (AV → Prop) → Prop
  | .agg cs, K => dat0sK cs fun l => K (.agg l)
  | .fn f a b, K => dat0sK a fun a' => dat0sK b fun b' => K (.fn f a' b')
  | .ifc t (.agg cs), K => dat0sK cs fun l => K (.ifc t (.agg l))
  | .ifc t v, K => dat0K v fun v' => K (.ifc t v')
  | v, K => dat0K v K
def dat1sK : List AV → (List AV → Prop) → Prop
  | [], K => K []
  | v :: r, K => dat1K v fun v' => dat1sK r fun l => K (v' :: l)
def datK : AV → (AV → Prop) → Prop
  | .tup vs, K => dat1sK vs fun l => K (.tup l)
  | v, K => dat1K v K

/-- token j has gone: what was its row is data -/
def dem0 (j : Nat) : AV → AV
  | .own i e els => match decide (i = j) with | true => .slc e els | false => .own i e els
  | .agg _ => .top
  | .tup _ => .top
  | .fn _ _ _ => .top
  | .ifc _ _ => .top
  | v => v
def dem1 (j : Nat) : AV → AV
  | .agg cs => .agg (cs.map (dem0 j))
  | .tup cs => .tup (cs.map (dem0 j))
  | .fn f a b => .fn f (a.map (dem0 j)) (b.map (dem0 j))
  | .ifc t (.agg cs) => .ifc t (.agg (cs.map (dem0 j)))
  | .ifc t v => .ifc t (dem0 j v)
  | v => dem0 j v
def demL (j : Nat) : LB → LB
  | .live org cells => .live org (cells.map (dem1 j))
  | b => b
def dem0K (j : Nat) : AV → (AV → Prop) → Prop
  | .own i e els, K => (match decide (i = j) with | true => K (.slc e els) | false => K (.own i e els))
  | .agg _, K => K .top
  | .tup _, K => K .top
  | .fn _ _ _, K => K .top
  | .ifc _ _, K => K .top
  | v, K => K v
def dem0sK (j : Nat) : List AV → (List AV → Prop) → Prop
  | [], K => K []
  | v :: r, K => dem0K j v fun v' => dem0sK j r fun l => K (v' :: l)
def dem1K (j : Nat) : AV → (AV → Prop) → Prop
  | .agg cs, K => dem0sK j cs fun l => K (.agg l)
  | .tup cs, K => dem0sK j cs fun l => K (.tup l)
  | .fn f a b, K => dem0sK j a fun a' => dem0sK j b fun b' => K (.fn f a' b')
  | .ifc t (.agg cs), K => dem0sK j cs fun l => K (.ifc t (.agg l))
  | .ifc t v, K => dem0K j v fun v' => K (.ifc t v')
  | v, K => dem0K j v K
def dem1sK (j : Nat) : List AV → (List AV → Prop) → Prop
  | [], K => K []
  | v :: r, K => dem1K j v fun v' => dem1sK j r fun l => K (v' :: l)
def demLK (j : Nat) : List LB → (List LB → Prop) → Prop
  | [], K => K []
  | .live org cells :: r, K => dem1sK j cells fun cells' => demLK j r fun l => K (.live org cells' :: l)
  | .away b :: r, K => demLK j r fun l => K (.away b :: l)
  | .dead :: r, K => demLK j r fun l => K (.dead :: l)

def setK {α : Type} : Nat → α → List α → (List α → Prop) → Prop
  | _, _, [], _ => False
  | 0, x, _ :: r, K => K (x :: r)
  | n + 1, x, v :: r, K => setK n x r fun l => K (v :: l)

/-- local box j is lent under a name -/
def lendK (j : Nat) : Cf → (Nat → Cf → Prop) → Prop
  | ⟨env, L, nl, nt, G⟩, K => nthK j L fun
    | .live (some b) cells => dat0sK cells fun cells' => setK j (.away b) L fun L' => K b ⟨env, L', nl, nt, setG G b (.cells cells')⟩
    | .live none cells => dat0sK cells fun cells' => ∀ b, G b = none → setK j (.away b) L fun L' => K b ⟨env, L', nl, nt, setG G b (.cells cells')⟩
    | .away b => K b ⟨env, L, nl, nt, G⟩
    | .dead => False
/-- a local box whose address is stored in what is shared is lent first -/
def preK (L : List LB) (p v : AV) (c : Cf) (K : Cf → Prop) : Prop :=
  match v with
  | .lptr j _ => (match p with
    | .lptr i _ => nthK i L fun
      | .live _ _ => K c
      | _ => lendK j c fun _ c' => K c'
    | _ => lendK j c fun _ c' => K c')
  | _ => K c
/-- a cell of a struct -/
def lendCK (v : AV) (c : Cf) (K : AV → Cf → Prop) : Prop :=
  match v with
  | .lptr j o => lendK j c fun b c' => K (.gptr b o) c'
  | v => dat0K v fun v' => K v' c
def lendCsK : List AV → Cf → (List AV → Cf → Prop) → Prop
  | [], c, K => K [] c
  | v :: r, c, K => lendCK v c fun v' c' => lendCsK r c' fun l c'' => K (v' :: l) c''
/-- a value of one cell -/
def lend0K (v : AV) (c : Cf) (K : AV → Cf → Prop) : Prop :=
  match v with
  | .top => False
  | .agg _ => False
  | .tup _ => False
  | .fn _ _ _ => False
  | .ifc _ _ => False
  | v => lendCK v c K
def lend0sK : List AV → Cf → (List AV → Cf → Prop) → Prop
  | [], c, K => K [] c
  | v :: r, c, K => lend0K v c fun v' c' => lend0sK r c' fun l c'' => K (v' :: l) c''
def lend1K (v : AV) (c : Cf) (K : AV → Cf → Prop) : Prop :=
  match v with
  | .fn f a b => lend0sK a c fun a' c' => lend0sK b c' fun b' c'' => K (.fn f a' b') c''
  | .agg cs => lendCsK cs c fun l c' => K (.agg l) c'
  | .ifc t (.agg cs) => lendCsK cs c fun l c' => K (.ifc t (.agg l)) c'
  | .ifc t v => lend0K v c fun v' c' => K (.ifc t v') c'
  | v => lend0K v c K
def lend1sK : List AV → Cf → (List AV → Cf → Prop) → Prop
  | [], c, K => K [] c
  | v :: r, c, K => lend1K v c fun v' c' => lend1sK r c' fun l c'' => K (v' :: l) c''

/-- cells, n to an element -/
def chunkK (n : Nat) : Nat → List AV → (List (List AV) → Prop) → Prop
  | 0, [], K => K []
  | 0, _ :: _, _ => False
  | m + 1, l, K => takeK n l fun c => dropK n l fun r => chunkK n m r fun els => K (c :: els)
/-- what is handed out of the call: a lent box by its name, what is not data is unknown -/
def out0K (L : List LB) (v : AV) (K : AV → Prop) : Prop :=
  match v with
  | .lptr j o => nthK j L fun
    | .away b => K (.gptr b o)
    | _ => K .top
  | v => dat0K v K
def out0sK (L : List LB) : List AV → (List AV → Prop) → Prop
  | [], K => K []
  | v :: r, K => out0K L v fun v' => out0sK L r fun l => K (v' :: l)
def out1K (L : List LB) (v : AV) (K : AV → Prop) : Prop :=
  match v with
  | .agg cs => out0sK L cs fun l => K (.agg l)
  | .top => False
  | .tup _ => False
  | .fn _ _ _ => False
  | .ifc _ _ => False
  | v => out0K L v K
/-- rows that a store of n cells does not hit -/
def dropG (o n : Nat) : List (Nat × TypeId × List (List AV)) → (List (Nat × TypeId × List (List AV)) → Prop) → Prop
  | [], K => K []
  | x :: r, K => match decide (o ≤ x.1), decide (x.1 < o + n) with
    | true, true => dropG o n r K
    | _, _ => dropG o n r fun l => K (x :: l)
/-- a store into a shared box -/
def gstoK (bx : GB) (o : Nat) (vs : List AV) (K : GB → Prop) : Prop :=
  match bx with
  | .cells cells => putsK o vs cells fun cells' => K (.cells cells')
  | .box cells gs => putsK o vs cells fun cells' => dropG o vs.length gs fun gs' => K (.box cells' gs')
  | _ => False
def repK (z : List AV) : Nat → (List AV → Prop) → Prop
  | 0, K => K []
  | n + 1, K => repK z n fun l => K (z ++ l)

section
variable (P : Program) (T : TypeId → TR)
/-- what makes memory, or writes it -/
def effK (o : Op) (env : List AV) (L : List LB) (nl nt : Nat) (G : Glob) (K : AV → List LB → Nat → Nat → Glob → Prop) : Prop :=
  match o with
  | .alloc t => (match kindD (T t).desc with
    | none => False
    | some _ => zeroK T t fun z => snocK L (.live none z) fun L' => K (.lptr nl 0) L' (nl + 1) nt G)
  | .box _ x => opdK env x fun v => cellsOfV v fun cells => snocK L (.live none cells) fun L' => K (.lptr nl 0) L' (nl + 1) nt G
  | .store t a x => opdK env x fun v => cellsOfV v fun vs => match kindD (T t).desc, vs.length == (T t).cells with
    | some _, true => opdK env a fun
      | .lptr j o => nthK j L fun
        | .live org cells => putsK o vs cells fun cells' => setK j (.live org cells') L fun L' => K .top L' nl nt G
        | .away b => ∃ bx, G b = some bx ∧ out0sK L vs fun vs' => gstoK bx o vs' fun bx' => K .top L nl nt (setG G b bx')
        | .dead => False
      | .gptr b o => ∃ bx, G b = some bx ∧ out0sK L vs fun vs' => gstoK bx o vs' fun bx' => K .top L nl nt (setG G b bx')
      | _ => False
    | _, _ => False
  | .mapUpdate t m k x => opdK env k fun kv => opdK env m fun mv => opdK env x fun v => match (T t).desc, mv with
    | .map kt _, .mp b => keyKd T kt kv fun kd => out1K L v fun v' => ∃ mm, G b = some (.map kd mm) ∧ K .top L nl nt (setG G b (.map kd (mput mm kv v')))
    | _, _ => False
  | .call { callee := .builtin .delete, args := args, argTypes := ts } => (match args.toList, ts.toList with
    | [m, k], [t, _] => opdK env k fun kv => opdK env m fun mv => (match (T t).desc with
      | .map kt _ => keyKd T kt kv fun kd => (match mv with
        | .nilm => K (.tup []) L nl nt G
        | .mp b => ∃ mm, G b = some (.map kd mm) ∧ K (.tup []) L nl nt (setG G b (.map kd (mdel mm kv)))
        | _ => False)
      | _ => False)
    | _, _ => False)
  | .buildSlice t len parts => (match (T t).desc with
    | .slice e => (match (T e).cells with
      | 0 => False
      | n + 1 => (match kindD (T e).desc, decide (len * (n + 1) ≤ 16777216) with
        | some _, true => zeroK T e fun z0 => repK z0 len fun z => fillK (fun i => some (i * (n + 1), n + 1)) parts.toList env z fun cells => dat0sK cells fun cells' => chunkK (n + 1) len cells' fun els =>
          K (.own nt e els) L nl (nt + 1) G
        | _, _ => False))
    | _ => False)
  | _ => False
/-- append -/
def appK (e : TypeId) (xv sv : AV) (c : Cf) (K : AV → Cf → Prop) : Prop :=
  match c with
  | ⟨env, L, nl, nt, G⟩ => match sv with
    | .nils => elsOf xv fun e' els' => (match decide (e = e') with
      | true => (els'.length ≤ maxLen ∧ els'.length * (T e).bytes ≤ 140737488355328) ∧ K (.own nt e els') ⟨env, L, nl, nt + 1, G⟩
      | false => False)
    | .own j e1 els => elsOf xv fun e' els' => (match decide (e = e1), decide (e = e') with
      | true, true => (els.length + els'.length ≤ maxLen ∧ (els.length + els'.length) * (T e).bytes ≤ 140737488355328) ∧
          dem1sK j env fun env' => demLK j L fun L' => K (.own j e (els ++ els')) ⟨env', L', nl, nt, G⟩
      | _, _ => False)
    | _ => False
/-- an operation, nothing being lent for it -/
def evOp0 (o : Op) (c : Cf) (K : AV → Cf → Prop) : Prop :=
  match c with
  | ⟨env, L, nl, nt, G⟩ => match o with
    | .alloc t => effK T (.alloc t) env L nl nt G fun v L' nl' nt' G' => K v ⟨env, L', nl', nt', G'⟩
    | .box t x => effK T (.box t x) env L nl nt G fun v L' nl' nt' G' => K v ⟨env, L', nl', nt', G'⟩
    | .store t a x => effK T (.store t a x) env L nl nt G fun v L' nl' nt' G' => K v ⟨env, L', nl', nt', G'⟩
    | .mapUpdate t m k x => effK T (.mapUpdate t m k x) env L nl nt G fun v L' nl' nt' G' => K v ⟨env, L', nl', nt', G'⟩
    | .call { callee := .builtin .delete, args := args, argTypes := ts } => effK T (.call { callee := .builtin .delete, args := args, argTypes := ts }) env L nl nt G fun v L' nl' nt' G' => K v ⟨env, L', nl', nt', G'⟩
    | .buildSlice t len parts => effK T (.buildSlice t len parts) env L nl nt G fun v L' nl' nt' G' => K v ⟨env, L', nl', nt', G'⟩
    | .call { callee := .builtin .append, args := args, argTypes := ts } => (match args.toList, ts.toList with
      | [s, x], [t, t'] => (match (T t).desc, decide (t = t') with
        | .slice e, true => (match kindD (T e).desc, (T e).cells with
          | some _, _ + 1 => opdK env x fun xv => opdK env s fun sv => appK T e xv sv ⟨env, L, nl, nt, G⟩ K
          | _, _ => False)
        | _, _ => False)
      | _, _ => False)
    | .call { callee := .value f, args := args, .. } => opdK env f fun
      | .fn (.func id) a b => opdsK env args.toList fun l => lend1sK a ⟨env, L, nl, nt, G⟩ fun a' c1 => lend1sK l c1 fun l' c2 => lend1sK b c2 fun b' c3 => match c3 with
        | ⟨env3, L3, nl3, nt3, G3⟩ => CallOk P T id (a' ++ (l' ++ b')) G3 fun v G' => K v ⟨env3, L3, nl3, nt3, G'⟩
      | _ => False
    | o => qOp T L G env o fun v => K v ⟨env, L, nl, nt, G⟩

/-- an operation -/
def evOp (o : Op) (c : Cf) (K : AV → Cf → Prop) : Prop :=
  match c with
  | ⟨env, L, nl, nt, G⟩ => match o with
    | .alloc t => (match (T t).bld with
      | some _ => (match kindD (T t).desc with
        | none => False
        | some _ => zeroK T t fun z => (match z with
          | [.nilp, .nils] => ∀ b, G b = none → K (.gptr b 0) ⟨env, L, nl, nt, setG G b (.bld .empty)⟩
          | _ => False))
      | none => evOp0 P T (.alloc t) ⟨env, L, nl, nt, G⟩ K)
    | .store t a x => opdK env a fun p => opdK env x fun v => preK L p v ⟨env, L, nl, nt, G⟩ fun c1 => evOp0 P T (.store t a x) c1 K
    | .mapUpdate t m k x => opdK env x fun v => preK L (.mp 0) v ⟨env, L, nl, nt, G⟩ fun c1 => evOp0 P T (.mapUpdate t m k x) c1 K
    | .makeMap t none => (match (T t).desc with
      | .map kt _ => (match (T kt).desc with
        | .string => ∀ b, G b = none → K (.mp b) ⟨env, L, nl, nt, setG G b (.map none [])⟩
        | .int q => ∀ b, G b = none → K (.mp b) ⟨env, L, nl, nt, setG G b (.map (some q) [])⟩
        | _ => False)
      | _ => False)
    | o => evOp0 P T o ⟨env, L, nl, nt, G⟩ K
def putE (dst : Option Tmp) (v : AV) (c : Cf) (K : Cf → Prop) : Prop :=
  match c with
  | ⟨env, L, nl, nt, G⟩ => match dst with
    | some d => setK d v env fun env' => K ⟨env', L, nl, nt, G⟩
    | none => K ⟨env, L, nl, nt, G⟩
/-- a guard: what it hangs on may itself have been passed over -/
def guardK (v : AV) (want : Bool) (go skip : Prop) : Prop :=
  match v with
  | .bool b => (match want with
    | true => BS b go skip
    | false => BS b skip go)
  | .tup [] => skip
  | _ => False
theorem guardK_is {v : AV} {want : Bool} {go skip : Prop} (h : guardK v want go skip) : (∃ b, v = .bool b ∧ ((b = want ∧ go) ∨ (b ≠ want ∧ skip))) ∨ (v = .tup [] ∧ skip) := by
  unfold guardK at h
  split at h
  · rename_i b
    refine .inl ⟨b, rfl, ?_⟩
    cases b <;> cases want <;> first | exact .inl ⟨rfl, h⟩ | exact .inr ⟨by decide, h⟩
  · exact .inr ⟨rfl, h⟩
  · exact h.elim
/-- operations, one behind the other -/
def evOps (all : List Oper) : List Oper → Cf → (Cf → Prop) → Prop
  | [], c, K => K c
  | ⟨dst, op, _, _, _, g⟩ :: r, c, K => match g with
    | none => evOp P T op c fun v c' => putE dst v c' fun c'' => evOps all r c'' K
    | some (j, want) => nthK j all fun oj => match oj.dst with
      | some d => nthK d c.env fun v => guardK v want (evOp P T op c fun v c' => putE dst v c' fun c'' => evOps all r c'' K) (putE dst (.tup []) c fun c'' => evOps all r c'' K)
      | none => False

inductive Ex where
  | normal
  | exit (id : Nat)
  | ret

/-- a call's state in memory -/
structure St (T : TypeId → TR) (g : Gh) (w : World) (a : Act) (c : Cf) : Prop where
  rel : Rel T g c.L c.nl c.nt c.G w
  size : a.tmps.size = c.env.length
  vals : ∀ (i : Nat) (v : AV), c.env[i]? = some v → Cz T g w v (a.tmps.getD i undef)
  defers : a.defers = []
/-- what is known by c' is known by c -/
structure Weak (c' c : Cf) : Prop where
  weak : ∀ (g : Gh) (a : Act) (w : World), St T g w a c → ∃ g', St T g' w a c' ∧ Ext g w g' w
/-- a region that draws its order -/
structure DrawOk (ops : Array Oper) (c : Cf) (K : Cf → Prop) : Prop where
  draw : ∀ (g : Gh) (a : Act) (w : World), St T g w a c → ∀ (id : Nat) (Q : Exit → Act → World → Prop), (∀ g' w' a' c', K c' → St T g' w' a' c' → Ext g w g' w' → Q .normal a' w') → (Code.region id ops true).wp P Q a w

def wpC : Code → Cf → (Ex → Cf → Prop) → Prop
  | .skip, c, Q => Q .normal c
  | .region _ ops draw, c, Q => match draw with
    | true => DrawOk P T ops c (Q .normal)
    | false => evOps P T ops.toList ops.toList c (Q .normal)
  | .seq a b, c, Q => wpC a c fun e c' => match e with
    | .normal => wpC b c' Q
    | e => Q e c'
  | .cond x a b, c, Q => opdK c.env x fun
    | .bool t => BS t (wpC a c Q) (wpC b c Q)
    | _ => False
  | .block id b, c, Q => wpC b c fun e c' => match e with
    | .exit i => (match decide (i = id) with
      | true => Q .normal c'
      | false => Q (.exit i) c')
    | e => Q e c'
  | .loop b, c, Q => ∃ (ι : Type) (I : ι → Cf) (μ : ι → Nat) (i0 : ι), Weak T (I i0) c ∧ ∀ i, wpC b (I i) fun e c' => match e with
    | .normal => ∃ i', μ i' < μ i ∧ Weak T (I i') c'
    | e => Q e c'
  | .exit id, c, Q => Q (.exit id) c
  | .ret, c, Q => Q .ret c
  | .label _, c, Q => Q .normal c
  | _, _, _ => False

/-- results -/
def ressK (c : Cf) : List ResultVar → (List AV → Prop) → Prop
  | [], K => K []
  | .tmp t :: r, K => nthK t c.env fun v => ressK c r fun l => K (v :: l)
  | .cell a t :: r, K => nthK a c.env fun p => boxK c.L c.G p fun cells o => subK T t cells o fun v => ressK c r fun l => K (v :: l)
def resK (c : Cf) (rs : List ResultVar) (K : AV → Prop) : Prop :=
  ressK T c rs fun l => match l with
    | [v] => K v
    | l => K (.tup l)
def lend2K (v : AV) (c : Cf) (K : AV → Cf → Prop) : Prop :=
  match v with
  | .tup vs => lend1sK vs c fun l c' => K (.tup l) c'
  | v => lend1K v c K
/-- what stands in place of shared boxes is put back -/
def backK : Nat → Nat → Cf → (Cf → Prop) → Prop
  | 0, _, c, K => K c
  | n + 1, j, c, K => nthK j c.L fun
    | .live (some _) _ => lendK j c fun _ c' => backK n (j + 1) c' K
    | _ => backK n (j + 1) c K
def finK (rs : List ResultVar) (Q : AV → Glob → Prop) (c : Cf) : Prop :=
  resK T c rs fun v => lend2K v c fun v' c' => backK c'.nl 0 c' fun c'' => ∃ G'', (∀ b x, G'' b = some x → c''.G b = some x) ∧ Q v' G''
def topsK : Nat → (List AV → Prop) → Prop
  | 0, K => K []
  | n + 1, K => topsK n fun l => K (.top :: l)
def catK : List AV → List AV → (List AV → Prop) → Prop
  | [], l, K => K l
  | v :: r, l, K => catK r l fun l' => K (v :: l')
/-- a function's body, from its arguments on -/
def bodyK (ntmps : Nat) (rs : List ResultVar) (body : Code) (args : List AV) (G : Glob) (Q : AV → Glob → Prop) : Prop :=
  topsK (ntmps - args.length) fun tops => catK args tops fun env => wpC P T body ⟨env, [], 0, 0, G⟩ fun e c => match e with
    | .exit _ => False
    | _ => finK T rs Q c
end
end Go.Proofs.Ytmmmaekaoanceaa
