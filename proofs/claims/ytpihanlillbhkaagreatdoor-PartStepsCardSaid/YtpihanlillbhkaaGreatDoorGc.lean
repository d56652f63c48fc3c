/- One text out of several: Ad, Ac, Ak, Al, Am, An, Ao, Ap. -/
import Derived.Test.YtpihanlillbhkaaGreatDoorGb
import Derived.Orders

section
/- A region that draws its order: one run in the text's order, and a closed look at what hangs on what, serve for all orders. -/
namespace Go.Proofs.YtpihanlillbhkaaGreatDoor
open Go Go.RowKit

/-- operation i comes ahead of o -/
def depB (o : Oper) (i : Nat) : Bool := o.after.toList.any fun e => Region.binds .any e && e.on == i
def opTmps (o : Op) : List Tmp := o.operands.toList.filterMap fun | .tmp t => some t | _ => none
/-- what makes memory, writes it, or calls with an effect -/
def isEff (eff : List Nat) (i : Nat) (o : Op) : Bool :=
  match o with
  | .alloc _ => true
  | .box _ _ => true
  | .store _ _ _ => true
  | .buildSlice _ _ _ => true
  | .mapUpdate _ _ _ _ => true
  | .call { callee := .builtin .delete, .. } => true
  | .call { callee := .value _, .. } => eff.contains i
  | _ => false
def isCall (eff : List Nat) (i : Nat) (o : Op) : Bool :=
  match o with
  | .call { callee := .value _, .. } => !(eff.contains i)
  | _ => false
def isLoad (o : Op) : Bool :=
  match o with
  | .load _ _ => true
  | .lookup _ _ _ _ => true
  | _ => false
/-- what makes a box of the call's own: no memory that a callee sees -/
def isAlloc (o : Op) : Bool :=
  match o with
  | .alloc _ => true
  | _ => false
/-- the places that are looked at: each with the place of the last effect ahead of it -/
def okB (ops : List Oper) (eff : List Nat) : List Oper → Nat → Option Nat → Bool
  | [], _, _ => true
  | o :: r, i, last =>
    (o.after.toList.all fun e => !Region.binds .any e || decide (e.on < i)) &&
    ((opTmps o.op).all fun t => (ops.zipIdx.all fun (p, j) => p.dst != some t || (depB o j && decide (j < i))) || (!(isLoad o.op) && ops.zipIdx.all fun (p, j) => p.dst != some t || (depB p i && decide (i < j)))) &&
    (match o.guard with | none => true | some (j, _) => depB o j && decide (j < i)) &&
    (match o.dst with | none => !(isLoad o.op) | some d => r.all fun p => p.dst != some d) &&
    (match isEff eff i o.op || isCall eff i o.op || isLoad o.op, last with | true, some e => depB o e | _, _ => true) &&
    (match isCall eff i o.op with | true => (match (r.zipIdx (i + 1)).find? (fun (p, j) => isEff eff j p.op && !(isAlloc p.op)) with | some (p, _) => depB p i | none => true) | false => true) &&
    okB ops eff r (i + 1) (if isEff eff i o.op then some i else last)
def drawB (ops : List Oper) (eff : List Nat) : Bool := okB ops eff ops 0 none

structure Pend where
  i : Nat
  op : Op
  dst : Tmp

section
variable (P : Program) (T : TypeId → TR)
/-- what is handed to a call in a region that draws its order -/
def giveCK (L : List LB) (v : AV) (K : AV → Prop) : Prop :=
  match v with
  | .lptr j o => nthK j L fun
    | .away b => K (.gptr b o)
    | _ => False
  | v => dat0K v K
def give0K (L : List LB) (v : AV) (K : AV → Prop) : Prop :=
  match v with
  | .top => False
  | .agg _ => False
  | .tup _ => False
  | .fn _ _ _ => False
  | .ifc _ _ => False
  | v => giveCK L v K
def give0sK (L : List LB) : List AV → (List AV → Prop) → Prop
  | [], K => K []
  | v :: r, K => give0K L v fun v' => give0sK L r fun l => K (v' :: l)
def giveFK (L : List LB) (v : AV) (K : AV → Prop) : Prop :=
  match v with
  | .fn f a b => give0sK L a fun a' => give0sK L b fun b' => K (.fn f a' b')
  | v => giveCK L v K
def giveCsK (L : List LB) : List AV → (List AV → Prop) → Prop
  | [], K => K []
  | v :: r, K => giveFK L v fun v' => giveCsK L r fun l => K (v' :: l)
def giveK (L : List LB) (v : AV) (K : AV → Prop) : Prop :=
  match v with
  | .fn f a b => give0sK L a fun a' => give0sK L b fun b' => K (.fn f a' b')
  | .agg cs => giveCsK L cs fun l => K (.agg l)
  | .ifc t (.agg cs) => giveCsK L cs fun l => K (.ifc t (.agg l))
  | .ifc t v => give0K L v fun v' => K (.ifc t v')
  | v => give0K L v K
def givesK (L : List LB) : List AV → (List AV → Prop) → Prop
  | [], K => K []
  | v :: r, K => giveK L v fun v' => givesK L r fun l => K (v' :: l)
def argsK (env : List AV) (L : List LB) (f : Operand) (args : List Operand) (K : FuncId → List AV → Prop) : Prop :=
  opdK env f fun
  | .fn (.func id) a b => opdsK env args fun l => givesK L a fun a' => givesK L l fun l' => givesK L b fun b' => K id (a' ++ (l' ++ b'))
  | _ => False
def recheckK (p : List Pend) (c : Cf) (K : Prop) : Prop :=
  match p with
  | [] => K
  | ⟨_, op, dst⟩ :: r => (nthK dst c.env fun u => qOp T c.L c.G c.env op fun v => v = u) ∧ recheckK r c K
/-- an operation of such a region -/
def stepK (eff : List Nat) (i : Nat) (op : Op) (c : Cf) (K : AV → Cf → Prop) : Prop :=
  match c with
  | ⟨env, L, nl, nt, G⟩ => match op with
    | .call { callee := .value f, args := args, .. } => argsK env L f args.toList fun id l => ∃ v G', CallOk P T id l G (fun x Gx => x = v ∧ Gx = G') ∧ (match eff.contains i with
      | true => K v ⟨env, L, nl, nt, G'⟩
      | false => G' = G ∧ K v ⟨env, L, nl, nt, G⟩)
    | .call { callee := .builtin .append, .. } => False
    | .call { callee := .invoke r m, args := args, argTypes := ts } => qOp T L G env (.call { callee := .invoke r m, args := args, argTypes := ts }) fun v => K v ⟨env, L, nl, nt, G⟩
    | op => evOp0 P T op ⟨env, L, nl, nt, G⟩ K
def pendOf (eff : List Nat) (i : Nat) (o : Oper) (pend : List Pend) : List Pend :=
  match isEff eff i o.op with
  | true => pend.filter fun p => !depB o p.i
  | false => match isLoad o.op, o.dst with
    | true, some d => pend ++ [⟨i, o.op, d⟩]
    | _, _ => pend
def evDraw (all : List Oper) (eff : List Nat) : List Oper → Nat → Cf → List Pend → (Cf → Prop) → Prop
  | [], _, c, _, K => K c
  | o :: r, i, c, pend, K =>
    let go : Prop := stepK P T eff i o.op c fun v c' => putE o.dst v c' fun c'' => match isEff eff i o.op with
      | true => recheckK T (pendOf eff i o pend) c'' (evDraw all eff r (i + 1) c'' (pendOf eff i o pend) K)
      | false => evDraw all eff r (i + 1) c'' (pendOf eff i o pend) K
    let skip : Prop := putE o.dst (.tup []) c fun c'' => evDraw all eff r (i + 1) c'' pend K
    match o.guard with
    | none => go
    | some (j, want) => nthK j all fun oj => match oj.dst with
      | some d => nthK d c.env fun v => guardK v want go skip
      | none => False
end
end Go.Proofs.YtpihanlillbhkaaGreatDoor
end

section
/- The computing words yield one thing alone; and they look at no more than the operands. -/
namespace Go.Proofs.YtpihanlillbhkaaGreatDoor
open Go Go.RowKit

/-- F hands one thing on -/
def Det {α : Type} (F : (α → Prop) → Prop) : Prop := ∀ K, F K → ∃ v, K v ∧ ∀ K' : α → Prop, K' v → F K'
theorem Det.ret {α : Type} (v : α) : Det (fun K => K v) := fun _ h => ⟨v, h, fun _ h => h⟩
theorem Det.no {α : Type} : Det (fun _ : α → Prop => False) := fun _ h => h.elim
theorem Det.bind {α β : Type} {F : (α → Prop) → Prop} {H : α → (β → Prop) → Prop} (hF : Det F) (hH : ∀ v, Det (H v)) : Det (fun K => F fun v => H v K) := by
  intro K h
  obtain ⟨v, h1, h2⟩ := hF _ h
  obtain ⟨r, h3, h4⟩ := hH v _ h1
  exact ⟨r, h3, fun K' hK => h2 _ (h4 K' hK)⟩
theorem Det.and {α : Type} {F : (α → Prop) → Prop} (p : Prop) (hF : Det F) : Det (fun K => p ∧ F K) := by
  intro K ⟨h1, h2⟩
  obtain ⟨r, h3, h4⟩ := hF K h2
  exact ⟨r, h3, fun K' hK => ⟨h1, h4 K' hK⟩⟩
theorem Det.ex {α β : Type} {p : β → Prop} {H : β → (α → Prop) → Prop} (hH : ∀ x, Det (H x)) : Det (fun K => ∃ x, p x ∧ H x K) := by
  intro K ⟨x, h1, h2⟩
  obtain ⟨r, h3, h4⟩ := hH x K h2
  exact ⟨r, h3, fun K' hK => ⟨x, h1, h4 K' hK⟩⟩
theorem Det.BS {α : Type} {F H : (α → Prop) → Prop} (t : Bool) (hF : Det F) (hH : Det H) : Det (fun K => BS t (F K) (H K)) := by
  cases t
  · exact hH
  · exact hF
theorem nthK_det {α : Type} (n : Nat) (l : List α) : Det (nthK n l) := by
  intro K h
  obtain ⟨v, h1, h2⟩ := (nthK_iff _ _).1 h
  exact ⟨v, h2, fun K' hK => (nthK_iff _ _).2 ⟨v, h1, hK⟩⟩
theorem dropK_det {α : Type} (n : Nat) (l : List α) : Det (dropK n l) := by
  intro K h
  obtain ⟨h1, h2⟩ := (dropK_iff _ _).1 h
  exact ⟨_, h2, fun K' hK => (dropK_iff _ _).2 ⟨h1, hK⟩⟩
theorem takeK_det {α : Type} (n : Nat) (l : List α) : Det (takeK n l) := by
  intro K h
  obtain ⟨h1, h2⟩ := (takeK_iff _ _ _).1 h
  exact ⟨_, h2, fun K' hK => (takeK_iff _ _ _).2 ⟨h1, hK⟩⟩
theorem putsK_det {α : Type} (n : Nat) (xs l : List α) : Det (putsK n xs l) := by
  intro K h
  obtain ⟨h1, h2⟩ := (putsK_iff _ _ _ _).1 h
  exact ⟨_, h2, fun K' hK => (putsK_iff _ _ _ _).2 ⟨h1, hK⟩⟩
theorem snocK_det {α : Type} (l : List α) (x : α) : Det (snocK l x) := by
  intro K h
  exact ⟨_, (snocK_iff _ _ _).1 h, fun K' hK => (snocK_iff _ _ _).2 hK⟩
theorem setK_det {α : Type} (n : Nat) (x : α) (l : List α) : Det (setK n x l) := by
  intro K h
  obtain ⟨h1, h2⟩ := (setK_iff _ _ _ _).1 h
  exact ⟨_, h2, fun K' hK => (setK_iff _ _ _ _).2 ⟨h1, hK⟩⟩
theorem dat0sK_det (l : List AV) : Det (dat0sK l) := fun _ h => ⟨_, (dat0sK_iff _ _).1 h, fun _ hK => (dat0sK_iff _ _).2 hK⟩
theorem dat0K_det (v : AV) : Det (dat0K v) := fun _ h => ⟨_, (dat0K_iff _ _).1 h, fun _ hK => (dat0K_iff _ _).2 hK⟩
theorem chunkK_det (n m : Nat) (l : List AV) : Det (chunkK n m l) := by
  intro K h
  obtain ⟨h1, h2⟩ := (chunkK_iff _ _ _ _).1 h
  exact ⟨_, h2, fun K' hK => (chunkK_iff _ _ _ _).2 ⟨h1, hK⟩⟩
theorem repK_det (z : List AV) (n : Nat) : Det (repK z n) := fun _ h => ⟨_, (repK_iff _ _ _).1 h, fun _ hK => (repK_iff _ _ _).2 hK⟩
theorem ofV1K_det (v : Value) : Det (ofV1K v) := by
  obtain ⟨x, hx, _⟩ := ofV1_is (T := fun _ => ⟨.invalid, 0, 0, undef, false, none, none⟩) (g := ⟨fun _ => .frz, fun _ => 0, 0, fun _ => 0, 0, fun _ => none, 0⟩) (w := default) v
  exact fun K h => ⟨x, (hx K).1 h, fun K' hK => (hx K').2 hK⟩
theorem ofVsK_det : ∀ vs : List Value, Det (ofVsK vs)
  | [] => Det.ret []
  | .agg _ :: _ => Det.no
  | .tuple _ :: _ => Det.no
  | .bool b :: r => (ofV1K_det (.bool b)).bind fun x => (ofVsK_det r).bind fun l => Det.ret (x :: l)
  | .int k n :: r => (ofV1K_det (.int k n)).bind fun x => (ofVsK_det r).bind fun l => Det.ret (x :: l)
  | .float k n :: r => (ofV1K_det (.float k n)).bind fun x => (ofVsK_det r).bind fun l => Det.ret (x :: l)
  | .complex k n m :: r => (ofV1K_det (.complex k n m)).bind fun x => (ofVsK_det r).bind fun l => Det.ret (x :: l)
  | .string s :: r => (ofV1K_det (.string s)).bind fun x => (ofVsK_det r).bind fun l => Det.ret (x :: l)
  | .pointer a :: r => (ofV1K_det (.pointer a)).bind fun x => (ofVsK_det r).bind fun l => Det.ret (x :: l)
  | .slice a n c :: r => (ofV1K_det (.slice a n c)).bind fun x => (ofVsK_det r).bind fun l => Det.ret (x :: l)
  | .map a :: r => (ofV1K_det (.map a)).bind fun x => (ofVsK_det r).bind fun l => Det.ret (x :: l)
  | .chan a :: r => (ofV1K_det (.chan a)).bind fun x => (ofVsK_det r).bind fun l => Det.ret (x :: l)
  | .func f a b :: r => (ofV1K_det (.func f a b)).bind fun x => (ofVsK_det r).bind fun l => Det.ret (x :: l)
  | .nilFunc :: r => (ofV1K_det .nilFunc).bind fun x => (ofVsK_det r).bind fun l => Det.ret (x :: l)
  | .iface t v :: r => (ofV1K_det (.iface t v)).bind fun x => (ofVsK_det r).bind fun l => Det.ret (x :: l)
  | .nilIface :: r => (ofV1K_det .nilIface).bind fun x => (ofVsK_det r).bind fun l => Det.ret (x :: l)
theorem ofVK_det (v : Value) : Det (ofVK v) := by
  have gen : (∀ K, ofVK v K ↔ ofV1K v K) → Det (ofVK v) := fun h K hK => by
    obtain ⟨x, h1, h2⟩ := ofV1K_det v K ((h K).1 hK)
    exact ⟨x, h1, fun K' hK' => (h K').2 (h2 K' hK')⟩
  cases v with
  | agg cs => exact (ofVsK_det cs.toList).bind fun l => Det.ret (AV.agg l)
  | _ => exact gen (fun _ => Iff.rfl)
theorem opdK_det (env : List AV) (x : Operand) : Det (opdK env x) := by
  cases x with
  | tmp t => exact nthK_det t env
  | const v => exact ofVK_det v
  | global b => exact Det.ret _
  | func f => exact Det.ret _
theorem opdsK_det (env : List AV) : ∀ l : List Operand, Det (opdsK env l)
  | [] => Det.ret []
  | x :: r => (opdK_det env x).bind fun v => (opdsK_det env r).bind fun l => Det.ret (v :: l)
theorem oopdK_det (env : List AV) (x : Option Operand) : Det (oopdK env x) := by
  cases x with
  | none => exact Det.ret none
  | some x => exact (opdK_det env x).bind fun v => Det.ret (some v)
section
variable (P : Program) (T : TypeId → TR)
theorem cellsOfV_det (v : AV) : Det (cellsOfV v) := by
  cases v <;> first | exact Det.no | exact Det.ret _
theorem subK_det (t : TypeId) (cells : List AV) (o : Nat) : Det (subK T t cells o) := by
  unfold subK
  cases kindD (T t).desc with
  | none => exact Det.no
  | some b => cases b with
    | true => exact (dropK_det o cells).bind fun r => (takeK_det _ r).bind fun l => Det.ret (AV.agg l)
    | false => exact nthK_det o cells
theorem cellsK_det (bx : GB) : Det (cellsK bx) := by cases bx <;> first | exact Det.no | exact Det.ret _
theorem keyKd_det (kt : TypeId) (k : AV) : Det (keyKd T kt k) := by
  unfold keyKd
  cases (T kt).desc <;> first | exact Det.no | skip
  · rename_i q
    cases k <;> first | exact Det.no | skip
    rename_i q' n
    simp only
    cases decide (q = q') <;> first | exact Det.no | exact Det.ret _
  · cases k <;> first | exact Det.no | exact Det.ret _
theorem okK_det (ok : Bool) (z : AV) (b : Bool) : Det (okK ok z b) := by cases ok <;> exact Det.ret _
theorem lookK_det (t : TypeId) (G : Glob) (x k : AV) (ok : Bool) : Det (lookK T t G x k ok) := by
  unfold lookK
  cases (T t).desc <;> first | exact Det.no | skip
  rename_i kt et
  refine (keyKd_det T kt k).bind fun kd => ?_
  cases kindD (T et).desc with
  | none => exact Det.no
  | some kb =>
    have zero := (ofVK_det (T et).zero).bind fun z => okK_det ok z false
    cases x <;> first | exact Det.no | exact zero | skip
    rename_i b
    refine Det.ex fun m => ?_
    intro K h
    obtain ⟨r, hr, h⟩ := h
    subst hr
    cases hm : mget m k with
    | none =>
      rw [hm] at h
      obtain ⟨v, h1, h2⟩ := zero K h
      exact ⟨v, h1, fun K' hK => ⟨none, rfl, h2 K' hK⟩⟩
    | some v =>
      rw [hm] at h
      obtain ⟨z, h1, h2⟩ := okK_det ok v true K h
      exact ⟨z, h1, fun K' hK => ⟨some v, rfl, h2 K' hK⟩⟩
theorem failK_det (t : TypeId) : Det (failK T t) := by
  unfold failK
  cases kindD (T t).desc with
  | none => exact Det.no
  | some kb => exact (ofVK_det (T t).zero).bind fun z => Det.ret _
theorem assertK_det (t : TypeId) (v : AV) (ok : Bool) : Det (assertK T t v ok) := by
  unfold assertK
  cases v <;> first | exact Det.no | skip
  · rename_i t' u
    simp only
    cases decide (t' = t) <;> cases ok <;> first | exact Det.no | exact Det.ret _ | exact failK_det T t
  · cases ok <;> first | exact Det.no | exact failK_det T t
theorem boxK_det (L : List LB) (G : Glob) (v : AV) : Det (fun K : List AV × Nat → Prop => boxK L G v fun c o => K (c, o)) := by
  have glob : ∀ b o, Det (fun K : List AV × Nat → Prop => ∃ bx, G b = some bx ∧ cellsK bx fun cells => K (cells, o)) := fun b o => Det.ex fun bx => (cellsK_det bx).bind fun cells => Det.ret (cells, o)
  cases v <;> first | exact Det.no | skip
  · exact Det.ret _
  · rename_i j o
    exact (nthK_det j L).bind fun bx => by
      cases bx with
      | live org cells => exact Det.ret (cells, o)
      | away b => exact glob b o
      | dead => exact Det.no
  · exact glob _ _
theorem cellsEq_det : ∀ (fs : List Field) (xs ys : List AV), Det (cellsEq T fs xs ys)
  | [], [], [] => Det.ret true
  | [], _ :: _, _ => Det.no
  | [], [], _ :: _ => Det.no
  | _ :: _, [], _ => Det.no
  | _ :: _, _ :: _, [] => Det.no
  | f :: fs, x :: xs, y :: ys => by
    have ih := cellsEq_det fs xs ys
    show Det (fun K => cellsEq T (f :: fs) (x :: xs) (y :: ys) K)
    unfold cellsEq
    cases (T f.type).desc <;> first | exact Det.no | skip
    · cases x <;> first | exact Det.no | skip
      cases y <;> first | exact Det.no | skip
      exact ih.bind fun u => Det.ret _
    · cases x <;> first | exact Det.no | skip
      rename_i k a
      cases y <;> first | exact Det.no | skip
      rename_i k' b
      simp only
      cases decide (k = k') with
      | true => exact ih.bind fun u => Det.ret _
      | false => exact Det.no
    · cases x <;> first | exact Det.no | skip
      cases y <;> first | exact Det.no | skip
      exact ih.bind fun u => Det.ret _
theorem eqFlat_det (t : TypeId) (x y : AV) : Det (eqFlat T t x y) := by
  unfold eqFlat
  cases (T t).desc <;> first | exact Det.no | skip
  · cases x <;> first | exact Det.no | skip
    cases y <;> first | exact Det.no | exact Det.ret _
  · cases x <;> first | exact Det.no | skip
    rename_i k a
    cases y <;> first | exact Det.no | skip
    rename_i k' b
    simp only
    cases decide (k = k') with
    | true => exact Det.ret _
    | false => exact Det.no
  · cases x <;> first | exact Det.no | skip
    cases y <;> first | exact Det.no | exact Det.ret _
  · rename_i gs
    cases x <;> first | exact Det.no | skip
    cases y <;> first | exact Det.no | skip
    simp only
    cases (T t).eqok <;> cases flatF gs.toList 0 <;> first | exact Det.no | exact cellsEq_det T _ _ _
theorem nestEq_det (cs ds : List AV) : ∀ fs : List Field, Det (nestEq T fs cs ds)
  | [] => Det.ret true
  | f :: fs => by
    have ih := nestEq_det cs ds fs
    show Det (fun K => nestEq T (f :: fs) cs ds K)
    unfold nestEq
    cases f.name != "_" with
    | true => exact (subK_det T f.type cs f.offset).bind fun x => (subK_det T f.type ds f.offset).bind fun y => (eqFlat_det T f.type x y).bind fun b => ih.bind fun u => Det.ret _
    | false => exact Det.no
theorem isNilP_det (v : AV) : Det (isNilP v) := by cases v <;> first | exact Det.no | exact Det.ret _
theorem isNilF_det (v : AV) : Det (isNilF v) := by cases v <;> first | exact Det.no | exact Det.ret _
theorem isNilM_det (v : AV) : Det (isNilM v) := by cases v <;> first | exact Det.no | exact Det.ret _
theorem isNilI_det (v : AV) : Det (isNilI v) := by cases v <;> first | exact Det.no | exact Det.ret _
theorem eqK_det (t : TypeId) (x y : AV) : Det (eqK T t x y) := by
  unfold eqK
  cases (T t).desc <;> first | exact Det.no | skip
  · cases x <;> first | exact Det.no | skip
    cases y <;> first | exact Det.no | exact Det.ret _
  · cases x <;> cases y <;> first | exact Det.no | exact isNilP_det _
  · cases x <;> cases y <;> first | exact Det.no | exact isNilM_det _
  · rename_i fs
    cases x <;> first | exact Det.no | skip
    cases y <;> first | exact Det.no | skip
    simp only
    cases (T t).eqok <;> cases flatC T fs.toList <;> first | exact Det.no | exact cellsEq_det T _ _ _ | exact nestEq_det T _ _ _
  · cases x <;> cases y <;> first | exact Det.no | exact isNilF_det _
  · cases x <;> cases y <;> first | exact Det.no | exact isNilI_det _
theorem othK_det (op : BinOp) (t : TypeId) (x y : AV) : Det (othK T op t x y) := by
  unfold othK
  cases op <;> first | exact Det.no | exact (eqK_det T t x y).bind fun b => Det.ret _
theorem binI_det (op : BinOp) (k : IntKind) (a b : Int) : Det (binI op k a b) := by
  cases op <;> first | exact Det.no | exact Det.ret _ | exact (Det.ret _).and _
theorem binS_det (op : BinOp) (a b : ByteArray) : Det (binS op a b) := by
  cases op <;> first | exact Det.no | exact Det.ret _ | exact (Det.ret _).and _
theorem binK_det (op : BinOp) (t : TypeId) (x y : AV) : Det (binK T op t x y) := by
  cases x with
  | int k a => cases y with
    | int k' b =>
      have gen : Det (fun K => match decide (k = k') with | true => binI op k a b K | false => False) := by
        cases decide (k = k') with
        | true => exact binI_det op k a b
        | false => exact Det.no
      cases op <;> first | exact gen | exact (Det.ret _).and _
    | _ => exact othK_det T op t _ _
  | str a => cases y with
    | str b => exact binS_det op a b
    | _ => exact othK_det T op t _ _
  | _ => cases y <;> exact othK_det T op t _ _
theorem ptrK_det (v : AV) (d : Nat) : Det (ptrK v d) := by cases v <;> first | exact Det.no | exact Det.ret _
theorem elsOf_det (v : AV) : Det (fun K : TypeId × List (List AV) → Prop => elsOf v fun e els => K (e, els)) := by cases v <;> first | exact Det.no | exact Det.ret _
theorem lenK_det (t : TypeId) (v : AV) : Det (lenK T t v) := by
  unfold lenK
  cases (T t).desc <;> first | exact Det.no | skip
  · cases v <;> first | exact Det.no | exact Det.ret _
  · cases v <;> first | exact Det.no | exact Det.ret _
theorem boundK_det (d : Int) (v : Option AV) : Det (boundK d v) := by
  cases v with
  | none => exact Det.ret _
  | some v => cases v <;> first | exact Det.no | exact Det.ret _
theorem sliceK_det (t : TypeId) (v : AV) (lo hi : Option AV) : Det (sliceK T t v lo hi) := by
  unfold sliceK
  cases (T t).desc <;> first | exact Det.no | skip
  · cases v <;> first | exact Det.no | skip
    exact (boundK_det _ _).bind fun h => (boundK_det _ _).bind fun l => (Det.ret _).and _
  · rename_i e
    simp only
    cases kindD (T e).desc with
    | none => exact Det.no
    | some b =>
      exact (elsOf_det v).bind (H := fun p K => match decide (e = p.1) with | true => boundK p.2.length hi fun h => boundK 0 lo fun l => (0 ≤ l ∧ l ≤ h ∧ h ≤ p.2.length) ∧ K (AV.slc e ((p.2.drop l.toNat).take (h.toNat - l.toNat))) | false => False) fun p => by
        cases decide (e = p.1) with
        | true => exact (boundK_det _ _).bind fun h => (boundK_det _ _).bind fun l => (Det.ret _).and _
        | false => exact Det.no
theorem fillK_det (place : Nat → Option (Nat × Nat)) (env : List AV) : ∀ (parts : List (Nat × Operand)) (cells : List AV), Det (fillK place parts env cells)
  | [], cells => Det.ret cells
  | (i, x) :: r, cells => by
    show Det (fun K => fillK place ((i, x) :: r) env cells K)
    unfold fillK
    cases place i with
    | none => exact Det.no
    | some os =>
      exact (opdK_det env x).bind fun v => (cellsOfV_det v).bind fun vs => by
        cases vs.length == os.2 with
        | true => exact (putsK_det _ _ _).bind fun c => fillK_det place env r c
        | false => exact Det.no
theorem zeroK_det (t : TypeId) : Det (zeroK T t) := ofVsK_det _
theorem minmax_det (f : Int → Int → Int) : ∀ (l : List AV) (k : IntKind) (a : Int), Det (minmax f l k a)
  | [], k, a => Det.ret _
  | v :: r, k, a => by cases v <;> first | exact Det.no | exact minmax_det f r k _
theorem Det.congr {α : Type} {F H : (α → Prop) → Prop} (hH : Det H) (h : ∀ K, F K ↔ H K) : Det F := fun K hK => by
  obtain ⟨v, h1, h2⟩ := hH K ((h K).1 hK)
  exact ⟨v, h1, fun K' hK' => (h K').2 (h2 K' hK')⟩
theorem qOp_det (L : List LB) (G : Glob) (env : List AV) (op : Op) : Det (qOp T L G env op) := by
  cases op <;> first | exact Det.no | skip
  case move x => exact opdK_det env x
  case assign x => exact opdK_det env x
  case pick c x y => exact (opdK_det env c).bind fun v => by cases v <;> first | exact Det.no | exact Det.BS _ (opdK_det env x) (opdK_det env y)
  case nilCheck x =>
    exact (opdK_det env x).bind fun v => by
      cases v <;> first | exact Det.no | exact Det.ret _ | skip
      rename_i f p q
      cases f <;> first | exact Det.no | exact Det.ret _
  case load t x => exact (opdK_det env x).bind fun p => (boxK_det L G p).bind (H := fun q K => subK T t q.1 q.2 K) fun q => subK_det T t q.1 q.2
  case binOp o t x y t' => exact (opdK_det env x).bind fun a => (opdK_det env y).bind fun b => binK_det T o t a b
  case unOp o t x => exact (opdK_det env x).bind fun v => by cases o <;> cases v <;> first | exact Det.no | exact Det.ret _
  case convert s d x =>
    exact (opdK_det env x).bind fun v => by
      cases kindD (T s).desc with
      | none => exact Det.no
      | some b => cases (T d).desc <;> first | exact Det.no | (cases v <;> first | exact Det.no | exact Det.ret _)
  case field t x i =>
    exact (opdK_det env x).bind fun v => by
      cases (T t).desc <;> first | exact Det.no | skip
      rename_i fs
      cases v <;> first | exact Det.no | skip
      simp only
      cases fs[i]? with
      | none => exact Det.no
      | some f => exact subK_det T _ _ _
  case fieldAddr t x i =>
    show Det (fun K => qOp T L G env (.fieldAddr t x i) K)
    simp only [qOp]
    cases (T t).desc <;> first | exact Det.no | skip
    rename_i fs
    simp only
    cases fs[i]? with
    | none => exact Det.no
    | some f =>
      simp only
      cases kindD (T f.type).desc with
      | none => exact Det.no
      | some b => cases (T f.type).cells with
        | zero => exact Det.no
        | succ n => exact (opdK_det env x).bind fun v => ptrK_det v _
  case indexAddr t x ix =>
    exact (opdK_det env ix).bind fun iv => by
      cases iv <;> first | exact Det.no | skip
      rename_i k i
      cases (T t).desc <;> first | exact Det.no | skip
      · rename_i e
        simp only
        cases kindD (T e).desc with
        | none => exact Det.no
        | some b =>
          exact (opdK_det env x).bind fun v => (elsOf_det v).bind (H := fun p K => match decide (e = p.1) with | true => ∃ cells, (0 ≤ i ∧ p.2[i.toNat]? = some cells) ∧ K (AV.eref cells 0) | false => False) fun p => by
            cases decide (e = p.1) with
            | true => exact Det.ex fun cells => Det.ret _
            | false => exact Det.no
      · rename_i n e
        simp only
        cases kindD (T e).desc with
        | none => exact Det.no
        | some b => exact Det.and _ ((opdK_det env x).bind fun v => ptrK_det v _)
  case index t x ix =>
    exact (opdK_det env ix).bind fun iv => (opdK_det env x).bind fun v => by
      cases iv <;> first | exact Det.no | skip
      cases v <;> first | exact Det.no | skip
      · simp only
        cases kindD (T t).desc with
        | none => exact Det.no
        | some b => cases (T t).desc <;> first | exact Det.no | exact (Det.ret _).and _
      · cases (T t).desc <;> first | exact Det.no | skip
        rename_i n e
        simp only
        cases kindD (T e).desc with
        | none => exact Det.no
        | some b => cases b with
          | true => exact Det.no
          | false =>
            generalize (T e).cells = c
            match c with
            | 0 => exact Det.no
            | 1 => exact Det.and _ (Det.ex fun v => Det.ret v)
            | n + 2 => exact Det.no
  case lookup t x k ok => exact (opdK_det env k).bind fun kv => (opdK_det env x).bind fun xv => lookK_det T t G xv kv ok
  case typeAssert x xt t ok =>
    refine (opdK_det env x).bind fun v => ?_
    cases notIfc (T t).desc with
    | false => exact Det.no
    | true => exact assertK_det T t v ok
  case slice t x lo hi mx =>
    cases mx with
    | some m => exact Det.no
    | none => exact (opdK_det env x).bind fun v => (oopdK_det env lo).bind fun l => (oopdK_det env hi).bind fun h => sliceK_det T t v l h
  case extract x i => exact (opdK_det env x).bind fun v => by cases v <;> first | exact Det.no | exact nthK_det _ _
  case makeFunc f x y => exact (opdsK_det env x.toList).bind fun p => (opdsK_det env y.toList).bind fun q => Det.ret _
  case makeInterface t x =>
    have : Det (fun K : AV → Prop => opdK env x fun v => K (.ifc t v)) := (opdK_det env x).bind fun v => Det.ret _
    show Det (fun K => qOp T L G env (.makeInterface t x) K)
    simp only [qOp]
    cases (T t).desc <;> first | exact Det.no | exact this
  case build t parts =>
    show Det (fun K => qOp T L G env (.build t parts) K)
    simp only [qOp]
    cases (T t).desc <;> first | exact Det.no | skip
    · rename_i n e
      simp only
      cases kindD (T e).desc with
      | none => exact Det.no
      | some b => exact (zeroK_det T t).bind fun z => (fillK_det _ env _ z).bind fun l => Det.ret _
    · rename_i fs
      simp only
      cases fs.toList.all (fun f => (kindD (T f.type).desc).isSome) with
      | true => exact (zeroK_det T t).bind fun z => (fillK_det _ env _ z).bind fun l => Det.ret _
      | false => exact Det.no
  case call c =>
    obtain ⟨callee, args, ts⟩ := c
    cases callee with
    | builtin b =>
      cases b <;> first | exact Det.no | skip
      · obtain ⟨l⟩ := args
        obtain ⟨l2⟩ := ts
        match l, l2 with
        | [x], [t] => exact (opdK_det env x).bind fun v => (lenK_det T t v).bind fun n => Det.ret _
        | [], _ => exact Det.no
        | _ :: _ :: _, _ => exact Det.no
        | [_], [] => exact Det.no
        | [_], _ :: _ :: _ => exact Det.no
      · exact (opdsK_det env args.toList).bind fun l => by
          match l with
          | [] => exact Det.no
          | v :: r => cases v <;> first | exact Det.no | exact minmax_det _ r _ _
      · exact (opdsK_det env args.toList).bind fun l => by
          match l with
          | [] => exact Det.no
          | v :: r => cases v <;> first | exact Det.no | exact minmax_det _ r _ _
    | value f => exact Det.no
    | invoke r m => exact Det.no
end
end Go.Proofs.YtpihanlillbhkaaGreatDoor
end

section
/- Operations look at no more than their operands; what a step of a drawn region hands on. -/
namespace Go.Proofs.YtpihanlillbhkaaGreatDoor
open Go Go.RowKit

theorem opdK_eq {env env' : List AV} {x : Operand} (h : ∀ t, x = .tmp t → env[t]? = env'[t]?) : opdK env x = opdK env' x := by
  cases x with
  | tmp t =>
    funext K
    have h := h t rfl
    simp only [opdK, nthK_iff, h]
  | const v => rfl
  | global b => rfl
  | func f => rfl
theorem opdsK_eq {env env' : List AV} : ∀ {l : List Operand}, (∀ x ∈ l, opdK env x = opdK env' x) → opdsK env l = opdsK env' l
  | [], _ => rfl
  | x :: r, h => by
    funext K
    have h1 := h x (by simp)
    have h2 := opdsK_eq (l := r) fun y hy => h y (by simp [hy])
    simp only [opdsK, h1, h2]
theorem oopdK_eq {env env' : List AV} {x : Option Operand} (h : ∀ y, x = some y → opdK env y = opdK env' y) : oopdK env x = oopdK env' x := by
  cases x with
  | none => rfl
  | some y => funext K; simp only [oopdK, h y rfl]
theorem fillK_eq {place : Nat → Option (Nat × Nat)} {env env' : List AV} : ∀ {l : List (Nat × Operand)}, (∀ x ∈ l, opdK env x.2 = opdK env' x.2) → fillK place l env = fillK place l env'
  | [], _ => rfl
  | (i, x) :: r, h => by
    funext cells K
    have h1 := h (i, x) (by simp)
    have h2 := fillK_eq (place := place) (l := r) fun y hy => h y (by simp [hy])
    simp only at h1
    simp only [fillK, h1, h2]
theorem opnd_eq {env env' : List AV} {op : Op} (h : ∀ t ∈ opTmps op, env[t]? = env'[t]?) {x : Operand} (hx : x ∈ op.operands) : opdK env x = opdK env' x :=
  opdK_eq fun t ht => h t (List.mem_filterMap.2 ⟨x, by simpa using hx, by rw [ht]⟩)
section
variable {P : Program} {T : TypeId → TR}
theorem qOp_eq {env env' : List AV} {op : Op} (h : ∀ t ∈ opTmps op, env[t]? = env'[t]?) {L L' : List LB} {G G' : Glob} (hm : isLoad op = true → L = L' ∧ G = G') : qOp T L G env op = qOp T L' G' env' op := by
  have e : ∀ {x : Operand}, x ∈ op.operands → opdK env x = opdK env' x := opnd_eq h
  cases op <;> first | rfl | skip
  case move x => funext K; simp only [qOp, e (x := x) (by simp [Op.operands])]
  case assign x => funext K; simp only [qOp, e (x := x) (by simp [Op.operands])]
  case pick c x y => funext K; simp only [qOp, e (x := x) (by simp [Op.operands]), e (x := y) (by simp [Op.operands]), e (x := c) (by simp [Op.operands])]
  case nilCheck x => funext K; simp only [qOp, e (x := x) (by simp [Op.operands])]
  case load t x => obtain ⟨rfl, rfl⟩ := hm rfl; funext K; simp only [qOp, e (x := x) (by simp [Op.operands])]
  case binOp o t x y t' => funext K; simp only [qOp, e (x := x) (by simp [Op.operands]), e (x := y) (by simp [Op.operands])]
  case unOp o t x => funext K; simp only [qOp, e (x := x) (by simp [Op.operands])]
  case convert s d x => funext K; simp only [qOp, e (x := x) (by simp [Op.operands])]
  case field t x i => funext K; simp only [qOp, e (x := x) (by simp [Op.operands])]
  case fieldAddr t x i => funext K; simp only [qOp, e (x := x) (by simp [Op.operands])]
  case indexAddr t x ix => funext K; simp only [qOp, e (x := x) (by simp [Op.operands]), e (x := ix) (by simp [Op.operands])]
  case index t x ix => funext K; simp only [qOp, e (x := x) (by simp [Op.operands]), e (x := ix) (by simp [Op.operands])]
  case lookup t x k ok => obtain ⟨rfl, rfl⟩ := hm rfl; funext K; simp only [qOp, e (x := x) (by simp [Op.operands]), e (x := k) (by simp [Op.operands])]
  case typeAssert x xt t ok => funext K; simp only [qOp, e (x := x) (by simp [Op.operands])]
  case slice t x lo hi mx =>
    cases mx with
    | some m => rfl
    | none =>
      have h1 : oopdK env lo = oopdK env' lo := oopdK_eq fun y hy => e (by subst hy; simp [Op.operands])
      have h2 : oopdK env hi = oopdK env' hi := oopdK_eq fun y hy => e (by subst hy; simp [Op.operands])
      funext K; simp only [qOp, e (x := x) (by simp [Op.operands]), h1, h2]
  case extract x i => funext K; simp only [qOp, e (x := x) (by simp [Op.operands])]
  case makeFunc f x y =>
    have h1 : opdsK env x.toList = opdsK env' x.toList := opdsK_eq fun z hz => e (by simp [Op.operands] at hz ⊢; exact .inl hz)
    have h2 : opdsK env y.toList = opdsK env' y.toList := opdsK_eq fun z hz => e (by simp [Op.operands] at hz ⊢; exact .inr hz)
    funext K; simp only [qOp, h1, h2]
  case makeInterface t x => funext K; simp only [qOp, e (x := x) (by simp [Op.operands])]
  case build t parts =>
    have h1 : ∀ place, fillK place parts.toList env = fillK place parts.toList env' := fun place => fillK_eq fun z hz => e (by simp only [Op.operands, List.mem_toArray, List.mem_map]; exact ⟨z, hz, rfl⟩)
    funext K; simp only [qOp, h1]
  case call c =>
    obtain ⟨callee, args, ts⟩ := c
    have h1 : opdsK env args.toList = opdsK env' args.toList := opdsK_eq fun z hz => e (by simp [Op.operands, Call.operands] at hz ⊢; exact .inr hz)
    cases callee with
    | builtin b =>
      cases b <;> first | rfl | skip
      · obtain ⟨l⟩ := args
        obtain ⟨l2⟩ := ts
        match l, l2 with
        | [x], [t] => funext K; simp only [qOp, e (x := x) (by simp [Op.operands, Call.operands])]
        | [], _ => rfl
        | _ :: _ :: _, _ => rfl
        | [_], [] => rfl
        | [_], _ :: _ :: _ => rfl
      · funext K; simp only [qOp, h1]
      · funext K; simp only [qOp, h1]
    | value f => rfl
    | invoke r m => rfl
theorem effK_eq {env env' : List AV} {op : Op} (h : ∀ t ∈ opTmps op, env[t]? = env'[t]?) : effK T op env = effK T op env' := by
  have e : ∀ {x : Operand}, x ∈ op.operands → opdK env x = opdK env' x := opnd_eq h
  cases op <;> first | rfl | skip
  case box t x => funext L nl nt G K; simp only [effK, e (x := x) (by simp [Op.operands])]
  case store t p x => funext L nl nt G K; simp only [effK, e (x := x) (by simp [Op.operands]), e (x := p) (by simp [Op.operands])]
  case mapUpdate t m k x => funext L nl nt G K; simp only [effK, e (x := x) (by simp [Op.operands]), e (x := m) (by simp [Op.operands]), e (x := k) (by simp [Op.operands])]
  case call c =>
    obtain ⟨callee, args, ts⟩ := c
    cases callee with
    | value f => rfl
    | invoke r m => rfl
    | builtin bt =>
      cases bt <;> first | rfl | skip
      obtain ⟨l⟩ := args
      obtain ⟨l2⟩ := ts
      match l, l2 with
      | [], _ => rfl
      | [_], _ => rfl
      | [_, _], [] => rfl
      | [_, _], [_] => rfl
      | [_, _], _ :: _ :: _ :: _ => rfl
      | _ :: _ :: _ :: _, _ => rfl
      | [m, k], [t, _] => funext L nl nt G K; simp only [effK, e (x := m) (by simp [Op.operands, Call.operands]), e (x := k) (by simp [Op.operands, Call.operands])]
  case buildSlice t n parts =>
    have h1 : ∀ place, fillK place parts.toList env = fillK place parts.toList env' := fun place => fillK_eq fun z hz => e (by simp only [Op.operands, List.mem_toArray, List.mem_map]; exact ⟨z, hz, rfl⟩)
    funext L nl nt G K; simp only [effK, h1]
theorem argsK_eq {env env' : List AV} {f : Operand} {args : Array Operand} {ts : Array TypeId} (h : ∀ t ∈ opTmps (.call { callee := .value f, args := args, argTypes := ts }), env[t]? = env'[t]?) (L : List LB) : argsK env L f args.toList = argsK env' L f args.toList := by
  have e := @opnd_eq _ _ _ h
  have h1 : opdsK env args.toList = opdsK env' args.toList := opdsK_eq fun z hz => e (by simp [Op.operands, Call.operands] at hz ⊢; exact .inr hz)
  funext K
  simp only [argsK, h1, e (x := f) (by simp [Op.operands, Call.operands])]

-- one thing alone is handed on
theorem out0K_det (L : List LB) (v : AV) : Det (out0K L v) := by
  have h0 := dat0K_det v
  cases v with
  | lptr j o => exact (nthK_det j L).bind fun bx => by cases bx <;> exact Det.ret _
  | _ => exact h0
theorem out0sK_det (L : List LB) : ∀ vs : List AV, Det (out0sK L vs)
  | [] => Det.ret []
  | v :: r => (out0K_det L v).bind fun v' => (out0sK_det L r).bind fun l => Det.ret (v' :: l)
theorem out1K_det (L : List LB) (v : AV) : Det (out1K L v) := by
  have h0 := out0K_det L v
  cases v with
  | agg cs => exact (out0sK_det L cs).bind fun l => Det.ret (AV.agg l)
  | top => exact Det.no
  | tup _ => exact Det.no
  | fn _ _ _ => exact Det.no
  | ifc _ _ => exact Det.no
  | _ => exact h0
theorem dropG_det (o n : Nat) : ∀ gs, Det (dropG o n gs)
  | [] => Det.ret []
  | x :: r => by
    show Det (fun K => dropG o n (x :: r) K)
    unfold dropG
    cases decide (o ≤ x.1) <;> cases decide (x.1 < o + n) <;> first | exact dropG_det o n r | exact (dropG_det o n r).bind fun l => Det.ret (x :: l)
theorem gstoK_det (bx : GB) (o : Nat) (vs : List AV) : Det (gstoK bx o vs) := by
  cases bx with
  | cells cs => exact (putsK_det o vs cs).bind fun c => Det.ret (GB.cells c)
  | box cs gs => exact (putsK_det o vs cs).bind fun c => (dropG_det o vs.length gs).bind fun g => Det.ret (GB.box c g)
  | bld s => exact Det.no
  | map kd m => exact Det.no
  | cmap n m => exact Det.no
  | pin k o => exact Det.no
  | obld t s x =>
    match o, vs with
    | 0, _ => exact Det.no
    | 1, _ => exact Det.no
    | 2, [] => exact Det.no
    | 2, [y] => exact Det.ret (GB.obld t s y)
    | 2, _ :: _ :: _ => exact Det.no
    | o + 3, _ => exact Det.no
theorem effK_det (op : Op) (env : List AV) (L : List LB) (nl nt : Nat) (G : Glob) : Det (fun K : AV × List LB × Nat × Nat × Glob → Prop => effK T op env L nl nt G fun v L' nl' nt' G' => K (v, L', nl', nt', G')) := by
  cases op <;> first | exact Det.no | skip
  case alloc t =>
    simp only [effK]
    cases kindD (T t).desc with
    | none => exact Det.no
    | some b => exact (zeroK_det T t).bind fun z => (snocK_det L (.live none z)).bind fun L' => Det.ret (AV.lptr nl 0, L', nl + 1, nt, G)
  case box t x =>
    simp only [effK]
    exact (opdK_det env x).bind fun v => (cellsOfV_det v).bind fun cells => (snocK_det L (.live none cells)).bind fun L' => Det.ret (AV.lptr nl 0, L', nl + 1, nt, G)
  case store t p x =>
    simp only [effK]
    have glob : ∀ b o vs, Det (fun K : AV × List LB × Nat × Nat × Glob → Prop => ∃ bx, G b = some bx ∧ out0sK L vs fun vs' => gstoK bx o vs' fun bx' => K (AV.top, L, nl, nt, setG G b bx')) := fun b o vs =>
      Det.ex fun bx => ((out0sK_det L vs).bind fun vs' => (gstoK_det bx o vs').bind fun bx' => Det.ret (AV.top, L, nl, nt, setG G b bx'))
    refine (opdK_det env x).bind fun v => (cellsOfV_det v).bind fun vs => ?_
    cases kindD (T t).desc with
    | none => exact Det.no
    | some kb =>
      cases vs.length == (T t).cells with
      | false => exact Det.no
      | true =>
        refine (opdK_det env p).bind fun q => ?_
        cases q <;> first | exact Det.no | exact glob _ _ _ | skip
        rename_i j o
        refine (nthK_det j L).bind fun bx => ?_
        cases bx with
        | live org cells => exact (putsK_det o vs cells).bind fun cells' => (setK_det j (LB.live org cells') L).bind fun L' => Det.ret (AV.top, L', nl, nt, G)
        | away b => exact glob _ _ _
        | dead => exact Det.no
  case mapUpdate t m k x =>
    simp only [effK]
    refine (opdK_det env k).bind fun kv => (opdK_det env m).bind fun mv => (opdK_det env x).bind fun v => ?_
    cases (T t).desc <;> first | exact Det.no | skip
    cases mv <;> first | exact Det.no | skip
    rename_i kt et b
    exact (keyKd_det T kt kv).bind fun kd => (out1K_det L v).bind fun v' => Det.ex fun mm => Det.ret (AV.top, L, nl, nt, setG G b (.map kd (mput mm kv v')))
  case call c =>
    obtain ⟨callee, args, ts⟩ := c
    cases callee with
    | value f => exact Det.no
    | invoke r m => exact Det.no
    | builtin bt =>
      cases bt <;> first | exact Det.no | skip
      simp only [effK]
      obtain ⟨l⟩ := args
      obtain ⟨l2⟩ := ts
      match l, l2 with
      | [], _ => exact Det.no
      | [_], _ => exact Det.no
      | [_, _], [] => exact Det.no
      | [_, _], [_] => exact Det.no
      | [_, _], _ :: _ :: _ :: _ => exact Det.no
      | _ :: _ :: _ :: _, _ => exact Det.no
      | [m, k], [t, _] =>
        refine (opdK_det env k).bind fun kv => (opdK_det env m).bind fun mv => ?_
        cases (T t).desc <;> first | exact Det.no | skip
        rename_i kt et
        refine (keyKd_det T kt kv).bind fun kd => ?_
        cases mv <;> first | exact Det.no | exact Det.ret (AV.tup [], L, nl, nt, G) | skip
        rename_i b
        exact Det.ex fun mm => Det.ret (AV.tup [], L, nl, nt, setG G b (.map kd (mdel mm kv)))
  case buildSlice t len parts =>
    simp only [effK]
    cases (T t).desc <;> first | exact Det.no | skip
    rename_i e
    simp only
    cases hc : (T e).cells with
    | zero => exact Det.no
    | succ n =>
      simp only
      cases kindD (T e).desc with
      | none => exact Det.no
      | some kb =>
        cases decide (len * (n + 1) ≤ 16777216) with
        | false => exact Det.no
        | true =>
          exact (zeroK_det T e).bind fun z0 => (repK_det z0 len).bind fun z => (fillK_det _ env parts.toList z).bind fun cells => (dat0sK_det cells).bind fun cells' => (chunkK_det (n + 1) len cells').bind fun els => Det.ret (AV.own nt e els, L, nl, nt + 1, G)
theorem giveCK_det (L : List LB) (v : AV) : Det (giveCK L v) := by
  have h0 := dat0K_det v
  cases v with
  | lptr j o => exact (nthK_det j L).bind fun bx => by cases bx <;> first | exact Det.no | exact Det.ret _
  | _ => exact Det.congr h0 (fun _ => Iff.rfl)
theorem give0K_det (L : List LB) (v : AV) : Det (give0K L v) := by
  have h0 := giveCK_det L v
  cases v <;> first | exact Det.no | exact Det.congr h0 (fun _ => Iff.rfl)
theorem give0sK_det (L : List LB) : ∀ l, Det (give0sK L l)
  | [] => Det.ret []
  | v :: r => (give0K_det L v).bind fun v' => (give0sK_det L r).bind fun l => Det.ret (v' :: l)
theorem giveFK_det (L : List LB) (v : AV) : Det (giveFK L v) := by
  have h0 := giveCK_det L v
  cases v <;> first | exact Det.congr h0 (fun _ => Iff.rfl) | skip
  case fn f a b => exact (give0sK_det L a).bind fun a' => (give0sK_det L b).bind fun b' => Det.ret (AV.fn f a' b')
theorem giveCsK_det (L : List LB) : ∀ l, Det (giveCsK L l)
  | [] => Det.ret []
  | v :: r => (giveFK_det L v).bind fun v' => (giveCsK_det L r).bind fun l => Det.ret (v' :: l)
theorem giveK_det (L : List LB) (v : AV) : Det (giveK L v) := by
  have h0 := give0K_det L v
  cases v <;> first | exact Det.congr h0 (fun _ => Iff.rfl) | skip
  case fn f a b => exact (give0sK_det L a).bind fun a' => (give0sK_det L b).bind fun b' => Det.ret (AV.fn f a' b')
  case agg cs => exact (giveCsK_det L cs).bind fun l => Det.ret (AV.agg l)
  case ifc t v =>
    have h1 : Det (fun K : AV → Prop => give0K L v fun v' => K (.ifc t v')) := (give0K_det L v).bind fun v' => Det.ret (AV.ifc t v')
    cases v with
    | agg cs => exact (giveCsK_det L cs).bind fun l => Det.ret (AV.ifc t (.agg l))
    | _ => exact Det.congr h1 (fun _ => Iff.rfl)
theorem givesK_det (L : List LB) : ∀ l, Det (givesK L l)
  | [] => Det.ret []
  | v :: r => (giveK_det L v).bind fun v' => (givesK_det L r).bind fun l => Det.ret (v' :: l)
theorem argsK_det (env : List AV) (L : List LB) (f : Operand) (args : List Operand) : Det (fun K : FuncId × List AV → Prop => argsK env L f args fun id l => K (id, l)) := by
  refine (opdK_det env f).bind fun v => ?_
  cases v <;> first | exact Det.no | skip
  rename_i fn a b
  cases fn <;> first | exact Det.no | skip
  rename_i id
  exact (opdsK_det env args).bind fun l => (givesK_det L a).bind fun a' => (givesK_det L l).bind fun l' => (givesK_det L b).bind fun b' => Det.ret (id, a' ++ (l' ++ b'))

-- what is handed to a call without lending is handed to it
theorem giveCK_lend {env : List AV} {L : List LB} {nl nt : Nat} {G : Glob} {v : AV} {K : AV → Cf → Prop} (h : giveCK L v fun v' => K v' ⟨env, L, nl, nt, G⟩) : lendCK v ⟨env, L, nl, nt, G⟩ K := by
  cases v <;> first | exact h | skip
  rename_i j o
  simp only [giveCK, nthK_iff] at h
  obtain ⟨bx, h1, h2⟩ := h
  simp only [lendCK, lendK, nthK_iff]
  refine ⟨bx, h1, ?_⟩
  cases bx <;> first | exact h2.elim | exact h2
theorem give0K_lend {env : List AV} {L : List LB} {nl nt : Nat} {G : Glob} {v : AV} {K : AV → Cf → Prop} (h : give0K L v fun v' => K v' ⟨env, L, nl, nt, G⟩) : lend0K v ⟨env, L, nl, nt, G⟩ K := by
  have h0 := @giveCK_lend env L nl nt G v K
  cases v <;> first | exact h.elim | exact h0 h
theorem give0sK_lend {env : List AV} {L : List LB} {nl nt : Nat} {G : Glob} : ∀ {l : List AV} {K : List AV → Cf → Prop}, (give0sK L l fun l' => K l' ⟨env, L, nl, nt, G⟩) → lend0sK l ⟨env, L, nl, nt, G⟩ K
  | [], _, h => h
  | v :: r, K, h => give0K_lend (K := fun v' c' => lend0sK r c' fun l c'' => K (v' :: l) c'') (by
      obtain ⟨v', h1, h2⟩ := give0K_det L v _ h
      exact h2 _ (give0sK_lend (K := fun l c => K (v' :: l) c) h1))
theorem giveFK_lend {env : List AV} {L : List LB} {nl nt : Nat} {G : Glob} {v : AV} {K : AV → Cf → Prop} (h : giveFK L v fun v' => K v' ⟨env, L, nl, nt, G⟩) : lendFK v ⟨env, L, nl, nt, G⟩ K := by
  have h0 := @giveCK_lend env L nl nt G v K
  cases v <;> first | exact h0 h | skip
  case fn f a b =>
    refine give0sK_lend (K := fun a' c' => lend0sK b c' fun b' c'' => K (.fn f a' b') c'') ?_
    obtain ⟨a', h1, h2⟩ := give0sK_det L a _ h
    exact h2 _ (give0sK_lend (K := fun b' c => K (.fn f a' b') c) h1)
theorem giveCsK_lend {env : List AV} {L : List LB} {nl nt : Nat} {G : Glob} : ∀ {l : List AV} {K : List AV → Cf → Prop}, (giveCsK L l fun l' => K l' ⟨env, L, nl, nt, G⟩) → lendCsK l ⟨env, L, nl, nt, G⟩ K
  | [], _, h => h
  | v :: r, K, h => giveFK_lend (K := fun v' c' => lendCsK r c' fun l c'' => K (v' :: l) c'') (by
      obtain ⟨v', h1, h2⟩ := giveFK_det L v _ h
      exact h2 _ (giveCsK_lend (K := fun l c => K (v' :: l) c) h1))
theorem giveK_lend {env : List AV} {L : List LB} {nl nt : Nat} {G : Glob} {v : AV} {K : AV → Cf → Prop} (h : giveK L v fun v' => K v' ⟨env, L, nl, nt, G⟩) : lend1K v ⟨env, L, nl, nt, G⟩ K := by
  have h0 := @give0K_lend env L nl nt G v K
  cases v <;> first | exact h0 h | skip
  case fn f a b =>
    refine give0sK_lend (K := fun a' c' => lend0sK b c' fun b' c'' => K (.fn f a' b') c'') ?_
    obtain ⟨a', h1, h2⟩ := give0sK_det L a _ h
    exact h2 _ (give0sK_lend (K := fun b' c => K (.fn f a' b') c) h1)
  case agg cs => exact giveCsK_lend (K := fun l c => K (.agg l) c) h
  case ifc t v =>
    have h1 := @give0K_lend env L nl nt G v (fun v' c => K (.ifc t v') c)
    cases v with
    | agg cs => exact giveCsK_lend (K := fun l c => K (.ifc t (.agg l)) c) h
    | _ => exact h1 h
theorem givesK_lend {env : List AV} {L : List LB} {nl nt : Nat} {G : Glob} : ∀ {l : List AV} {K : List AV → Cf → Prop}, (givesK L l fun l' => K l' ⟨env, L, nl, nt, G⟩) → lend1sK l ⟨env, L, nl, nt, G⟩ K
  | [], _, h => h
  | v :: r, K, h => giveK_lend (K := fun v' c' => lend1sK r c' fun l c'' => K (v' :: l) c'') (by
      obtain ⟨v', h1, h2⟩ := giveK_det L v _ h
      exact h2 _ (givesK_lend (K := fun l c => K (v' :: l) c) h1))
theorem argsK_call {env : List AV} {L : List LB} {nl nt : Nat} {G : Glob} {f : Operand} {args : Array Operand} {ts : Array TypeId} {K : AV → Cf → Prop}
    (h : argsK env L f args.toList fun id l => CallOk P T id l G fun v G' => K v ⟨env, L, nl, nt, G'⟩) : evOp0 P T (.call { callee := .value f, args := args, argTypes := ts }) ⟨env, L, nl, nt, G⟩ K := by
  obtain ⟨v, h1, h2⟩ := opdK_det env f _ h
  refine h2 _ ?_
  cases v <;> first | exact h1.elim | skip
  rename_i fn a b
  cases fn <;> first | exact h1.elim | skip
  rename_i id
  obtain ⟨l, h3, h4⟩ := opdsK_det env _ _ h1
  refine h4 _ ?_
  obtain ⟨a', h5, h6⟩ := givesK_det L a _ h3
  obtain ⟨l', h7, h8⟩ := givesK_det L l _ h5
  obtain ⟨b', h9, h10⟩ := givesK_det L b _ h7
  refine givesK_lend (l := a) (h6 _ ?_)
  refine givesK_lend (l := l) (h8 _ ?_)
  exact givesK_lend (l := b) (h10 _ h9)
end
end Go.Proofs.YtpihanlillbhkaaGreatDoor
end

section
/- A region that draws its order: the run in the text's order serves for every order that may be drawn. -/
namespace Go.Proofs.YtpihanlillbhkaaGreatDoor
open Go Go.RowKit

section
variable {P : Program} {T : TypeId → TR} {eff : List Nat}
theorem stepK_det (i : Nat) (op : Op) (c : Cf) : Det (fun K : AV × Cf → Prop => stepK P T eff i op c fun v c' => K (v, c')) := by
  obtain ⟨env, L, nl, nt, G⟩ := c
  have q : (∀ K : AV → Cf → Prop, stepK P T eff i op ⟨env, L, nl, nt, G⟩ K ↔ qOp T L G env op fun v => K v ⟨env, L, nl, nt, G⟩) → Det (fun K : AV × Cf → Prop => stepK P T eff i op ⟨env, L, nl, nt, G⟩ fun v c' => K (v, c')) := fun h =>
    Det.congr ((qOp_det T L G env op).bind fun v => Det.ret (v, (⟨env, L, nl, nt, G⟩ : Cf))) fun K => h fun v c => K (v, c)
  have e : (∀ K : AV → Cf → Prop, stepK P T eff i op ⟨env, L, nl, nt, G⟩ K ↔ effK T op env L nl nt G fun v L' nl' nt' G' => K v ⟨env, L', nl', nt', G'⟩) → Det (fun K : AV × Cf → Prop => stepK P T eff i op ⟨env, L, nl, nt, G⟩ fun v c' => K (v, c')) := fun h =>
    Det.congr ((effK_det (T := T) op env L nl nt G).bind (H := fun r K => K (r.1, (⟨env, r.2.1, r.2.2.1, r.2.2.2.1, r.2.2.2.2⟩ : Cf))) fun r => Det.ret _) fun K => h fun v c => K (v, c)
  cases op
  case alloc t => exact e fun _ => Iff.rfl
  case box t x => exact e fun _ => Iff.rfl
  case store t p x => exact e fun _ => Iff.rfl
  case buildSlice t n ps => exact e fun _ => Iff.rfl
  case mapUpdate t m k x => exact e fun _ => Iff.rfl
  case call c =>
    obtain ⟨callee, args, ts⟩ := c
    cases callee with
    | invoke r m => exact q fun _ => Iff.rfl
    | builtin b =>
      cases b <;> first | exact Det.no | exact q fun _ => Iff.rfl | exact e fun _ => Iff.rfl
    | value f =>
      simp only [stepK]
      refine (argsK_det env L f args.toList).bind (H := fun (r : FuncId × List AV) (K : AV × Cf → Prop) => ∃ v G', CallOk P T r.1 r.2 G (fun x Gx => x = v ∧ Gx = G') ∧ (match eff.contains i with
      | true => K (v, ⟨env, L, nl, nt, G'⟩)
      | false => G' = G ∧ K (v, ⟨env, L, nl, nt, G⟩))) fun r => ?_
      intro K h
      obtain ⟨v, G', h1, h2⟩ := h
      cases hi : eff.contains i with
      | true => rw [hi] at h2; exact ⟨_, h2, fun K' hK => ⟨v, G', h1, hK⟩⟩
      | false => rw [hi] at h2; exact ⟨_, h2.2, fun K' hK => ⟨v, G', h1, h2.1, hK⟩⟩
  all_goals exact q fun _ => Iff.rfl

/-- a step from c hands on v and c' -/
def StepIs (P : Program) (T : TypeId → TR) (eff : List Nat) (i : Nat) (op : Op) (c : Cf) (v : AV) (c' : Cf) : Prop := stepK P T eff i op c fun v1 c1 => v1 = v ∧ c1 = c'
theorem StepIs.shape {i : Nat} {op : Op} {c c' : Cf} {v : AV} (h : StepIs P T eff i op c v c') : c'.env = c.env ∧ (isEff eff i op = false → c' = c) := by
  obtain ⟨env, L, nl, nt, G⟩ := c
  have q : (∀ K : AV → Cf → Prop, stepK P T eff i op ⟨env, L, nl, nt, G⟩ K ↔ qOp T L G env op fun v => K v ⟨env, L, nl, nt, G⟩) → c' = ⟨env, L, nl, nt, G⟩ := fun hk => by
    obtain ⟨v1, h1, _⟩ := qOp_det T L G env op _ ((hk _).1 h)
    exact h1.2.symm
  have e : (∀ K : AV → Cf → Prop, stepK P T eff i op ⟨env, L, nl, nt, G⟩ K ↔ effK T op env L nl nt G fun v L' nl' nt' G' => K v ⟨env, L', nl', nt', G'⟩) → c'.env = env := fun hk => by
    obtain ⟨r, h1, _⟩ := (effK_det (T := T) op env L nl nt G) (fun r => r.1 = v ∧ (⟨env, r.2.1, r.2.2.1, r.2.2.2.1, r.2.2.2.2⟩ : Cf) = c') ((hk _).1 h)
    rw [← h1.2]
  cases op
  case alloc t => exact ⟨e fun _ => Iff.rfl, fun hh => by simp [isEff] at hh⟩
  case box t x => exact ⟨e fun _ => Iff.rfl, fun hh => by simp [isEff] at hh⟩
  case store t p x => exact ⟨e fun _ => Iff.rfl, fun hh => by simp [isEff] at hh⟩
  case buildSlice t n ps => exact ⟨e fun _ => Iff.rfl, fun hh => by simp [isEff] at hh⟩
  case mapUpdate t m k x => exact ⟨e fun _ => Iff.rfl, fun hh => by simp [isEff] at hh⟩
  case call c =>
    obtain ⟨callee, args, ts⟩ := c
    cases callee with
    | invoke r m => have := q fun _ => Iff.rfl; exact ⟨by rw [this], fun _ => this⟩
    | builtin b =>
      cases b <;> first | exact h.elim | (have := q fun _ => Iff.rfl; exact ⟨by rw [this], fun _ => this⟩) | exact ⟨e fun _ => Iff.rfl, fun hh => by simp [isEff] at hh⟩
    | value f =>
      unfold StepIs at h
      simp only [stepK] at h
      obtain ⟨r, h1, _⟩ := argsK_det env L f args.toList (fun r => ∃ v1 G', CallOk P T r.1 r.2 G (fun x Gx => x = v1 ∧ Gx = G') ∧ (match eff.contains i with
      | true => v1 = v ∧ (⟨env, L, nl, nt, G'⟩ : Cf) = c'
      | false => G' = G ∧ v1 = v ∧ (⟨env, L, nl, nt, G⟩ : Cf) = c')) h
      obtain ⟨v1, G', h1, h2⟩ := h1
      cases hi : eff.contains i with
      | true => rw [hi] at h2; exact ⟨by rw [← h2.2], fun hh => by simp only [isEff] at hh; rw [hi] at hh; cases hh⟩
      | false => rw [hi] at h2; exact ⟨by rw [← h2.2.2], fun _ => h2.2.2.symm⟩
  all_goals (have := q fun _ => Iff.rfl; exact ⟨by rw [this], fun _ => this⟩)
/-- with the same operands -/
theorem StepIs.same {i : Nat} {op : Op} {env env' : List AV} {L L' : List LB} {nl nt nl' nt' : Nat} {G G' : Glob} {v : AV} (h : StepIs P T eff i op ⟨env, L, nl, nt, G⟩ v ⟨env, L', nl', nt', G'⟩)
    (he : ∀ t ∈ opTmps op, env[t]? = env'[t]?) : StepIs P T eff i op ⟨env', L, nl, nt, G⟩ v ⟨env', L', nl', nt', G'⟩ := by
  have q : (∀ (env : List AV) (K : AV → Cf → Prop), stepK P T eff i op ⟨env, L, nl, nt, G⟩ K ↔ qOp T L G env op fun v => K v ⟨env, L, nl, nt, G⟩) → StepIs P T eff i op ⟨env', L, nl, nt, G⟩ v ⟨env', L', nl', nt', G'⟩ := fun hk => by
    obtain ⟨v1, h1, h2⟩ := qOp_det T L G env op _ ((hk _ _).1 h)
    refine (hk _ _).2 ?_
    rw [← qOp_eq he (fun _ => ⟨rfl, rfl⟩)]
    refine h2 _ ⟨h1.1, ?_⟩
    simp only [Cf.mk.injEq] at h1 ⊢
    exact ⟨trivial, h1.2.2⟩
  have e : (∀ (env : List AV) (K : AV → Cf → Prop), stepK P T eff i op ⟨env, L, nl, nt, G⟩ K ↔ effK T op env L nl nt G fun v L' nl' nt' G' => K v ⟨env, L', nl', nt', G'⟩) → StepIs P T eff i op ⟨env', L, nl, nt, G⟩ v ⟨env', L', nl', nt', G'⟩ := fun hk => by
    obtain ⟨r, h1, h2⟩ := (effK_det (T := T) op env L nl nt G) (fun r => r.1 = v ∧ (⟨env, r.2.1, r.2.2.1, r.2.2.2.1, r.2.2.2.2⟩ : Cf) = ⟨env, L', nl', nt', G'⟩) ((hk _ _).1 h)
    refine (hk _ _).2 ?_
    rw [← effK_eq he]
    refine h2 (fun r => r.1 = v ∧ (⟨env', r.2.1, r.2.2.1, r.2.2.2.1, r.2.2.2.2⟩ : Cf) = ⟨env', L', nl', nt', G'⟩) ⟨h1.1, ?_⟩
    simp only [Cf.mk.injEq] at h1 ⊢
    exact ⟨trivial, h1.2.2⟩
  cases op
  case alloc t => exact e fun _ _ => Iff.rfl
  case box t x => exact e fun _ _ => Iff.rfl
  case store t p x => exact e fun _ _ => Iff.rfl
  case buildSlice t n ps => exact e fun _ _ => Iff.rfl
  case mapUpdate t m k x => exact e fun _ _ => Iff.rfl
  case call c =>
    obtain ⟨callee, args, ts⟩ := c
    cases callee with
    | invoke r m => exact q fun _ _ => Iff.rfl
    | builtin b =>
      cases b <;> first | exact h.elim | exact q fun _ _ => Iff.rfl | exact e fun _ _ => Iff.rfl
    | value f =>
      unfold StepIs at h ⊢
      simp only [stepK] at h ⊢
      rw [← argsK_eq he]
      obtain ⟨r, h1, hr⟩ := argsK_det env L f args.toList (fun r => ∃ v1 G1, CallOk P T r.1 r.2 G (fun x Gx => x = v1 ∧ Gx = G1) ∧ (match eff.contains i with
      | true => v1 = v ∧ (⟨env, L, nl, nt, G1⟩ : Cf) = ⟨env, L', nl', nt', G'⟩
      | false => G1 = G ∧ v1 = v ∧ (⟨env, L, nl, nt, G⟩ : Cf) = ⟨env, L', nl', nt', G'⟩)) h
      refine hr (fun r => ∃ v1 G1, CallOk P T r.1 r.2 G (fun x Gx => x = v1 ∧ Gx = G1) ∧ (match eff.contains i with
      | true => v1 = v ∧ (⟨env', L, nl, nt, G1⟩ : Cf) = ⟨env', L', nl', nt', G'⟩
      | false => G1 = G ∧ v1 = v ∧ (⟨env', L, nl, nt, G⟩ : Cf) = ⟨env', L', nl', nt', G'⟩)) ?_
      obtain ⟨v1, G1, h1, h2⟩ := h1
      refine ⟨v1, G1, h1, ?_⟩
      cases hi : eff.contains i with
      | true =>
        rw [hi] at h2
        simp only [Cf.mk.injEq] at h2 ⊢
        exact ⟨h2.1, trivial, h2.2.2⟩
      | false =>
        rw [hi] at h2
        simp only [Cf.mk.injEq] at h2 ⊢
        exact ⟨h2.1, h2.2.1, trivial, h2.2.2.2⟩
  all_goals exact q fun _ _ => Iff.rfl
/-- quiet, no call, no load: memory is not looked at -/
theorem StepIs.other {i : Nat} {op : Op} {env : List AV} {L L' : List LB} {nl nt nl' nt' : Nat} {G G' : Glob} {v : AV} (h : StepIs P T eff i op ⟨env, L, nl, nt, G⟩ v ⟨env, L, nl, nt, G⟩)
    (h1 : isEff eff i op = false) (h2 : isCall eff i op = false) (h3 : (isLoad op = true → qOp T L' G' env op fun x => x = v)) : StepIs P T eff i op ⟨env, L', nl', nt', G'⟩ v ⟨env, L', nl', nt', G'⟩ := by
  have q : (∀ (L : List LB) (nl nt : Nat) (G : Glob) (K : AV → Cf → Prop), stepK P T eff i op ⟨env, L, nl, nt, G⟩ K ↔ qOp T L G env op fun v => K v ⟨env, L, nl, nt, G⟩) → StepIs P T eff i op ⟨env, L', nl', nt', G'⟩ v ⟨env, L', nl', nt', G'⟩ := fun hk => by
    refine (hk _ _ _ _ _).2 ?_
    cases hl : isLoad op with
    | true =>
      obtain ⟨v1, h4, h5⟩ := qOp_det T L' G' env op _ (h3 hl)
      exact h5 _ ⟨h4, rfl⟩
    | false =>
      obtain ⟨v1, h4, h5⟩ := qOp_det T L G env op _ ((hk _ _ _ _ _).1 h)
      rw [qOp_eq (env := env) (env' := env) (L := L') (L' := L) (G := G') (G' := G) (fun _ _ => rfl) (fun hh => by rw [hl] at hh; cases hh)]
      exact h5 _ ⟨h4.1, rfl⟩
  cases op
  case alloc t => simp [isEff] at h1
  case box t x => simp [isEff] at h1
  case store t p x => simp [isEff] at h1
  case buildSlice t n ps => simp [isEff] at h1
  case mapUpdate t m k x => simp [isEff] at h1
  case call c =>
    obtain ⟨callee, args, ts⟩ := c
    cases callee with
    | invoke r m => exact q fun _ _ _ _ _ => Iff.rfl
    | builtin b =>
      cases b <;> first | exact h.elim | exact q fun _ _ _ _ _ => Iff.rfl | simp [isEff] at h1
    | value f =>
      simp only [isEff] at h1
      simp only [isCall, h1, Bool.not_false, reduceCtorEq] at h2
  all_goals exact q fun _ _ _ _ _ => Iff.rfl
theorem StepIs.ev {i : Nat} {op : Op} {c c' : Cf} {v : AV} (h : StepIs P T eff i op c v c') : evOp0 P T op c fun v1 c1 => v1 = v ∧ c1 = c' := by
  obtain ⟨env, L, nl, nt, G⟩ := c
  unfold StepIs at h
  cases op
  case call c =>
    obtain ⟨callee, args, ts⟩ := c
    cases callee with
    | invoke r m => exact h.elim
    | builtin b => cases b <;> first | exact h.elim | exact h
    | value f =>
      refine argsK_call ?_
      simp only [stepK] at h
      obtain ⟨r, h1, hr⟩ := argsK_det env L f args.toList (fun r => ∃ v1 G1, CallOk P T r.1 r.2 G (fun x Gx => x = v1 ∧ Gx = G1) ∧ (match eff.contains i with
      | true => v1 = v ∧ (⟨env, L, nl, nt, G1⟩ : Cf) = c'
      | false => G1 = G ∧ v1 = v ∧ (⟨env, L, nl, nt, G⟩ : Cf) = c')) h
      refine hr (fun r => CallOk P T r.1 r.2 G fun v1 G1 => v1 = v ∧ (⟨env, L, nl, nt, G1⟩ : Cf) = c') ?_
      obtain ⟨v1, G1, h1, h2⟩ := h1
      refine h1.mono fun x Gx hx => ?_
      obtain ⟨rfl, rfl⟩ := hx
      cases hi : eff.contains i with
      | true => rw [hi] at h2; exact h2
      | false =>
        rw [hi] at h2
        obtain ⟨rfl, h3, h4⟩ := h2
        exact ⟨h3, h4⟩
  all_goals exact h
theorem giveCK_app {L ex : List LB} {v : AV} {K : AV → Prop} (h : giveCK L v K) : giveCK (L ++ ex) v K := by
  cases v <;> first | exact h | skip
  rename_i j o
  simp only [giveCK, nthK_iff] at h ⊢
  obtain ⟨bx, h1, h2⟩ := h
  exact ⟨bx, by rw [List.getElem?_append_left (List.getElem?_eq_some_iff.1 h1).1]; exact h1, h2⟩
theorem give0K_app {L ex : List LB} {v : AV} {K : AV → Prop} (h : give0K L v K) : give0K (L ++ ex) v K := by
  have h0 := @giveCK_app L ex v K
  cases v <;> first | exact h.elim | exact h0 h
theorem give0sK_app {L ex : List LB} : ∀ {l : List AV} {K : List AV → Prop}, give0sK L l K → give0sK (L ++ ex) l K
  | [], _, h => h
  | v :: r, K, h => by
    obtain ⟨v', h1, h2⟩ := give0K_det L v _ h
    exact give0K_app (h2 _ (give0sK_app (K := fun l => K (v' :: l)) h1))
theorem giveFK_app {L ex : List LB} {v : AV} {K : AV → Prop} (h : giveFK L v K) : giveFK (L ++ ex) v K := by
  have h0 := @giveCK_app L ex v K
  cases v <;> first | exact h0 h | skip
  case fn f a b =>
    obtain ⟨a', h1, h2⟩ := give0sK_det L a _ h
    exact give0sK_app (l := a) (h2 _ (give0sK_app (l := b) h1))
theorem giveCsK_app {L ex : List LB} : ∀ {l : List AV} {K : List AV → Prop}, giveCsK L l K → giveCsK (L ++ ex) l K
  | [], _, h => h
  | v :: r, K, h => by
    obtain ⟨v', h1, h2⟩ := giveFK_det L v _ h
    exact giveFK_app (h2 _ (giveCsK_app (K := fun l => K (v' :: l)) h1)) |> fun h => h
theorem giveK_app {L ex : List LB} {v : AV} {K : AV → Prop} (h : giveK L v K) : giveK (L ++ ex) v K := by
  have h0 := @give0K_app L ex v K
  cases v <;> first | exact h0 h | skip
  case fn f a b =>
    obtain ⟨a', h1, h2⟩ := give0sK_det L a _ h
    exact give0sK_app (l := a) (h2 _ (give0sK_app (l := b) h1))
  case agg cs => exact giveCsK_app (l := cs) h
  case ifc t v =>
    have h1 := @give0K_app L ex v (fun v' => K (.ifc t v'))
    cases v with
    | agg cs => exact giveCsK_app (l := cs) h
    | _ => exact h1 h
theorem givesK_app {L ex : List LB} : ∀ {l : List AV} {K : List AV → Prop}, givesK L l K → givesK (L ++ ex) l K
  | [], _, h => h
  | v :: r, K, h => by
    obtain ⟨v', h1, h2⟩ := giveK_det L v _ h
    exact giveK_app (h2 _ (givesK_app (K := fun l => K (v' :: l)) h1))
theorem argsK_app {env : List AV} {L ex : List LB} {f : Operand} {args : List Operand} {K : FuncId → List AV → Prop} (h : argsK env L f args K) : argsK env (L ++ ex) f args K := by
  obtain ⟨v, h1, h2⟩ := opdK_det env f _ h
  refine h2 _ ?_
  cases v <;> first | exact h1.elim | skip
  rename_i fn a b
  cases fn <;> first | exact h1.elim | skip
  rename_i id
  obtain ⟨l, h3, h4⟩ := opdsK_det env _ _ h1
  refine h4 _ ?_
  obtain ⟨a', h5, h6⟩ := givesK_det L a _ h3
  obtain ⟨l', h7, h8⟩ := givesK_det L l _ h5
  obtain ⟨b', h9, h10⟩ := givesK_det L b _ h7
  refine givesK_app (l := a) (h6 _ ?_)
  refine givesK_app (l := l) (h8 _ ?_)
  exact givesK_app (l := b) (h10 _ h9)
/-- a pure call, with more boxes of the caller's own about -/
theorem StepIs.grown {i : Nat} {op : Op} {env : List AV} {L ex : List LB} {nl nt nl' nt' : Nat} {G : Glob} {v : AV} (h : StepIs P T eff i op ⟨env, L, nl, nt, G⟩ v ⟨env, L, nl, nt, G⟩)
    (hc : isCall eff i op = true) : StepIs P T eff i op ⟨env, L ++ ex, nl', nt', G⟩ v ⟨env, L ++ ex, nl', nt', G⟩ := by
  cases op <;> simp only [isCall, reduceCtorEq] at hc
  rename_i c
  obtain ⟨callee, args, ts⟩ := c
  cases callee <;> simp only [reduceCtorEq] at hc
  rename_i f
  have hi : eff.contains i = false := by simpa using hc
  unfold StepIs at h ⊢
  simp only [stepK, hi] at h ⊢
  obtain ⟨r, h1, hr⟩ := argsK_det env L f args.toList (fun r => ∃ v1 G1, CallOk P T r.1 r.2 G (fun x Gx => x = v1 ∧ Gx = G1) ∧ (G1 = G ∧ v1 = v ∧ True)) h
  refine argsK_app (hr (fun r => ∃ v1 G1, CallOk P T r.1 r.2 G (fun x Gx => x = v1 ∧ Gx = G1) ∧ (G1 = G ∧ v1 = v ∧ True)) ?_)
  obtain ⟨v1, G1, h2, h3, h4, _⟩ := h1
  exact ⟨v1, G1, h2, h3, h4, trivial⟩
/-- a box of the call's own more -/
theorem StepIs.alloc {i : Nat} {t : TypeId} {c c' : Cf} {v : AV} (h : StepIs P T eff i (.alloc t) c v c') : c'.G = c.G ∧ ∃ ex, c'.L = c.L ++ ex := by
  obtain ⟨env, L, nl, nt, G⟩ := c
  have h' : effK T (.alloc t) env L nl nt G fun v1 L' nl' nt' G' => v1 = v ∧ (⟨env, L', nl', nt', G'⟩ : Cf) = c' := h
  unfold effK at h'
  simp only at h'
  cases hk : kindD (T t).desc with
  | none => rw [hk] at h'; exact h'.elim
  | some b =>
    rw [hk] at h'
    simp only at h'
    obtain ⟨z, h1, _⟩ := zeroK_det T t _ h'
    rw [snocK_iff] at h1
    obtain ⟨_, rfl⟩ := h1
    exact ⟨rfl, _, rfl⟩
end
end Go.Proofs.YtpihanlillbhkaaGreatDoor
end

section
/- A region that draws its order: the closed look, spelled out; the run in the text's order, spelled out. -/
namespace Go.Proofs.YtpihanlillbhkaaGreatDoor
open Go Go.RowKit

theorem isEff_notCall {eff : List Nat} {i : Nat} {o : Op} (h : isCall eff i o = true) : isEff eff i o = false := by
  unfold isCall at h
  split at h
  · simp only [isEff]; simpa using h
  · cases h
theorem isLoad_notEff {eff : List Nat} {i : Nat} {o : Op} (h : isLoad o = true) : isEff eff i o = false ∧ isCall eff i o = false := by
  unfold isLoad at h
  split at h
  · exact ⟨rfl, rfl⟩
  · exact ⟨rfl, rfl⟩
  · cases h
structure OkAt (ops : List Oper) (eff : List Nat) (i : Nat) (o : Oper) : Prop where
  f1 : ∀ e ∈ o.after, Region.binds .any e = true → e.on < i
  f2 : ∀ t ∈ opTmps o.op, (∀ (j : Nat) (p : Oper), ops[j]? = some p → p.dst = some t → depB o j = true ∧ j < i) ∨ (isLoad o.op = false ∧ ∀ (j : Nat) (p : Oper), ops[j]? = some p → p.dst = some t → depB p i = true ∧ i < j)
  f3 : ∀ j want, o.guard = some (j, want) → depB o j = true ∧ j < i
  f4 : ∀ d, o.dst = some d → ∀ (j : Nat) (p : Oper), i < j → ops[j]? = some p → p.dst ≠ some d
  f4b : isLoad o.op = true → o.dst ≠ none
  f5 : (isEff eff i o.op || isCall eff i o.op || isLoad o.op) = true → ∀ (e : Nat) (p : Oper), e < i → ops[e]? = some p → isEff eff e p.op = true → (∀ (m : Nat) (q : Oper), e < m → m < i → ops[m]? = some q → isEff eff m q.op = false) → depB o e = true
  f6 : isCall eff i o.op = true → ∀ (e : Nat) (p : Oper), i < e → ops[e]? = some p → (isEff eff e p.op && !(isAlloc p.op)) = true → (∀ (m : Nat) (q : Oper), i < m → m < e → ops[m]? = some q → (isEff eff m q.op && !(isAlloc q.op)) = false) → depB p i = true
theorem find_first (f : Oper × Nat → Bool) : ∀ (r : List Oper) (s e : Nat) (p : Oper), r[e]? = some p → f (p, s + e) = true → (∀ (m : Nat) (q : Oper), m < e → r[m]? = some q → f (q, s + m) = false) → (r.zipIdx s).find? f = some (p, s + e)
  | [], _, _, _, h, _, _ => by simp at h
  | o :: r, s, 0, p, h, h1, _ => by
    simp only [List.getElem?_cons_zero, Option.some.injEq] at h
    subst h
    simp only [Nat.add_zero] at h1 ⊢
    simp [h1]
  | o :: r, s, e + 1, p, h, h1, h2 => by
    have h0 := h2 0 o (by omega) rfl
    simp only [Nat.add_zero] at h0
    rw [List.zipIdx_cons, List.find?_cons, h0]
    have := find_first f r (s + 1) e p (by simpa using h) (by rw [Nat.add_assoc, Nat.add_comm 1 e]; exact h1) fun m q hm hq => by
      have := h2 (m + 1) q (by omega) (by simpa using hq)
      rw [Nat.add_assoc, Nat.add_comm 1 m]; exact this
    rw [this, Nat.add_assoc, Nat.add_comm 1 e]
theorem okB_spec {ops : List Oper} {eff : List Nat} : ∀ (r : List Oper) (i : Nat) (last : Option Nat), (∀ k : Nat, ops[i + k]? = r[k]?) → okB ops eff r i last = true →
    (∀ (e : Nat) (p : Oper), e < i → ops[e]? = some p → isEff eff e p.op = true → (∀ (m : Nat) (q : Oper), e < m → m < i → ops[m]? = some q → isEff eff m q.op = false) → last = some e) →
    ∀ (k : Nat) (o : Oper), i ≤ k → ops[k]? = some o → OkAt ops eff k o
  | [], i, last, hr, h, hl, k, o, hk, ho => by
    have := hr (k - i)
    rw [show i + (k - i) = k by omega, ho] at this
    simp at this
  | x :: r, i, last, hr, h, hl, k, o, hk, ho => by
    simp only [okB, Bool.and_eq_true] at h
    obtain ⟨⟨⟨⟨⟨⟨h1, h2⟩, h3⟩, h4⟩, h5⟩, h6⟩, h7⟩ := h
    have hx : ops[i]? = some x := by have := hr 0; simpa using this
    have hr' : ∀ k : Nat, ops[i + 1 + k]? = r[k]? := fun k => by
      have := hr (k + 1)
      rw [show i + 1 + k = i + (k + 1) by omega, this]; simp
    by_cases hki : k = i
    · subst hki
      rw [hx, Option.some.injEq] at ho
      subst ho
      refine ⟨fun e he hb => ?_, fun t ht => ?_, fun j want hg => ?_, fun d hd j p hj hp => ?_, fun hl hd => ?_, fun hf e p he hp hpe hno => ?_, fun hc e p he hp hpe hno => ?_⟩
      · have := List.all_eq_true.1 h1 e (by simpa using he)
        simpa [hb] using this
      · have h2' := List.all_eq_true.1 h2 t ht
        rw [Bool.or_eq_true] at h2'
        rcases h2' with h2' | h2'
        · refine .inl fun j p hj hp => ?_
          have := List.all_eq_true.1 h2' (p, j) (List.mk_mem_zipIdx_iff_getElem?.2 hj)
          simpa [hp] using this
        · rw [Bool.and_eq_true] at h2'
          refine .inr ⟨by simpa using h2'.1, fun j p hj hp => ?_⟩
          have := List.all_eq_true.1 h2'.2 (p, j) (List.mk_mem_zipIdx_iff_getElem?.2 hj)
          simpa [hp] using this
      · rw [hg] at h3; simpa using h3
      · rw [hd] at h4
        have hm : p ∈ r := by
          have := hr' (j - (k + 1))
          rw [show k + 1 + (j - (k + 1)) = j by omega, hp] at this
          exact List.mem_of_getElem? this.symm
        have := List.all_eq_true.1 h4 p hm
        simpa using this
      · rw [hd] at h4; simp [hl] at h4
      · rw [hf, hl e p he hp hpe hno] at h5
        exact h5
      · rw [hc] at h6
        have := find_first (fun x => isEff eff x.2 x.1.op && !(isAlloc x.1.op)) r (k + 1) (e - (k + 1)) p (by rw [← hr', show k + 1 + (e - (k + 1)) = e by omega]; exact hp) (by rw [show k + 1 + (e - (k + 1)) = e by omega]; exact hpe)
          fun m q hm hq => hno _ _ (by omega) (by omega) (by rw [hr']; exact hq)
        rw [this] at h6
        exact h6
    · refine okB_spec r (i + 1) _ hr' h7 (fun e p he hp hpe hno => ?_) k o (by omega) ho
      by_cases hei : e = i
      · subst hei
        rw [hx, Option.some.injEq] at hp
        subst hp
        rw [if_pos hpe]
      · have := hno i x (by omega) (by omega) hx
        rw [if_neg (by rw [this]; simp)]
        exact hl e p (by omega) hp hpe fun m q h1 h2 => hno m q h1 (by omega)
theorem drawB_ok {ops : List Oper} {eff : List Nat} (h : drawB ops eff = true) (k : Nat) (o : Oper) (ho : ops[k]? = some o) : OkAt ops eff k o :=
  okB_spec ops 0 none (by simp) h (fun _ _ he => by omega) k o (Nat.zero_le _) ho

section
variable {P : Program} {T : TypeId → TR}
def setDst (dst : Option Tmp) (v : AV) (env : List AV) : List AV := match dst with | some d => env.set d v | none => env
structure StepAt (P : Program) (T : TypeId → TR) (all : List Oper) (eff : List Nat) (i : Nat) (o : Oper) (c c' : Cf) (v : AV) (s : Bool) : Prop where
  dst : ∀ d, o.dst = some d → d < c.env.length
  env : c'.env = setDst o.dst v c.env
  skip : s = true → v = .tup [] ∧ { c' with env := c.env } = c
  guard : ∀ j want, o.guard = some (j, want) → ∃ oj d gv, all[j]? = some oj ∧ oj.dst = some d ∧ c.env[d]? = some gv ∧ ((∃ b, gv = .bool b ∧ (s = true ↔ b ≠ want)) ∨ (gv = .tup [] ∧ s = true))
  free : o.guard = none → s = false
  go : s = false → StepIs P T eff i o.op c v { c' with env := c.env }
theorem putE_is {dst : Option Tmp} {v : AV} {c : Cf} {K : Cf → Prop} (h : putE dst v c K) : (∀ d, dst = some d → d < c.env.length) ∧ K { c with env := setDst dst v c.env } := by
  obtain ⟨env, L, nl, nt, G⟩ := c
  cases dst with
  | none => exact ⟨fun _ h => (by cases h), h⟩
  | some d =>
    simp only [putE, setK_iff] at h
    exact ⟨fun d' hd => (by cases hd; exact h.1), h.2⟩
def PendOk (T : TypeId → TR) (c : Cf) (p : Pend) : Prop := ∃ u, c.env[p.dst]? = some u ∧ qOp T c.L c.G c.env p.op fun v => v = u
theorem recheck_is {c : Cf} {K : Prop} : ∀ {l : List Pend}, recheckK T l c K → (∀ p ∈ l, PendOk T c p) ∧ K
  | [], h => ⟨fun _ h => (by cases h), h⟩
  | ⟨i, op, dst⟩ :: r, h => by
    simp only [recheckK, nthK_iff] at h
    obtain ⟨⟨u, h1, h2⟩, h3⟩ := h
    obtain ⟨h4, h5⟩ := recheck_is h3
    refine ⟨fun p hp => ?_, h5⟩
    rcases List.mem_cons.1 hp with rfl | hp
    · exact ⟨u, h1, h2⟩
    · exact h4 p hp
structure PlanOk (P : Program) (T : TypeId → TR) (all : List Oper) (eff : List Nat) (i : Nat) (pend : List Pend) (cs : Nat → Cf) (vs : Nat → AV) (sk : Nat → Bool) : Prop where
  step : ∀ (k : Nat) (o : Oper), i ≤ k → all[k]? = some o → StepAt P T all eff k o (cs k) (cs (k + 1)) (vs k) (sk k)
  reck : ∀ (k : Nat) (o : Oper), i ≤ k → all[k]? = some o → isEff eff k o.op = true → sk k = false →
    ∀ p : Pend, (p ∈ pend ∨ (i ≤ p.i ∧ p.i < k ∧ sk p.i = false ∧ ∃ q : Oper, all[p.i]? = some q ∧ isLoad q.op = true ∧ p.op = q.op ∧ q.dst = some p.dst)) →
    (∀ (e : Nat) (q : Oper), i ≤ e → p.i < e → e ≤ k → all[e]? = some q → isEff eff e q.op = true → depB q p.i = false) → PendOk T (cs (k + 1)) p
theorem evDraw_plan {all : List Oper} {eff : List Nat} {K : Cf → Prop} : ∀ (r : List Oper) (i : Nat) (c : Cf) (pend : List Pend), (∀ k : Nat, all[i + k]? = r[k]?) → (∀ p ∈ pend, p.i < i) → evDraw P T all eff r i c pend K →
    ∃ cs vs sk, cs i = c ∧ K (cs (i + r.length)) ∧ PlanOk P T all eff i pend cs vs sk
  | [], i, c, pend, hr, hp, h => by
    have no : ∀ (k : Nat) (o : Oper), i ≤ k → all[k]? = some o → False := fun k o hk ho => by
      have := hr (k - i)
      rw [show i + (k - i) = k by omega, ho] at this
      simp at this
    exact ⟨fun _ => c, fun _ => .top, fun _ => false, rfl, h, fun k o hk ho => (no k o hk ho).elim, fun k o hk ho => (no k o hk ho).elim⟩
  | x :: r, i, c, pend, hr, hp, h => by
    have hx : all[i]? = some x := by have := hr 0; simpa using this
    have hr' : ∀ k : Nat, all[i + 1 + k]? = r[k]? := fun k => by
      have := hr (k + 1)
      rw [show i + 1 + k = i + (k + 1) by omega, this]; simp
    -- one step ahead of the rest
    have join : ∀ (c' : Cf) (pend' : List Pend) (v : AV) (s : Bool), StepAt P T all eff i x c c' v s → (∀ p ∈ pend', p.i < i + 1) → (s = false → isEff eff i x.op = true → ∀ p ∈ pend, depB x p.i = false → PendOk T c' p) →
        (∀ p ∈ pend, (isEff eff i x.op = true → depB x p.i = false) → p ∈ pend') → (s = false → isLoad x.op = true → ∀ d, x.dst = some d → ⟨i, x.op, d⟩ ∈ pend') →
        evDraw P T all eff r (i + 1) c' pend' K → ∃ cs vs sk, cs i = c ∧ K (cs (i + (x :: r).length)) ∧ PlanOk P T all eff i pend cs vs sk := by
      intro c' pend' v s hs hpi hre hin hld hrest
      obtain ⟨cs, vs, sk, h1, h2, h3⟩ := evDraw_plan r (i + 1) c' pend' hr' hpi hrest
      refine ⟨fun k => if k = i then c else cs k, fun k => if k = i then v else vs k, fun k => if k = i then s else sk k, by simp, ?_, ?_, ?_⟩
      · simp only [List.length_cons]
        rw [if_neg (by omega), show i + (r.length + 1) = i + 1 + r.length by omega]
        exact h2
      · intro k o hk ho
        by_cases hki : k = i
        · subst hki
          rw [hx, Option.some.injEq] at ho
          subst ho
          simp only [if_true]
          rw [if_neg (by omega), h1]
          exact hs
        · simp only [if_neg hki]
          rw [if_neg (by omega)]
          exact h3.step k o (by omega) ho
      · intro k o hk ho he hsk p hpp hno
        by_cases hki : k = i
        · subst hki
          rw [hx, Option.some.injEq] at ho
          subst ho
          simp only [if_true] at hsk
          show PendOk T (if k + 1 = k then c else cs (k + 1)) p
          rw [if_neg (by omega), h1]
          rcases hpp with hpp | ⟨h4, h5, _⟩
          · exact hre hsk he p hpp (hno k _ (Nat.le_refl _) (hp p hpp) (Nat.le_refl _) hx he)
          · omega
        · simp only [if_neg hki] at hsk
          show PendOk T (if k + 1 = i then c else cs (k + 1)) p
          rw [if_neg (by omega)]
          refine h3.reck k o (by omega) ho he hsk p ?_ fun e q h4 => hno e q (by omega)
          rcases hpp with hpp | ⟨h4, h5, h6, q, h7, h8, h9, h10⟩
          · exact .inl (hin p hpp fun hei => hno i x (Nat.le_refl _) (hp p hpp) (by omega) hx hei)
          · by_cases hpi : p.i = i
            · simp only [if_pos hpi] at h6
              rw [hpi, hx, Option.some.injEq] at h7
              subst h7
              refine .inl ?_
              obtain ⟨pi, pop, pd⟩ := p
              simp only at hpi h9 h10
              subst hpi h9
              exact hld h6 h8 pd h10
            · simp only [if_neg hpi] at h6
              exact .inr ⟨by omega, h5, h6, q, h7, h8, h9, h10⟩
    have skip : (∀ j want, x.guard = some (j, want) → ∃ oj d gv, all[j]? = some oj ∧ oj.dst = some d ∧ c.env[d]? = some gv ∧ ((∃ b, gv = .bool b ∧ b ≠ want) ∨ gv = .tup [])) → x.guard ≠ none → (putE x.dst (.tup []) c fun c'' => evDraw P T all eff r (i + 1) c'' pend K) →
        ∃ cs vs sk, cs i = c ∧ K (cs (i + (x :: r).length)) ∧ PlanOk P T all eff i pend cs vs sk := fun hg hg0 h => by
      obtain ⟨h1, h2⟩ := putE_is h
      refine join { c with env := setDst x.dst (.tup []) c.env } pend (.tup []) true ⟨h1, rfl, fun _ => ⟨rfl, rfl⟩, fun j want hj => ?_, fun h => (hg0 h).elim, fun h => (by cases h)⟩ (fun p hpp => Nat.lt_succ_of_lt (hp p hpp)) (fun h => by cases h) (fun p hpp _ => hpp) (fun h => by cases h) h2
      obtain ⟨oj, d, gv, h3, h4, h5, h6⟩ := hg j want hj
      exact ⟨oj, d, gv, h3, h4, h5, h6.elim (fun ⟨b, e1, e2⟩ => .inl ⟨b, e1, by simp [e2]⟩) (fun e => .inr ⟨e, rfl⟩)⟩
    have go : (∀ j want, x.guard = some (j, want) → ∃ oj d b, all[j]? = some oj ∧ oj.dst = some d ∧ c.env[d]? = some (.bool b) ∧ b = want) →
        (stepK P T eff i x.op c fun v c' => putE x.dst v c' fun c'' => match isEff eff i x.op with
          | true => recheckK T (pendOf eff i x pend) c'' (evDraw P T all eff r (i + 1) c'' (pendOf eff i x pend) K)
          | false => evDraw P T all eff r (i + 1) c'' (pendOf eff i x pend) K) →
        ∃ cs vs sk, cs i = c ∧ K (cs (i + (x :: r).length)) ∧ PlanOk P T all eff i pend cs vs sk := fun hg h => by
      obtain ⟨⟨v, c1⟩, h1, hst⟩ := stepK_det (P := P) (T := T) (eff := eff) i x.op c (fun r' => putE x.dst r'.1 r'.2 fun c'' => match isEff eff i x.op with
          | true => recheckK T (pendOf eff i x pend) c'' (evDraw P T all eff r (i + 1) c'' (pendOf eff i x pend) K)
          | false => evDraw P T all eff r (i + 1) c'' (pendOf eff i x pend) K) h
      have hst : StepIs P T eff i x.op c v c1 := hst (fun r' => r'.1 = v ∧ r'.2 = c1) ⟨rfl, rfl⟩
      have hsh := hst.shape
      obtain ⟨h2, h3⟩ := putE_is h1
      have hsa : StepAt P T all eff i x c { c1 with env := setDst x.dst v c1.env } v false := by
        refine ⟨by rw [← hsh.1]; exact h2, by rw [← hsh.1], fun h => (by cases h), fun j want hj => ?_, fun _ => rfl, fun _ => ?_⟩
        · obtain ⟨oj, d, b, h3, h4, h5, h6⟩ := hg j want hj
          exact ⟨oj, d, _, h3, h4, h5, .inl ⟨b, rfl, by simp [h6]⟩⟩
        · rw [← hsh.1]; exact hst
      cases hei : isEff eff i x.op with
      | true =>
        rw [hei] at h3
        obtain ⟨h4, h5⟩ := recheck_is h3
        have hpo : pendOf eff i x pend = pend.filter fun p => !depB x p.i := by simp only [pendOf, hei]
        rw [hpo] at h4 h5
        refine join _ _ v false hsa (fun p hpp => Nat.lt_succ_of_lt (hp p (List.mem_filter.1 hpp).1)) (fun _ _ p hpp hd => h4 p (List.mem_filter.2 ⟨hpp, by simp [hd]⟩)) (fun p hpp hd => List.mem_filter.2 ⟨hpp, by simp [hd hei]⟩) (fun _ hl => ?_) h5
        rw [(isLoad_notEff hl).1] at hei; cases hei
      | false =>
        rw [hei] at h3
        simp only at h3
        cases hl : isLoad x.op with
        | false =>
          have hpo : pendOf eff i x pend = pend := by simp only [pendOf, hei, hl]
          rw [hpo] at h3
          exact join _ _ v false hsa (fun p hpp => Nat.lt_succ_of_lt (hp p hpp)) (fun _ h => by rw [hei] at h; cases h) (fun p hpp _ => hpp) (fun _ h => by rw [hl] at h; cases h) h3
        | true =>
          cases hd : x.dst with
          | none =>
            have hpo : pendOf eff i x pend = pend := by simp only [pendOf, hei, hl, hd]
            rw [hpo] at h3
            exact join _ _ v false hsa (fun p hpp => Nat.lt_succ_of_lt (hp p hpp)) (fun _ h => by rw [hei] at h; cases h) (fun p hpp _ => hpp) (fun _ _ d h => by rw [hd] at h; cases h) h3
          | some d =>
            have hpo : pendOf eff i x pend = pend ++ [⟨i, x.op, d⟩] := by simp only [pendOf, hei, hl, hd]
            rw [hpo] at h3
            refine join _ _ v false hsa (fun p hpp => ?_) (fun _ h => by rw [hei] at h; cases h) (fun p hpp _ => List.mem_append_left _ hpp) (fun _ _ d' h => ?_) h3
            · rcases List.mem_append.1 hpp with hpp | hpp
              · exact Nat.lt_succ_of_lt (hp p hpp)
              · simp only [List.mem_singleton] at hpp; subst hpp; exact Nat.lt_succ_self _
            · rw [hd, Option.some.injEq] at h; subst h; simp
    simp only [evDraw] at h
    cases hg : x.guard with
    | none =>
      rw [hg] at h
      exact go (fun j want hj => by rw [hg] at hj; cases hj) h
    | some jw =>
      obtain ⟨j, want⟩ := jw
      rw [hg] at h
      simp only at h
      obtain ⟨oj, hj, h⟩ := (nthK_iff _ _).1 h
      cases hd : oj.dst with
      | none => simp only [hd] at h
      | some d =>
        simp only [hd] at h
        obtain ⟨bv, hb, h⟩ := (nthK_iff _ _).1 h
        have hjw : ∀ j' want', x.guard = some (j', want') → j' = j ∧ want' = want := fun j' want' hj' => by
          rw [hg] at hj'
          simp only [Option.some.injEq, Prod.mk.injEq] at hj'
          exact ⟨hj'.1.symm, hj'.2.symm⟩
        rcases guardK_is h with ⟨b, rfl, ⟨hbw, k⟩ | ⟨hbw, k⟩⟩ | ⟨rfl, k⟩
        · refine go (fun j' want' hj' => ?_) k
          obtain ⟨rfl, rfl⟩ := hjw j' want' hj'
          exact ⟨oj, d, b, hj, hd, hb, hbw⟩
        · refine skip (fun j' want' hj' => ?_) (by rw [hg]; simp) k
          obtain ⟨rfl, rfl⟩ := hjw j' want' hj'
          exact ⟨oj, d, _, hj, hd, hb, .inl ⟨b, rfl, hbw⟩⟩
        · refine skip (fun j' want' hj' => ?_) (by rw [hg]; simp) k
          obtain ⟨rfl, rfl⟩ := hjw j' want' hj'
          exact ⟨oj, d, _, hj, hd, hb, .inr rfl⟩
end
end Go.Proofs.YtpihanlillbhkaaGreatDoor
end

section
/- A region that draws its order: every order does what the text's order does. -/
namespace Go.Proofs.YtpihanlillbhkaaGreatDoor
open Go Go.RowKit

theorem last_such (R : Nat → Prop) : ∀ (i e : Nat), e < i → R e → ∃ m, e ≤ m ∧ m < i ∧ R m ∧ ∀ k, m < k → k < i → ¬ R k
  | 0, e, he, _ => by omega
  | i + 1, e, he, hR => by
    by_cases hi : R i
    · exact ⟨i, by omega, by omega, hi, fun k h1 h2 => by omega⟩
    · have hei : e ≠ i := fun h => hi (h ▸ hR)
      obtain ⟨m, h1, h2, h3, h4⟩ := last_such R i e (by omega) hR
      exact ⟨m, h1, by omega, h3, fun k h5 h6 => if hk : k = i then hk ▸ hi else h4 k h5 (by omega)⟩
theorem first_such (R : Nat → Prop) : ∀ (n i e : Nat), e - i = n → i < e → R e → ∃ m, i < m ∧ m ≤ e ∧ R m ∧ ∀ k, i < k → k < m → ¬ R k
  | 0, i, e, hn, he, _ => by omega
  | n + 1, i, e, hn, he, hR => by
    by_cases hi : R (i + 1)
    · exact ⟨i + 1, by omega, by omega, hi, fun k h1 h2 => by omega⟩
    · have hei : e ≠ i + 1 := fun h => hi (h ▸ hR)
      obtain ⟨m, h1, h2, h3, h4⟩ := first_such R n (i + 1) e (by omega) (by omega) hR
      exact ⟨m, by omega, h2, h3, fun k h5 h6 => if hk : k = i + 1 then hk ▸ hi else h4 k (by omega) h6⟩
theorem depB_iff {o : Oper} {i : Nat} : depB o i = true ↔ ∃ e ∈ o.after, Region.binds .any e = true ∧ e.on = i := by
  unfold depB
  rw [List.any_eq_true]
  simp

section
variable {P : Program} {T : TypeId → TR} {ops : Array Oper} {eff : List Nat} {cs : Nat → Cf} {vs : Nat → AV} {sk : Nat → Bool}
def EffAt (ops : List Oper) (eff : List Nat) (e : Nat) : Prop := ∃ o : Oper, ops[e]? = some o ∧ isEff eff e o.op = true
/-- memory, env aside -/
def SameMem (c c' : Cf) : Prop := { c' with env := c.env } = c
theorem SameMem.refl (c : Cf) : SameMem c c := rfl
theorem SameMem.trans {a b c : Cf} (h : SameMem a b) (k : SameMem b c) : SameMem a c := by
  obtain ⟨⟩ := a; obtain ⟨⟩ := b; obtain ⟨⟩ := c
  simp only [SameMem, Cf.mk.injEq] at *
  simp_all
theorem SameMem.symm {a b : Cf} (h : SameMem a b) : SameMem b a := by
  obtain ⟨⟩ := a; obtain ⟨⟩ := b
  simp only [SameMem, Cf.mk.injEq] at *
  simp_all
theorem SameMem.on {a b : Cf} (h : SameMem a b) : b.L = a.L ∧ b.nl = a.nl ∧ b.nt = a.nt ∧ b.G = a.G := by
  obtain ⟨⟩ := a; obtain ⟨⟩ := b
  simp only [SameMem, Cf.mk.injEq] at *
  simp_all
theorem mem_eq (hp : PlanOk P T ops.toList eff 0 [] cs vs sk) : ∀ (d q r : Nat), r = q + d → r ≤ ops.size → (∀ (m : Nat) (o : Oper), q ≤ m → m < r → ops.toList[m]? = some o → isEff eff m o.op = true → sk m = true) → SameMem (cs q) (cs r)
  | 0, q, r, h, _, _ => by subst h; exact SameMem.refl _
  | d + 1, q, r, h, hr, hno => by
    have h1 := mem_eq hp d q (q + d) rfl (by omega) fun m o h1 h2 => hno m o h1 (by omega)
    refine h1.trans ?_
    subst h
    have hlt : q + d < ops.size := by omega
    have ho : ops.toList[q + d]? = some ops[q + d] := by simp [hlt]
    have st := hp.step (q + d) _ (Nat.zero_le _) ho
    cases hs : sk (q + d) with
    | true => exact (st.skip hs).2
    | false =>
      have hne : isEff eff (q + d) ops[q + d].op = false := by
        cases he : isEff eff (q + d) ops[q + d].op with
        | false => rfl
        | true => rw [hno _ _ (by omega) (by omega) ho he] at hs; cases hs
      exact (st.go hs).shape.2 hne
theorem mem_alloc (hp : PlanOk P T ops.toList eff 0 [] cs vs sk) : ∀ (d q r : Nat), r = q + d → r ≤ ops.size → (∀ (m : Nat) (o : Oper), q ≤ m → m < r → ops.toList[m]? = some o → isEff eff m o.op = true → isAlloc o.op = true) → (cs r).G = (cs q).G ∧ ∃ ex, (cs r).L = (cs q).L ++ ex
  | 0, q, r, h, _, _ => by subst h; exact ⟨rfl, [], by simp⟩
  | d + 1, q, r, h, hr, hno => by
    obtain ⟨h1, ex, h2⟩ := mem_alloc hp d q (q + d) rfl (by omega) fun m o h1 h2 => hno m o h1 (by omega)
    subst h
    have hlt : q + d < ops.size := by omega
    have ho : ops.toList[q + d]? = some ops[q + d] := by simp [hlt]
    have st := hp.step (q + d) _ (Nat.zero_le _) ho
    have same : SameMem (cs (q + d)) (cs (q + d + 1)) → (cs (q + (d + 1))).G = (cs q).G ∧ ∃ ex, (cs (q + (d + 1))).L = (cs q).L ++ ex := fun hm => by
      obtain ⟨g1, _, _, g4⟩ := hm.on
      exact ⟨g4.trans h1, ex, g1.trans h2⟩
    cases hs : sk (q + d) with
    | true => exact same (st.skip hs).2
    | false =>
      have hgo := st.go hs
      cases he : isEff eff (q + d) ops[q + d].op with
      | false => exact same (hgo.shape.2 he)
      | true =>
        have ha := hno _ _ (by omega) (by omega) ho he
        obtain ⟨t, ht⟩ : ∃ t, ops[q + d].op = .alloc t := by
          cases hop : ops[q + d].op <;> rw [hop] at ha <;> simp only [isAlloc, reduceCtorEq] at ha
          exact ⟨_, rfl⟩
        rw [ht] at hgo
        obtain ⟨g1, ex2, g2⟩ := hgo.alloc
        exact ⟨g1.trans h1, ex ++ ex2, by rw [← List.append_assoc, ← h2]; exact g2⟩
theorem env_len (hp : PlanOk P T ops.toList eff 0 [] cs vs sk) : ∀ k, k ≤ ops.size → (cs k).env.length = (cs 0).env.length
  | 0, _ => rfl
  | k + 1, h => by
    have hlt : k < ops.size := by omega
    have st := hp.step k ops[k] (Nat.zero_le _) (by simp [hlt])
    rw [st.env, ← env_len hp k (by omega)]
    unfold setDst
    split <;> simp
theorem set_at (dst : Option Tmp) (v : AV) (env : List AV) (t : Nat) (h : dst ≠ some t) : (setDst dst v env)[t]? = env[t]? := by
  unfold setDst
  split
  · rename_i d
    exact List.getElem?_set_ne (fun e => h (by rw [e]))
  · rfl
/-- a slot that nobody writes from i on -/
theorem slot_eq (hp : PlanOk P T ops.toList eff 0 [] cs vs sk) (t i : Nat) (hw : ∀ (j : Nat) (p : Oper), ops.toList[j]? = some p → p.dst = some t → j < i) : ∀ d, i + d ≤ ops.size → (cs (i + d)).env[t]? = (cs i).env[t]?
  | 0, _ => rfl
  | d + 1, h => by
    have hlt : i + d < ops.size := by omega
    have ho : ops.toList[i + d]? = some ops[i + d] := by simp [hlt]
    have st := hp.step (i + d) _ (Nat.zero_le _) ho
    rw [← slot_eq hp t i hw d (by omega), show i + (d + 1) = i + d + 1 by omega, st.env]
    exact set_at _ _ _ _ fun hd => by have := hw _ _ ho hd; omega
theorem slot_to (hp : PlanOk P T ops.toList eff 0 [] cs vs sk) (t i k : Nat) (hw : ∀ (j : Nat) (p : Oper), ops.toList[j]? = some p → p.dst = some t → j < i) (h1 : i ≤ k) (h2 : k ≤ ops.size) : (cs k).env[t]? = (cs i).env[t]? := by
  have := slot_eq hp t i hw (k - i) (by omega)
  rwa [show i + (k - i) = k by omega] at this
/-- a slot that nobody writes ahead of i -/
theorem slot_pre (hp : PlanOk P T ops.toList eff 0 [] cs vs sk) (t i : Nat) (hw : ∀ (j : Nat) (p : Oper), ops.toList[j]? = some p → p.dst = some t → i ≤ j) : ∀ d, d ≤ i → d ≤ ops.size → (cs d).env[t]? = (cs 0).env[t]?
  | 0, _, _ => rfl
  | d + 1, h1, h2 => by
    have hlt : d < ops.size := by omega
    have ho : ops.toList[d]? = some ops[d] := by simp [hlt]
    have st := hp.step d _ (Nat.zero_le _) ho
    rw [← slot_pre hp t i hw d (by omega) (by omega), st.env]
    exact set_at _ _ _ _ fun hd => by have := hw _ _ ho hd; omega
theorem slot_at (hb : drawB ops.toList eff = true) (hp : PlanOk P T ops.toList eff 0 [] cs vs sk) (i : Nat) (o : Oper) (ho : ops.toList[i]? = some o) (t : Nat) (hd : o.dst = some t) (k : Nat) (h1 : i < k) (h2 : k ≤ ops.size) : (cs k).env[t]? = some (vs i) := by
  have hw : ∀ (j : Nat) (p : Oper), ops.toList[j]? = some p → p.dst = some t → j < i + 1 := fun j p hj hpd => by
    rcases Nat.lt_or_ge i j with h | h
    · exact absurd hpd ((drawB_ok hb i o ho).f4 t hd j p h hj)
    · omega
  rw [slot_to hp t (i + 1) k hw h1 h2]
  have st := hp.step i o (Nat.zero_le _) ho
  rw [st.env, hd]
  simp [setDst, st.dst t hd]
structure Sim (P : Program) (T : TypeId → TR) (ops : Array Oper) (eff : List Nat) (cs : Nat → Cf) (listed : Array Bool) (q : Nat) (env : List AV) : Prop where
  size : listed.size = ops.size
  down : ∀ (i : Nat) (o : Oper), ops.toList[i]? = some o → listed.getD i false = true → ∀ e ∈ o.after, Region.binds .any e = true → listed.getD e.on false = true
  effs : ∀ (e : Nat) (o : Oper), ops.toList[e]? = some o → isEff eff e o.op = true → (listed.getD e false = true ↔ e < q)
  hq : q ≤ ops.size
  len : env.length = (cs ops.size).env.length
  exact : ∀ t : Nat, (∀ (j : Nat) (p : Oper), ops.toList[j]? = some p → p.dst = some t → listed.getD j false = true) → env[t]? = (cs ops.size).env[t]?
  init : ∀ t : Nat, (∀ (j : Nat) (p : Oper), ops.toList[j]? = some p → p.dst = some t → listed.getD j false = false) → env[t]? = (cs 0).env[t]?
theorem getD_set {listed : Array Bool} {i j : Nat} (hi : i < listed.size) : (listed.setIfInBounds i true).getD j false = true ↔ j = i ∨ listed.getD j false = true := by
  by_cases h : j = i
  · subst h; simp [hi]
  · simp [Array.getElem?_setIfInBounds_ne (Ne.symm h), h]
theorem getD_ft {listed : Array Bool} {j : Nat} (h : j < listed.size) : listed.getD j true = listed.getD j false := by simp [Array.getD, h]
theorem Sim.next {listed : Array Bool} {q : Nat} {env : List AV} (hb : drawB ops.toList eff = true) (hp : PlanOk P T ops.toList eff 0 [] cs vs sk) (s : Sim P T ops eff cs listed q env) {i : Nat} {o : Oper} (ho : ops.toList[i]? = some o) (hi : listed.getD i false = false)
    (hr : ∀ e ∈ o.after, Region.binds .any e = true → listed.getD e.on false = true) :
    Sim P T ops eff cs (listed.setIfInBounds i true) (if isEff eff i o.op = true then i + 1 else q) (setDst o.dst (vs i) env) := by
  have hlt : i < ops.size := by have := (List.getElem?_eq_some_iff.1 ho).1; simpa using this
  have hil : i < listed.size := by rw [s.size]; exact hlt
  refine ⟨by simp [s.size], fun j p hj hl e he hbn => ?_, fun e p hep hee => ?_, by split <;> first | omega | exact s.hq, ?_, fun t ht => ?_, fun t ht => ?_⟩
  · rcases (getD_set hil).1 hl with rfl | hl
    · rw [ho, Option.some.injEq] at hj; subst hj
      exact (getD_set hil).2 (.inr (hr e he hbn))
    · exact (getD_set hil).2 (.inr (s.down j p hj hl e he hbn))
  · rw [getD_set hil]
    by_cases hei : e = i
    · subst hei
      rw [ho, Option.some.injEq] at hep; subst hep
      rw [if_pos hee]
      exact ⟨fun _ => Nat.lt_succ_self _, fun _ => .inl rfl⟩
    · rw [s.effs e p hep hee]
      by_cases hio : isEff eff i o.op = true
      · rw [if_pos hio]
        constructor
        · rintro (h | h)
          · omega
          · rcases Nat.lt_or_ge e i with h1 | h1
            · omega
            · -- an effect behind i that was carried out
              exfalso
              obtain ⟨m, h2, h3, ⟨p', h4, h5⟩, h6⟩ := first_such (EffAt ops.toList eff) _ i e rfl (by omega) ⟨p, hep, hee⟩
              have hm : listed.getD m false = true := (s.effs m p' h4 h5).2 (by omega)
              have := (drawB_ok hb m p' h4).f5 (by simp [h5]) i o h2 ho hio (fun k q h7 h8 h9 => by
                cases hk : isEff eff k q.op with
                | false => rfl
                | true => exact absurd ⟨q, h9, hk⟩ (h6 k h7 h8))
              obtain ⟨ed, he1, he2, he3⟩ := depB_iff.1 this
              have := s.down m p' h4 hm ed he1 he2
              rw [he3, hi] at this; cases this
        · intro h
          have h1 : e < i := by omega
          obtain ⟨m, h2, h3, ⟨p', h4, h5⟩, h6⟩ := last_such (EffAt ops.toList eff) i e h1 ⟨p, hep, hee⟩
          have := (drawB_ok hb i o ho).f5 (by simp [hio]) m p' h3 h4 h5 (fun k q h7 h8 h9 => by
            cases hk : isEff eff k q.op with
            | false => rfl
            | true => exact absurd ⟨q, h9, hk⟩ (h6 k h7 h8))
          obtain ⟨ed, he1, he2, he3⟩ := depB_iff.1 this
          have := hr ed he1 he2
          rw [he3] at this
          have := (s.effs m p' h4 h5).1 this
          exact .inr (by omega)
      · rw [if_neg hio]
        exact ⟨fun h => h.resolve_left hei, .inr⟩
  · rw [← s.len]; unfold setDst; split <;> simp
  · by_cases hd : o.dst = some t
    · have hF := slot_at hb hp i o ho t hd ops.size hlt (Nat.le_refl _)
      have htl := (List.getElem?_eq_some_iff.1 hF).1
      rw [hF, hd]
      simp only [setDst]
      rw [List.getElem?_set_self (by rw [s.len]; exact htl)]
    · rw [set_at _ _ _ _ hd]
      refine s.exact t fun j p hj hpd => ?_
      rcases (getD_set hil).1 (ht j p hj hpd) with rfl | h
      · rw [ho, Option.some.injEq] at hj; subst hj; exact absurd hpd hd
      · exact h
  · have hd : o.dst ≠ some t := fun hd => by
      have := ht i o ho hd
      rw [(getD_set hil).2 (.inl rfl)] at this; cases this
    rw [set_at _ _ _ _ hd]
    refine s.init t fun j p hj hpd => ?_
    have := ht j p hj hpd
    cases h : listed.getD j false with
    | false => rfl
    | true => rw [(getD_set hil).2 (.inr h)] at this; cases this
/-- where i can be carried out: how memory stands to what it was in the text's order -/
theorem Sim.mem {listed : Array Bool} {q : Nat} {env : List AV} (hb : drawB ops.toList eff = true) (hp : PlanOk P T ops.toList eff 0 [] cs vs sk) (s : Sim P T ops eff cs listed q env) {i : Nat} {o : Oper} (ho : ops.toList[i]? = some o) (hi : listed.getD i false = false)
    (hr : ∀ e ∈ o.after, Region.binds .any e = true → listed.getD e.on false = true) :
    (isEff eff i o.op = true → SameMem (cs q) (cs i)) ∧ (isCall eff i o.op = true → (cs q).G = (cs i).G ∧ ∃ ex, (cs q).L = (cs i).L ++ ex) ∧ (isLoad o.op = true → sk i = false → qOp T (cs q).L (cs q).G (cs i).env o.op fun x => x = vs i) := by
  have hlt : i < ops.size := by have := (List.getElem?_eq_some_iff.1 ho).1; simpa using this
  have fl := drawB_ok hb i o ho
  -- no effect between q and i
  have below : (isEff eff i o.op || isCall eff i o.op || isLoad o.op) = true → ∀ e, q ≤ e → e < i → ¬ EffAt ops.toList eff e := fun hf e h1 h2 hE => by
    obtain ⟨m, h3, h4, ⟨p', h5, h6⟩, h7⟩ := last_such (EffAt ops.toList eff) i e h2 hE
    have := fl.f5 hf m p' h4 h5 h6 (fun k q h7' h8 h9 => by
      cases hk : isEff eff k q.op with
      | false => rfl
      | true => exact absurd ⟨q, h9, hk⟩ (h7 k h7' h8))
    obtain ⟨ed, he1, he2, he3⟩ := depB_iff.1 this
    have := hr ed he1 he2
    rw [he3] at this
    have := (s.effs m p' h5 h6).1 this
    omega
  have low : (isEff eff i o.op || isCall eff i o.op || isLoad o.op) = true → q ≤ i → SameMem (cs q) (cs i) := fun hf hqi => by
    refine mem_eq hp (i - q) q i (by omega) (by omega) fun m o' h1 h2 h3 h4 => absurd ⟨o', h3, h4⟩ (below hf m h1 h2)
  refine ⟨fun hf => ?_, fun hf => ?_, fun hl hsk => ?_⟩
  · rcases Nat.lt_or_ge i q with hiq | hiq
    · rw [(s.effs i o ho hf).2 hiq] at hi; cases hi
    · exact low (by rw [hf]; rfl) hiq
  · rcases Nat.lt_or_ge i q with hiq | hiq
    · refine mem_alloc hp (q - i) i q (by omega) s.hq fun m o' h1 h2 h3 h4 => ?_
      cases ha : isAlloc o'.op with
      | true => rfl
      | false =>
        exfalso
        have hmi : m ≠ i := fun h => by
          subst h
          rw [ho, Option.some.injEq] at h3
          subst h3
          have := isEff_notCall hf
          rw [h4] at this; cases this
        obtain ⟨m', h5, h6, ⟨p', h7, h8⟩, h9⟩ := first_such (fun e => ∃ p : Oper, ops.toList[e]? = some p ∧ (isEff eff e p.op && !(isAlloc p.op)) = true) _ i m rfl (by omega) ⟨o', h3, by rw [h4, ha]; rfl⟩
        have := fl.f6 hf m' p' h5 h7 h8 (fun k q h10 h11 h12 => by
          cases hk : (isEff eff k q.op && !(isAlloc q.op)) with
          | false => rfl
          | true => exact absurd ⟨q, h12, hk⟩ (h9 k h10 h11))
        obtain ⟨ed, he1, he2, he3⟩ := depB_iff.1 this
        have h8' : isEff eff m' p'.op = true := by simp only [Bool.and_eq_true] at h8; exact h8.1
        have := s.down m' p' h7 ((s.effs m' p' h7 h8').2 (by omega)) ed he1 he2
        rw [he3, hi] at this; cases this
    · obtain ⟨g1, _, _, g4⟩ := (low (by simp [hf]) hiq).on
      exact ⟨g4.symm, [], by simp [g1]⟩
  · have st := hp.step i o (Nat.zero_le _) ho
    have hne := isLoad_notEff (eff := eff) (i := i) hl
    have hgo := st.go hsk
    have hq0 : qOp T (cs i).L (cs i).G (cs i).env o.op fun x => x = vs i := by
      have h0 : { cs (i + 1) with env := (cs i).env } = cs i := hgo.shape.2 hne.1
      rw [h0] at hgo
      cases hop : o.op <;> rw [hop] at hl <;> simp only [isLoad, reduceCtorEq] at hl
      · rw [hop] at hgo
        obtain ⟨v1, h1, h2⟩ := qOp_det T (cs i).L (cs i).G (cs i).env (.load _ _) (fun v => v = vs i ∧ cs i = cs i) (by
          have := hgo; unfold StepIs at this
          revert this
          generalize cs i = c
          obtain ⟨env, L, nl, nt, G⟩ := c
          exact fun h => h)
        exact h2 _ h1.1
      · rw [hop] at hgo
        obtain ⟨v1, h1, h2⟩ := qOp_det T (cs i).L (cs i).G (cs i).env (.lookup _ _ _ _) (fun v => v = vs i ∧ cs i = cs i) (by
          have := hgo; unfold StepIs at this
          revert this
          generalize cs i = c
          obtain ⟨env, L, nl, nt, G⟩ := c
          exact fun h => h)
        exact h2 _ h1.1
    have same : ∀ c : Cf, SameMem (cs q) c → qOp T c.L c.G (cs i).env o.op (fun x => x = vs i) → qOp T (cs q).L (cs q).G (cs i).env o.op fun x => x = vs i := fun c hc h => by
      obtain ⟨h1, h2, h3, h4⟩ := hc.on
      rw [h1, h4] at h; exact h
    rcases Nat.lt_or_ge i q with hiq | hiq
    · by_cases hex : ∃ e, i ≤ e ∧ e < q ∧ (∃ p, ops.toList[e]? = some p ∧ isEff eff e p.op = true ∧ sk e = false)
      · obtain ⟨e0, h1, h2, h3⟩ := hex
        obtain ⟨e, h4, h5, ⟨p, h6, h7, h8⟩, h9⟩ := last_such (fun e => ∃ p, ops.toList[e]? = some p ∧ isEff eff e p.op = true ∧ sk e = false) q e0 h2 h3
        have hei : e ≠ i := fun h => by subst h; rw [ho, Option.some.injEq] at h6; subst h6; rw [hne.1] at h7; cases h7
        cases hd : o.dst with
        | none => exact absurd hd (fl.f4b hl)
        | some d =>
          have hpk := hp.reck e p (Nat.zero_le _) h6 h7 h8 ⟨i, o.op, d⟩ (.inr ⟨Nat.zero_le _, by show i < e; omega, hsk, o, ho, hl, rfl, hd⟩) (fun e' p' _ h10 h11 h12 h13 => by
            cases hdp : depB p' i with
            | false => rfl
            | true =>
              obtain ⟨ed, he1, he2, he3⟩ := depB_iff.1 hdp
              have := s.down e' p' h12 ((s.effs e' p' h12 h13).2 (by omega)) ed he1 he2
              rw [he3, hi] at this; cases this)
          obtain ⟨u, hu1, hu2⟩ := hpk
          rw [slot_at hb hp i o ho d hd (e + 1) (by omega) (by have := s.hq; omega), Option.some.injEq] at hu1
          subst hu1
          have hmem : SameMem (cs q) (cs (e + 1)) := (mem_eq hp (q - (e + 1)) (e + 1) q (by omega) s.hq fun m o' h10 h11 h12 h13 => by
            cases hsm : sk m with
            | true => rfl
            | false => exact absurd ⟨o', h12, h13, hsm⟩ (h9 m (by omega) h11)).symm
          refine same _ hmem ?_
          rw [← qOp_eq (env := (cs (e + 1)).env) (L := (cs (e + 1)).L) (G := (cs (e + 1)).G) (fun t ht => slot_to hp t i (e + 1) (fun j pj hj hpd => ((fl.f2 t ht).resolve_right (fun hh => by rw [hl] at hh; cases hh.1) j pj hj hpd).2) (by omega) (by have := s.hq; omega)) (fun _ => ⟨rfl, rfl⟩)]
          exact hu2
      · refine same _ (mem_eq hp (q - i) i q (by omega) s.hq fun m o' h10 h11 h12 h13 => ?_).symm hq0
        cases hsm : sk m with
        | true => rfl
        | false => exact absurd ⟨m, h10, h11, o', h12, h13, hsm⟩ hex
    · exact same _ (low (by simp [hl]) hiq) hq0
theorem sim_sound (TO : TOk P T) (hb : drawB ops.toList eff = true) (hp : PlanOk P T ops.toList eff 0 [] cs vs sk) {K : Cf → Prop} (hK : K (cs ops.size)) {g0 : Gh} {w0 : World} {Q : Exit → Act → World → Prop}
    (hQ : ∀ g' w' a' c', K c' → St T g' w' a' c' → Ext g0 w0 g' w' → Q .normal a' w') : ∀ (fuel : Nat) (listed : Array Bool) (U : List Nat) (q : Nat) (env : List AV) (g : Gh) (w : World) (a : Act),
    U.length ≤ fuel → (∀ i, i < ops.size → listed.getD i false = false → i ∈ U) → Sim P T ops eff cs listed q env → St T g w a ⟨env, (cs q).L, (cs q).nl, (cs q).nt, (cs q).G⟩ → Ext g0 w0 g w → wpAny P .any ops Q fuel listed a w := by
  intro fuel
  induction fuel with
  | zero =>
    intro listed U q env g w a hU hin s st hx
    have hall : ∀ i, i < ops.size → listed.getD i false = true := fun i hi => by
      cases h : listed.getD i false with
      | true => rfl
      | false => have := hin i hi h; rw [List.length_eq_zero_iff.1 (by omega : U.length = 0)] at this; cases this
    have hnil : Region.ready .any ops listed = [] := by
      apply List.eq_nil_iff_forall_not_mem.2
      intro j hj
      obtain ⟨h1, o, h2, _⟩ := mem_ready.1 hj
      have hjl : j < ops.size := (Array.getElem?_eq_some_iff.1 h2).1
      rw [getD_ft (by rw [s.size]; exact hjl), hall j hjl] at h1; cases h1
    exact ⟨hnil, (fin_all hall s st hx)⟩
  | succ fuel ih =>
    intro listed U q env g w a hU hin s st hx
    refine ⟨fun hnil => ?_, fun i hi => ?_⟩
    · have hall : ∀ n i, i < n → i < ops.size → listed.getD i false = true := by
        intro n
        induction n with
        | zero => intro i h; omega
        | succ n ihn =>
          intro i hin' hi
          cases h : listed.getD i false with
          | true => rfl
          | false =>
            have ho : ops[i]? = some ops[i] := by simp [hi]
            have : i ∈ Region.ready .any ops listed := mem_ready.2 ⟨by rw [getD_ft (by rw [s.size]; exact hi)]; exact h, _, ho, fun e he hbn => by
              have := (drawB_ok hb i ops[i] (by simp [hi])).f1 e he hbn
              exact ihn e.on (by omega) (by omega)⟩
            rw [hnil] at this; cases this
      exact fin_all (fun i hi => hall (i + 1) i (by omega) hi) s st hx
    · obtain ⟨hun, o, hoa, hready⟩ := mem_ready.1 hi
      have hlt : i < ops.size := (Array.getElem?_eq_some_iff.1 hoa).1
      have ho : ops.toList[i]? = some o := by simpa using hoa
      rw [getD_ft (by rw [s.size]; exact hlt)] at hun
      have stp := hp.step i o (Nat.zero_le _) ho
      have fl := drawB_ok hb i o ho
      have hmem := s.mem hb hp ho hun hready
      -- a slot whose writers are all carried out and stand ahead of i
      have slot : ∀ t : Nat, (∀ (j : Nat) (p : Oper), ops.toList[j]? = some p → p.dst = some t → depB o j = true ∧ j < i) → (cs i).env[t]? = env[t]? := fun t ht => by
        rw [s.exact t fun j p hj hpd => ?_, slot_to hp t i ops.size (fun j p hj hpd => (ht j p hj hpd).2) (by omega) (Nat.le_refl _)]
        obtain ⟨ed, he1, he2, he3⟩ := depB_iff.1 (ht j p hj hpd).1
        rw [← he3]; exact hready ed he1 he2
      have hUe : (U.erase i).length ≤ fuel := by
        rw [List.length_erase_of_mem (hin i hlt hun)]; omega
      have hine : ∀ j, j < ops.size → (listed.setIfInBounds i true).getD j false = false → j ∈ U.erase i := fun j hj h => by
        have hil : i < listed.size := by rw [s.size]; exact hlt
        have : ¬ (j = i ∨ listed.getD j false = true) := fun hh => by rw [(getD_set hil).2 hh] at h; cases h
        exact (List.mem_erase_of_ne (fun e => this (.inl e))).2 (hin j hj (by cases hjl : listed.getD j false with | false => rfl | true => exact absurd (.inr hjl) this))
      have snext := s.next hb hp ho hun hready
      have hdl : ∀ d, o.dst = some d → d < env.length := fun d hd => by
        have := stp.dst d hd
        rw [s.len, env_len hp _ (Nat.le_refl _), ← env_len hp i (by omega)]; exact this
      -- go on with a value put
      have goOn : ∀ (g' : Gh) (w' : World) (u : Value) (L : List LB) (nl nt : Nat) (G : Glob), Rel T g' L nl nt G w' → EnvR T g' w' env a → Cz T g' w' (vs i) u → Ext g w g' w' →
          (let q' := if isEff eff i o.op = true then i + 1 else q; L = (cs q').L ∧ nl = (cs q').nl ∧ nt = (cs q').nt ∧ G = (cs q').G) →
          wpAny P .any ops Q fuel (listed.setIfInBounds i true) (a.put o.dst u) w' := by
        intro g' w' u L nl nt G hrel henv hv hext hq'
        obtain ⟨rfl, rfl, rfl, rfl⟩ := hq'
        refine ih _ (U.erase i) _ _ g' w' _ hUe hine snext ?_ (hx.trans hext)
        refine St.mk' hrel ?_
        cases hd : o.dst with
        | none => exact henv
        | some d => exact henv.put hv
      -- is it carried out?
      have hwant : Region.wanted o (yielded ops a.tmps) = !(sk i) := by
        cases hg : o.guard with
        | none => rw [stp.free hg]; simp [Region.wanted, hg]
        | some jw =>
          obtain ⟨j, want⟩ := jw
          obtain ⟨oj, d, gv, h1, h2, h3, h4⟩ := stp.guard j want hg
          have hji := fl.f3 j want hg
          have hsl : (cs i).env[d]? = env[d]? := slot d fun j' p hj' hpd => by
            have : j' = j := by
              rcases Nat.lt_trichotomy j' j with h | h | h
              · exact absurd h2 ((drawB_ok hb j' p hj').f4 d hpd j oj h h1)
              · exact h
              · exact absurd hpd ((drawB_ok hb j oj h1).f4 d h2 j' p h hj')
            subst this; exact hji
          rw [hsl] at h3
          have hdlt := (List.getElem?_eq_some_iff.1 h3).1
          have at_ : ∀ u, a.tmps.getD d undef = u → a.tmps[d]? = some u := fun u hu => by
            have hdl : d < a.tmps.size := by rw [st.size]; exact hdlt
            rw [Array.getElem?_eq_getElem hdl]
            rw [arr_getD a.tmps d hdl] at hu
            rw [hu]
          have h1' : ops[j]? = some oj := by simpa using h1
          rcases h4 with ⟨b, rfl, h4⟩ | ⟨rfl, h4⟩
          · have hy : yielded ops a.tmps j = some b := by
              simp only [yielded, h1', Option.bind_some, h2, at_ _ (cz_bool (st.vals d _ h3))]
            simp only [Region.wanted, hg, hy]
            cases hs : sk i with
            | true => have := h4.1 hs; simpa using this
            | false =>
              have : ¬ b ≠ want := fun h => by rw [h4.2 h] at hs; cases hs
              simpa using this
          · obtain ⟨us, hu, _, _⟩ := cz_tup (st.vals d _ h3)
            have hy : yielded ops a.tmps j = none := by
              simp only [yielded, h1', Option.bind_some, h2, at_ _ hu]
            rw [h4]
            simp [Region.wanted, hg, hy]
      unfold wpOp
      simp only [hoa]
      cases hs : sk i with
      | true =>
        rw [hs, Bool.not_true] at hwant
        rw [if_neg (by rw [hwant]; simp)]
        obtain ⟨hv, hm⟩ := stp.skip hs
        refine goOn g w undef _ _ _ _ st.rel st.env (by rw [hv]; exact .tup _ _ rfl fun i c u hc => by simp at hc) (Ext.refl _ _) ?_
        by_cases he : isEff eff i o.op = true
        · have hm1 := ((hmem.1 he).trans hm).on
          simp only [he, if_true]
          exact ⟨hm1.1.symm, hm1.2.1.symm, hm1.2.2.1.symm, hm1.2.2.2.symm⟩
        · simp only [if_neg he, and_self]
      | false =>
        rw [hs, Bool.not_false] at hwant
        rw [if_pos hwant]
        refine .inl ?_
        have hgo := stp.go hs
        -- the same step where memory stands now
        have hst : StepIs P T eff i o.op ⟨env, (cs q).L, (cs q).nl, (cs q).nt, (cs q).G⟩ (vs i) (let q' := if isEff eff i o.op = true then i + 1 else q; ⟨env, (cs q').L, (cs q').nl, (cs q').nt, (cs q').G⟩) := by
          have hops : ∀ t ∈ opTmps o.op, (cs i).env[t]? = env[t]? := fun t ht => by
            rcases fl.f2 t ht with hA | ⟨-, hB⟩
            · exact slot t hA
            · rw [slot_pre hp t i (fun j p hj hpd => Nat.le_of_lt (hB j p hj hpd).2) i (Nat.le_refl _) (by omega)]
              refine (s.init t fun j p hj hpd => ?_).symm
              cases hjl : listed.getD j false with
              | false => rfl
              | true =>
                obtain ⟨ed, he1, he2, he3⟩ := depB_iff.1 (hB j p hj hpd).1
                have := s.down j p hj hjl ed he1 he2
                rw [he3, hun] at this; cases this
          by_cases he : isEff eff i o.op = true
          · obtain ⟨h1, h2, h3, h4⟩ := (hmem.1 he).on
            simp only [he, if_true]
            rw [← h1, ← h2, ← h3, ← h4]
            exact StepIs.same hgo hops
          · have he' : isEff eff i o.op = false := by simpa using he
            simp only [if_neg he]
            have h0 := hgo.shape.2 he'
            rw [h0] at hgo
            have hgo' : StepIs P T eff i o.op ⟨(cs i).env, (cs i).L, (cs i).nl, (cs i).nt, (cs i).G⟩ (vs i) ⟨(cs i).env, (cs i).L, (cs i).nl, (cs i).nt, (cs i).G⟩ := hgo
            by_cases hc : isCall eff i o.op = true
            · obtain ⟨h1, ex, h2⟩ := hmem.2.1 hc
              rw [h1, h2]
              exact StepIs.same (hgo'.grown hc) hops
            · have hc' : isCall eff i o.op = false := by simpa using hc
              exact StepIs.same (hgo'.other he' hc' fun hl => hmem.2.2 hl hs) hops
        refine evOp0_sound TO st o (fun v c' g' w' u hvc hrel henv hv hext => ?_) hst.ev
        obtain ⟨rfl, rfl⟩ := hvc
        exact goOn g' w' u _ _ _ _ hrel henv hv hext ⟨rfl, rfl, rfl, rfl⟩
where
  fin_all {listed : Array Bool} {q : Nat} {env : List AV} {g : Gh} {w : World} {a : Act} (hall : ∀ i, i < ops.size → listed.getD i false = true) (s : Sim P T ops eff cs listed q env) (st : St T g w a ⟨env, (cs q).L, (cs q).nl, (cs q).nt, (cs q).G⟩) (hx : Ext g0 w0 g w) : Q .normal a w := by
    have hlt : ∀ (j : Nat) (p : Oper), ops.toList[j]? = some p → j < ops.size := fun j p hj => by have := (List.getElem?_eq_some_iff.1 hj).1; simpa using this
    have he : env = (cs ops.size).env := List.ext_getElem? fun t => s.exact t fun j p hj _ => hall j (hlt j p hj)
    obtain ⟨h1, h2, h3, h4⟩ := (mem_eq hp (ops.size - q) q ops.size (by have := s.hq; omega) (Nat.le_refl _) fun m o h1 h2 h3 h4 => absurd ((s.effs m o h3 h4).1 (hall m h2)) (by omega)).on
    refine hQ g w a (cs ops.size) hK ?_ hx
    rw [← h1, ← h2, ← h3, ← h4, he] at st
    exact st
theorem draw_any (TO : TOk P T) (hb : drawB ops.toList eff = true) {c : Cf} {K : Cf → Prop} (h : evDraw P T ops.toList eff ops.toList 0 c [] K) {g : Gh} {a : Act} {w : World} (st : St T g w a c) {Q : Exit → Act → World → Prop}
    (hQ : ∀ g' w' a' c', K c' → St T g' w' a' c' → Ext g w g' w' → Q .normal a' w') : wpAny P .any ops Q ops.size (Array.replicate ops.size false) a { w with drawn := w.drawn + 1 } := by
  obtain ⟨cs, vs, sk, rfl, h2, h3⟩ := evDraw_plan ops.toList 0 c [] (by simp) (fun p hp => by cases hp) h
  rw [Nat.zero_add, Array.length_toList] at h2
  have cx : Cx (fun _ => False) g w g { w with drawn := w.drawn + 1 } := ⟨⟨fun _ _ _ h1 h2 => ⟨h1, h2⟩, Nat.le_refl _, fun _ _ => rfl⟩, Nat.le_refl _, fun _ _ => rfl, Nat.le_refl _, fun _ _ _ => ⟨rfl, fun _ _ _ _ _ => ⟨rfl, rfl⟩⟩⟩
  have ext : Ext g w g { w with drawn := w.drawn + 1 } := ⟨fun _ _ _ h1 h2 => ⟨h1, h2⟩, Nat.le_refl _, fun _ _ => rfl, fun _ _ _ => ⟨rfl, rfl⟩, Nat.le_refl _, rfl, rfl, rfl⟩
  have hl0 : ∀ i, (Array.replicate ops.size false).getD i false = false := fun i => by
    simp [Array.getElem?_replicate]
    split <;> rfl
  refine sim_sound TO hb h3 h2 hQ ops.size _ (List.range ops.size) 0 (cs 0).env g _ a (by simp) (fun i hi _ => List.mem_range.2 hi) ⟨by simp, fun i o _ hl => (by rw [hl0] at hl; cases hl), fun e o _ _ => (by rw [hl0]; simp), Nat.zero_le _, (env_len h3 _ (Nat.le_refl _)).symm, fun t ht => ?_, fun t _ => rfl⟩ ?_ ext
  · have := slot_eq h3 t 0 (fun j p hj hpd => by have := ht j p hj hpd; rw [hl0] at this; cases this) ops.size (by omega)
    rw [Nat.zero_add] at this
    exact this.symm
  · exact St.mk' (Rel.new st.rel cx (fun k _ => ⟨rfl, rfl⟩) rfl st.rel.ht) (st.env.keep cx)
theorem draw_sound (TO : TOk P T) (hm : P.follows .mixedOrders = true) (hb : drawB ops.toList eff = true) {c : Cf} {K : Cf → Prop} (h : evDraw P T ops.toList eff ops.toList 0 c [] K) : DrawOk P T ops c K :=
  ⟨fun _ _ _ st _ _ hQ => wp_region_any hm (draw_any TO hb h st hQ)⟩
end
end Go.Proofs.YtpihanlillbhkaaGreatDoor
end

section
/- Code that holds in the model, in steps: loops and cuts laid by hand, the rest run. -/
namespace Go.Proofs.YtpihanlillbhkaaGreatDoor
open Go Go.RowKit

structure Sem (P : Program) (T : TypeId → TR) (code : Code) (c : Cf) (Q : Ex → Cf → Prop) : Prop where
  holds : ∀ (g : Gh) (w : World) (a : Act), St T g w a c → code.wp P (Lift T Q g w) a w
def semK (P : Program) (T : TypeId → TR) (ntmps : Nat) (rs : List ResultVar) (body : Code) (args : List AV) (G : Glob) (Q : AV → Glob → Prop) : Prop :=
  topsK (ntmps - args.length) fun tops => catK args tops fun env => Sem P T body ⟨env, [], 0, 0, G⟩ fun e c => match e with
    | .exit _ => False
    | _ => finK T rs Q c
section
variable {P : Program} {T : TypeId → TR}
theorem Sem.run (TO : TOk P T) {code : Code} {c : Cf} {Q : Ex → Cf → Prop} (h : wpC P T code c Q) : Sem P T code c Q := ⟨fun g w a hs => wpC_sound TO code c Q g w a h hs⟩
theorem Sem.weak {code : Code} {c c' : Cf} {Q : Ex → Cf → Prop} (hw : Weak T c' c) (h : Sem P T code c' Q) : Sem P T code c Q :=
  ⟨fun g w a hs => by
    obtain ⟨g', hs', hx⟩ := hw.weak g a w hs
    exact wp_mono (h.holds g' w a hs') fun e a w h => h.from hx⟩
theorem Sem.mono {code : Code} {c : Cf} {Q Q' : Ex → Cf → Prop} (h : Sem P T code c Q) (hq : ∀ e c', Q e c' → Q' e c') : Sem P T code c Q' :=
  ⟨fun g w a hs => wp_mono (h.holds g w a hs) fun _ _ _ ⟨ex, c', g', h1, h2, h3⟩ => ⟨ex, c', g', h1, hq _ _ h2, h3⟩⟩
theorem Sem.seqS {x y : Code} {c : Cf} {Q : Ex → Cf → Prop} (h : Sem P T x c fun e c' => match e with | .normal => Sem P T y c' Q | e => Q e c') : Sem P T (.seq x y) c Q := by
  refine ⟨fun g w a hs => wp_seq (wp_mono (h.holds g w a hs) ?_)⟩
  rintro e a' w' ⟨ex, c', g', rfl, h1, h2, h3⟩
  cases ex with
  | normal => exact wp_mono (h1.holds g' w' a' h2) (fun e a w h => h.from h3)
  | exit id => exact ⟨.exit id, c', g', rfl, h1, h2, h3⟩
  | ret => exact ⟨.ret, c', g', rfl, h1, h2, h3⟩
theorem Sem.seq (TO : TOk P T) {x y : Code} {c : Cf} {Q : Ex → Cf → Prop} (h : wpC P T x c fun e c' => match e with | .normal => Sem P T y c' Q | e => Q e c') : Sem P T (.seq x y) c Q :=
  .seqS (.run TO h)
theorem Sem.block {id : Nat} {b : Code} {c : Cf} {Q : Ex → Cf → Prop} (h : Sem P T b c fun e c' => match e with
    | .exit i => (match decide (i = id) with
      | true => Q .normal c'
      | false => Q (.exit i) c')
    | e => Q e c') : Sem P T (.block id b) c Q := by
  refine ⟨fun g w a hs => wp_block (wp_mono (h.holds g w a hs) ?_)⟩
  rintro e a' w' ⟨ex, c', g', rfl, h1, h2, h3⟩
  cases ex with
  | normal => exact ⟨.normal, c', g', rfl, h1, h2, h3⟩
  | exit i =>
    by_cases hi : i = id
    · simp only [decide_eq_true hi] at h1
      simp only [exOf, Exit.inBlock, if_pos hi]
      exact ⟨.normal, c', g', rfl, h1, h2, h3⟩
    · simp only [decide_eq_false hi] at h1
      simp only [exOf, Exit.inBlock, if_neg hi]
      exact ⟨.exit i, c', g', rfl, h1, h2, h3⟩
  | ret => exact ⟨.ret, c', g', rfl, h1, h2, h3⟩
theorem Sem.loop {b : Code} {c : Cf} {Q : Ex → Cf → Prop} {ι : Type} (I : ι → Cf) (μ : ι → Nat) (i0 : ι) (hw : Weak T (I i0) c) (h : ∀ i, Sem P T b (I i) fun e c' => match e with
    | .normal => ∃ i', μ i' < μ i ∧ Weak T (I i') c'
    | e => Q e c') : Sem P T (.loop b) c Q := by
  refine ⟨fun g w a hs => ?_⟩
  obtain ⟨g0, hs0, hx0⟩ := hw.weak g a w hs
  refine wp_loop_ix (fun i a' w' => ∃ g', St T g' w' a' (I i) ∧ Ext g w g' w') μ i0 ⟨g0, hs0, hx0⟩ ?_
  rintro i a' w' ⟨g', hs', hx'⟩
  refine wp_mono ((h i).holds g' w' a' hs') ?_
  rintro e a2 w2 ⟨ex, c2, g2, rfl, h1, h2, h3⟩
  cases ex with
  | normal =>
    obtain ⟨i', hlt, hw'⟩ := h1
    obtain ⟨g3, hs3, hx3⟩ := hw'.weak g2 a2 w2 h2
    exact ⟨i', ⟨g3, hs3, hx'.trans (h3.trans hx3)⟩, hlt⟩
  | exit id => exact ⟨.exit id, c2, g2, rfl, h1, h2, hx'.trans h3⟩
  | ret => exact ⟨.ret, c2, g2, rfl, h1, h2, hx'.trans h3⟩
theorem Sem.condS {x : Operand} {y z : Code} {c : Cf} {Q : Ex → Cf → Prop} (h : opdK c.env x fun
    | .bool t => BS t (Sem P T y c Q) (Sem P T z c Q)
    | _ => False) : Sem P T (.cond x y z) c Q := by
  refine ⟨fun g w a hs => ?_⟩
  obtain ⟨v, h1, h2, h3⟩ := opd_sound hs.env x _ h
  clear h3
  cases v <;> first | exact h1.elim | skip
  rename_i t
  have e := cz_bool h2
  cases t with
  | true => exact wp_cond_true e (Sem.holds h1 g w a hs)
  | false => exact wp_cond_false e (Sem.holds h1 g w a hs)
theorem Sem.reg (TO : TOk P T) {id : Nat} {ops : Array Oper} {dr : Bool} {y : Code} {c : Cf} {Q : Ex → Cf → Prop} (h : wpC P T (.region id ops dr) c fun e c' => match e with | .normal => Sem P T y c' Q | e => Q e c') : Sem P T (.seq (.region id ops dr) y) c Q := .seq TO h
theorem Sem.regL (TO : TOk P T) {id : Nat} {ops : Array Oper} {dr : Bool} {c : Cf} {Q : Ex → Cf → Prop} (h : wpC P T (.region id ops dr) c Q) : Sem P T (.region id ops dr) c Q := .run TO h
theorem Sem.skip (TO : TOk P T) {c : Cf} {Q : Ex → Cf → Prop} (h : Q .normal c) : Sem P T .skip c Q := .run TO h
theorem Sem.exit (TO : TOk P T) {id : Nat} {c : Cf} {Q : Ex → Cf → Prop} (h : Q (.exit id) c) : Sem P T (.exit id) c Q := .run TO h
theorem Sem.ret (TO : TOk P T) {c : Cf} {Q : Ex → Cf → Prop} (h : Q .ret c) : Sem P T .ret c Q := .run TO h
/-- a cut, whatever x is -/
theorem Sem.cutS {ι : Type} (I : ι → Cf) {x y : Code} {c : Cf} {Q : Ex → Cf → Prop} (hy : ∀ i, Sem P T y (I i) Q) (h : Sem P T x c fun e c' => match e with | .normal => ∃ i, Weak T (I i) c' | e => Q e c') : Sem P T (.seq x y) c Q :=
  .seqS (h.mono fun e c' he => by
    cases e with
    | normal => obtain ⟨i, hi⟩ := he; exact Sem.weak hi (hy i)
    | exit id => exact he
    | ret => exact he)
theorem call_sem (TO : TOk P T) {f : FuncId} {fn : Func} {code : Code} {args : List AV} {G : Glob} {Q : AV → Glob → Prop} (hf : P.funcs[f]? = some fn) (hb : fn.body = some code) (hname : (fn.name == "runtime.NumGoroutine") = false) {n : Nat} (hnt : fn.ntmps = n) {rs : Array ResultVar} (hrs : fn.results = rs)
    (h : semK P T n rs.toList code args G Q) : CallOk P T f args G Q := by
  subst hnt
  subst hrs
  refine ⟨⟨fn, hf, hname, by rw [hb]; rfl⟩, fun g us w hg hl hp => ?_⟩
  unfold semK at h
  rw [topsK_iff, catK_iff] at h
  refine calls_of_wp hf hb ?_
  have hs : St T { g with nl := 0, nt := 0 } w { tmps := us ++ Array.replicate (fn.ntmps - us.size) undef, defers := [] } ⟨args ++ List.replicate (fn.ntmps - args.length) .top, [], 0, 0, G⟩ := by
    have dx : Dx g w { g with nl := 0, nt := 0 } w := ⟨fun _ _ _ h1 h2 => ⟨h1, h2⟩, Nat.le_refl _, fun _ _ => rfl⟩
    refine ⟨⟨fun b bx hb => ?_, fun j bx hj => by simp at hj, rfl, rfl, rfl⟩, by simp [hl], fun i v hv => ?_, rfl⟩
    · obtain ⟨h1, h2, h3⟩ := hg b bx hb
      exact ⟨h1, h2, h3.keep h1 h2 dx fun _ _ _ => ⟨rfl, rfl⟩⟩
    · rcases Nat.lt_or_ge i args.length with hi | hi
      · rw [List.getElem?_append_left hi] at hv
        have hu : us[i]? = some us[i] := Array.getElem?_eq_getElem (by omega)
        have e : (us ++ Array.replicate (fn.ntmps - us.size) undef).getD i undef = us[i] := by
          simp only [Array.getD, Array.size_append]
          rw [dif_pos (by omega), Array.getInternal_eq_getElem, Array.getElem_append_left]
        show Cz T _ w v ((us ++ Array.replicate (fn.ntmps - us.size) undef).getD i undef)
        rw [e]
        exact .dz _ _ ((hp i v _ hv hu).mono dx)
      · rw [List.getElem?_append_right hi] at hv
        have := List.mem_of_getElem? hv
        rw [List.mem_replicate] at this
        rw [this.2]
        exact .any _
  have hx : Ext g w { g with nl := 0, nt := 0 } w := ⟨fun _ _ _ h1 h2 => ⟨h1, h2⟩, Nat.le_refl _, fun _ _ => rfl, fun _ _ _ => ⟨rfl, rfl⟩, Nat.le_refl _, rfl, rfl, rfl⟩
  refine wp_mono (h.holds _ w _ hs) ?_
  rintro e a' w' ⟨ex, c', g', rfl, h1, h2, h3⟩
  have fin : finK T fn.results.toList Q c' → a'.defers = [] ∧ ∃ v, (results fn a'.tmps).run P w' = .ok v w' ∧ ∃ u g'' G' v', Ending.returned v = .returned u ∧ Q v' G' ∧ GRel T g'' G' w' ∧ Ext g w g'' w' ∧ Dz T g'' w' v' u := fun h => by
    obtain ⟨u, g2, G', v, q1, q2, q3, q4, q5⟩ := fin_sound TO h2 fn Q h
    exact ⟨h2.defers, u, q1, u, g2, G', v, rfl, q2, q3, (hx.trans h3).trans q4, q5⟩
  cases ex with
  | normal => exact fin h1
  | exit id => exact h1.elim
  | ret => exact fin h1
end
end Go.Proofs.YtpihanlillbhkaaGreatDoor
end

section
/- Less is known: what is to be shown of it, worked out. -/
namespace Go.Proofs.YtpihanlillbhkaaGreatDoor
open Go Go.RowKit

def le0W (rs : List (Option Nat)) (nl : Nat) : AV → AV → Prop → Prop
  | _, .top, K => K
  | .own j e els, .own i e' els', K => (match rs[i]? with
    | some (some q) => (match decide (q = j), decide (e = e') with
      | true, true => els = els' ∧ K
      | _, _ => False)
    | _ => False)
  | .nils, .own i _ els', K => (match rs[i]? with
    | some none => els' = [] ∧ K
    | _ => False)
  | .own _ e els, .slc e' els', K => (match decide (e = e') with
    | true => els = els' ∧ K
    | false => False)
  | .slc e els, .slc e' els', K => (match decide (e = e') with
    | true => els = els' ∧ K
    | false => False)
  | .nils, .slc _ els', K => els' = [] ∧ K
  | .nils, .nils, K => K
  | .int k n, .int k' n', K => (match decide (k = k') with
    | true => n = n' ∧ K
    | false => False)
  | .bool b, .bool b', K => b = b' ∧ K
  | .str s, .str s', K => s = s' ∧ K
  | .lptr j o, .lptr j' o', K => (match decide (j = j'), decide (j < nl) with
    | true, true => o = o' ∧ K
    | _, _ => False)
  | .gptr b o, .gptr b' o', K => b = b' ∧ o = o' ∧ K
  | .nilp, .nilp, K => K
  | .nilf, .nilf, K => K
  | .nili, .nili, K => K
  | .nilm, .nilm, K => K
  | .mp b, .mp b', K => b = b' ∧ K
  | .eref c o, .eref c' o', K => c = c' ∧ o = o' ∧ K
  | _, _, _ => False
def le0sW (rs : List (Option Nat)) (nl : Nat) : List AV → List AV → Prop → Prop
  | [], [], K => K
  | v :: r, v' :: r', K => le0W rs nl v v' (le0sW rs nl r r' K)
  | _, _, _ => False
def le1W (rs : List (Option Nat)) (nl : Nat) (v v' : AV) (K : Prop) : Prop :=
  match v, v' with
  | .agg cs, .agg ds => le0sW rs nl cs ds K
  | .fn f a b, .fn f' a' b' => f = f' ∧ le0sW rs nl a a' (le0sW rs nl b b' K)
  | v, v' => le0W rs nl v v' K
def le1sW (rs : List (Option Nat)) (nl : Nat) : List AV → List AV → Prop → Prop
  | [], [], K => K
  | v :: r, v' :: r', K => le1W rs nl v v' (le1sW rs nl r r' K)
  | _, _, _ => False
def leLW (rs : List (Option Nat)) (nl : Nat) : List LB → List LB → Prop → Prop
  | _, [], K => K
  | .live org cells :: r, .live org' cells' :: r', K => org = org' ∧ le1sW rs nl cells cells' (leLW rs nl r r' K)
  | .away b :: r, .away b' :: r', K => b = b' ∧ leLW rs nl r r' K
  | _ :: r, .dead :: r', K => leLW rs nl r r' K
  | _, _, _ => False
def weakW (rs : List (Option Nat)) (c' c : Cf) : Prop :=
  match c', c with
  | ⟨env', L', nl', nt', G'⟩, ⟨env, L, nl, nt, G⟩ => le1sW rs nl' env env' (leLW rs nl' L L' ((∀ b x, G' b = some x → G b = some x) ∧ L'.length = nl' ∧ nl' ≤ nl ∧ nt' = rs.length ∧ nodupB nt rs = true))
theorem le0W_ok {rs : List (Option Nat)} {nl : Nat} {v v' : AV} {K : Prop} (h : le0W rs nl v v' K) : le0 rs nl v v' ∧ K := by
  unfold le0W at h
  split at h
  case h_2 =>
    split at h
    · rename_i q hq
      split at h
      · rename_i h1 h2
        have h1 := of_decide_eq_true h1
        have h2 := of_decide_eq_true h2
        subst h1
        exact ⟨⟨hq, h2, h.1⟩, h.2⟩
      · exact h.elim
    · exact h.elim
  case h_3 =>
    split at h
    · rename_i hq
      exact ⟨⟨hq, h.1⟩, h.2⟩
    · exact h.elim
  case h_4 =>
    split at h
    · rename_i h1
      exact ⟨⟨of_decide_eq_true h1, h.1⟩, h.2⟩
    · exact h.elim
  case h_5 =>
    split at h
    · rename_i h1
      exact ⟨⟨of_decide_eq_true h1, h.1⟩, h.2⟩
    · exact h.elim
  case h_8 =>
    split at h
    · rename_i h1
      exact ⟨⟨of_decide_eq_true h1, h.1⟩, h.2⟩
    · exact h.elim
  case h_11 =>
    split at h
    · rename_i h1 h2
      exact ⟨⟨⟨of_decide_eq_true h1, of_decide_eq_true h2⟩, h.1⟩, h.2⟩
    · exact h.elim
  all_goals first | exact h.elim | exact ⟨⟨h.1, h.2.1⟩, h.2.2⟩ | exact ⟨h.1, h.2⟩ | skip
  all_goals first | exact ⟨trivial, h⟩ | skip
theorem le0sW_ok {rs : List (Option Nat)} {nl : Nat} : ∀ {l l' : List AV} {K : Prop}, le0sW rs nl l l' K → le0s rs nl l l' ∧ K
  | [], [], _, h => ⟨trivial, h⟩
  | v :: r, v' :: r', K, h => by
    obtain ⟨h1, h2⟩ := le0W_ok (K := le0sW rs nl r r' K) h
    obtain ⟨h3, h4⟩ := le0sW_ok h2
    exact ⟨⟨h1, h3⟩, h4⟩
  | [], _ :: _, _, h => h.elim
  | _ :: _, [], _, h => h.elim
theorem le1W_ok {rs : List (Option Nat)} {nl : Nat} {v v' : AV} {K : Prop} (h : le1W rs nl v v' K) : le1 rs nl v v' ∧ K := by
  unfold le1W at h
  split at h
  · exact le0sW_ok h
  · obtain ⟨h0, h1⟩ := h
    obtain ⟨h2, h3⟩ := le0sW_ok h1
    obtain ⟨h4, h5⟩ := le0sW_ok h3
    exact ⟨⟨h0, h2, h4⟩, h5⟩
  · rename_i h1 h2
    obtain ⟨h3, h4⟩ := le0W_ok h
    refine ⟨?_, h4⟩
    unfold le1
    split
    · exact absurd rfl (h1 _ _ rfl)
    · exact absurd rfl (h2 _ _ _ _ _ _ rfl)
    · exact h3
theorem le1sW_ok {rs : List (Option Nat)} {nl : Nat} : ∀ {l l' : List AV} {K : Prop}, le1sW rs nl l l' K → le1s rs nl l l' ∧ K
  | [], [], _, h => ⟨trivial, h⟩
  | v :: r, v' :: r', K, h => by
    obtain ⟨h1, h2⟩ := le1W_ok (K := le1sW rs nl r r' K) h
    obtain ⟨h3, h4⟩ := le1sW_ok h2
    exact ⟨⟨h1, h3⟩, h4⟩
  | [], _ :: _, _, h => h.elim
  | _ :: _, [], _, h => h.elim
theorem leLW_ok {rs : List (Option Nat)} {nl : Nat} : ∀ {l l' : List LB} {K : Prop}, leLW rs nl l l' K → leL rs nl l l' ∧ K
  | [], [], _, h => ⟨trivial, h⟩
  | _ :: _, [], _, h => ⟨trivial, h⟩
  | .live org cells :: r, .live org' cells' :: r', K, h => by
    obtain ⟨h0, h1⟩ := h
    obtain ⟨h2, h3⟩ := le1sW_ok h1
    obtain ⟨h4, h5⟩ := leLW_ok h3
    exact ⟨⟨⟨h0, h2⟩, h4⟩, h5⟩
  | .away b :: r, .away b' :: r', K, h => by
    obtain ⟨h0, h1⟩ := h
    obtain ⟨h4, h5⟩ := leLW_ok h1
    exact ⟨⟨h0, h4⟩, h5⟩
  | .live _ _ :: r, .dead :: r', K, h => leLW_ok (l := r) (l' := r') h
  | .away _ :: r, .dead :: r', K, h => leLW_ok (l := r) (l' := r') h
  | .dead :: r, .dead :: r', K, h => leLW_ok (l := r) (l' := r') h
  | [], _ :: _, _, h => by cases ‹LB› <;> exact h.elim
  | .live _ _ :: _, .away _ :: _, _, h => h.elim
  | .away _ :: _, .live _ _ :: _, _, h => h.elim
  | .dead :: _, .live _ _ :: _, _, h => h.elim
  | .dead :: _, .away _ :: _, _, h => h.elim
theorem weak_by {T : TypeId → TR} (rs : List (Option Nat)) {c' c : Cf} (h : weakW rs c' c) : Weak T c' c := by
  obtain ⟨env', L', nl', nt', G'⟩ := c'
  obtain ⟨env, L, nl, nt, G⟩ := c
  obtain ⟨h1, h2⟩ := le1sW_ok h
  obtain ⟨h3, h4⟩ := leLW_ok h2
  exact weak_of rs ⟨h1, h3, h4⟩
/-- a local box may be lent ahead of its time -/
theorem Sem.lend {P : Program} {T : TypeId → TR} {code : Code} {c : Cf} {Q : Ex → Cf → Prop} (j : Nat) (h : lendK j c fun _ c' => Sem P T code c' Q) : Sem P T code c Q :=
  ⟨fun g w a hs => by
    obtain ⟨g', c', h1, hs', hx⟩ := preK_sound hs (p := .mp 0) (v := .lptr j 0) (fun c' => Sem P T code c' Q) h
    exact wp_mono (h1.holds g' w a hs') fun e a w h => h.from hx⟩
/-- less is said of what is handed back, or in -/
theorem CallOk.weak {P : Program} {T : TypeId → TR} {f : FuncId} {args : List AV} {G : Glob} {Q Q' : AV → Glob → Prop} (h : CallOk P T f args G Q) (hq : ∀ v G', Q v G' → ∃ v', Q' v' G' ∧ ∀ g w u, Dz T g w v u → Dz T g w v' u) : CallOk P T f args G Q' :=
  ⟨h.enters, fun g us w hG hl hd => (h.calls g us w hG hl hd).mono fun e w' ⟨u, g', G', v, h1, h2, h3, h4, h5⟩ => by
    obtain ⟨v', q1, q2⟩ := hq v G' h2
    exact ⟨u, g', G', v', h1, q1, h3, h4, q2 _ _ _ h5⟩⟩
theorem CallOk.args {P : Program} {T : TypeId → TR} {f : FuncId} {args args' : List AV} {G : Glob} {Q : AV → Glob → Prop} (h : CallOk P T f args' G Q) (hl : args.length = args'.length) (ha : ∀ (i : Nat) (a : AV), args[i]? = some a → ∃ a', args'[i]? = some a' ∧ ∀ g w u, Dz T g w a u → Dz T g w a' u) : CallOk P T f args G Q :=
  ⟨h.enters, fun g us w hG hl' hd => h.calls g us w hG (by omega) fun i a' u ha' hu => by
    have hlt := (List.getElem?_eq_some_iff.1 ha').1
    have hx : args[i]? = some (args[i]'(by omega)) := List.getElem?_eq_getElem (by omega)
    obtain ⟨a2, e1, e2⟩ := ha i _ hx
    rw [ha', Option.some.injEq] at e1
    subst e1
    exact e2 _ _ _ (hd i _ u hx hu)⟩
theorem nils_dz {T : TypeId → TR} (e : TypeId) {g : Gh} {w : World} {u : Value} (h : Dz T g w .nils u) : Dz T g w (.slc e []) u := by
  cases h
  exact .slc e [] none 0 (fun _ _ => undef) (Nat.le_refl _) (by decide) (fun _ h => by cases h) (fun h => absurd h (by simp)) (fun i cs h => by simp at h)
theorem app_le {n m k : Nat} (h : n + m ≤ 67108864) (hk : k ≤ 1000000) : n + m ≤ maxLen ∧ (n + m) * k ≤ 140737488355328 := by
  have := Nat.mul_le_mul h hk
  unfold maxLen
  omega
end Go.Proofs.YtpihanlillbhkaaGreatDoor

section
namespace Go.Proofs.YtpihanlillbhkaaGreatDoor
open Go Go.RowKit Go.Proofs
def isSt : Code → Bool
  | .seq (.region _ _ _) _ => true
  | .region _ _ _ => true
  | .cond _ _ _ => true
  | .skip => true
  | .exit _ => true
  | .ret => true
  | _ => false
def stK (P : Program) (T : TypeId → TR) : Code → Cf → (Ex → Cf → Prop) → Prop
  | .seq (.region id ops dr) y, c, Q => wpC P T (.region id ops dr) c fun e c' => match e with | .normal => Sem P T y c' Q | e => Q e c'
  | .region id ops dr, c, Q => wpC P T (.region id ops dr) c Q
  | .cond x y z, c, Q => opdK c.env x fun | .bool t => BS t (Sem P T y c Q) (Sem P T z c Q) | _ => False
  | .skip, c, Q => Q .normal c
  | .exit id, c, Q => Q (.exit id) c
  | .ret, c, Q => Q .ret c
  | _, _, _ => False
theorem Sem.st {P : Program} {T : TypeId → TR} (TO : TOk P T) {code : Code} {c : Cf} {Q : Ex → Cf → Prop} (hk : isSt code = true) (h : stK P T code c Q) : Sem P T code c Q := by
  cases code with
  | seq x y => cases x with
    | region id ops dr => exact Sem.reg TO h
    | _ => cases hk
  | region id ops dr => exact Sem.regL TO h
  | cond x y z => exact Sem.condS h
  | skip => exact Sem.skip TO h
  | exit id => exact Sem.exit TO h
  | ret => exact Sem.ret TO h
  | _ => cases hk
theorem nthKi {α : Type} {K : α → Prop} {n : Nat} {l : List α} {v : α} (h : l[n]? = some v) (hk : K v) : nthK n l K := (nthK_iff n l).2 ⟨v, h, hk⟩
theorem atNe {G : Glob} {b i : Nat} {x : GB} {y : Option GB} (h : i ≠ b) (hy : G i = y) : setG G b x i = y := (setG_ne _ _ h).trans hy
end Go.Proofs.YtpihanlillbhkaaGreatDoor
end
end
