/- Operations look at no more than their operands; what a step of a drawn region hands on. -/
import Derived.Test.YtmmmaekaoanceaaAc
namespace Go.Proofs.Ytmmmaekaoanceaa
open Go Go.RowKit

theorem opdK_eq {env env' : List AV} {x : Operand} (h : ∀ t, x = .tmp t → env[t]? = env'[t]?) : opdK env x = opdK env' x := by
  cases x with
  | tmp t =>
    funext K
    have h := h t rfl
    simp only [opdK, nthK_iff, h]
  | const v => rfl
  | global b => rfl
  | func f => rfl
theorem opdsK_eq {env env' : List AV} : ∀ {l : List Operand}, (∀ x ∈ l, opdK env x = opdK env' x) → opdsK env l = opdsK env' l
  | [], _ => rfl
  | x :: r, h => by
    funext K
    have h1 := h x (by simp)
    have h2 := opdsK_eq (l := r) fun y hy => h y (by simp [hy])
    simp only [opdsK, h1, h2]
theorem oopdK_eq {env env' : List AV} {x : Option Operand} (h : ∀ y, x = some y → opdK env y = opdK env' y) : oopdK env x = oopdK env' x := by
  cases x with
  | none => rfl
  | some y => funext K; simp only [oopdK, h y rfl]
theorem fillK_eq {place : Nat → Option (Nat × Nat)} {env env' : List AV} : ∀ {l : List (Nat × Operand)}, (∀ x ∈ l, opdK env x.2 = opdK env' x.2) → fillK place l env = fillK place l env'
  | [], _ => rfl
  | (i, x) :: r, h => by
    funext cells K
    have h1 := h (i, x) (by simp)
    have h2 := fillK_eq (place := place) (l := r) fun y hy => h y (by simp [hy])
    simp only at h1
    simp only [fillK, h1, h2]
theorem opnd_eq {env env' : List AV} {op : Op} (h : ∀ t ∈ opTmps op, env[t]? = env'[t]?) {x : Operand} (hx : x ∈ op.operands) : opdK env x = opdK env' x :=
  opdK_eq fun t ht => h t (List.mem_filterMap.2 ⟨x, by simpa using hx, by rw [ht]⟩)
section
variable {P : Program} {T : TypeId → TR}
theorem qOp_eq {env env' : List AV} {op : Op} (h : ∀ t ∈ opTmps op, env[t]? = env'[t]?) {L L' : List LB} {G G' : Glob} (hm : isLoad op = true → L = L' ∧ G = G') : qOp T L G env op = qOp T L' G' env' op := by
  have e : ∀ {x : Operand}, x ∈ op.operands → opdK env x = opdK env' x := opnd_eq h
  cases op <;> first | rfl | skip
  case move x => funext K; simp only [qOp, e (x := x) (by simp [Op.operands])]
  case assign x => funext K; simp only [qOp, e (x := x) (by simp [Op.operands])]
  case pick c x y => funext K; simp only [qOp, e (x := x) (by simp [Op.operands]), e (x := y) (by simp [Op.operands]), e (x := c) (by simp [Op.operands])]
  case nilCheck x => funext K; simp only [qOp, e (x := x) (by simp [Op.operands])]
  case load t x => obtain ⟨rfl, rfl⟩ := hm rfl; funext K; simp only [qOp, e (x := x) (by simp [Op.operands])]
  case binOp o t x y t' => funext K; simp only [qOp, e (x := x) (by simp [Op.operands]), e (x := y) (by simp [Op.operands])]
  case unOp o t x => funext K; simp only [qOp, e (x := x) (by simp [Op.operands])]
  case convert s d x => funext K; simp only [qOp, e (x := x) (by simp [Op.operands])]
  case field t x i => funext K; simp only [qOp, e (x := x) (by simp [Op.operands])]
  case fieldAddr t x i => funext K; simp only [qOp, e (x := x) (by simp [Op.operands])]
  case indexAddr t x ix => funext K; simp only [qOp, e (x := x) (by simp [Op.operands]), e (x := ix) (by simp [Op.operands])]
  case index t x ix => funext K; simp only [qOp, e (x := x) (by simp [Op.operands]), e (x := ix) (by simp [Op.operands])]
  case lookup t x k ok => obtain ⟨rfl, rfl⟩ := hm rfl; funext K; simp only [qOp, e (x := x) (by simp [Op.operands]), e (x := k) (by simp [Op.operands])]
  case typeAssert x xt t ok => funext K; simp only [qOp, e (x := x) (by simp [Op.operands])]
  case slice t x lo hi mx =>
    cases mx with
    | some m => rfl
    | none =>
      have h1 : oopdK env lo = oopdK env' lo := oopdK_eq fun y hy => e (by subst hy; simp [Op.operands])
      have h2 : oopdK env hi = oopdK env' hi := oopdK_eq fun y hy => e (by subst hy; simp [Op.operands])
      funext K; simp only [qOp, e (x := x) (by simp [Op.operands]), h1, h2]
  case extract x i => funext K; simp only [qOp, e (x := x) (by simp [Op.operands])]
  case makeFunc f x y =>
    have h1 : opdsK env x.toList = opdsK env' x.toList := opdsK_eq fun z hz => e (by simp [Op.operands] at hz ⊢; exact .inl hz)
    have h2 : opdsK env y.toList = opdsK env' y.toList := opdsK_eq fun z hz => e (by simp [Op.operands] at hz ⊢; exact .inr hz)
    funext K; simp only [qOp, h1, h2]
  case makeInterface t x => funext K; simp only [qOp, e (x := x) (by simp [Op.operands])]
  case build t parts =>
    have h1 : ∀ place, fillK place parts.toList env = fillK place parts.toList env' := fun place => fillK_eq fun z hz => e (by simp only [Op.operands, List.mem_toArray, List.mem_map]; exact ⟨z, hz, rfl⟩)
    funext K; simp only [qOp, h1]
  case call c =>
    obtain ⟨callee, args, ts⟩ := c
    have h1 : opdsK env args.toList = opdsK env' args.toList := opdsK_eq fun z hz => e (by simp [Op.operands, Call.operands] at hz ⊢; exact .inr hz)
    cases callee with
    | builtin b =>
      cases b <;> first | rfl | skip
      · obtain ⟨l⟩ := args
        obtain ⟨l2⟩ := ts
        match l, l2 with
        | [x], [t] => funext K; simp only [qOp, e (x := x) (by simp [Op.operands, Call.operands])]
        | [], _ => rfl
        | _ :: _ :: _, _ => rfl
        | [_], [] => rfl
        | [_], _ :: _ :: _ => rfl
      · funext K; simp only [qOp, h1]
      · funext K; simp only [qOp, h1]
    | value f => rfl
    | invoke r m => rfl
theorem effK_eq {env env' : List AV} {op : Op} (h : ∀ t ∈ opTmps op, env[t]? = env'[t]?) : effK T op env = effK T op env' := by
  have e : ∀ {x : Operand}, x ∈ op.operands → opdK env x = opdK env' x := opnd_eq h
  cases op <;> first | rfl | skip
  case box t x => funext L nl nt G K; simp only [effK, e (x := x) (by simp [Op.operands])]
  case store t p x => funext L nl nt G K; simp only [effK, e (x := x) (by simp [Op.operands]), e (x := p) (by simp [Op.operands])]
  case mapUpdate t m k x => funext L nl nt G K; simp only [effK, e (x := x) (by simp [Op.operands]), e (x := m) (by simp [Op.operands]), e (x := k) (by simp [Op.operands])]
  case call c =>
    obtain ⟨callee, args, ts⟩ := c
    cases callee with
    | value f => rfl
    | invoke r m => rfl
    | builtin bt =>
      cases bt <;> first | rfl | skip
      obtain ⟨l⟩ := args
      obtain ⟨l2⟩ := ts
      match l, l2 with
      | [], _ => rfl
      | [_], _ => rfl
      | [_, _], [] => rfl
      | [_, _], [_] => rfl
      | [_, _], _ :: _ :: _ :: _ => rfl
      | _ :: _ :: _ :: _, _ => rfl
      | [m, k], [t, _] => funext L nl nt G K; simp only [effK, e (x := m) (by simp [Op.operands, Call.operands]), e (x := k) (by simp [Op.operands, Call.operands])]
  case buildSlice t n parts =>
    have h1 : ∀ place, fillK place parts.toList env = fillK place parts.toList env' := fun place => fillK_eq fun z hz => e (by simp only [Op.operands, List.mem_toArray, List.mem_map]; exact ⟨z, hz, rfl⟩)
    funext L nl nt G K; simp only [effK, h1]
theorem argsK_eq {env env' : List AV} {f : Operand} {args : Array Operand} {ts : Array TypeId} (h : ∀ t ∈ opTmps (.call { callee := .value f, args := args, argTypes := ts }), env[t]? = env'[t]?) (L : List LB) : argsK env L f args.toList = argsK env' L f args.toList := by
  have e := @opnd_eq _ _ _ h
  have h1 : opdsK env args.toList = opdsK env' args.toList := opdsK_eq fun z hz => e (by simp [Op.operands, Call.operands] at hz ⊢; exact .inr hz)
  funext K
  simp only [argsK, h1, e (x := f) (by simp [Op.operands, Call.operands])]

-- one thing alone is handed on
theorem out0K_det (L : List LB) (v : AV) : Det (out0K L v) := by
  have h0 := dat0K_det v
  cases v with
  | lptr j o => exact (nthK_det j L).bind fun bx => by cases bx <;> exact Det.ret _
  | _ => exact h0
theorem out0sK_det (L : List LB) : ∀ vs : List AV, Det (out0sK L vs)
  | [] => Det.ret []
  | v :: r => (out0K_det L v).bind fun v' => (out0sK_det L r).bind fun l => Det.ret (v' :: l)
theorem out1K_det (L : List LB) (v : AV) : Det (out1K L v) := by
  have h0 := out0K_det L v
  cases v with
  | agg cs => exact (out0sK_det L cs).bind fun l => Det.ret (AV.agg l)
  | top => exact Det.no
  | tup _ => exact Det.no
  | fn _ _ _ => exact Det.no
  | ifc _ _ => exact Det.no
  | _ => exact h0
theorem dropG_det (o n : Nat) : ∀ gs, Det (dropG o n gs)
  | [] => Det.ret []
  | x :: r => by
    show Det (fun K => dropG o n (x :: r) K)
    unfold dropG
    cases decide (o ≤ x.1) <;> cases decide (x.1 < o + n) <;> first | exact dropG_det o n r | exact (dropG_det o n r).bind fun l => Det.ret (x :: l)
theorem gstoK_det (bx : GB) (o : Nat) (vs : List AV) : Det (gstoK bx o vs) := by
  cases bx with
  | cells cs => exact (putsK_det o vs cs).bind fun c => Det.ret (GB.cells c)
  | box cs gs => exact (putsK_det o vs cs).bind fun c => (dropG_det o vs.length gs).bind fun g => Det.ret (GB.box c g)
  | bld s => exact Det.no
  | map kd m => exact Det.no
theorem effK_det (op : Op) (env : List AV) (L : List LB) (nl nt : Nat) (G : Glob) : Det (fun K : AV × List LB × Nat × Nat × Glob → Prop => effK T op env L nl nt G fun v L' nl' nt' G' => K (v, L', nl', nt', G')) := by
  cases op <;> first | exact Det.no | skip
  case alloc t =>
    simp only [effK]
    cases kindD (T t).desc with
    | none => exact Det.no
    | some b => exact (zeroK_det T t).bind fun z => (snocK_det L (.live none z)).bind fun L' => Det.ret (AV.lptr nl 0, L', nl + 1, nt, G)
  case box t x =>
    simp only [effK]
    exact (opdK_det env x).bind fun v => (cellsOfV_det v).bind fun cells => (snocK_det L (.live none cells)).bind fun L' => Det.ret (AV.lptr nl 0, L', nl + 1, nt, G)
  case store t p x =>
    simp only [effK]
    have glob : ∀ b o vs, Det (fun K : AV × List LB × Nat × Nat × Glob → Prop => ∃ bx, G b = some bx ∧ out0sK L vs fun vs' => gstoK bx o vs' fun bx' => K (AV.top, L, nl, nt, setG G b bx')) := fun b o vs =>
      Det.ex fun bx => ((out0sK_det L vs).bind fun vs' => (gstoK_det bx o vs').bind fun bx' => Det.ret (AV.top, L, nl, nt, setG G b bx'))
    refine (opdK_det env x).bind fun v => (cellsOfV_det v).bind fun vs => ?_
    cases kindD (T t).desc with
    | none => exact Det.no
    | some kb =>
      cases vs.length == (T t).cells with
      | false => exact Det.no
      | true =>
        refine (opdK_det env p).bind fun q => ?_
        cases q <;> first | exact Det.no | exact glob _ _ _ | skip
        rename_i j o
        refine (nthK_det j L).bind fun bx => ?_
        cases bx with
        | live org cells => exact (putsK_det o vs cells).bind fun cells' => (setK_det j (LB.live org cells') L).bind fun L' => Det.ret (AV.top, L', nl, nt, G)
        | away b => exact glob _ _ _
        | dead => exact Det.no
  case mapUpdate t m k x =>
    simp only [effK]
    refine (opdK_det env k).bind fun kv => (opdK_det env m).bind fun mv => (opdK_det env x).bind fun v => ?_
    cases (T t).desc <;> first | exact Det.no | skip
    cases mv <;> first | exact Det.no | skip
    rename_i kt et b
    exact (keyKd_det T kt kv).bind fun kd => (out1K_det L v).bind fun v' => Det.ex fun mm => Det.ret (AV.top, L, nl, nt, setG G b (.map kd (mput mm kv v')))
  case call c =>
    obtain ⟨callee, args, ts⟩ := c
    cases callee with
    | value f => exact Det.no
    | invoke r m => exact Det.no
    | builtin bt =>
      cases bt <;> first | exact Det.no | skip
      simp only [effK]
      obtain ⟨l⟩ := args
      obtain ⟨l2⟩ := ts
      match l, l2 with
      | [], _ => exact Det.no
      | [_], _ => exact Det.no
      | [_, _], [] => exact Det.no
      | [_, _], [_] => exact Det.no
      | [_, _], _ :: _ :: _ :: _ => exact Det.no
      | _ :: _ :: _ :: _, _ => exact Det.no
      | [m, k], [t, _] =>
        refine (opdK_det env k).bind fun kv => (opdK_det env m).bind fun mv => ?_
        cases (T t).desc <;> first | exact Det.no | skip
        rename_i kt et
        refine (keyKd_det T kt kv).bind fun kd => ?_
        cases mv <;> first | exact Det.no | exact Det.ret (AV.tup [], L, nl, nt, G) | skip
        rename_i b
        exact Det.ex fun mm => Det.ret (AV.tup [], L, nl, nt, setG G b (.map kd (mdel mm kv)))
  case buildSlice t len parts =>
    simp only [effK]
    cases (T t).desc <;> first | exact Det.no | skip
    rename_i e
    simp only
    cases hc : (T e).cells with
    | zero => exact Det.no
    | succ n =>
      simp only
      cases kindD (T e).desc with
      | none => exact Det.no
      | some kb =>
        cases decide (len * (n + 1) ≤ 16777216) with
        | false => exact Det.no
        | true =>
          exact (zeroK_det T e).bind fun z0 => (repK_det z0 len).bind fun z => (fillK_det _ env parts.toList z).bind fun cells => (dat0sK_det cells).bind fun cells' => (chunkK_det (n + 1) len cells').bind fun els => Det.ret (AV.own nt e els, L, nl, nt + 1, G)
theorem giveCK_det (L : List LB) (v : AV) : Det (giveCK L v) := by
  have h0 := dat0K_det v
  cases v with
  | lptr j o => exact (nthK_det j L).bind fun bx => by cases bx <;> first | exact Det.no | exact Det.ret _
  | _ => exact Det.congr h0 (fun _ => Iff.rfl)
theorem giveCsK_det (L : List LB) : ∀ l, Det (giveCsK L l)
  | [] => Det.ret []
  | v :: r => (giveCK_det L v).bind fun v' => (giveCsK_det L r).bind fun l => Det.ret (v' :: l)
theorem give0K_det (L : List LB) (v : AV) : Det (give0K L v) := by
  have h0 := giveCK_det L v
  cases v <;> first | exact Det.no | exact Det.congr h0 (fun _ => Iff.rfl)
theorem give0sK_det (L : List LB) : ∀ l, Det (give0sK L l)
  | [] => Det.ret []
  | v :: r => (give0K_det L v).bind fun v' => (give0sK_det L r).bind fun l => Det.ret (v' :: l)
theorem giveK_det (L : List LB) (v : AV) : Det (giveK L v) := by
  have h0 := give0K_det L v
  cases v <;> first | exact Det.congr h0 (fun _ => Iff.rfl) | skip
  case fn f a b => exact (give0sK_det L a).bind fun a' => (give0sK_det L b).bind fun b' => Det.ret (AV.fn f a' b')
  case agg cs => exact (giveCsK_det L cs).bind fun l => Det.ret (AV.agg l)
  case ifc t v =>
    have h1 : Det (fun K : AV → Prop => give0K L v fun v' => K (.ifc t v')) := (give0K_det L v).bind fun v' => Det.ret (AV.ifc t v')
    cases v with
    | agg cs => exact (giveCsK_det L cs).bind fun l => Det.ret (AV.ifc t (.agg l))
    | _ => exact Det.congr h1 (fun _ => Iff.rfl)
theorem givesK_det (L : List LB) : ∀ l, Det (givesK L l)
  | [] => Det.ret []
  | v :: r => (giveK_det L v).bind fun v' => (givesK_det L r).bind fun l => Det.ret (v' :: l)
theorem argsK_det (env : List AV) (L : List LB) (f : Operand) (args : List Operand) : Det (fun K : FuncId × List AV → Prop => argsK env L f args fun id l => K (id, l)) := by
  refine (opdK_det env f).bind fun v => ?_
  cases v <;> first | exact Det.no | skip
  rename_i fn a b
  cases fn <;> first | exact Det.no | skip
  rename_i id
  exact (opdsK_det env args).bind fun l => (givesK_det L a).bind fun a' => (givesK_det L l).bind fun l' => (givesK_det L b).bind fun b' => Det.ret (id, a' ++ (l' ++ b'))

-- what is handed to a call without lending is handed to it
theorem giveCK_lend {env : List AV} {L : List LB} {nl nt : Nat} {G : Glob} {v : AV} {K : AV → Cf → Prop} (h : giveCK L v fun v' => K v' ⟨env, L, nl, nt, G⟩) : lendCK v ⟨env, L, nl, nt, G⟩ K := by
  cases v <;> first | exact h | skip
  rename_i j o
  simp only [giveCK, nthK_iff] at h
  obtain ⟨bx, h1, h2⟩ := h
  simp only [lendCK, lendK, nthK_iff]
  refine ⟨bx, h1, ?_⟩
  cases bx <;> first | exact h2.elim | exact h2
theorem giveCsK_lend {env : List AV} {L : List LB} {nl nt : Nat} {G : Glob} : ∀ {l : List AV} {K : List AV → Cf → Prop}, (giveCsK L l fun l' => K l' ⟨env, L, nl, nt, G⟩) → lendCsK l ⟨env, L, nl, nt, G⟩ K
  | [], _, h => h
  | v :: r, K, h => giveCK_lend (K := fun v' c' => lendCsK r c' fun l c'' => K (v' :: l) c'') (by
      obtain ⟨v', h1, h2⟩ := giveCK_det L v _ h
      exact h2 _ (giveCsK_lend (K := fun l c => K (v' :: l) c) h1))
theorem give0K_lend {env : List AV} {L : List LB} {nl nt : Nat} {G : Glob} {v : AV} {K : AV → Cf → Prop} (h : give0K L v fun v' => K v' ⟨env, L, nl, nt, G⟩) : lend0K v ⟨env, L, nl, nt, G⟩ K := by
  have h0 := @giveCK_lend env L nl nt G v K
  cases v <;> first | exact h.elim | exact h0 h
theorem give0sK_lend {env : List AV} {L : List LB} {nl nt : Nat} {G : Glob} : ∀ {l : List AV} {K : List AV → Cf → Prop}, (give0sK L l fun l' => K l' ⟨env, L, nl, nt, G⟩) → lend0sK l ⟨env, L, nl, nt, G⟩ K
  | [], _, h => h
  | v :: r, K, h => give0K_lend (K := fun v' c' => lend0sK r c' fun l c'' => K (v' :: l) c'') (by
      obtain ⟨v', h1, h2⟩ := give0K_det L v _ h
      exact h2 _ (give0sK_lend (K := fun l c => K (v' :: l) c) h1))
theorem giveK_lend {env : List AV} {L : List LB} {nl nt : Nat} {G : Glob} {v : AV} {K : AV → Cf → Prop} (h : giveK L v fun v' => K v' ⟨env, L, nl, nt, G⟩) : lend1K v ⟨env, L, nl, nt, G⟩ K := by
  have h0 := @give0K_lend env L nl nt G v K
  cases v <;> first | exact h0 h | skip
  case fn f a b =>
    refine give0sK_lend (K := fun a' c' => lend0sK b c' fun b' c'' => K (.fn f a' b') c'') ?_
    obtain ⟨a', h1, h2⟩ := give0sK_det L a _ h
    exact h2 _ (give0sK_lend (K := fun b' c => K (.fn f a' b') c) h1)
  case agg cs => exact giveCsK_lend (K := fun l c => K (.agg l) c) h
  case ifc t v =>
    have h1 := @give0K_lend env L nl nt G v (fun v' c => K (.ifc t v') c)
    cases v with
    | agg cs => exact giveCsK_lend (K := fun l c => K (.ifc t (.agg l)) c) h
    | _ => exact h1 h
theorem givesK_lend {env : List AV} {L : List LB} {nl nt : Nat} {G : Glob} : ∀ {l : List AV} {K : List AV → Cf → Prop}, (givesK L l fun l' => K l' ⟨env, L, nl, nt, G⟩) → lend1sK l ⟨env, L, nl, nt, G⟩ K
  | [], _, h => h
  | v :: r, K, h => giveK_lend (K := fun v' c' => lend1sK r c' fun l c'' => K (v' :: l) c'') (by
      obtain ⟨v', h1, h2⟩ := giveK_det L v _ h
      exact h2 _ (givesK_lend (K := fun l c => K (v' :: l) c) h1))
theorem argsK_call {env : List AV} {L : List LB} {nl nt : Nat} {G : Glob} {f : Operand} {args : Array Operand} {ts : Array TypeId} {K : AV → Cf → Prop}
    (h : argsK env L f args.toList fun id l => CallOk P T id l G fun v G' => K v ⟨env, L, nl, nt, G'⟩) : evOp0 P T (.call { callee := .value f, args := args, argTypes := ts }) ⟨env, L, nl, nt, G⟩ K := by
  obtain ⟨v, h1, h2⟩ := opdK_det env f _ h
  refine h2 _ ?_
  cases v <;> first | exact h1.elim | skip
  rename_i fn a b
  cases fn <;> first | exact h1.elim | skip
  rename_i id
  obtain ⟨l, h3, h4⟩ := opdsK_det env _ _ h1
  refine h4 _ ?_
  obtain ⟨a', h5, h6⟩ := givesK_det L a _ h3
  obtain ⟨l', h7, h8⟩ := givesK_det L l _ h5
  obtain ⟨b', h9, h10⟩ := givesK_det L b _ h7
  refine givesK_lend (l := a) (h6 _ ?_)
  refine givesK_lend (l := l) (h8 _ ?_)
  exact givesK_lend (l := b) (h10 _ h9)
end
end Go.Proofs.Ytmmmaekaoanceaa
