/- The computing words yield one thing alone; and they look at no more than the operands. -/
import Derived.Test.YtmmmaekaoanceaaAd
namespace Go.Proofs.Ytmmmaekaoanceaa
open Go Go.RowKit

/-- F hands one thing on -/
def Det {α : Type} (F : (α → Prop) → Prop) : Prop := ∀ K, F K → ∃ v, K v ∧ ∀ K' : α → Prop, K' v → F K'
theorem Det.ret {α : Type} (v : α) : Det (fun K => K v) := fun _ h => ⟨v, h, fun _ h => h⟩
theorem Det.no {α : Type} : Det (fun _ : α → Prop => False) := fun _ h => h.elim
theorem Det.bind {α β : Type} {F : (α → Prop) → Prop} {H : α → (β → Prop) → Prop} (hF : Det F) (hH : ∀ v, Det (H v)) : Det (fun K => F fun v => H v K) := by
  intro K h
  obtain ⟨v, h1, h2⟩ := hF _ h
  obtain ⟨r, h3, h4⟩ := hH v _ h1
  exact ⟨r, h3, fun K' hK => h2 _ (h4 K' hK)⟩
theorem Det.and {α : Type} {F : (α → Prop) → Prop} (p : Prop) (hF : Det F) : Det (fun K => p ∧ F K) := by
  intro K ⟨h1, h2⟩
  obtain ⟨r, h3, h4⟩ := hF K h2
  exact ⟨r, h3, fun K' hK => ⟨h1, h4 K' hK⟩⟩
theorem Det.ex {α β : Type} {p : β → Prop} {H : β → (α → Prop) → Prop} (hH : ∀ x, Det (H x)) : Det (fun K => ∃ x, p x ∧ H x K) := by
  intro K ⟨x, h1, h2⟩
  obtain ⟨r, h3, h4⟩ := hH x K h2
  exact ⟨r, h3, fun K' hK => ⟨x, h1, h4 K' hK⟩⟩
theorem Det.BS {α : Type} {F H : (α → Prop) → Prop} (t : Bool) (hF : Det F) (hH : Det H) : Det (fun K => BS t (F K) (H K)) := by
  cases t
  · exact hH
  · exact hF
theorem nthK_det {α : Type} (n : Nat) (l : List α) : Det (nthK n l) := by
  intro K h
  obtain ⟨v, h1, h2⟩ := (nthK_iff _ _).1 h
  exact ⟨v, h2, fun K' hK => (nthK_iff _ _).2 ⟨v, h1, hK⟩⟩
theorem dropK_det {α : Type} (n : Nat) (l : List α) : Det (dropK n l) := by
  intro K h
  obtain ⟨h1, h2⟩ := (dropK_iff _ _).1 h
  exact ⟨_, h2, fun K' hK => (dropK_iff _ _).2 ⟨h1, hK⟩⟩
theorem takeK_det {α : Type} (n : Nat) (l : List α) : Det (takeK n l) := by
  intro K h
  obtain ⟨h1, h2⟩ := (takeK_iff _ _ _).1 h
  exact ⟨_, h2, fun K' hK => (takeK_iff _ _ _).2 ⟨h1, hK⟩⟩
theorem putsK_det {α : Type} (n : Nat) (xs l : List α) : Det (putsK n xs l) := by
  intro K h
  obtain ⟨h1, h2⟩ := (putsK_iff _ _ _ _).1 h
  exact ⟨_, h2, fun K' hK => (putsK_iff _ _ _ _).2 ⟨h1, hK⟩⟩
theorem snocK_det {α : Type} (l : List α) (x : α) : Det (snocK l x) := by
  intro K h
  exact ⟨_, (snocK_iff _ _ _).1 h, fun K' hK => (snocK_iff _ _ _).2 hK⟩
theorem setK_det {α : Type} (n : Nat) (x : α) (l : List α) : Det (setK n x l) := by
  intro K h
  obtain ⟨h1, h2⟩ := (setK_iff _ _ _ _).1 h
  exact ⟨_, h2, fun K' hK => (setK_iff _ _ _ _).2 ⟨h1, hK⟩⟩
theorem dat0sK_det (l : List AV) : Det (dat0sK l) := fun _ h => ⟨_, (dat0sK_iff _ _).1 h, fun _ hK => (dat0sK_iff _ _).2 hK⟩
theorem dat0K_det (v : AV) : Det (dat0K v) := fun _ h => ⟨_, (dat0K_iff _ _).1 h, fun _ hK => (dat0K_iff _ _).2 hK⟩
theorem chunkK_det (n m : Nat) (l : List AV) : Det (chunkK n m l) := by
  intro K h
  obtain ⟨h1, h2⟩ := (chunkK_iff _ _ _ _).1 h
  exact ⟨_, h2, fun K' hK => (chunkK_iff _ _ _ _).2 ⟨h1, hK⟩⟩
theorem repK_det (z : List AV) (n : Nat) : Det (repK z n) := fun _ h => ⟨_, (repK_iff _ _ _).1 h, fun _ hK => (repK_iff _ _ _).2 hK⟩
theorem ofV1K_det (v : Value) : Det (ofV1K v) := by
  obtain ⟨x, hx, _⟩ := ofV1_is (T := fun _ => ⟨.invalid, 0, 0, undef, false, none⟩) (g := ⟨fun _ => .frz, fun _ => 0, 0, fun _ => 0, 0, fun _ => none, 0⟩) (w := default) v
  exact fun K h => ⟨x, (hx K).1 h, fun K' hK => (hx K').2 hK⟩
theorem ofVsK_det : ∀ vs : List Value, Det (ofVsK vs)
  | [] => Det.ret []
  | .agg _ :: _ => Det.no
  | .tuple _ :: _ => Det.no
  | .bool b :: r => (ofV1K_det (.bool b)).bind fun x => (ofVsK_det r).bind fun l => Det.ret (x :: l)
  | .int k n :: r => (ofV1K_det (.int k n)).bind fun x => (ofVsK_det r).bind fun l => Det.ret (x :: l)
  | .float k n :: r => (ofV1K_det (.float k n)).bind fun x => (ofVsK_det r).bind fun l => Det.ret (x :: l)
  | .complex k n m :: r => (ofV1K_det (.complex k n m)).bind fun x => (ofVsK_det r).bind fun l => Det.ret (x :: l)
  | .string s :: r => (ofV1K_det (.string s)).bind fun x => (ofVsK_det r).bind fun l => Det.ret (x :: l)
  | .pointer a :: r => (ofV1K_det (.pointer a)).bind fun x => (ofVsK_det r).bind fun l => Det.ret (x :: l)
  | .slice a n c :: r => (ofV1K_det (.slice a n c)).bind fun x => (ofVsK_det r).bind fun l => Det.ret (x :: l)
  | .map a :: r => (ofV1K_det (.map a)).bind fun x => (ofVsK_det r).bind fun l => Det.ret (x :: l)
  | .chan a :: r => (ofV1K_det (.chan a)).bind fun x => (ofVsK_det r).bind fun l => Det.ret (x :: l)
  | .func f a b :: r => (ofV1K_det (.func f a b)).bind fun x => (ofVsK_det r).bind fun l => Det.ret (x :: l)
  | .nilFunc :: r => (ofV1K_det .nilFunc).bind fun x => (ofVsK_det r).bind fun l => Det.ret (x :: l)
  | .iface t v :: r => (ofV1K_det (.iface t v)).bind fun x => (ofVsK_det r).bind fun l => Det.ret (x :: l)
  | .nilIface :: r => (ofV1K_det .nilIface).bind fun x => (ofVsK_det r).bind fun l => Det.ret (x :: l)
theorem ofVK_det (v : Value) : Det (ofVK v) := by
  have gen : (∀ K, ofVK v K ↔ ofV1K v K) → Det (ofVK v) := fun h K hK => by
    obtain ⟨x, h1, h2⟩ := ofV1K_det v K ((h K).1 hK)
    exact ⟨x, h1, fun K' hK' => (h K').2 (h2 K' hK')⟩
  cases v with
  | agg cs => exact (ofVsK_det cs.toList).bind fun l => Det.ret (AV.agg l)
  | _ => exact gen (fun _ => Iff.rfl)
theorem opdK_det (env : List AV) (x : Operand) : Det (opdK env x) := by
  cases x with
  | tmp t => exact nthK_det t env
  | const v => exact ofVK_det v
  | global b => exact Det.ret _
  | func f => exact Det.ret _
theorem opdsK_det (env : List AV) : ∀ l : List Operand, Det (opdsK env l)
  | [] => Det.ret []
  | x :: r => (opdK_det env x).bind fun v => (opdsK_det env r).bind fun l => Det.ret (v :: l)
theorem oopdK_det (env : List AV) (x : Option Operand) : Det (oopdK env x) := by
  cases x with
  | none => exact Det.ret none
  | some x => exact (opdK_det env x).bind fun v => Det.ret (some v)
section
variable (P : Program) (T : TypeId → TR)
theorem cellsOfV_det (v : AV) : Det (cellsOfV v) := by
  cases v <;> first | exact Det.no | exact Det.ret _
theorem subK_det (t : TypeId) (cells : List AV) (o : Nat) : Det (subK T t cells o) := by
  unfold subK
  cases kindD (T t).desc with
  | none => exact Det.no
  | some b => cases b with
    | true => exact (dropK_det o cells).bind fun r => (takeK_det _ r).bind fun l => Det.ret (AV.agg l)
    | false => exact nthK_det o cells
theorem cellsK_det (bx : GB) : Det (cellsK bx) := by cases bx <;> first | exact Det.no | exact Det.ret _
theorem keyKd_det (kt : TypeId) (k : AV) : Det (keyKd T kt k) := by
  unfold keyKd
  cases (T kt).desc <;> first | exact Det.no | skip
  · rename_i q
    cases k <;> first | exact Det.no | skip
    rename_i q' n
    simp only
    cases decide (q = q') <;> first | exact Det.no | exact Det.ret _
  · cases k <;> first | exact Det.no | exact Det.ret _
theorem okK_det (ok : Bool) (z : AV) (b : Bool) : Det (okK ok z b) := by cases ok <;> exact Det.ret _
theorem lookK_det (t : TypeId) (G : Glob) (x k : AV) (ok : Bool) : Det (lookK T t G x k ok) := by
  unfold lookK
  cases (T t).desc <;> first | exact Det.no | skip
  rename_i kt et
  refine (keyKd_det T kt k).bind fun kd => ?_
  cases kindD (T et).desc with
  | none => exact Det.no
  | some kb =>
    have zero := (ofVK_det (T et).zero).bind fun z => okK_det ok z false
    cases x <;> first | exact Det.no | exact zero | skip
    rename_i b
    refine Det.ex fun m => ?_
    intro K h
    obtain ⟨r, hr, h⟩ := h
    subst hr
    cases hm : mget m k with
    | none =>
      rw [hm] at h
      obtain ⟨v, h1, h2⟩ := zero K h
      exact ⟨v, h1, fun K' hK => ⟨none, rfl, h2 K' hK⟩⟩
    | some v =>
      rw [hm] at h
      obtain ⟨z, h1, h2⟩ := okK_det ok v true K h
      exact ⟨z, h1, fun K' hK => ⟨some v, rfl, h2 K' hK⟩⟩
theorem failK_det (t : TypeId) : Det (failK T t) := by
  unfold failK
  cases kindD (T t).desc with
  | none => exact Det.no
  | some kb => exact (ofVK_det (T t).zero).bind fun z => Det.ret _
theorem assertK_det (t : TypeId) (v : AV) (ok : Bool) : Det (assertK T t v ok) := by
  unfold assertK
  cases v <;> first | exact Det.no | skip
  · rename_i t' u
    simp only
    cases decide (t' = t) <;> cases ok <;> first | exact Det.no | exact Det.ret _ | exact failK_det T t
  · cases ok <;> first | exact Det.no | exact failK_det T t
theorem boxK_det (L : List LB) (G : Glob) (v : AV) : Det (fun K : List AV × Nat → Prop => boxK L G v fun c o => K (c, o)) := by
  have glob : ∀ b o, Det (fun K : List AV × Nat → Prop => ∃ bx, G b = some bx ∧ cellsK bx fun cells => K (cells, o)) := fun b o => Det.ex fun bx => (cellsK_det bx).bind fun cells => Det.ret (cells, o)
  cases v <;> first | exact Det.no | skip
  · exact Det.ret _
  · rename_i j o
    exact (nthK_det j L).bind fun bx => by
      cases bx with
      | live org cells => exact Det.ret (cells, o)
      | away b => exact glob b o
      | dead => exact Det.no
  · exact glob _ _
theorem cellsEq_det : ∀ (fs : List Field) (xs ys : List AV), Det (cellsEq T fs xs ys)
  | [], [], [] => Det.ret true
  | [], _ :: _, _ => Det.no
  | [], [], _ :: _ => Det.no
  | _ :: _, [], _ => Det.no
  | _ :: _, _ :: _, [] => Det.no
  | f :: fs, x :: xs, y :: ys => by
    have ih := cellsEq_det fs xs ys
    show Det (fun K => cellsEq T (f :: fs) (x :: xs) (y :: ys) K)
    unfold cellsEq
    cases (T f.type).desc <;> first | exact Det.no | skip
    · cases x <;> first | exact Det.no | skip
      cases y <;> first | exact Det.no | skip
      exact ih.bind fun u => Det.ret _
    · cases x <;> first | exact Det.no | skip
      rename_i k a
      cases y <;> first | exact Det.no | skip
      rename_i k' b
      simp only
      cases decide (k = k') with
      | true => exact ih.bind fun u => Det.ret _
      | false => exact Det.no
    · cases x <;> first | exact Det.no | skip
      cases y <;> first | exact Det.no | skip
      exact ih.bind fun u => Det.ret _
theorem isNilP_det (v : AV) : Det (isNilP v) := by cases v <;> first | exact Det.no | exact Det.ret _
theorem isNilF_det (v : AV) : Det (isNilF v) := by cases v <;> first | exact Det.no | exact Det.ret _
theorem isNilM_det (v : AV) : Det (isNilM v) := by cases v <;> first | exact Det.no | exact Det.ret _
theorem isNilI_det (v : AV) : Det (isNilI v) := by cases v <;> first | exact Det.no | exact Det.ret _
theorem eqK_det (t : TypeId) (x y : AV) : Det (eqK T t x y) := by
  unfold eqK
  cases (T t).desc <;> first | exact Det.no | skip
  · cases x <;> first | exact Det.no | skip
    cases y <;> first | exact Det.no | exact Det.ret _
  · cases x <;> cases y <;> first | exact Det.no | exact isNilP_det _
  · cases x <;> cases y <;> first | exact Det.no | exact isNilM_det _
  · rename_i fs
    cases x <;> first | exact Det.no | skip
    cases y <;> first | exact Det.no | skip
    simp only
    cases (T t).eqok <;> cases flatF fs.toList 0 <;> first | exact Det.no | exact cellsEq_det T _ _ _
  · cases x <;> cases y <;> first | exact Det.no | exact isNilF_det _
  · cases x <;> cases y <;> first | exact Det.no | exact isNilI_det _
theorem othK_det (op : BinOp) (t : TypeId) (x y : AV) : Det (othK T op t x y) := by
  unfold othK
  cases op <;> first | exact Det.no | exact (eqK_det T t x y).bind fun b => Det.ret _
theorem binI_det (op : BinOp) (k : IntKind) (a b : Int) : Det (binI op k a b) := by
  cases op <;> first | exact Det.no | exact Det.ret _ | exact (Det.ret _).and _
theorem binS_det (op : BinOp) (a b : ByteArray) : Det (binS op a b) := by
  cases op <;> first | exact Det.no | exact Det.ret _ | exact (Det.ret _).and _
theorem binK_det (op : BinOp) (t : TypeId) (x y : AV) : Det (binK T op t x y) := by
  cases x with
  | int k a => cases y with
    | int k' b =>
      have gen : Det (fun K => match decide (k = k') with | true => binI op k a b K | false => False) := by
        cases decide (k = k') with
        | true => exact binI_det op k a b
        | false => exact Det.no
      cases op <;> first | exact gen | exact (Det.ret _).and _
    | _ => exact othK_det T op t _ _
  | str a => cases y with
    | str b => exact binS_det op a b
    | _ => exact othK_det T op t _ _
  | _ => cases y <;> exact othK_det T op t _ _
theorem ptrK_det (v : AV) (d : Nat) : Det (ptrK v d) := by cases v <;> first | exact Det.no | exact Det.ret _
theorem elsOf_det (v : AV) : Det (fun K : TypeId × List (List AV) → Prop => elsOf v fun e els => K (e, els)) := by cases v <;> first | exact Det.no | exact Det.ret _
theorem lenK_det (t : TypeId) (v : AV) : Det (lenK T t v) := by
  unfold lenK
  cases (T t).desc <;> first | exact Det.no | skip
  · cases v <;> first | exact Det.no | exact Det.ret _
  · cases v <;> first | exact Det.no | exact Det.ret _
theorem boundK_det (d : Int) (v : Option AV) : Det (boundK d v) := by
  cases v with
  | none => exact Det.ret _
  | some v => cases v <;> first | exact Det.no | exact Det.ret _
theorem sliceK_det (t : TypeId) (v : AV) (lo hi : Option AV) : Det (sliceK T t v lo hi) := by
  unfold sliceK
  cases (T t).desc <;> first | exact Det.no | skip
  · cases v <;> first | exact Det.no | skip
    exact (boundK_det _ _).bind fun h => (boundK_det _ _).bind fun l => (Det.ret _).and _
  · rename_i e
    simp only
    cases kindD (T e).desc with
    | none => exact Det.no
    | some b =>
      exact (elsOf_det v).bind (H := fun p K => match decide (e = p.1) with | true => boundK p.2.length hi fun h => boundK 0 lo fun l => (0 ≤ l ∧ l ≤ h ∧ h ≤ p.2.length) ∧ K (AV.slc e ((p.2.drop l.toNat).take (h.toNat - l.toNat))) | false => False) fun p => by
        cases decide (e = p.1) with
        | true => exact (boundK_det _ _).bind fun h => (boundK_det _ _).bind fun l => (Det.ret _).and _
        | false => exact Det.no
theorem fillK_det (place : Nat → Option (Nat × Nat)) (env : List AV) : ∀ (parts : List (Nat × Operand)) (cells : List AV), Det (fillK place parts env cells)
  | [], cells => Det.ret cells
  | (i, x) :: r, cells => by
    show Det (fun K => fillK place ((i, x) :: r) env cells K)
    unfold fillK
    cases place i with
    | none => exact Det.no
    | some os =>
      exact (opdK_det env x).bind fun v => (cellsOfV_det v).bind fun vs => by
        cases vs.length == os.2 with
        | true => exact (putsK_det _ _ _).bind fun c => fillK_det place env r c
        | false => exact Det.no
theorem zeroK_det (t : TypeId) : Det (zeroK T t) := ofVsK_det _
theorem minmax_det (f : Int → Int → Int) : ∀ (l : List AV) (k : IntKind) (a : Int), Det (minmax f l k a)
  | [], k, a => Det.ret _
  | v :: r, k, a => by cases v <;> first | exact Det.no | exact minmax_det f r k _
theorem Det.congr {α : Type} {F H : (α → Prop) → Prop} (hH : Det H) (h : ∀ K, F K ↔ H K) : Det F := fun K hK => by
  obtain ⟨v, h1, h2⟩ := hH K ((h K).1 hK)
  exact ⟨v, h1, fun K' hK' => (h K').2 (h2 K' hK')⟩
theorem qOp_det (L : List LB) (G : Glob) (env : List AV) (op : Op) : Det (qOp T L G env op) := by
  cases op <;> first | exact Det.no | skip
  case move x => exact opdK_det env x
  case assign x => exact opdK_det env x
  case pick c x y => exact (opdK_det env c).bind fun v => by cases v <;> first | exact Det.no | exact Det.BS _ (opdK_det env x) (opdK_det env y)
  case nilCheck x =>
    exact (opdK_det env x).bind fun v => by
      cases v <;> first | exact Det.no | exact Det.ret _ | skip
      rename_i f p q
      cases f <;> first | exact Det.no | exact Det.ret _
  case load t x => exact (opdK_det env x).bind fun p => (boxK_det L G p).bind (H := fun q K => subK T t q.1 q.2 K) fun q => subK_det T t q.1 q.2
  case binOp o t x y t' => exact (opdK_det env x).bind fun a => (opdK_det env y).bind fun b => binK_det T o t a b
  case unOp o t x => exact (opdK_det env x).bind fun v => by cases o <;> cases v <;> first | exact Det.no | exact Det.ret _
  case convert s d x =>
    exact (opdK_det env x).bind fun v => by
      cases kindD (T s).desc with
      | none => exact Det.no
      | some b => cases (T d).desc <;> first | exact Det.no | (cases v <;> first | exact Det.no | exact Det.ret _)
  case field t x i =>
    exact (opdK_det env x).bind fun v => by
      cases (T t).desc <;> first | exact Det.no | skip
      rename_i fs
      cases v <;> first | exact Det.no | skip
      simp only
      cases fs[i]? with
      | none => exact Det.no
      | some f => exact subK_det T _ _ _
  case fieldAddr t x i =>
    show Det (fun K => qOp T L G env (.fieldAddr t x i) K)
    simp only [qOp]
    cases (T t).desc <;> first | exact Det.no | skip
    rename_i fs
    simp only
    cases fs[i]? with
    | none => exact Det.no
    | some f =>
      simp only
      cases kindD (T f.type).desc with
      | none => exact Det.no
      | some b => cases (T f.type).cells with
        | zero => exact Det.no
        | succ n => exact (opdK_det env x).bind fun v => ptrK_det v _
  case indexAddr t x ix =>
    exact (opdK_det env ix).bind fun iv => by
      cases iv <;> first | exact Det.no | skip
      rename_i k i
      cases (T t).desc <;> first | exact Det.no | skip
      · rename_i e
        simp only
        cases kindD (T e).desc with
        | none => exact Det.no
        | some b =>
          exact (opdK_det env x).bind fun v => (elsOf_det v).bind (H := fun p K => match decide (e = p.1) with | true => ∃ cells, (0 ≤ i ∧ p.2[i.toNat]? = some cells) ∧ K (AV.eref cells 0) | false => False) fun p => by
            cases decide (e = p.1) with
            | true => exact Det.ex fun cells => Det.ret _
            | false => exact Det.no
      · rename_i n e
        simp only
        cases kindD (T e).desc with
        | none => exact Det.no
        | some b => exact Det.and _ ((opdK_det env x).bind fun v => ptrK_det v _)
  case index t x ix =>
    exact (opdK_det env ix).bind fun iv => (opdK_det env x).bind fun v => by
      cases iv <;> first | exact Det.no | skip
      cases v <;> first | exact Det.no | skip
      · simp only
        cases kindD (T t).desc with
        | none => exact Det.no
        | some b => cases (T t).desc <;> first | exact Det.no | exact (Det.ret _).and _
      · cases (T t).desc <;> first | exact Det.no | skip
        rename_i n e
        simp only
        cases kindD (T e).desc with
        | none => exact Det.no
        | some b => cases b with
          | true => exact Det.no
          | false =>
            generalize (T e).cells = c
            match c with
            | 0 => exact Det.no
            | 1 => exact Det.and _ (Det.ex fun v => Det.ret v)
            | n + 2 => exact Det.no
  case lookup t x k ok => exact (opdK_det env k).bind fun kv => (opdK_det env x).bind fun xv => lookK_det T t G xv kv ok
  case typeAssert x xt t ok =>
    refine (opdK_det env x).bind fun v => ?_
    cases notIfc (T t).desc with
    | false => exact Det.no
    | true => exact assertK_det T t v ok
  case slice t x lo hi mx =>
    cases mx with
    | some m => exact Det.no
    | none => exact (opdK_det env x).bind fun v => (oopdK_det env lo).bind fun l => (oopdK_det env hi).bind fun h => sliceK_det T t v l h
  case extract x i => exact (opdK_det env x).bind fun v => by cases v <;> first | exact Det.no | exact nthK_det _ _
  case makeFunc f x y => exact (opdsK_det env x.toList).bind fun p => (opdsK_det env y.toList).bind fun q => Det.ret _
  case makeInterface t x =>
    have : Det (fun K : AV → Prop => opdK env x fun v => K (.ifc t v)) := (opdK_det env x).bind fun v => Det.ret _
    show Det (fun K => qOp T L G env (.makeInterface t x) K)
    simp only [qOp]
    cases (T t).desc <;> first | exact Det.no | exact this
  case build t parts =>
    show Det (fun K => qOp T L G env (.build t parts) K)
    simp only [qOp]
    cases (T t).desc <;> first | exact Det.no | skip
    · rename_i n e
      simp only
      cases kindD (T e).desc with
      | none => exact Det.no
      | some b => exact (zeroK_det T t).bind fun z => (fillK_det _ env _ z).bind fun l => Det.ret _
    · rename_i fs
      simp only
      cases fs.toList.all (fun f => (kindD (T f.type).desc).isSome) with
      | true => exact (zeroK_det T t).bind fun z => (fillK_det _ env _ z).bind fun l => Det.ret _
      | false => exact Det.no
  case call c =>
    obtain ⟨callee, args, ts⟩ := c
    cases callee with
    | builtin b =>
      cases b <;> first | exact Det.no | skip
      · obtain ⟨l⟩ := args
        obtain ⟨l2⟩ := ts
        match l, l2 with
        | [x], [t] => exact (opdK_det env x).bind fun v => (lenK_det T t v).bind fun n => Det.ret _
        | [], _ => exact Det.no
        | _ :: _ :: _, _ => exact Det.no
        | [_], [] => exact Det.no
        | [_], _ :: _ :: _ => exact Det.no
      · exact (opdsK_det env args.toList).bind fun l => by
          match l with
          | [] => exact Det.no
          | v :: r => cases v <;> first | exact Det.no | exact minmax_det _ r _ _
      · exact (opdsK_det env args.toList).bind fun l => by
          match l with
          | [] => exact Det.no
          | v :: r => cases v <;> first | exact Det.no | exact minmax_det _ r _ _
    | value f => exact Det.no
    | invoke r m => exact Det.no
end
end Go.Proofs.Ytmmmaekaoanceaa
