/- A region that draws its order: the run in the text's order serves for every order that may be drawn. -/
import Derived.Test.YtmmmaekaoanceaaAk
namespace Go.Proofs.Ytmmmaekaoanceaa
open Go Go.RowKit

section
variable {P : Program} {T : TypeId → TR} {eff : List Nat}
theorem stepK_det (i : Nat) (op : Op) (c : Cf) : Det (fun K : AV × Cf → Prop => stepK P T eff i op c fun v c' => K (v, c')) := by
  obtain ⟨env, L, nl, nt, G⟩ := c
  have q : (∀ K : AV → Cf → Prop, stepK P T eff i op ⟨env, L, nl, nt, G⟩ K ↔ qOp T L G env op fun v => K v ⟨env, L, nl, nt, G⟩) → Det (fun K : AV × Cf → Prop => stepK P T eff i op ⟨env, L, nl, nt, G⟩ fun v c' => K (v, c')) := fun h =>
    Det.congr ((qOp_det T L G env op).bind fun v => Det.ret (v, (⟨env, L, nl, nt, G⟩ : Cf))) fun K => h fun v c => K (v, c)
  have e : (∀ K : AV → Cf → Prop, stepK P T eff i op ⟨env, L, nl, nt, G⟩ K ↔ effK T op env L nl nt G fun v L' nl' nt' G' => K v ⟨env, L', nl', nt', G'⟩) → Det (fun K : AV × Cf → Prop => stepK P T eff i op ⟨env, L, nl, nt, G⟩ fun v c' => K (v, c')) := fun h =>
    Det.congr ((effK_det (T := T) op env L nl nt G).bind (H := fun r K => K (r.1, (⟨env, r.2.1, r.2.2.1, r.2.2.2.1, r.2.2.2.2⟩ : Cf))) fun r => Det.ret _) fun K => h fun v c => K (v, c)
  cases op
  case alloc t => exact e fun _ => Iff.rfl
  case box t x => exact e fun _ => Iff.rfl
  case store t p x => exact e fun _ => Iff.rfl
  case buildSlice t n ps => exact e fun _ => Iff.rfl
  case mapUpdate t m k x => exact e fun _ => Iff.rfl
  case call c =>
    obtain ⟨callee, args, ts⟩ := c
    cases callee with
    | invoke r m => exact q fun _ => Iff.rfl
    | builtin b =>
      cases b <;> first | exact Det.no | exact q fun _ => Iff.rfl | exact e fun _ => Iff.rfl
    | value f =>
      simp only [stepK]
      refine (argsK_det env L f args.toList).bind (H := fun (r : FuncId × List AV) (K : AV × Cf → Prop) => ∃ v G', CallOk P T r.1 r.2 G (fun x Gx => x = v ∧ Gx = G') ∧ (match eff.contains i with
      | true => K (v, ⟨env, L, nl, nt, G'⟩)
      | false => G' = G ∧ K (v, ⟨env, L, nl, nt, G⟩))) fun r => ?_
      intro K h
      obtain ⟨v, G', h1, h2⟩ := h
      cases hi : eff.contains i with
      | true => rw [hi] at h2; exact ⟨_, h2, fun K' hK => ⟨v, G', h1, hK⟩⟩
      | false => rw [hi] at h2; exact ⟨_, h2.2, fun K' hK => ⟨v, G', h1, h2.1, hK⟩⟩
  all_goals exact q fun _ => Iff.rfl

/-- a step from c hands on v and c' -/
def StepIs (P : Program) (T : TypeId → TR) (eff : List Nat) (i : Nat) (op : Op) (c : Cf) (v : AV) (c' : Cf) : Prop := stepK P T eff i op c fun v1 c1 => v1 = v ∧ c1 = c'
theorem StepIs.shape {i : Nat} {op : Op} {c c' : Cf} {v : AV} (h : StepIs P T eff i op c v c') : c'.env = c.env ∧ (isEff eff i op = false → c' = c) := by
  obtain ⟨env, L, nl, nt, G⟩ := c
  have q : (∀ K : AV → Cf → Prop, stepK P T eff i op ⟨env, L, nl, nt, G⟩ K ↔ qOp T L G env op fun v => K v ⟨env, L, nl, nt, G⟩) → c' = ⟨env, L, nl, nt, G⟩ := fun hk => by
    obtain ⟨v1, h1, _⟩ := qOp_det T L G env op _ ((hk _).1 h)
    exact h1.2.symm
  have e : (∀ K : AV → Cf → Prop, stepK P T eff i op ⟨env, L, nl, nt, G⟩ K ↔ effK T op env L nl nt G fun v L' nl' nt' G' => K v ⟨env, L', nl', nt', G'⟩) → c'.env = env := fun hk => by
    obtain ⟨r, h1, _⟩ := (effK_det (T := T) op env L nl nt G) (fun r => r.1 = v ∧ (⟨env, r.2.1, r.2.2.1, r.2.2.2.1, r.2.2.2.2⟩ : Cf) = c') ((hk _).1 h)
    rw [← h1.2]
  cases op
  case alloc t => exact ⟨e fun _ => Iff.rfl, fun hh => by simp [isEff] at hh⟩
  case box t x => exact ⟨e fun _ => Iff.rfl, fun hh => by simp [isEff] at hh⟩
  case store t p x => exact ⟨e fun _ => Iff.rfl, fun hh => by simp [isEff] at hh⟩
  case buildSlice t n ps => exact ⟨e fun _ => Iff.rfl, fun hh => by simp [isEff] at hh⟩
  case mapUpdate t m k x => exact ⟨e fun _ => Iff.rfl, fun hh => by simp [isEff] at hh⟩
  case call c =>
    obtain ⟨callee, args, ts⟩ := c
    cases callee with
    | invoke r m => have := q fun _ => Iff.rfl; exact ⟨by rw [this], fun _ => this⟩
    | builtin b =>
      cases b <;> first | exact h.elim | (have := q fun _ => Iff.rfl; exact ⟨by rw [this], fun _ => this⟩) | exact ⟨e fun _ => Iff.rfl, fun hh => by simp [isEff] at hh⟩
    | value f =>
      unfold StepIs at h
      simp only [stepK] at h
      obtain ⟨r, h1, _⟩ := argsK_det env L f args.toList (fun r => ∃ v1 G', CallOk P T r.1 r.2 G (fun x Gx => x = v1 ∧ Gx = G') ∧ (match eff.contains i with
      | true => v1 = v ∧ (⟨env, L, nl, nt, G'⟩ : Cf) = c'
      | false => G' = G ∧ v1 = v ∧ (⟨env, L, nl, nt, G⟩ : Cf) = c')) h
      obtain ⟨v1, G', h1, h2⟩ := h1
      cases hi : eff.contains i with
      | true => rw [hi] at h2; exact ⟨by rw [← h2.2], fun hh => by simp only [isEff] at hh; rw [hi] at hh; cases hh⟩
      | false => rw [hi] at h2; exact ⟨by rw [← h2.2.2], fun _ => h2.2.2.symm⟩
  all_goals (have := q fun _ => Iff.rfl; exact ⟨by rw [this], fun _ => this⟩)
/-- with the same operands -/
theorem StepIs.same {i : Nat} {op : Op} {env env' : List AV} {L L' : List LB} {nl nt nl' nt' : Nat} {G G' : Glob} {v : AV} (h : StepIs P T eff i op ⟨env, L, nl, nt, G⟩ v ⟨env, L', nl', nt', G'⟩)
    (he : ∀ t ∈ opTmps op, env[t]? = env'[t]?) : StepIs P T eff i op ⟨env', L, nl, nt, G⟩ v ⟨env', L', nl', nt', G'⟩ := by
  have q : (∀ (env : List AV) (K : AV → Cf → Prop), stepK P T eff i op ⟨env, L, nl, nt, G⟩ K ↔ qOp T L G env op fun v => K v ⟨env, L, nl, nt, G⟩) → StepIs P T eff i op ⟨env', L, nl, nt, G⟩ v ⟨env', L', nl', nt', G'⟩ := fun hk => by
    obtain ⟨v1, h1, h2⟩ := qOp_det T L G env op _ ((hk _ _).1 h)
    refine (hk _ _).2 ?_
    rw [← qOp_eq he (fun _ => ⟨rfl, rfl⟩)]
    refine h2 _ ⟨h1.1, ?_⟩
    simp only [Cf.mk.injEq] at h1 ⊢
    exact ⟨trivial, h1.2.2⟩
  have e : (∀ (env : List AV) (K : AV → Cf → Prop), stepK P T eff i op ⟨env, L, nl, nt, G⟩ K ↔ effK T op env L nl nt G fun v L' nl' nt' G' => K v ⟨env, L', nl', nt', G'⟩) → StepIs P T eff i op ⟨env', L, nl, nt, G⟩ v ⟨env', L', nl', nt', G'⟩ := fun hk => by
    obtain ⟨r, h1, h2⟩ := (effK_det (T := T) op env L nl nt G) (fun r => r.1 = v ∧ (⟨env, r.2.1, r.2.2.1, r.2.2.2.1, r.2.2.2.2⟩ : Cf) = ⟨env, L', nl', nt', G'⟩) ((hk _ _).1 h)
    refine (hk _ _).2 ?_
    rw [← effK_eq he]
    refine h2 (fun r => r.1 = v ∧ (⟨env', r.2.1, r.2.2.1, r.2.2.2.1, r.2.2.2.2⟩ : Cf) = ⟨env', L', nl', nt', G'⟩) ⟨h1.1, ?_⟩
    simp only [Cf.mk.injEq] at h1 ⊢
    exact ⟨trivial, h1.2.2⟩
  cases op
  case alloc t => exact e fun _ _ => Iff.rfl
  case box t x => exact e fun _ _ => Iff.rfl
  case store t p x => exact e fun _ _ => Iff.rfl
  case buildSlice t n ps => exact e fun _ _ => Iff.rfl
  case mapUpdate t m k x => exact e fun _ _ => Iff.rfl
  case call c =>
    obtain ⟨callee, args, ts⟩ := c
    cases callee with
    | invoke r m => exact q fun _ _ => Iff.rfl
    | builtin b =>
      cases b <;> first | exact h.elim | exact q fun _ _ => Iff.rfl | exact e fun _ _ => Iff.rfl
    | value f =>
      unfold StepIs at h ⊢
      simp only [stepK] at h ⊢
      rw [← argsK_eq he]
      obtain ⟨r, h1, hr⟩ := argsK_det env L f args.toList (fun r => ∃ v1 G1, CallOk P T r.1 r.2 G (fun x Gx => x = v1 ∧ Gx = G1) ∧ (match eff.contains i with
      | true => v1 = v ∧ (⟨env, L, nl, nt, G1⟩ : Cf) = ⟨env, L', nl', nt', G'⟩
      | false => G1 = G ∧ v1 = v ∧ (⟨env, L, nl, nt, G⟩ : Cf) = ⟨env, L', nl', nt', G'⟩)) h
      refine hr (fun r => ∃ v1 G1, CallOk P T r.1 r.2 G (fun x Gx => x = v1 ∧ Gx = G1) ∧ (match eff.contains i with
      | true => v1 = v ∧ (⟨env', L, nl, nt, G1⟩ : Cf) = ⟨env', L', nl', nt', G'⟩
      | false => G1 = G ∧ v1 = v ∧ (⟨env', L, nl, nt, G⟩ : Cf) = ⟨env', L', nl', nt', G'⟩)) ?_
      obtain ⟨v1, G1, h1, h2⟩ := h1
      refine ⟨v1, G1, h1, ?_⟩
      cases hi : eff.contains i with
      | true =>
        rw [hi] at h2
        simp only [Cf.mk.injEq] at h2 ⊢
        exact ⟨h2.1, trivial, h2.2.2⟩
      | false =>
        rw [hi] at h2
        simp only [Cf.mk.injEq] at h2 ⊢
        exact ⟨h2.1, h2.2.1, trivial, h2.2.2.2⟩
  all_goals exact q fun _ _ => Iff.rfl
/-- quiet, no call, no load: memory is not looked at -/
theorem StepIs.other {i : Nat} {op : Op} {env : List AV} {L L' : List LB} {nl nt nl' nt' : Nat} {G G' : Glob} {v : AV} (h : StepIs P T eff i op ⟨env, L, nl, nt, G⟩ v ⟨env, L, nl, nt, G⟩)
    (h1 : isEff eff i op = false) (h2 : isCall eff i op = false) (h3 : (isLoad op = true → qOp T L' G' env op fun x => x = v)) : StepIs P T eff i op ⟨env, L', nl', nt', G'⟩ v ⟨env, L', nl', nt', G'⟩ := by
  have q : (∀ (L : List LB) (nl nt : Nat) (G : Glob) (K : AV → Cf → Prop), stepK P T eff i op ⟨env, L, nl, nt, G⟩ K ↔ qOp T L G env op fun v => K v ⟨env, L, nl, nt, G⟩) → StepIs P T eff i op ⟨env, L', nl', nt', G'⟩ v ⟨env, L', nl', nt', G'⟩ := fun hk => by
    refine (hk _ _ _ _ _).2 ?_
    cases hl : isLoad op with
    | true =>
      obtain ⟨v1, h4, h5⟩ := qOp_det T L' G' env op _ (h3 hl)
      exact h5 _ ⟨h4, rfl⟩
    | false =>
      obtain ⟨v1, h4, h5⟩ := qOp_det T L G env op _ ((hk _ _ _ _ _).1 h)
      rw [qOp_eq (env := env) (env' := env) (L := L') (L' := L) (G := G') (G' := G) (fun _ _ => rfl) (fun hh => by rw [hl] at hh; cases hh)]
      exact h5 _ ⟨h4.1, rfl⟩
  cases op
  case alloc t => simp [isEff] at h1
  case box t x => simp [isEff] at h1
  case store t p x => simp [isEff] at h1
  case buildSlice t n ps => simp [isEff] at h1
  case mapUpdate t m k x => simp [isEff] at h1
  case call c =>
    obtain ⟨callee, args, ts⟩ := c
    cases callee with
    | invoke r m => exact q fun _ _ _ _ _ => Iff.rfl
    | builtin b =>
      cases b <;> first | exact h.elim | exact q fun _ _ _ _ _ => Iff.rfl | simp [isEff] at h1
    | value f =>
      simp only [isEff] at h1
      simp only [isCall, h1, Bool.not_false, reduceCtorEq] at h2
  all_goals exact q fun _ _ _ _ _ => Iff.rfl
theorem StepIs.ev {i : Nat} {op : Op} {c c' : Cf} {v : AV} (h : StepIs P T eff i op c v c') : evOp0 P T op c fun v1 c1 => v1 = v ∧ c1 = c' := by
  obtain ⟨env, L, nl, nt, G⟩ := c
  unfold StepIs at h
  cases op
  case call c =>
    obtain ⟨callee, args, ts⟩ := c
    cases callee with
    | invoke r m => exact h
    | builtin b => cases b <;> first | exact h.elim | exact h
    | value f =>
      refine argsK_call ?_
      simp only [stepK] at h
      obtain ⟨r, h1, hr⟩ := argsK_det env L f args.toList (fun r => ∃ v1 G1, CallOk P T r.1 r.2 G (fun x Gx => x = v1 ∧ Gx = G1) ∧ (match eff.contains i with
      | true => v1 = v ∧ (⟨env, L, nl, nt, G1⟩ : Cf) = c'
      | false => G1 = G ∧ v1 = v ∧ (⟨env, L, nl, nt, G⟩ : Cf) = c')) h
      refine hr (fun r => CallOk P T r.1 r.2 G fun v1 G1 => v1 = v ∧ (⟨env, L, nl, nt, G1⟩ : Cf) = c') ?_
      obtain ⟨v1, G1, h1, h2⟩ := h1
      refine h1.mono fun x Gx hx => ?_
      obtain ⟨rfl, rfl⟩ := hx
      cases hi : eff.contains i with
      | true => rw [hi] at h2; exact h2
      | false =>
        rw [hi] at h2
        obtain ⟨rfl, h3, h4⟩ := h2
        exact ⟨h3, h4⟩
  all_goals exact h
end
end Go.Proofs.Ytmmmaekaoanceaa
