/- A region that draws its order: the closed look, spelled out; the run in the text's order, spelled out. -/
import Derived.Test.YtmmmaekaoanceaaAl
namespace Go.Proofs.Ytmmmaekaoanceaa
open Go Go.RowKit

theorem isEff_notCall {eff : List Nat} {i : Nat} {o : Op} (h : isCall eff i o = true) : isEff eff i o = false := by
  unfold isCall at h
  split at h
  · simp only [isEff]; simpa using h
  · cases h
theorem isLoad_notEff {eff : List Nat} {i : Nat} {o : Op} (h : isLoad o = true) : isEff eff i o = false ∧ isCall eff i o = false := by
  unfold isLoad at h
  split at h
  · exact ⟨rfl, rfl⟩
  · exact ⟨rfl, rfl⟩
  · cases h
structure OkAt (ops : List Oper) (eff : List Nat) (i : Nat) (o : Oper) : Prop where
  f1 : ∀ e ∈ o.after, Region.binds .any e = true → e.on < i
  f2 : ∀ t ∈ opTmps o.op, ∀ (j : Nat) (p : Oper), ops[j]? = some p → p.dst = some t → depB o j = true ∧ j < i
  f3 : ∀ j want, o.guard = some (j, want) → depB o j = true ∧ j < i
  f4 : ∀ d, o.dst = some d → ∀ (j : Nat) (p : Oper), i < j → ops[j]? = some p → p.dst ≠ some d
  f4b : isLoad o.op = true → o.dst ≠ none
  f5 : (isEff eff i o.op || isCall eff i o.op || isLoad o.op) = true → ∀ (e : Nat) (p : Oper), e < i → ops[e]? = some p → isEff eff e p.op = true → (∀ (m : Nat) (q : Oper), e < m → m < i → ops[m]? = some q → isEff eff m q.op = false) → depB o e = true
  f6 : isCall eff i o.op = true → ∀ (e : Nat) (p : Oper), i < e → ops[e]? = some p → isEff eff e p.op = true → (∀ (m : Nat) (q : Oper), i < m → m < e → ops[m]? = some q → isEff eff m q.op = false) → depB p i = true
theorem find_first (f : Oper × Nat → Bool) : ∀ (r : List Oper) (s e : Nat) (p : Oper), r[e]? = some p → f (p, s + e) = true → (∀ (m : Nat) (q : Oper), m < e → r[m]? = some q → f (q, s + m) = false) → (r.zipIdx s).find? f = some (p, s + e)
  | [], _, _, _, h, _, _ => by simp at h
  | o :: r, s, 0, p, h, h1, _ => by
    simp only [List.getElem?_cons_zero, Option.some.injEq] at h
    subst h
    simp only [Nat.add_zero] at h1 ⊢
    simp [h1]
  | o :: r, s, e + 1, p, h, h1, h2 => by
    have h0 := h2 0 o (by omega) rfl
    simp only [Nat.add_zero] at h0
    rw [List.zipIdx_cons, List.find?_cons, h0]
    have := find_first f r (s + 1) e p (by simpa using h) (by rw [Nat.add_assoc, Nat.add_comm 1 e]; exact h1) fun m q hm hq => by
      have := h2 (m + 1) q (by omega) (by simpa using hq)
      rw [Nat.add_assoc, Nat.add_comm 1 m]; exact this
    rw [this, Nat.add_assoc, Nat.add_comm 1 e]
theorem okB_spec {ops : List Oper} {eff : List Nat} : ∀ (r : List Oper) (i : Nat) (last : Option Nat), (∀ k : Nat, ops[i + k]? = r[k]?) → okB ops eff r i last = true →
    (∀ (e : Nat) (p : Oper), e < i → ops[e]? = some p → isEff eff e p.op = true → (∀ (m : Nat) (q : Oper), e < m → m < i → ops[m]? = some q → isEff eff m q.op = false) → last = some e) →
    ∀ (k : Nat) (o : Oper), i ≤ k → ops[k]? = some o → OkAt ops eff k o
  | [], i, last, hr, h, hl, k, o, hk, ho => by
    have := hr (k - i)
    rw [show i + (k - i) = k by omega, ho] at this
    simp at this
  | x :: r, i, last, hr, h, hl, k, o, hk, ho => by
    simp only [okB, Bool.and_eq_true] at h
    obtain ⟨⟨⟨⟨⟨⟨h1, h2⟩, h3⟩, h4⟩, h5⟩, h6⟩, h7⟩ := h
    have hx : ops[i]? = some x := by have := hr 0; simpa using this
    have hr' : ∀ k : Nat, ops[i + 1 + k]? = r[k]? := fun k => by
      have := hr (k + 1)
      rw [show i + 1 + k = i + (k + 1) by omega, this]; simp
    by_cases hki : k = i
    · subst hki
      rw [hx, Option.some.injEq] at ho
      subst ho
      refine ⟨fun e he hb => ?_, fun t ht j p hj hp => ?_, fun j want hg => ?_, fun d hd j p hj hp => ?_, fun hl hd => ?_, fun hf e p he hp hpe hno => ?_, fun hc e p he hp hpe hno => ?_⟩
      · have := List.all_eq_true.1 h1 e (by simpa using he)
        simpa [hb] using this
      · have := List.all_eq_true.1 (List.all_eq_true.1 h2 t ht) (p, j) (List.mk_mem_zipIdx_iff_getElem?.2 hj)
        simpa [hp] using this
      · rw [hg] at h3; simpa using h3
      · rw [hd] at h4
        have hm : p ∈ r := by
          have := hr' (j - (k + 1))
          rw [show k + 1 + (j - (k + 1)) = j by omega, hp] at this
          exact List.mem_of_getElem? this.symm
        have := List.all_eq_true.1 h4 p hm
        simpa using this
      · rw [hd] at h4; simp [hl] at h4
      · rw [hf, hl e p he hp hpe hno] at h5
        exact h5
      · rw [hc] at h6
        have := find_first (fun x => isEff eff x.2 x.1.op) r (k + 1) (e - (k + 1)) p (by rw [← hr', show k + 1 + (e - (k + 1)) = e by omega]; exact hp) (by rw [show k + 1 + (e - (k + 1)) = e by omega]; exact hpe)
          fun m q hm hq => hno _ _ (by omega) (by omega) (by rw [hr']; exact hq)
        rw [this] at h6
        exact h6
    · refine okB_spec r (i + 1) _ hr' h7 (fun e p he hp hpe hno => ?_) k o (by omega) ho
      by_cases hei : e = i
      · subst hei
        rw [hx, Option.some.injEq] at hp
        subst hp
        rw [if_pos hpe]
      · have := hno i x (by omega) (by omega) hx
        rw [if_neg (by rw [this]; simp)]
        exact hl e p (by omega) hp hpe fun m q h1 h2 => hno m q h1 (by omega)
theorem drawB_ok {ops : List Oper} {eff : List Nat} (h : drawB ops eff = true) (k : Nat) (o : Oper) (ho : ops[k]? = some o) : OkAt ops eff k o :=
  okB_spec ops 0 none (by simp) h (fun _ _ he => by omega) k o (Nat.zero_le _) ho

section
variable {P : Program} {T : TypeId → TR}
def setDst (dst : Option Tmp) (v : AV) (env : List AV) : List AV := match dst with | some d => env.set d v | none => env
structure StepAt (P : Program) (T : TypeId → TR) (all : List Oper) (eff : List Nat) (i : Nat) (o : Oper) (c c' : Cf) (v : AV) (s : Bool) : Prop where
  dst : ∀ d, o.dst = some d → d < c.env.length
  env : c'.env = setDst o.dst v c.env
  skip : s = true → v = .tup [] ∧ { c' with env := c.env } = c
  guard : ∀ j want, o.guard = some (j, want) → ∃ oj d gv, all[j]? = some oj ∧ oj.dst = some d ∧ c.env[d]? = some gv ∧ ((∃ b, gv = .bool b ∧ (s = true ↔ b ≠ want)) ∨ (gv = .tup [] ∧ s = true))
  free : o.guard = none → s = false
  go : s = false → StepIs P T eff i o.op c v { c' with env := c.env }
theorem putE_is {dst : Option Tmp} {v : AV} {c : Cf} {K : Cf → Prop} (h : putE dst v c K) : (∀ d, dst = some d → d < c.env.length) ∧ K { c with env := setDst dst v c.env } := by
  obtain ⟨env, L, nl, nt, G⟩ := c
  cases dst with
  | none => exact ⟨fun _ h => (by cases h), h⟩
  | some d =>
    simp only [putE, setK_iff] at h
    exact ⟨fun d' hd => (by cases hd; exact h.1), h.2⟩
def PendOk (T : TypeId → TR) (c : Cf) (p : Pend) : Prop := ∃ u, c.env[p.dst]? = some u ∧ qOp T c.L c.G c.env p.op fun v => v = u
theorem recheck_is {c : Cf} {K : Prop} : ∀ {l : List Pend}, recheckK T l c K → (∀ p ∈ l, PendOk T c p) ∧ K
  | [], h => ⟨fun _ h => (by cases h), h⟩
  | ⟨i, op, dst⟩ :: r, h => by
    simp only [recheckK, nthK_iff] at h
    obtain ⟨⟨u, h1, h2⟩, h3⟩ := h
    obtain ⟨h4, h5⟩ := recheck_is h3
    refine ⟨fun p hp => ?_, h5⟩
    rcases List.mem_cons.1 hp with rfl | hp
    · exact ⟨u, h1, h2⟩
    · exact h4 p hp
structure PlanOk (P : Program) (T : TypeId → TR) (all : List Oper) (eff : List Nat) (i : Nat) (pend : List Pend) (cs : Nat → Cf) (vs : Nat → AV) (sk : Nat → Bool) : Prop where
  step : ∀ (k : Nat) (o : Oper), i ≤ k → all[k]? = some o → StepAt P T all eff k o (cs k) (cs (k + 1)) (vs k) (sk k)
  reck : ∀ (k : Nat) (o : Oper), i ≤ k → all[k]? = some o → isEff eff k o.op = true → sk k = false →
    ∀ p : Pend, (p ∈ pend ∨ (i ≤ p.i ∧ p.i < k ∧ sk p.i = false ∧ ∃ q : Oper, all[p.i]? = some q ∧ isLoad q.op = true ∧ p.op = q.op ∧ q.dst = some p.dst)) →
    (∀ (e : Nat) (q : Oper), i ≤ e → p.i < e → e ≤ k → all[e]? = some q → isEff eff e q.op = true → depB q p.i = false) → PendOk T (cs (k + 1)) p
theorem evDraw_plan {all : List Oper} {eff : List Nat} {K : Cf → Prop} : ∀ (r : List Oper) (i : Nat) (c : Cf) (pend : List Pend), (∀ k : Nat, all[i + k]? = r[k]?) → (∀ p ∈ pend, p.i < i) → evDraw P T all eff r i c pend K →
    ∃ cs vs sk, cs i = c ∧ K (cs (i + r.length)) ∧ PlanOk P T all eff i pend cs vs sk
  | [], i, c, pend, hr, hp, h => by
    have no : ∀ (k : Nat) (o : Oper), i ≤ k → all[k]? = some o → False := fun k o hk ho => by
      have := hr (k - i)
      rw [show i + (k - i) = k by omega, ho] at this
      simp at this
    exact ⟨fun _ => c, fun _ => .top, fun _ => false, rfl, h, fun k o hk ho => (no k o hk ho).elim, fun k o hk ho => (no k o hk ho).elim⟩
  | x :: r, i, c, pend, hr, hp, h => by
    have hx : all[i]? = some x := by have := hr 0; simpa using this
    have hr' : ∀ k : Nat, all[i + 1 + k]? = r[k]? := fun k => by
      have := hr (k + 1)
      rw [show i + 1 + k = i + (k + 1) by omega, this]; simp
    -- one step ahead of the rest
    have join : ∀ (c' : Cf) (pend' : List Pend) (v : AV) (s : Bool), StepAt P T all eff i x c c' v s → (∀ p ∈ pend', p.i < i + 1) → (s = false → isEff eff i x.op = true → ∀ p ∈ pend, depB x p.i = false → PendOk T c' p) →
        (∀ p ∈ pend, (isEff eff i x.op = true → depB x p.i = false) → p ∈ pend') → (s = false → isLoad x.op = true → ∀ d, x.dst = some d → ⟨i, x.op, d⟩ ∈ pend') →
        evDraw P T all eff r (i + 1) c' pend' K → ∃ cs vs sk, cs i = c ∧ K (cs (i + (x :: r).length)) ∧ PlanOk P T all eff i pend cs vs sk := by
      intro c' pend' v s hs hpi hre hin hld hrest
      obtain ⟨cs, vs, sk, h1, h2, h3⟩ := evDraw_plan r (i + 1) c' pend' hr' hpi hrest
      refine ⟨fun k => if k = i then c else cs k, fun k => if k = i then v else vs k, fun k => if k = i then s else sk k, by simp, ?_, ?_, ?_⟩
      · simp only [List.length_cons]
        rw [if_neg (by omega), show i + (r.length + 1) = i + 1 + r.length by omega]
        exact h2
      · intro k o hk ho
        by_cases hki : k = i
        · subst hki
          rw [hx, Option.some.injEq] at ho
          subst ho
          simp only [if_true]
          rw [if_neg (by omega), h1]
          exact hs
        · simp only [if_neg hki]
          rw [if_neg (by omega)]
          exact h3.step k o (by omega) ho
      · intro k o hk ho he hsk p hpp hno
        by_cases hki : k = i
        · subst hki
          rw [hx, Option.some.injEq] at ho
          subst ho
          simp only [if_true] at hsk
          show PendOk T (if k + 1 = k then c else cs (k + 1)) p
          rw [if_neg (by omega), h1]
          rcases hpp with hpp | ⟨h4, h5, _⟩
          · exact hre hsk he p hpp (hno k _ (Nat.le_refl _) (hp p hpp) (Nat.le_refl _) hx he)
          · omega
        · simp only [if_neg hki] at hsk
          show PendOk T (if k + 1 = i then c else cs (k + 1)) p
          rw [if_neg (by omega)]
          refine h3.reck k o (by omega) ho he hsk p ?_ fun e q h4 => hno e q (by omega)
          rcases hpp with hpp | ⟨h4, h5, h6, q, h7, h8, h9, h10⟩
          · exact .inl (hin p hpp fun hei => hno i x (Nat.le_refl _) (hp p hpp) (by omega) hx hei)
          · by_cases hpi : p.i = i
            · simp only [if_pos hpi] at h6
              rw [hpi, hx, Option.some.injEq] at h7
              subst h7
              refine .inl ?_
              obtain ⟨pi, pop, pd⟩ := p
              simp only at hpi h9 h10
              subst hpi h9
              exact hld h6 h8 pd h10
            · simp only [if_neg hpi] at h6
              exact .inr ⟨by omega, h5, h6, q, h7, h8, h9, h10⟩
    have skip : (∀ j want, x.guard = some (j, want) → ∃ oj d gv, all[j]? = some oj ∧ oj.dst = some d ∧ c.env[d]? = some gv ∧ ((∃ b, gv = .bool b ∧ b ≠ want) ∨ gv = .tup [])) → x.guard ≠ none → (putE x.dst (.tup []) c fun c'' => evDraw P T all eff r (i + 1) c'' pend K) →
        ∃ cs vs sk, cs i = c ∧ K (cs (i + (x :: r).length)) ∧ PlanOk P T all eff i pend cs vs sk := fun hg hg0 h => by
      obtain ⟨h1, h2⟩ := putE_is h
      refine join { c with env := setDst x.dst (.tup []) c.env } pend (.tup []) true ⟨h1, rfl, fun _ => ⟨rfl, rfl⟩, fun j want hj => ?_, fun h => (hg0 h).elim, fun h => (by cases h)⟩ (fun p hpp => Nat.lt_succ_of_lt (hp p hpp)) (fun h => by cases h) (fun p hpp _ => hpp) (fun h => by cases h) h2
      obtain ⟨oj, d, gv, h3, h4, h5, h6⟩ := hg j want hj
      exact ⟨oj, d, gv, h3, h4, h5, h6.elim (fun ⟨b, e1, e2⟩ => .inl ⟨b, e1, by simp [e2]⟩) (fun e => .inr ⟨e, rfl⟩)⟩
    have go : (∀ j want, x.guard = some (j, want) → ∃ oj d b, all[j]? = some oj ∧ oj.dst = some d ∧ c.env[d]? = some (.bool b) ∧ b = want) →
        (stepK P T eff i x.op c fun v c' => putE x.dst v c' fun c'' => match isEff eff i x.op with
          | true => recheckK T (pendOf eff i x pend) c'' (evDraw P T all eff r (i + 1) c'' (pendOf eff i x pend) K)
          | false => evDraw P T all eff r (i + 1) c'' (pendOf eff i x pend) K) →
        ∃ cs vs sk, cs i = c ∧ K (cs (i + (x :: r).length)) ∧ PlanOk P T all eff i pend cs vs sk := fun hg h => by
      obtain ⟨⟨v, c1⟩, h1, hst⟩ := stepK_det (P := P) (T := T) (eff := eff) i x.op c (fun r' => putE x.dst r'.1 r'.2 fun c'' => match isEff eff i x.op with
          | true => recheckK T (pendOf eff i x pend) c'' (evDraw P T all eff r (i + 1) c'' (pendOf eff i x pend) K)
          | false => evDraw P T all eff r (i + 1) c'' (pendOf eff i x pend) K) h
      have hst : StepIs P T eff i x.op c v c1 := hst (fun r' => r'.1 = v ∧ r'.2 = c1) ⟨rfl, rfl⟩
      have hsh := hst.shape
      obtain ⟨h2, h3⟩ := putE_is h1
      have hsa : StepAt P T all eff i x c { c1 with env := setDst x.dst v c1.env } v false := by
        refine ⟨by rw [← hsh.1]; exact h2, by rw [← hsh.1], fun h => (by cases h), fun j want hj => ?_, fun _ => rfl, fun _ => ?_⟩
        · obtain ⟨oj, d, b, h3, h4, h5, h6⟩ := hg j want hj
          exact ⟨oj, d, _, h3, h4, h5, .inl ⟨b, rfl, by simp [h6]⟩⟩
        · rw [← hsh.1]; exact hst
      cases hei : isEff eff i x.op with
      | true =>
        rw [hei] at h3
        obtain ⟨h4, h5⟩ := recheck_is h3
        have hpo : pendOf eff i x pend = pend.filter fun p => !depB x p.i := by simp only [pendOf, hei]
        rw [hpo] at h4 h5
        refine join _ _ v false hsa (fun p hpp => Nat.lt_succ_of_lt (hp p (List.mem_filter.1 hpp).1)) (fun _ _ p hpp hd => h4 p (List.mem_filter.2 ⟨hpp, by simp [hd]⟩)) (fun p hpp hd => List.mem_filter.2 ⟨hpp, by simp [hd hei]⟩) (fun _ hl => ?_) h5
        rw [(isLoad_notEff hl).1] at hei; cases hei
      | false =>
        rw [hei] at h3
        simp only at h3
        cases hl : isLoad x.op with
        | false =>
          have hpo : pendOf eff i x pend = pend := by simp only [pendOf, hei, hl]
          rw [hpo] at h3
          exact join _ _ v false hsa (fun p hpp => Nat.lt_succ_of_lt (hp p hpp)) (fun _ h => by rw [hei] at h; cases h) (fun p hpp _ => hpp) (fun _ h => by rw [hl] at h; cases h) h3
        | true =>
          cases hd : x.dst with
          | none =>
            have hpo : pendOf eff i x pend = pend := by simp only [pendOf, hei, hl, hd]
            rw [hpo] at h3
            exact join _ _ v false hsa (fun p hpp => Nat.lt_succ_of_lt (hp p hpp)) (fun _ h => by rw [hei] at h; cases h) (fun p hpp _ => hpp) (fun _ _ d h => by rw [hd] at h; cases h) h3
          | some d =>
            have hpo : pendOf eff i x pend = pend ++ [⟨i, x.op, d⟩] := by simp only [pendOf, hei, hl, hd]
            rw [hpo] at h3
            refine join _ _ v false hsa (fun p hpp => ?_) (fun _ h => by rw [hei] at h; cases h) (fun p hpp _ => List.mem_append_left _ hpp) (fun _ _ d' h => ?_) h3
            · rcases List.mem_append.1 hpp with hpp | hpp
              · exact Nat.lt_succ_of_lt (hp p hpp)
              · simp only [List.mem_singleton] at hpp; subst hpp; exact Nat.lt_succ_self _
            · rw [hd, Option.some.injEq] at h; subst h; simp
    simp only [evDraw] at h
    cases hg : x.guard with
    | none =>
      rw [hg] at h
      exact go (fun j want hj => by rw [hg] at hj; cases hj) h
    | some jw =>
      obtain ⟨j, want⟩ := jw
      rw [hg] at h
      simp only at h
      obtain ⟨oj, hj, h⟩ := (nthK_iff _ _).1 h
      cases hd : oj.dst with
      | none => simp only [hd] at h
      | some d =>
        simp only [hd] at h
        obtain ⟨bv, hb, h⟩ := (nthK_iff _ _).1 h
        have hjw : ∀ j' want', x.guard = some (j', want') → j' = j ∧ want' = want := fun j' want' hj' => by
          rw [hg] at hj'
          simp only [Option.some.injEq, Prod.mk.injEq] at hj'
          exact ⟨hj'.1.symm, hj'.2.symm⟩
        rcases guardK_is h with ⟨b, rfl, ⟨hbw, k⟩ | ⟨hbw, k⟩⟩ | ⟨rfl, k⟩
        · refine go (fun j' want' hj' => ?_) k
          obtain ⟨rfl, rfl⟩ := hjw j' want' hj'
          exact ⟨oj, d, b, hj, hd, hb, hbw⟩
        · refine skip (fun j' want' hj' => ?_) (by rw [hg]; simp) k
          obtain ⟨rfl, rfl⟩ := hjw j' want' hj'
          exact ⟨oj, d, _, hj, hd, hb, .inl ⟨b, rfl, hbw⟩⟩
        · refine skip (fun j' want' hj' => ?_) (by rw [hg]; simp) k
          obtain ⟨rfl, rfl⟩ := hjw j' want' hj'
          exact ⟨oj, d, _, hj, hd, hb, .inr rfl⟩
end
end Go.Proofs.Ytmmmaekaoanceaa
