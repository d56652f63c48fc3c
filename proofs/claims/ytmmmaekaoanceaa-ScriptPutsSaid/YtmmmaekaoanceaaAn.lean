/- A region that draws its order: every order does what the text's order does. -/
import Derived.Test.YtmmmaekaoanceaaAm
namespace Go.Proofs.Ytmmmaekaoanceaa
open Go Go.RowKit

theorem last_such (R : Nat → Prop) : ∀ (i e : Nat), e < i → R e → ∃ m, e ≤ m ∧ m < i ∧ R m ∧ ∀ k, m < k → k < i → ¬ R k
  | 0, e, he, _ => by omega
  | i + 1, e, he, hR => by
    by_cases hi : R i
    · exact ⟨i, by omega, by omega, hi, fun k h1 h2 => by omega⟩
    · have hei : e ≠ i := fun h => hi (h ▸ hR)
      obtain ⟨m, h1, h2, h3, h4⟩ := last_such R i e (by omega) hR
      exact ⟨m, h1, by omega, h3, fun k h5 h6 => if hk : k = i then hk ▸ hi else h4 k h5 (by omega)⟩
theorem first_such (R : Nat → Prop) : ∀ (n i e : Nat), e - i = n → i < e → R e → ∃ m, i < m ∧ m ≤ e ∧ R m ∧ ∀ k, i < k → k < m → ¬ R k
  | 0, i, e, hn, he, _ => by omega
  | n + 1, i, e, hn, he, hR => by
    by_cases hi : R (i + 1)
    · exact ⟨i + 1, by omega, by omega, hi, fun k h1 h2 => by omega⟩
    · have hei : e ≠ i + 1 := fun h => hi (h ▸ hR)
      obtain ⟨m, h1, h2, h3, h4⟩ := first_such R n (i + 1) e (by omega) (by omega) hR
      exact ⟨m, by omega, h2, h3, fun k h5 h6 => if hk : k = i + 1 then hk ▸ hi else h4 k (by omega) h6⟩
theorem depB_iff {o : Oper} {i : Nat} : depB o i = true ↔ ∃ e ∈ o.after, Region.binds .any e = true ∧ e.on = i := by
  unfold depB
  rw [List.any_eq_true]
  simp

section
variable {P : Program} {T : TypeId → TR} {ops : Array Oper} {eff : List Nat} {cs : Nat → Cf} {vs : Nat → AV} {sk : Nat → Bool}
def EffAt (ops : List Oper) (eff : List Nat) (e : Nat) : Prop := ∃ o : Oper, ops[e]? = some o ∧ isEff eff e o.op = true
/-- memory, env aside -/
def SameMem (c c' : Cf) : Prop := { c' with env := c.env } = c
theorem SameMem.refl (c : Cf) : SameMem c c := rfl
theorem SameMem.trans {a b c : Cf} (h : SameMem a b) (k : SameMem b c) : SameMem a c := by
  obtain ⟨⟩ := a; obtain ⟨⟩ := b; obtain ⟨⟩ := c
  simp only [SameMem, Cf.mk.injEq] at *
  simp_all
theorem SameMem.symm {a b : Cf} (h : SameMem a b) : SameMem b a := by
  obtain ⟨⟩ := a; obtain ⟨⟩ := b
  simp only [SameMem, Cf.mk.injEq] at *
  simp_all
theorem SameMem.on {a b : Cf} (h : SameMem a b) : b.L = a.L ∧ b.nl = a.nl ∧ b.nt = a.nt ∧ b.G = a.G := by
  obtain ⟨⟩ := a; obtain ⟨⟩ := b
  simp only [SameMem, Cf.mk.injEq] at *
  simp_all
theorem mem_eq (hp : PlanOk P T ops.toList eff 0 [] cs vs sk) : ∀ (d q r : Nat), r = q + d → r ≤ ops.size → (∀ (m : Nat) (o : Oper), q ≤ m → m < r → ops.toList[m]? = some o → isEff eff m o.op = true → sk m = true) → SameMem (cs q) (cs r)
  | 0, q, r, h, _, _ => by subst h; exact SameMem.refl _
  | d + 1, q, r, h, hr, hno => by
    have h1 := mem_eq hp d q (q + d) rfl (by omega) fun m o h1 h2 => hno m o h1 (by omega)
    refine h1.trans ?_
    subst h
    have hlt : q + d < ops.size := by omega
    have ho : ops.toList[q + d]? = some ops[q + d] := by simp [hlt]
    have st := hp.step (q + d) _ (Nat.zero_le _) ho
    cases hs : sk (q + d) with
    | true => exact (st.skip hs).2
    | false =>
      have hne : isEff eff (q + d) ops[q + d].op = false := by
        cases he : isEff eff (q + d) ops[q + d].op with
        | false => rfl
        | true => rw [hno _ _ (by omega) (by omega) ho he] at hs; cases hs
      exact (st.go hs).shape.2 hne
theorem env_len (hp : PlanOk P T ops.toList eff 0 [] cs vs sk) : ∀ k, k ≤ ops.size → (cs k).env.length = (cs 0).env.length
  | 0, _ => rfl
  | k + 1, h => by
    have hlt : k < ops.size := by omega
    have st := hp.step k ops[k] (Nat.zero_le _) (by simp [hlt])
    rw [st.env, ← env_len hp k (by omega)]
    unfold setDst
    split <;> simp
theorem set_at (dst : Option Tmp) (v : AV) (env : List AV) (t : Nat) (h : dst ≠ some t) : (setDst dst v env)[t]? = env[t]? := by
  unfold setDst
  split
  · rename_i d
    exact List.getElem?_set_ne (fun e => h (by rw [e]))
  · rfl
/-- a slot that nobody writes from i on -/
theorem slot_eq (hp : PlanOk P T ops.toList eff 0 [] cs vs sk) (t i : Nat) (hw : ∀ (j : Nat) (p : Oper), ops.toList[j]? = some p → p.dst = some t → j < i) : ∀ d, i + d ≤ ops.size → (cs (i + d)).env[t]? = (cs i).env[t]?
  | 0, _ => rfl
  | d + 1, h => by
    have hlt : i + d < ops.size := by omega
    have ho : ops.toList[i + d]? = some ops[i + d] := by simp [hlt]
    have st := hp.step (i + d) _ (Nat.zero_le _) ho
    rw [← slot_eq hp t i hw d (by omega), show i + (d + 1) = i + d + 1 by omega, st.env]
    exact set_at _ _ _ _ fun hd => by have := hw _ _ ho hd; omega
theorem slot_to (hp : PlanOk P T ops.toList eff 0 [] cs vs sk) (t i k : Nat) (hw : ∀ (j : Nat) (p : Oper), ops.toList[j]? = some p → p.dst = some t → j < i) (h1 : i ≤ k) (h2 : k ≤ ops.size) : (cs k).env[t]? = (cs i).env[t]? := by
  have := slot_eq hp t i hw (k - i) (by omega)
  rwa [show i + (k - i) = k by omega] at this
theorem slot_at (hb : drawB ops.toList eff = true) (hp : PlanOk P T ops.toList eff 0 [] cs vs sk) (i : Nat) (o : Oper) (ho : ops.toList[i]? = some o) (t : Nat) (hd : o.dst = some t) (k : Nat) (h1 : i < k) (h2 : k ≤ ops.size) : (cs k).env[t]? = some (vs i) := by
  have hw : ∀ (j : Nat) (p : Oper), ops.toList[j]? = some p → p.dst = some t → j < i + 1 := fun j p hj hpd => by
    rcases Nat.lt_or_ge i j with h | h
    · exact absurd hpd ((drawB_ok hb i o ho).f4 t hd j p h hj)
    · omega
  rw [slot_to hp t (i + 1) k hw h1 h2]
  have st := hp.step i o (Nat.zero_le _) ho
  rw [st.env, hd]
  simp [setDst, st.dst t hd]
structure Sim (P : Program) (T : TypeId → TR) (ops : Array Oper) (eff : List Nat) (cs : Nat → Cf) (listed : Array Bool) (q : Nat) (env : List AV) : Prop where
  size : listed.size = ops.size
  down : ∀ (i : Nat) (o : Oper), ops.toList[i]? = some o → listed.getD i false = true → ∀ e ∈ o.after, Region.binds .any e = true → listed.getD e.on false = true
  effs : ∀ (e : Nat) (o : Oper), ops.toList[e]? = some o → isEff eff e o.op = true → (listed.getD e false = true ↔ e < q)
  hq : q ≤ ops.size
  len : env.length = (cs ops.size).env.length
  exact : ∀ t : Nat, (∀ (j : Nat) (p : Oper), ops.toList[j]? = some p → p.dst = some t → listed.getD j false = true) → env[t]? = (cs ops.size).env[t]?
theorem getD_set {listed : Array Bool} {i j : Nat} (hi : i < listed.size) : (listed.setIfInBounds i true).getD j false = true ↔ j = i ∨ listed.getD j false = true := by
  by_cases h : j = i
  · subst h; simp [hi]
  · simp [Array.getElem?_setIfInBounds_ne (Ne.symm h), h]
theorem getD_ft {listed : Array Bool} {j : Nat} (h : j < listed.size) : listed.getD j true = listed.getD j false := by simp [Array.getD, h]
theorem Sim.next {listed : Array Bool} {q : Nat} {env : List AV} (hb : drawB ops.toList eff = true) (hp : PlanOk P T ops.toList eff 0 [] cs vs sk) (s : Sim P T ops eff cs listed q env) {i : Nat} {o : Oper} (ho : ops.toList[i]? = some o) (hi : listed.getD i false = false)
    (hr : ∀ e ∈ o.after, Region.binds .any e = true → listed.getD e.on false = true) :
    Sim P T ops eff cs (listed.setIfInBounds i true) (if isEff eff i o.op = true then i + 1 else q) (setDst o.dst (vs i) env) := by
  have hlt : i < ops.size := by have := (List.getElem?_eq_some_iff.1 ho).1; simpa using this
  have hil : i < listed.size := by rw [s.size]; exact hlt
  refine ⟨by simp [s.size], fun j p hj hl e he hbn => ?_, fun e p hep hee => ?_, by split <;> first | omega | exact s.hq, ?_, fun t ht => ?_⟩
  · rcases (getD_set hil).1 hl with rfl | hl
    · rw [ho, Option.some.injEq] at hj; subst hj
      exact (getD_set hil).2 (.inr (hr e he hbn))
    · exact (getD_set hil).2 (.inr (s.down j p hj hl e he hbn))
  · rw [getD_set hil]
    by_cases hei : e = i
    · subst hei
      rw [ho, Option.some.injEq] at hep; subst hep
      rw [if_pos hee]
      exact ⟨fun _ => Nat.lt_succ_self _, fun _ => .inl rfl⟩
    · rw [s.effs e p hep hee]
      by_cases hio : isEff eff i o.op = true
      · rw [if_pos hio]
        constructor
        · rintro (h | h)
          · omega
          · rcases Nat.lt_or_ge e i with h1 | h1
            · omega
            · -- an effect behind i that was carried out
              exfalso
              obtain ⟨m, h2, h3, ⟨p', h4, h5⟩, h6⟩ := first_such (EffAt ops.toList eff) _ i e rfl (by omega) ⟨p, hep, hee⟩
              have hm : listed.getD m false = true := (s.effs m p' h4 h5).2 (by omega)
              have := (drawB_ok hb m p' h4).f5 (by simp [h5]) i o h2 ho hio (fun k q h7 h8 h9 => by
                cases hk : isEff eff k q.op with
                | false => rfl
                | true => exact absurd ⟨q, h9, hk⟩ (h6 k h7 h8))
              obtain ⟨ed, he1, he2, he3⟩ := depB_iff.1 this
              have := s.down m p' h4 hm ed he1 he2
              rw [he3, hi] at this; cases this
        · intro h
          have h1 : e < i := by omega
          obtain ⟨m, h2, h3, ⟨p', h4, h5⟩, h6⟩ := last_such (EffAt ops.toList eff) i e h1 ⟨p, hep, hee⟩
          have := (drawB_ok hb i o ho).f5 (by simp [hio]) m p' h3 h4 h5 (fun k q h7 h8 h9 => by
            cases hk : isEff eff k q.op with
            | false => rfl
            | true => exact absurd ⟨q, h9, hk⟩ (h6 k h7 h8))
          obtain ⟨ed, he1, he2, he3⟩ := depB_iff.1 this
          have := hr ed he1 he2
          rw [he3] at this
          have := (s.effs m p' h4 h5).1 this
          exact .inr (by omega)
      · rw [if_neg hio]
        exact ⟨fun h => h.resolve_left hei, .inr⟩
  · rw [← s.len]; unfold setDst; split <;> simp
  · by_cases hd : o.dst = some t
    · have hF := slot_at hb hp i o ho t hd ops.size hlt (Nat.le_refl _)
      have htl := (List.getElem?_eq_some_iff.1 hF).1
      rw [hF, hd]
      simp only [setDst]
      rw [List.getElem?_set_self (by rw [s.len]; exact htl)]
    · rw [set_at _ _ _ _ hd]
      refine s.exact t fun j p hj hpd => ?_
      rcases (getD_set hil).1 (ht j p hj hpd) with rfl | h
      · rw [ho, Option.some.injEq] at hj; subst hj; exact absurd hpd hd
      · exact h
/-- where i can be carried out: how memory stands to what it was in the text's order -/
theorem Sim.mem {listed : Array Bool} {q : Nat} {env : List AV} (hb : drawB ops.toList eff = true) (hp : PlanOk P T ops.toList eff 0 [] cs vs sk) (s : Sim P T ops eff cs listed q env) {i : Nat} {o : Oper} (ho : ops.toList[i]? = some o) (hi : listed.getD i false = false)
    (hr : ∀ e ∈ o.after, Region.binds .any e = true → listed.getD e.on false = true) :
    ((isEff eff i o.op || isCall eff i o.op) = true → SameMem (cs q) (cs i)) ∧ (isLoad o.op = true → sk i = false → qOp T (cs q).L (cs q).G (cs i).env o.op fun x => x = vs i) := by
  have hlt : i < ops.size := by have := (List.getElem?_eq_some_iff.1 ho).1; simpa using this
  have fl := drawB_ok hb i o ho
  -- no effect between q and i
  have below : (isEff eff i o.op || isCall eff i o.op || isLoad o.op) = true → ∀ e, q ≤ e → e < i → ¬ EffAt ops.toList eff e := fun hf e h1 h2 hE => by
    obtain ⟨m, h3, h4, ⟨p', h5, h6⟩, h7⟩ := last_such (EffAt ops.toList eff) i e h2 hE
    have := fl.f5 hf m p' h4 h5 h6 (fun k q h7' h8 h9 => by
      cases hk : isEff eff k q.op with
      | false => rfl
      | true => exact absurd ⟨q, h9, hk⟩ (h7 k h7' h8))
    obtain ⟨ed, he1, he2, he3⟩ := depB_iff.1 this
    have := hr ed he1 he2
    rw [he3] at this
    have := (s.effs m p' h5 h6).1 this
    omega
  have low : (isEff eff i o.op || isCall eff i o.op || isLoad o.op) = true → q ≤ i → SameMem (cs q) (cs i) := fun hf hqi => by
    refine mem_eq hp (i - q) q i (by omega) (by omega) fun m o' h1 h2 h3 h4 => absurd ⟨o', h3, h4⟩ (below hf m h1 h2)
  refine ⟨fun hf => ?_, fun hl hsk => ?_⟩
  · rcases Nat.lt_or_ge i q with hiq | hiq
    · cases he : isEff eff i o.op with
      | true => rw [(s.effs i o ho he).2 hiq] at hi; cases hi
      | false =>
        rw [he, Bool.false_or] at hf
        refine (mem_eq hp (q - i) i q (by omega) s.hq fun m o' h1 h2 h3 h4 => ?_).symm
        exfalso
        have hmi : m ≠ i := fun h => by subst h; rw [ho, Option.some.injEq] at h3; subst h3; rw [he] at h4; cases h4
        obtain ⟨m', h5, h6, ⟨p', h7, h8⟩, h9⟩ := first_such (EffAt ops.toList eff) _ i m rfl (by omega) ⟨o', h3, h4⟩
        have := fl.f6 hf m' p' h5 h7 h8 (fun k q h10 h11 h12 => by
          cases hk : isEff eff k q.op with
          | false => rfl
          | true => exact absurd ⟨q, h12, hk⟩ (h9 k h10 h11))
        obtain ⟨ed, he1, he2, he3⟩ := depB_iff.1 this
        have := s.down m' p' h7 ((s.effs m' p' h7 h8).2 (by omega)) ed he1 he2
        rw [he3, hi] at this; cases this
    · exact low (by rw [hf]; rfl) hiq
  · have st := hp.step i o (Nat.zero_le _) ho
    have hne := isLoad_notEff (eff := eff) (i := i) hl
    have hgo := st.go hsk
    have hq0 : qOp T (cs i).L (cs i).G (cs i).env o.op fun x => x = vs i := by
      have h0 : { cs (i + 1) with env := (cs i).env } = cs i := hgo.shape.2 hne.1
      rw [h0] at hgo
      cases hop : o.op <;> rw [hop] at hl <;> simp only [isLoad, reduceCtorEq] at hl
      · rw [hop] at hgo
        obtain ⟨v1, h1, h2⟩ := qOp_det T (cs i).L (cs i).G (cs i).env (.load _ _) (fun v => v = vs i ∧ cs i = cs i) (by
          have := hgo; unfold StepIs at this
          revert this
          generalize cs i = c
          obtain ⟨env, L, nl, nt, G⟩ := c
          exact fun h => h)
        exact h2 _ h1.1
      · rw [hop] at hgo
        obtain ⟨v1, h1, h2⟩ := qOp_det T (cs i).L (cs i).G (cs i).env (.lookup _ _ _ _) (fun v => v = vs i ∧ cs i = cs i) (by
          have := hgo; unfold StepIs at this
          revert this
          generalize cs i = c
          obtain ⟨env, L, nl, nt, G⟩ := c
          exact fun h => h)
        exact h2 _ h1.1
    have same : ∀ c : Cf, SameMem (cs q) c → qOp T c.L c.G (cs i).env o.op (fun x => x = vs i) → qOp T (cs q).L (cs q).G (cs i).env o.op fun x => x = vs i := fun c hc h => by
      obtain ⟨h1, h2, h3, h4⟩ := hc.on
      rw [h1, h4] at h; exact h
    rcases Nat.lt_or_ge i q with hiq | hiq
    · by_cases hex : ∃ e, i ≤ e ∧ e < q ∧ (∃ p, ops.toList[e]? = some p ∧ isEff eff e p.op = true ∧ sk e = false)
      · obtain ⟨e0, h1, h2, h3⟩ := hex
        obtain ⟨e, h4, h5, ⟨p, h6, h7, h8⟩, h9⟩ := last_such (fun e => ∃ p, ops.toList[e]? = some p ∧ isEff eff e p.op = true ∧ sk e = false) q e0 h2 h3
        have hei : e ≠ i := fun h => by subst h; rw [ho, Option.some.injEq] at h6; subst h6; rw [hne.1] at h7; cases h7
        cases hd : o.dst with
        | none => exact absurd hd (fl.f4b hl)
        | some d =>
          have hpk := hp.reck e p (Nat.zero_le _) h6 h7 h8 ⟨i, o.op, d⟩ (.inr ⟨Nat.zero_le _, by show i < e; omega, hsk, o, ho, hl, rfl, hd⟩) (fun e' p' _ h10 h11 h12 h13 => by
            cases hdp : depB p' i with
            | false => rfl
            | true =>
              obtain ⟨ed, he1, he2, he3⟩ := depB_iff.1 hdp
              have := s.down e' p' h12 ((s.effs e' p' h12 h13).2 (by omega)) ed he1 he2
              rw [he3, hi] at this; cases this)
          obtain ⟨u, hu1, hu2⟩ := hpk
          rw [slot_at hb hp i o ho d hd (e + 1) (by omega) (by have := s.hq; omega), Option.some.injEq] at hu1
          subst hu1
          have hmem : SameMem (cs q) (cs (e + 1)) := (mem_eq hp (q - (e + 1)) (e + 1) q (by omega) s.hq fun m o' h10 h11 h12 h13 => by
            cases hsm : sk m with
            | true => rfl
            | false => exact absurd ⟨o', h12, h13, hsm⟩ (h9 m (by omega) h11)).symm
          refine same _ hmem ?_
          rw [← qOp_eq (env := (cs (e + 1)).env) (L := (cs (e + 1)).L) (G := (cs (e + 1)).G) (fun t ht => slot_to hp t i (e + 1) (fun j pj hj hpd => (fl.f2 t ht j pj hj hpd).2) (by omega) (by have := s.hq; omega)) (fun _ => ⟨rfl, rfl⟩)]
          exact hu2
      · refine same _ (mem_eq hp (q - i) i q (by omega) s.hq fun m o' h10 h11 h12 h13 => ?_).symm hq0
        cases hsm : sk m with
        | true => rfl
        | false => exact absurd ⟨m, h10, h11, o', h12, h13, hsm⟩ hex
    · exact same _ (low (by simp [hl]) hiq) hq0
theorem sim_sound (TO : TOk P T) (hb : drawB ops.toList eff = true) (hp : PlanOk P T ops.toList eff 0 [] cs vs sk) {K : Cf → Prop} (hK : K (cs ops.size)) {g0 : Gh} {w0 : World} {Q : Exit → Act → World → Prop}
    (hQ : ∀ g' w' a' c', K c' → St T g' w' a' c' → Ext g0 w0 g' w' → Q .normal a' w') : ∀ (fuel : Nat) (listed : Array Bool) (U : List Nat) (q : Nat) (env : List AV) (g : Gh) (w : World) (a : Act),
    U.length ≤ fuel → (∀ i, i < ops.size → listed.getD i false = false → i ∈ U) → Sim P T ops eff cs listed q env → St T g w a ⟨env, (cs q).L, (cs q).nl, (cs q).nt, (cs q).G⟩ → Ext g0 w0 g w → wpAny P .any ops Q fuel listed a w := by
  intro fuel
  induction fuel with
  | zero =>
    intro listed U q env g w a hU hin s st hx
    have hall : ∀ i, i < ops.size → listed.getD i false = true := fun i hi => by
      cases h : listed.getD i false with
      | true => rfl
      | false => have := hin i hi h; rw [List.length_eq_zero_iff.1 (by omega : U.length = 0)] at this; cases this
    have hnil : Region.ready .any ops listed = [] := by
      apply List.eq_nil_iff_forall_not_mem.2
      intro j hj
      obtain ⟨h1, o, h2, _⟩ := mem_ready.1 hj
      have hjl : j < ops.size := (Array.getElem?_eq_some_iff.1 h2).1
      rw [getD_ft (by rw [s.size]; exact hjl), hall j hjl] at h1; cases h1
    exact ⟨hnil, (fin_all hall s st hx)⟩
  | succ fuel ih =>
    intro listed U q env g w a hU hin s st hx
    refine ⟨fun hnil => ?_, fun i hi => ?_⟩
    · have hall : ∀ n i, i < n → i < ops.size → listed.getD i false = true := by
        intro n
        induction n with
        | zero => intro i h; omega
        | succ n ihn =>
          intro i hin' hi
          cases h : listed.getD i false with
          | true => rfl
          | false =>
            have ho : ops[i]? = some ops[i] := by simp [hi]
            have : i ∈ Region.ready .any ops listed := mem_ready.2 ⟨by rw [getD_ft (by rw [s.size]; exact hi)]; exact h, _, ho, fun e he hbn => by
              have := (drawB_ok hb i ops[i] (by simp [hi])).f1 e he hbn
              exact ihn e.on (by omega) (by omega)⟩
            rw [hnil] at this; cases this
      exact fin_all (fun i hi => hall (i + 1) i (by omega) hi) s st hx
    · obtain ⟨hun, o, hoa, hready⟩ := mem_ready.1 hi
      have hlt : i < ops.size := (Array.getElem?_eq_some_iff.1 hoa).1
      have ho : ops.toList[i]? = some o := by simpa using hoa
      rw [getD_ft (by rw [s.size]; exact hlt)] at hun
      have stp := hp.step i o (Nat.zero_le _) ho
      have fl := drawB_ok hb i o ho
      have hmem := s.mem hb hp ho hun hready
      -- a slot whose writers are all carried out and stand ahead of i
      have slot : ∀ t : Nat, (∀ (j : Nat) (p : Oper), ops.toList[j]? = some p → p.dst = some t → depB o j = true ∧ j < i) → (cs i).env[t]? = env[t]? := fun t ht => by
        rw [s.exact t fun j p hj hpd => ?_, slot_to hp t i ops.size (fun j p hj hpd => (ht j p hj hpd).2) (by omega) (Nat.le_refl _)]
        obtain ⟨ed, he1, he2, he3⟩ := depB_iff.1 (ht j p hj hpd).1
        rw [← he3]; exact hready ed he1 he2
      have hUe : (U.erase i).length ≤ fuel := by
        rw [List.length_erase_of_mem (hin i hlt hun)]; omega
      have hine : ∀ j, j < ops.size → (listed.setIfInBounds i true).getD j false = false → j ∈ U.erase i := fun j hj h => by
        have hil : i < listed.size := by rw [s.size]; exact hlt
        have : ¬ (j = i ∨ listed.getD j false = true) := fun hh => by rw [(getD_set hil).2 hh] at h; cases h
        exact (List.mem_erase_of_ne (fun e => this (.inl e))).2 (hin j hj (by cases hjl : listed.getD j false with | false => rfl | true => exact absurd (.inr hjl) this))
      have snext := s.next hb hp ho hun hready
      have hdl : ∀ d, o.dst = some d → d < env.length := fun d hd => by
        have := stp.dst d hd
        rw [s.len, env_len hp _ (Nat.le_refl _), ← env_len hp i (by omega)]; exact this
      -- go on with a value put
      have goOn : ∀ (g' : Gh) (w' : World) (u : Value) (L : List LB) (nl nt : Nat) (G : Glob), Rel T g' L nl nt G w' → EnvR T g' w' env a → Cz T g' w' (vs i) u → Ext g w g' w' →
          (let q' := if isEff eff i o.op = true then i + 1 else q; L = (cs q').L ∧ nl = (cs q').nl ∧ nt = (cs q').nt ∧ G = (cs q').G) →
          wpAny P .any ops Q fuel (listed.setIfInBounds i true) (a.put o.dst u) w' := by
        intro g' w' u L nl nt G hrel henv hv hext hq'
        obtain ⟨rfl, rfl, rfl, rfl⟩ := hq'
        refine ih _ (U.erase i) _ _ g' w' _ hUe hine snext ?_ (hx.trans hext)
        refine St.mk' hrel ?_
        cases hd : o.dst with
        | none => exact henv
        | some d => exact henv.put hv
      -- is it carried out?
      have hwant : Region.wanted o (yielded ops a.tmps) = !(sk i) := by
        cases hg : o.guard with
        | none => rw [stp.free hg]; simp [Region.wanted, hg]
        | some jw =>
          obtain ⟨j, want⟩ := jw
          obtain ⟨oj, d, gv, h1, h2, h3, h4⟩ := stp.guard j want hg
          have hji := fl.f3 j want hg
          have hsl : (cs i).env[d]? = env[d]? := slot d fun j' p hj' hpd => by
            have : j' = j := by
              rcases Nat.lt_trichotomy j' j with h | h | h
              · exact absurd h2 ((drawB_ok hb j' p hj').f4 d hpd j oj h h1)
              · exact h
              · exact absurd hpd ((drawB_ok hb j oj h1).f4 d h2 j' p h hj')
            subst this; exact hji
          rw [hsl] at h3
          have hdlt := (List.getElem?_eq_some_iff.1 h3).1
          have at_ : ∀ u, a.tmps.getD d undef = u → a.tmps[d]? = some u := fun u hu => by
            have hdl : d < a.tmps.size := by rw [st.size]; exact hdlt
            rw [Array.getElem?_eq_getElem hdl]
            rw [arr_getD a.tmps d hdl] at hu
            rw [hu]
          have h1' : ops[j]? = some oj := by simpa using h1
          rcases h4 with ⟨b, rfl, h4⟩ | ⟨rfl, h4⟩
          · have hy : yielded ops a.tmps j = some b := by
              simp only [yielded, h1', Option.bind_some, h2, at_ _ (cz_bool (st.vals d _ h3))]
            simp only [Region.wanted, hg, hy]
            cases hs : sk i with
            | true => have := h4.1 hs; simpa using this
            | false =>
              have : ¬ b ≠ want := fun h => by rw [h4.2 h] at hs; cases hs
              simpa using this
          · obtain ⟨us, hu, _, _⟩ := cz_tup (st.vals d _ h3)
            have hy : yielded ops a.tmps j = none := by
              simp only [yielded, h1', Option.bind_some, h2, at_ _ hu]
            rw [h4]
            simp [Region.wanted, hg, hy]
      unfold wpOp
      simp only [hoa]
      cases hs : sk i with
      | true =>
        rw [hs, Bool.not_true] at hwant
        rw [if_neg (by rw [hwant]; simp)]
        obtain ⟨hv, hm⟩ := stp.skip hs
        refine goOn g w undef _ _ _ _ st.rel st.env (by rw [hv]; exact .tup _ _ rfl fun i c u hc => by simp at hc) (Ext.refl _ _) ?_
        by_cases he : isEff eff i o.op = true
        · have hm1 := ((hmem.1 (by simp [he])).trans hm).on
          simp only [he, if_true]
          exact ⟨hm1.1.symm, hm1.2.1.symm, hm1.2.2.1.symm, hm1.2.2.2.symm⟩
        · simp only [if_neg he, and_self]
      | false =>
        rw [hs, Bool.not_false] at hwant
        rw [if_pos hwant]
        refine .inl ?_
        have hgo := stp.go hs
        -- the same step where memory stands now
        have hst : StepIs P T eff i o.op ⟨env, (cs q).L, (cs q).nl, (cs q).nt, (cs q).G⟩ (vs i) (let q' := if isEff eff i o.op = true then i + 1 else q; ⟨env, (cs q').L, (cs q').nl, (cs q').nt, (cs q').G⟩) := by
          have hops : ∀ t ∈ opTmps o.op, (cs i).env[t]? = env[t]? := fun t ht => slot t (fl.f2 t ht)
          by_cases he : isEff eff i o.op = true
          · obtain ⟨h1, h2, h3, h4⟩ := (hmem.1 (by simp [he])).on
            simp only [he, if_true]
            rw [← h1, ← h2, ← h3, ← h4]
            exact StepIs.same hgo hops
          · have he' : isEff eff i o.op = false := by simpa using he
            simp only [if_neg he]
            have h0 := hgo.shape.2 he'
            rw [h0] at hgo
            have hgo' : StepIs P T eff i o.op ⟨(cs i).env, (cs i).L, (cs i).nl, (cs i).nt, (cs i).G⟩ (vs i) ⟨(cs i).env, (cs i).L, (cs i).nl, (cs i).nt, (cs i).G⟩ := hgo
            by_cases hc : isCall eff i o.op = true
            · obtain ⟨h1, h2, h3, h4⟩ := (hmem.1 (by simp [hc])).on
              rw [← h1, ← h2, ← h3, ← h4]
              exact StepIs.same hgo' hops
            · have hc' : isCall eff i o.op = false := by simpa using hc
              exact StepIs.same (hgo'.other he' hc' fun hl => hmem.2 hl hs) hops
        refine evOp0_sound TO st o (fun v c' g' w' u hvc hrel henv hv hext => ?_) hst.ev
        obtain ⟨rfl, rfl⟩ := hvc
        exact goOn g' w' u _ _ _ _ hrel henv hv hext ⟨rfl, rfl, rfl, rfl⟩
where
  fin_all {listed : Array Bool} {q : Nat} {env : List AV} {g : Gh} {w : World} {a : Act} (hall : ∀ i, i < ops.size → listed.getD i false = true) (s : Sim P T ops eff cs listed q env) (st : St T g w a ⟨env, (cs q).L, (cs q).nl, (cs q).nt, (cs q).G⟩) (hx : Ext g0 w0 g w) : Q .normal a w := by
    have hlt : ∀ (j : Nat) (p : Oper), ops.toList[j]? = some p → j < ops.size := fun j p hj => by have := (List.getElem?_eq_some_iff.1 hj).1; simpa using this
    have he : env = (cs ops.size).env := List.ext_getElem? fun t => s.exact t fun j p hj _ => hall j (hlt j p hj)
    obtain ⟨h1, h2, h3, h4⟩ := (mem_eq hp (ops.size - q) q ops.size (by have := s.hq; omega) (Nat.le_refl _) fun m o h1 h2 h3 h4 => absurd ((s.effs m o h3 h4).1 (hall m h2)) (by omega)).on
    refine hQ g w a (cs ops.size) hK ?_ hx
    rw [← h1, ← h2, ← h3, ← h4, he] at st
    exact st
theorem draw_sound (TO : TOk P T) (hm : P.follows .mixedOrders = true) (hb : drawB ops.toList eff = true) {c : Cf} {K : Cf → Prop} (h : evDraw P T ops.toList eff ops.toList 0 c [] K) : DrawOk P T ops c K := by
  refine ⟨fun g a w st id Q hQ => wp_region_any hm ?_⟩
  obtain ⟨cs, vs, sk, rfl, h2, h3⟩ := evDraw_plan ops.toList 0 c [] (by simp) (fun p hp => by cases hp) h
  rw [Nat.zero_add, Array.length_toList] at h2
  have cx : Cx (fun _ => False) g w g { w with drawn := w.drawn + 1 } := ⟨⟨fun _ _ _ h1 h2 => ⟨h1, h2⟩, Nat.le_refl _, fun _ _ => rfl⟩, Nat.le_refl _, fun _ _ => rfl, Nat.le_refl _, fun _ _ _ => ⟨rfl, fun _ _ _ _ _ => ⟨rfl, rfl⟩⟩⟩
  have ext : Ext g w g { w with drawn := w.drawn + 1 } := ⟨fun _ _ _ h1 h2 => ⟨h1, h2⟩, Nat.le_refl _, fun _ _ => rfl, fun _ _ _ => ⟨rfl, rfl⟩, Nat.le_refl _, rfl, rfl, rfl⟩
  have hl0 : ∀ i, (Array.replicate ops.size false).getD i false = false := fun i => by
    simp [Array.getElem?_replicate]
    split <;> rfl
  refine sim_sound TO hb h3 h2 hQ ops.size _ (List.range ops.size) 0 (cs 0).env g _ a (by simp) (fun i hi _ => List.mem_range.2 hi) ⟨by simp, fun i o _ hl => (by rw [hl0] at hl; cases hl), fun e o _ _ => (by rw [hl0]; simp), Nat.zero_le _, (env_len h3 _ (Nat.le_refl _)).symm, fun t ht => ?_⟩ ?_ ext
  · have := slot_eq h3 t 0 (fun j p hj hpd => by have := ht j p hj hpd; rw [hl0] at this; cases this) ops.size (by omega)
    rw [Nat.zero_add] at this
    exact this.symm
  · exact St.mk' (Rel.new st.rel cx (fun k _ => ⟨rfl, rfl⟩) rfl st.rel.ht) (st.env.keep cx)
end
end Go.Proofs.Ytmmmaekaoanceaa
