/- The abstract run of code, of a function's body: what holds of it holds of the run of the program. -/
import Derived.Test.YtmmmaekaoanceaaAg
namespace Go.Proofs.Ytmmmaekaoanceaa
open Go Go.RowKit

section
variable {P : Program} {T : TypeId → TR}

theorem arr_getD (xs : Array Value) (i : Nat) (h : i < xs.size) : xs.getD i undef = xs[i] := by simp [Array.getD, h]
theorem EnvR.put {g : Gh} {w : World} {env : List AV} {a : Act} (h : EnvR T g w env a) {d : Tmp} {v : AV} {u : Value} (hv : Cz T g w v u) : EnvR T g w (env.set d v) (a.put (some d) u) := by
  refine ⟨by simp [Act.put, h.size], fun i x hi => ?_, h.defers⟩
  have hil := (List.getElem?_eq_some_iff.1 hi).1
  simp only [List.length_set] at hil
  have hsz := h.size
  by_cases hid : i = d
  · subst hid
    rw [List.getElem?_set_self hil] at hi
    simp only [Option.some.injEq] at hi
    subst hi
    have : (a.put (some i) u).tmps.getD i undef = u := by simp [Act.put, Array.getD, hsz, hil]
    rw [this]; exact hv
  · rw [List.getElem?_set_ne (Ne.symm hid)] at hi
    have : (a.put (some d) u).tmps.getD i undef = a.tmps.getD i undef := by
      show (a.tmps.setIfInBounds d u).getD i undef = _
      rw [arr_getD _ _ (by simp; omega), arr_getD _ _ (by omega), Array.getElem_setIfInBounds_ne _ (Ne.symm hid)]
    rw [this]; exact h.vals i x hi
theorem put_sound {g : Gh} {w : World} {a : Act} {c : Cf} (hs : St T g w a c) {dst : Option Tmp} {v : AV} {u : Value} (hv : Cz T g w v u) (K : Cf → Prop) (h : putE dst v c K) : ∃ c', K c' ∧ St T g w (a.put dst u) c' := by
  obtain ⟨env, L, nl, nt, G⟩ := c
  cases dst with
  | none => exact ⟨_, h, hs⟩
  | some d =>
    simp only [putE, setK_iff] at h
    exact ⟨_, h.2, St.mk' hs.rel (hs.env.put hv)⟩
theorem evOps_sound (TO : TOk P T) (all : List Oper) {Q : Exit → Act → World → Prop} : ∀ (l : List Oper) (g : Gh) (w : World) (a : Act) (c : Cf) (K : Cf → Prop), evOps P T all l c K → St T g w a c →
    (∀ g' w' a' c', K c' → St T g' w' a' c' → Ext g w g' w' → Q .normal a' w') → wpList P all.toArray Q l a w
  | [], g, w, a, c, K, h, hs, hk => hk g w a c h hs (Ext.refl _ _)
  | o :: r, g, w, a, c, K, h, hs, hk => by
    obtain ⟨dst, op, ty, pos, after, gd⟩ := o
    -- it is carried out
    have go : (evOp P T op c fun v c' => putE dst v c' fun c'' => evOps P T all r c'' K) → Oper.wp P ⟨dst, op, ty, pos, after, gd⟩ a w (wpList P all.toArray Q r) Q := fun h => by
      refine evOp_sound TO hs ⟨dst, op, ty, pos, after, gd⟩ (fun v c' g' w' u hK hrel henv hv hext => ?_) h
      obtain ⟨c'', hK', hs'⟩ := put_sound (St.mk' hrel henv) hv _ hK
      exact evOps_sound TO all r g' w' _ c'' K hK' hs' (fun g2 w2 a2 c2 h1 h2 h3 => hk g2 w2 a2 c2 h1 h2 (hext.trans h3))
    -- it is passed over
    have skip : (putE dst (.tup []) c fun c'' => evOps P T all r c'' K) → wpList P all.toArray Q r (a.put dst undef) w := fun h => by
      obtain ⟨c'', hK', hs'⟩ := put_sound hs (u := undef) (.tup _ _ rfl fun i c u hc => by simp at hc) _ h
      exact evOps_sound TO all r g w _ c'' K hK' hs' hk
    cases gd with
    | none =>
      simp only [evOps] at h
      unfold wpList
      rw [if_pos (by simp [Region.wanted])]
      exact .inl (go h)
    | some jw =>
      obtain ⟨j, want⟩ := jw
      simp only [evOps] at h
      obtain ⟨oj, hj, h⟩ := (nthK_iff _ _).1 h
      cases hd : oj.dst with
      | none => simp only [hd] at h
      | some d =>
        simp only [hd] at h
        obtain ⟨bv, hb, h⟩ := (nthK_iff _ _).1 h
        have hlt := (List.getElem?_eq_some_iff.1 hb).1
        have at_ : ∀ u, a.tmps.getD d undef = u → a.tmps[d]? = some u := fun u hu => by
          have hdl : d < a.tmps.size := by rw [hs.size]; exact hlt
          rw [Array.getElem?_eq_getElem hdl]
          rw [arr_getD a.tmps d hdl] at hu
          rw [hu]
        unfold wpList
        rcases guardK_is h with ⟨b, rfl, k⟩ | ⟨rfl, k⟩
        · have hy : yielded all.toArray a.tmps j = some b := by
            simp only [yielded, List.getElem?_toArray, hj, Option.bind_some, hd, at_ _ (cz_bool (hs.vals d _ hb))]
          rcases k with ⟨hbw, k⟩ | ⟨hbw, k⟩
          · rw [if_pos (by simp [Region.wanted, hy, hbw])]
            exact .inl (go k)
          · rw [if_neg (by simp [Region.wanted, hy, hbw])]
            exact skip k
        · obtain ⟨us, hu, _, _⟩ := cz_tup (hs.vals d _ hb)
          have hy : yielded all.toArray a.tmps j = none := by
            simp only [yielded, List.getElem?_toArray, hj, Option.bind_some, hd, at_ _ hu]
          rw [if_neg (by simp [Region.wanted, hy])]
          exact skip k

def exOf : Ex → Exit
  | .normal => .normal
  | .exit id => .exit id
  | .ret => .ret
/-- a run from a state to one of which Q holds -/
def Lift (T : TypeId → TR) (Q : Ex → Cf → Prop) (g : Gh) (w : World) (e : Exit) (a' : Act) (w' : World) : Prop := ∃ ex c' g', e = exOf ex ∧ Q ex c' ∧ St T g' w' a' c' ∧ Ext g w g' w'
theorem Lift.from {Q : Ex → Cf → Prop} {g g1 : Gh} {w w1 : World} {e : Exit} {a' : Act} {w' : World} (h : Lift T Q g1 w1 e a' w') (hx : Ext g w g1 w1) : Lift T Q g w e a' w' := by
  obtain ⟨ex, c', g', h1, h2, h3, h4⟩ := h
  exact ⟨ex, c', g', h1, h2, h3, hx.trans h4⟩
theorem wp_loop_ix {ι : Type} {Q : Exit → Act → World → Prop} {a : Act} {w : World} {c : Code} (I : ι → Act → World → Prop) (μ : ι → Nat) (i0 : ι) (h0 : I i0 a w)
    (round : ∀ i a w, I i a w → c.wp P (Exit.then (fun a' w' => ∃ i', I i' a' w' ∧ μ i' < μ i) Q) a w) : (Code.loop c).wp P Q a w := by
  intro b k cs
  have key : ∀ n i a w, μ i = n → I i a w →
      ∃ e a' w', Q e a' w' ∧ Arrives P (lone (b.at a (.code c :: .inLoop c :: k)) cs w) b k cs e a' w' := by
    intro n
    induction n using Nat.strongRecOn with
    | _ n ih =>
      intro i a w hn hI
      obtain ⟨e, a₁, w₁, hq, harr⟩ := round i a w hI b (.inLoop c :: k) cs
      cases e with
      | normal =>
        obtain ⟨i', hI₁, hlt⟩ := hq
        obtain ⟨e₂, a₂, w₂, hq₂, harr₂⟩ := ih (μ i') (hn ▸ hlt) i' a₁ w₁ rfl hI₁
        exact ⟨e₂, a₂, w₂, hq₂, .of_steps (Steps.trans harr (.one step_inLoop)) harr₂⟩
      | exit id => exact ⟨_, a₁, w₁, hq, .pass (x := .inLoop c) rfl (fun _ _ => .inl (by simp)) harr⟩
      | goto l => exact ⟨_, a₁, w₁, hq, .pass (x := .inLoop c) rfl (fun _ _ => .inl (by simp)) harr⟩
      | ret => exact ⟨_, a₁, w₁, hq, .pass (x := .inLoop c) rfl (fun _ _ => .inl (by simp)) harr⟩
      | panic ch => exact ⟨_, a₁, w₁, hq, .pass (x := .inLoop c) rfl (fun _ _ => .inl (by simp)) harr⟩
      | outgrown => exact ⟨_, a₁, w₁, hq, .pass (x := .inLoop c) rfl (fun _ _ => .inl (by simp)) harr⟩
  obtain ⟨e, a', w', hq, harr⟩ := key _ i0 a w rfl h0
  exact ⟨e, a', w', hq, .of_steps (.one step_loop) harr⟩
theorem wpC_sound (TO : TOk P T) : ∀ (code : Code) (c : Cf) (Q : Ex → Cf → Prop) (g : Gh) (w : World) (a : Act), wpC P T code c Q → St T g w a c → code.wp P (Lift T Q g w) a w := by
  intro code
  induction code with
  | skip => exact fun c Q g w a h hs => wp_skip ⟨.normal, c, g, rfl, h, hs, Ext.refl _ _⟩
  | label l => exact fun c Q g w a h hs => wp_label ⟨.normal, c, g, rfl, h, hs, Ext.refl _ _⟩
  | exit id => exact fun c Q g w a h hs => wp_exit ⟨.exit id, c, g, rfl, h, hs, Ext.refl _ _⟩
  | ret => exact fun c Q g w a h hs => wp_ret ⟨.ret, c, g, rfl, h, hs, Ext.refl _ _⟩
  | region id ops draw =>
    intro c Q g w a h hs
    cases draw with
    | true => exact h.draw g a w hs id _ (fun g' w' a' c' h1 h2 h3 => ⟨.normal, c', g', rfl, h1, h2, h3⟩)
    | false =>
      refine wp_region_list ?_
      have := evOps_sound (Q := Lift T Q g w) TO ops.toList ops.toList g w a c _ h hs (fun g' w' a' c' h1 h2 h3 => ⟨.normal, c', g', rfl, h1, h2, h3⟩)
      simpa using this
  | seq x y ihx ihy =>
    intro c Q g w a h hs
    refine wp_seq (wp_mono (ihx c _ g w a h hs) ?_)
    rintro e a' w' ⟨ex, c', g', rfl, h1, h2, h3⟩
    cases ex with
    | normal => exact wp_mono (ihy c' Q g' w' a' h1 h2) (fun e a w h => h.from h3)
    | exit id => exact ⟨.exit id, c', g', rfl, h1, h2, h3⟩
    | ret => exact ⟨.ret, c', g', rfl, h1, h2, h3⟩
  | cond x y z ihy ihz =>
    intro c Q g w a h hs
    obtain ⟨v, h1, h2, h3⟩ := opd_sound hs.env x _ h
    clear h3
    cases v <;> first | exact h1.elim | skip
    rename_i t
    have e := cz_bool h2
    cases t with
    | true => exact wp_cond_true e (ihy c Q g w a h1 hs)
    | false => exact wp_cond_false e (ihz c Q g w a h1 hs)
  | block id b ih =>
    intro c Q g w a h hs
    refine wp_block (wp_mono (ih c _ g w a h hs) ?_)
    rintro e a' w' ⟨ex, c', g', rfl, h1, h2, h3⟩
    cases ex with
    | normal => exact ⟨.normal, c', g', rfl, h1, h2, h3⟩
    | exit i =>
      by_cases hi : i = id
      · simp only [decide_eq_true hi] at h1
        simp only [exOf, Exit.inBlock, if_pos hi]
        exact ⟨.normal, c', g', rfl, h1, h2, h3⟩
      · simp only [decide_eq_false hi] at h1
        simp only [exOf, Exit.inBlock, if_neg hi]
        exact ⟨.exit i, c', g', rfl, h1, h2, h3⟩
    | ret => exact ⟨.ret, c', g', rfl, h1, h2, h3⟩
  | loop b ih =>
    intro c Q g w a h hs
    obtain ⟨ι, I, μ, i0, hw, hround⟩ := h
    obtain ⟨g0, hs0, hx0⟩ := hw.weak g a w hs
    refine wp_loop_ix (fun i a' w' => ∃ g', St T g' w' a' (I i) ∧ Ext g w g' w') μ i0 ⟨g0, hs0, hx0⟩ ?_
    rintro i a' w' ⟨g', hs', hx'⟩
    refine wp_mono (ih (I i) _ g' w' a' (hround i) hs') ?_
    rintro e a2 w2 ⟨ex, c2, g2, rfl, h1, h2, h3⟩
    cases ex with
    | normal =>
      obtain ⟨i', hlt, hw'⟩ := h1
      obtain ⟨g3, hs3, hx3⟩ := hw'.weak g2 a2 w2 h2
      exact ⟨i', ⟨g3, hs3, hx'.trans (h3.trans hx3)⟩, hlt⟩
    | exit id => exact ⟨.exit id, c2, g2, rfl, h1, h2, hx'.trans h3⟩
    | ret => exact ⟨.ret, c2, g2, rfl, h1, h2, hx'.trans h3⟩
  | rangeFunc f ps x y ihx ihy => exact fun c Q g w a h hs => h.elim
  | scope b ih => exact fun c Q g w a h hs => h.elim
  | goto l => exact fun c Q g w a h hs => h.elim
  | refuse s => exact fun c Q g w a h hs => h.elim

/-- results -/
def resF (tmps : Array Value) : ResultVar → Sem Value
  | .tmp t => pure (tmps.getD t undef)
  | .cell x t => do loadVar t (← asAddr (tmps.getD x undef))
theorem results_eq (fn : Func) (tmps : Array Value) : results fn tmps = (do let vs ← fn.results.mapM (resF tmps); pure (if h : vs.size = 1 then vs[0] else .tuple vs)) := by
  unfold results
  congr 1
theorem ress_sound (TO : TOk P T) {g : Gh} {w : World} {a : Act} {c : Cf} (hs : St T g w a c) : ∀ (rs : List ResultVar) (K : List AV → Prop), ressK T c rs K → ∃ (l : List AV) (us : List Value), K l ∧ l.length = us.length ∧
    (rs.mapM (resF a.tmps)).run P w = .ok us w ∧ ∀ (i : Nat) (v : AV) (u : Value), l[i]? = some v → us[i]? = some u → Cz T g w v u
  | [], K, h => ⟨[], [], h, rfl, rfl, fun i v u h => by simp at h⟩
  | .tmp t :: r, K, h => by
    obtain ⟨v, h1, h2⟩ := (nthK_iff _ _).1 h
    obtain ⟨l, us, h3, h4, h5, h6⟩ := ress_sound TO hs r _ h2
    refine ⟨v :: l, a.tmps.getD t undef :: us, h3, by simp [h4], ?_, fun i x u hx hu => ?_⟩
    · simp only [List.mapM_cons, resF, Sem.run_bind, Sem.run_pure, Result.andThen_ok, h5]
    · cases i with
      | zero => simp only [List.getElem?_cons_zero, Option.some.injEq] at hx hu; subst hx; subst hu; exact hs.vals t _ h1
      | succ i => exact h6 i x u (by simpa using hx) (by simpa using hu)
  | .cell x t :: r, K, h => by
    obtain ⟨p, h1, h2⟩ := (nthK_iff _ _).1 h
    obtain ⟨cells, of, h4, h5, _⟩ := box_sound hs.rel (hs.vals x _ h1) _ h2
    obtain ⟨v, y, ad, g1, g2, g3, g4, _⟩ := sub_sound TO h5 t _ h4
    obtain ⟨l, us, q3, q4, q5, q6⟩ := ress_sound TO hs r _ g1
    refine ⟨v :: l, y :: us, q3, by simp [q4], ?_, fun i z u hz hu => ?_⟩
    · simp only [List.mapM_cons, resF, Sem.run_bind, Sem.run_pure, Result.andThen_ok, q5, g3, asAddr, g4]
    · cases i with
      | zero => simp at hz hu; subst hz; subst hu; exact g2
      | succ i => exact q6 i z u (by simpa using hz) (by simpa using hu)
theorem res_sound (TO : TOk P T) {g : Gh} {w : World} {a : Act} {c : Cf} (hs : St T g w a c) (fn : Func) (K : AV → Prop) (h : resK T c fn.results.toList K) : ∃ v u, K v ∧ (results fn a.tmps).run P w = .ok u w ∧ Cz T g w v u := by
  obtain ⟨l, us, h1, h2, h3, h4⟩ := ress_sound TO hs _ _ h
  have hm : (fn.results.mapM (resF a.tmps)).run P w = .ok us.toArray w := by
    rw [Array.mapM_eq_mapM_toList]
    simp only [Sem.run_map, h3, Result.andThen_ok]
  have tup : ∀ (_ : us.length ≠ 1), K (.tup l) → ∃ v u, K v ∧ (results fn a.tmps).run P w = .ok u w ∧ Cz T g w v u := fun h0 hK => by
    refine ⟨.tup l, .tuple us.toArray, hK, ?_, .tup _ _ (by simpa using h2) (fun i v u hv hu => h4 i v u hv (by simpa using hu))⟩
    rw [results_eq]
    simp only [Sem.run_bind, hm, Result.andThen_ok]
    rw [dif_neg (by simpa using h0)]
    rfl
  match l, us, h1, h2, h4, hm, tup with
  | [], [], h1, _, _, _, tup => exact tup (by simp) h1
  | [v], [u], h1, _, h4, hm, _ =>
    refine ⟨v, u, h1, ?_, h4 0 v u rfl rfl⟩
    rw [results_eq]
    simp only [Sem.run_bind, hm, Result.andThen_ok]
    rfl
  | v :: v2 :: l, u :: u2 :: us, h1, _, _, _, tup => exact tup (by simp) h1
theorem back_sound {w : World} {a : Act} : ∀ (n j : Nat) (g : Gh) (c : Cf) (K : Cf → Prop), St T g w a c → backK n j c K → ∃ g' c', K c' ∧ St T g' w a c' ∧ Dx g w g' w ∧ Ext g w g' w
  | 0, j, g, c, K, hs, h => ⟨g, c, h, hs, Dx.refl _ _, Ext.refl _ _⟩
  | n + 1, j, g, c, K, hs, h => by
    obtain ⟨bx, hj, h⟩ := (nthK_iff _ _).1 h
    have plain : backK n (j + 1) c K → ∃ g' c', K c' ∧ St T g' w a c' ∧ Dx g w g' w ∧ Ext g w g' w := fun h => back_sound n (j + 1) g c K hs h
    match bx, h with
    | .live (some b) cells, h =>
      obtain ⟨g1, c1, ⟨b', q1, _⟩, r1, _, r3, r4⟩ := lend_sound hs j _ h
      obtain ⟨g2, c2, s1, s2, s3, s4⟩ := back_sound n (j + 1) g1 c1 K r1 q1
      exact ⟨g2, c2, s1, s2, r3.dx.trans s3, r4.trans s4⟩
    | .live none cells, h => exact plain h
    | .away b, h => exact plain h
    | .dead, h => exact plain h
theorem lend2_sound {g : Gh} {w : World} {a : Act} {c : Cf} (hs : St T g w a c) {v : AV} {u : Value} (hv : Cz T g w v u) (K : AV → Cf → Prop) (h : lend2K v c K) : Lent T g w a c fun g' c' => ∃ v', K v' c' ∧ Dz T g' w v' u := by
  cases v with
  | tup vs =>
    obtain ⟨us, rfl, hl, hp⟩ := cz_tup hv
    obtain ⟨g', c', ⟨l, q1, q2, q3⟩, r⟩ := lend1s_sound vs us c hs hl hp _ h
    exact ⟨g', c', ⟨_, q1, .tup _ _ q2 q3⟩, r⟩
  | _ => exact lend1_sound hs hv K h
theorem fin_sound (TO : TOk P T) {g : Gh} {w : World} {a : Act} {c : Cf} (hs : St T g w a c) (fn : Func) (Q : AV → Glob → Prop) (h : finK T fn.results.toList Q c) :
    ∃ u g' G' v, (results fn a.tmps).run P w = .ok u w ∧ Q v G' ∧ GRel T g' G' w ∧ Ext g w g' w ∧ Dz T g' w v u := by
  obtain ⟨v, u, h1, h2, h3⟩ := res_sound TO hs fn _ h
  obtain ⟨g1, c1, ⟨v', q1, q2⟩, r1, _, _, r4⟩ := lend2_sound hs h3 _ h1
  obtain ⟨g2, c2, ⟨G'', s1, s2⟩, t1, t2, t3⟩ := back_sound _ _ g1 c1 _ r1 q1
  exact ⟨u, g2, G'', v', h2, s2, fun b bx hb => t1.rel.glob b bx (s1 b bx hb), r4.trans t3, q2.mono t2⟩
theorem topsK_iff : ∀ (n : Nat) (K : List AV → Prop), topsK n K ↔ K (List.replicate n .top)
  | 0, K => Iff.rfl
  | n + 1, K => by simp only [topsK, topsK_iff n, List.replicate_succ]
theorem catK_iff : ∀ (l m : List AV) (K : List AV → Prop), catK l m K ↔ K (l ++ m)
  | [], m, K => Iff.rfl
  | v :: r, m, K => by simp only [catK, catK_iff r m, List.cons_append]
/-- a function: its body's abstract run -/
theorem call_body (TO : TOk P T) {f : FuncId} {fn : Func} {code : Code} {args : List AV} {G : Glob} {Q : AV → Glob → Prop} (hf : P.funcs[f]? = some fn) (hb : fn.body = some code) (hname : (fn.name == "runtime.NumGoroutine") = false) {n : Nat} (hnt : fn.ntmps = n) {rs : Array ResultVar} (hrs : fn.results = rs)
    (h : bodyK P T n rs.toList code args G Q) : CallOk P T f args G Q := by
  subst hnt
  subst hrs
  refine ⟨⟨fn, hf, hname, by rw [hb]; rfl⟩, fun g us w hg hl hp => ?_⟩
  unfold bodyK at h
  rw [topsK_iff, catK_iff] at h
  refine calls_of_wp hf hb ?_
  have hs : St T { g with nl := 0, nt := 0 } w { tmps := us ++ Array.replicate (fn.ntmps - us.size) undef, defers := [] } ⟨args ++ List.replicate (fn.ntmps - args.length) .top, [], 0, 0, G⟩ := by
    have dx : Dx g w { g with nl := 0, nt := 0 } w := ⟨fun _ _ _ h1 h2 => ⟨h1, h2⟩, Nat.le_refl _, fun _ _ => rfl⟩
    refine ⟨⟨fun b bx hb => ?_, fun j bx hj => by simp at hj, rfl, rfl, rfl⟩, by simp [hl], fun i v hv => ?_, rfl⟩
    · obtain ⟨h1, h2, h3⟩ := hg b bx hb
      exact ⟨h1, h2, h3.keep h1 h2 dx fun _ _ _ => ⟨rfl, rfl⟩⟩
    · rcases Nat.lt_or_ge i args.length with hi | hi
      · rw [List.getElem?_append_left hi] at hv
        have hu : us[i]? = some us[i] := Array.getElem?_eq_getElem (by omega)
        have e : (us ++ Array.replicate (fn.ntmps - us.size) undef).getD i undef = us[i] := by
          simp only [Array.getD, Array.size_append]
          rw [dif_pos (by omega), Array.getInternal_eq_getElem, Array.getElem_append_left]
        show Cz T _ w v ((us ++ Array.replicate (fn.ntmps - us.size) undef).getD i undef)
        rw [e]
        exact .dz _ _ ((hp i v _ hv hu).mono dx)
      · rw [List.getElem?_append_right hi] at hv
        have := List.mem_of_getElem? hv
        rw [List.mem_replicate] at this
        rw [this.2]
        exact .any _
  have hx : Ext g w { g with nl := 0, nt := 0 } w := ⟨fun _ _ _ h1 h2 => ⟨h1, h2⟩, Nat.le_refl _, fun _ _ => rfl, fun _ _ _ => ⟨rfl, rfl⟩, Nat.le_refl _, rfl, rfl, rfl⟩
  refine wp_mono (wpC_sound TO code _ _ _ w _ h hs) ?_
  rintro e a' w' ⟨ex, c', g', rfl, h1, h2, h3⟩
  have fin : finK T fn.results.toList Q c' → a'.defers = [] ∧ ∃ v, (results fn a'.tmps).run P w' = .ok v w' ∧ ∃ u g'' G' v', Ending.returned v = .returned u ∧ Q v' G' ∧ GRel T g'' G' w' ∧ Ext g w g'' w' ∧ Dz T g'' w' v' u := fun h => by
    obtain ⟨u, g2, G', v, q1, q2, q3, q4, q5⟩ := fin_sound TO h2 fn Q h
    exact ⟨h2.defers, u, q1, u, g2, G', v, rfl, q2, q3, (hx.trans h3).trans q4, q5⟩
  cases ex with
  | normal => exact fin h1
  | exit id => exact h1.elim
  | ret => exact fin h1
theorem CallOk.mono {f : FuncId} {args : List AV} {G : Glob} {Q Q' : AV → Glob → Prop} (h : CallOk P T f args G Q) (hq : ∀ v G', Q v G' → Q' v G') : CallOk P T f args G Q' :=
  ⟨h.enters, fun g us w h1 h2 h3 => (h.calls g us w h1 h2 h3).mono fun _ _ ⟨u, g', G', v, q1, q2, q3⟩ => ⟨u, g', G', v, q1, hq _ _ q2, q3⟩⟩
/-- at a call: the one value that comes back, and what of the shared boxes is there then -/
theorem CallOk.on {f : FuncId} {args : List AV} {G G1 : Glob} {v : AV} {Q : AV → Glob → Prop} (h : CallOk P T f args G fun x G' => x = v ∧ G' = G1) (hq : Q v G1) : CallOk P T f args G Q :=
  h.mono fun _ _ ⟨h1, h2⟩ => by rw [h1, h2]; exact hq
end
end Go.Proofs.Ytmmmaekaoanceaa
