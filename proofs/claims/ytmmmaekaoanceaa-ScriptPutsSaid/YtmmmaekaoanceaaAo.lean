/- Code that holds in the model, in steps: loops and cuts laid by hand, the rest run. -/
import Derived.Test.YtmmmaekaoanceaaAn
namespace Go.Proofs.Ytmmmaekaoanceaa
open Go Go.RowKit

structure Sem (P : Program) (T : TypeId → TR) (code : Code) (c : Cf) (Q : Ex → Cf → Prop) : Prop where
  holds : ∀ (g : Gh) (w : World) (a : Act), St T g w a c → code.wp P (Lift T Q g w) a w
def semK (P : Program) (T : TypeId → TR) (ntmps : Nat) (rs : List ResultVar) (body : Code) (args : List AV) (G : Glob) (Q : AV → Glob → Prop) : Prop :=
  topsK (ntmps - args.length) fun tops => catK args tops fun env => Sem P T body ⟨env, [], 0, 0, G⟩ fun e c => match e with
    | .exit _ => False
    | _ => finK T rs Q c
section
variable {P : Program} {T : TypeId → TR}
theorem Sem.run (TO : TOk P T) {code : Code} {c : Cf} {Q : Ex → Cf → Prop} (h : wpC P T code c Q) : Sem P T code c Q := ⟨fun g w a hs => wpC_sound TO code c Q g w a h hs⟩
theorem Sem.weak {code : Code} {c c' : Cf} {Q : Ex → Cf → Prop} (hw : Weak T c' c) (h : Sem P T code c' Q) : Sem P T code c Q :=
  ⟨fun g w a hs => by
    obtain ⟨g', hs', hx⟩ := hw.weak g a w hs
    exact wp_mono (h.holds g' w a hs') fun e a w h => h.from hx⟩
theorem Sem.mono {code : Code} {c : Cf} {Q Q' : Ex → Cf → Prop} (h : Sem P T code c Q) (hq : ∀ e c', Q e c' → Q' e c') : Sem P T code c Q' :=
  ⟨fun g w a hs => wp_mono (h.holds g w a hs) fun _ _ _ ⟨ex, c', g', h1, h2, h3⟩ => ⟨ex, c', g', h1, hq _ _ h2, h3⟩⟩
theorem Sem.seqS {x y : Code} {c : Cf} {Q : Ex → Cf → Prop} (h : Sem P T x c fun e c' => match e with | .normal => Sem P T y c' Q | e => Q e c') : Sem P T (.seq x y) c Q := by
  refine ⟨fun g w a hs => wp_seq (wp_mono (h.holds g w a hs) ?_)⟩
  rintro e a' w' ⟨ex, c', g', rfl, h1, h2, h3⟩
  cases ex with
  | normal => exact wp_mono (h1.holds g' w' a' h2) (fun e a w h => h.from h3)
  | exit id => exact ⟨.exit id, c', g', rfl, h1, h2, h3⟩
  | ret => exact ⟨.ret, c', g', rfl, h1, h2, h3⟩
theorem Sem.seq (TO : TOk P T) {x y : Code} {c : Cf} {Q : Ex → Cf → Prop} (h : wpC P T x c fun e c' => match e with | .normal => Sem P T y c' Q | e => Q e c') : Sem P T (.seq x y) c Q :=
  .seqS (.run TO h)
/-- a cut: behind x one of the states I -/
theorem Sem.cut (TO : TOk P T) {ι : Type} (I : ι → Cf) {x y : Code} {c : Cf} {Q : Ex → Cf → Prop} (hy : ∀ i, Sem P T y (I i) Q) (h : wpC P T x c fun e c' => match e with | .normal => ∃ i, Weak T (I i) c' | e => Q e c') : Sem P T (.seq x y) c Q :=
  .seqS ((Sem.run TO h).mono fun e c' he => by
    cases e with
    | normal => obtain ⟨i, hi⟩ := he; exact Sem.weak hi (hy i)
    | exit id => exact he
    | ret => exact he)
theorem Sem.block {id : Nat} {b : Code} {c : Cf} {Q : Ex → Cf → Prop} (h : Sem P T b c fun e c' => match e with
    | .exit i => (match decide (i = id) with
      | true => Q .normal c'
      | false => Q (.exit i) c')
    | e => Q e c') : Sem P T (.block id b) c Q := by
  refine ⟨fun g w a hs => wp_block (wp_mono (h.holds g w a hs) ?_)⟩
  rintro e a' w' ⟨ex, c', g', rfl, h1, h2, h3⟩
  cases ex with
  | normal => exact ⟨.normal, c', g', rfl, h1, h2, h3⟩
  | exit i =>
    by_cases hi : i = id
    · simp only [decide_eq_true hi] at h1
      simp only [exOf, Exit.inBlock, if_pos hi]
      exact ⟨.normal, c', g', rfl, h1, h2, h3⟩
    · simp only [decide_eq_false hi] at h1
      simp only [exOf, Exit.inBlock, if_neg hi]
      exact ⟨.exit i, c', g', rfl, h1, h2, h3⟩
  | ret => exact ⟨.ret, c', g', rfl, h1, h2, h3⟩
theorem Sem.loop {b : Code} {c : Cf} {Q : Ex → Cf → Prop} {ι : Type} (I : ι → Cf) (μ : ι → Nat) (i0 : ι) (hw : Weak T (I i0) c) (h : ∀ i, Sem P T b (I i) fun e c' => match e with
    | .normal => ∃ i', μ i' < μ i ∧ Weak T (I i') c'
    | e => Q e c') : Sem P T (.loop b) c Q := by
  refine ⟨fun g w a hs => ?_⟩
  obtain ⟨g0, hs0, hx0⟩ := hw.weak g a w hs
  refine wp_loop_ix (fun i a' w' => ∃ g', St T g' w' a' (I i) ∧ Ext g w g' w') μ i0 ⟨g0, hs0, hx0⟩ ?_
  rintro i a' w' ⟨g', hs', hx'⟩
  refine wp_mono ((h i).holds g' w' a' hs') ?_
  rintro e a2 w2 ⟨ex, c2, g2, rfl, h1, h2, h3⟩
  cases ex with
  | normal =>
    obtain ⟨i', hlt, hw'⟩ := h1
    obtain ⟨g3, hs3, hx3⟩ := hw'.weak g2 a2 w2 h2
    exact ⟨i', ⟨g3, hs3, hx'.trans (h3.trans hx3)⟩, hlt⟩
  | exit id => exact ⟨.exit id, c2, g2, rfl, h1, h2, hx'.trans h3⟩
  | ret => exact ⟨.ret, c2, g2, rfl, h1, h2, hx'.trans h3⟩
theorem Sem.condS {x : Operand} {y z : Code} {c : Cf} {Q : Ex → Cf → Prop} (h : opdK c.env x fun
    | .bool t => BS t (Sem P T y c Q) (Sem P T z c Q)
    | _ => False) : Sem P T (.cond x y z) c Q := by
  refine ⟨fun g w a hs => ?_⟩
  obtain ⟨v, h1, h2, h3⟩ := opd_sound hs.env x _ h
  clear h3
  cases v <;> first | exact h1.elim | skip
  rename_i t
  have e := cz_bool h2
  cases t with
  | true => exact wp_cond_true e (Sem.holds h1 g w a hs)
  | false => exact wp_cond_false e (Sem.holds h1 g w a hs)
theorem Sem.cond_f {x : Nat} {y z : Code} {c : Cf} {Q : Ex → Cf → Prop} {t : Bool} (hx : c.env[x]? = some (.bool t)) (ht : t = false) (h : Sem P T z c Q) : Sem P T (.cond (.tmp x) y z) c Q := by
  subst ht
  exact .condS ((nthK_iff _ _).2 ⟨_, hx, h⟩)
theorem Sem.cond_t {x : Nat} {y z : Code} {c : Cf} {Q : Ex → Cf → Prop} {t : Bool} (hx : c.env[x]? = some (.bool t)) (ht : t = true) (h : Sem P T y c Q) : Sem P T (.cond (.tmp x) y z) c Q := by
  subst ht
  exact .condS ((nthK_iff _ _).2 ⟨_, hx, h⟩)
theorem Sem.reg (TO : TOk P T) {id : Nat} {ops : Array Oper} {dr : Bool} {y : Code} {c : Cf} {Q : Ex → Cf → Prop} (h : wpC P T (.region id ops dr) c fun e c' => match e with | .normal => Sem P T y c' Q | e => Q e c') : Sem P T (.seq (.region id ops dr) y) c Q := .seq TO h
theorem Sem.regL (TO : TOk P T) {id : Nat} {ops : Array Oper} {dr : Bool} {c : Cf} {Q : Ex → Cf → Prop} (h : wpC P T (.region id ops dr) c Q) : Sem P T (.region id ops dr) c Q := .run TO h
theorem Sem.skip (TO : TOk P T) {c : Cf} {Q : Ex → Cf → Prop} (h : Q .normal c) : Sem P T .skip c Q := .run TO h
theorem Sem.exit (TO : TOk P T) {id : Nat} {c : Cf} {Q : Ex → Cf → Prop} (h : Q (.exit id) c) : Sem P T (.exit id) c Q := .run TO h
theorem Sem.ret (TO : TOk P T) {c : Cf} {Q : Ex → Cf → Prop} (h : Q .ret c) : Sem P T .ret c Q := .run TO h
/-- a cut, whatever x is -/
theorem Sem.cutS {ι : Type} (I : ι → Cf) {x y : Code} {c : Cf} {Q : Ex → Cf → Prop} (hy : ∀ i, Sem P T y (I i) Q) (h : Sem P T x c fun e c' => match e with | .normal => ∃ i, Weak T (I i) c' | e => Q e c') : Sem P T (.seq x y) c Q :=
  .seqS (h.mono fun e c' he => by
    cases e with
    | normal => obtain ⟨i, hi⟩ := he; exact Sem.weak hi (hy i)
    | exit id => exact he
    | ret => exact he)
theorem call_sem (TO : TOk P T) {f : FuncId} {fn : Func} {code : Code} {args : List AV} {G : Glob} {Q : AV → Glob → Prop} (hf : P.funcs[f]? = some fn) (hb : fn.body = some code) (hname : (fn.name == "runtime.NumGoroutine") = false) {n : Nat} (hnt : fn.ntmps = n) {rs : Array ResultVar} (hrs : fn.results = rs)
    (h : semK P T n rs.toList code args G Q) : CallOk P T f args G Q := by
  subst hnt
  subst hrs
  refine ⟨⟨fn, hf, hname, by rw [hb]; rfl⟩, fun g us w hg hl hp => ?_⟩
  unfold semK at h
  rw [topsK_iff, catK_iff] at h
  refine calls_of_wp hf hb ?_
  have hs : St T { g with nl := 0, nt := 0 } w { tmps := us ++ Array.replicate (fn.ntmps - us.size) undef, defers := [] } ⟨args ++ List.replicate (fn.ntmps - args.length) .top, [], 0, 0, G⟩ := by
    have dx : Dx g w { g with nl := 0, nt := 0 } w := ⟨fun _ _ _ h1 h2 => ⟨h1, h2⟩, Nat.le_refl _, fun _ _ => rfl⟩
    refine ⟨⟨fun b bx hb => ?_, fun j bx hj => by simp at hj, rfl, rfl, rfl⟩, by simp [hl], fun i v hv => ?_, rfl⟩
    · obtain ⟨h1, h2, h3⟩ := hg b bx hb
      exact ⟨h1, h2, h3.keep h1 h2 dx fun _ _ _ => ⟨rfl, rfl⟩⟩
    · rcases Nat.lt_or_ge i args.length with hi | hi
      · rw [List.getElem?_append_left hi] at hv
        have hu : us[i]? = some us[i] := Array.getElem?_eq_getElem (by omega)
        have e : (us ++ Array.replicate (fn.ntmps - us.size) undef).getD i undef = us[i] := by
          simp only [Array.getD, Array.size_append]
          rw [dif_pos (by omega), Array.getInternal_eq_getElem, Array.getElem_append_left]
        show Cz T _ w v ((us ++ Array.replicate (fn.ntmps - us.size) undef).getD i undef)
        rw [e]
        exact .dz _ _ ((hp i v _ hv hu).mono dx)
      · rw [List.getElem?_append_right hi] at hv
        have := List.mem_of_getElem? hv
        rw [List.mem_replicate] at this
        rw [this.2]
        exact .any _
  have hx : Ext g w { g with nl := 0, nt := 0 } w := ⟨fun _ _ _ h1 h2 => ⟨h1, h2⟩, Nat.le_refl _, fun _ _ => rfl, fun _ _ _ => ⟨rfl, rfl⟩, Nat.le_refl _, rfl, rfl, rfl⟩
  refine wp_mono (h.holds _ w _ hs) ?_
  rintro e a' w' ⟨ex, c', g', rfl, h1, h2, h3⟩
  have fin : finK T fn.results.toList Q c' → a'.defers = [] ∧ ∃ v, (results fn a'.tmps).run P w' = .ok v w' ∧ ∃ u g'' G' v', Ending.returned v = .returned u ∧ Q v' G' ∧ GRel T g'' G' w' ∧ Ext g w g'' w' ∧ Dz T g'' w' v' u := fun h => by
    obtain ⟨u, g2, G', v, q1, q2, q3, q4, q5⟩ := fin_sound TO h2 fn Q h
    exact ⟨h2.defers, u, q1, u, g2, G', v, rfl, q2, q3, (hx.trans h3).trans q4, q5⟩
  cases ex with
  | normal => exact fin h1
  | exit id => exact h1.elim
  | ret => exact fin h1
end
end Go.Proofs.Ytmmmaekaoanceaa
