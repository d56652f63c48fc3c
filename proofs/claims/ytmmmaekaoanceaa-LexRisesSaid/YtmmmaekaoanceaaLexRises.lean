/- 'LexRises': whatever text: tokens come one behind the other, each as long as its text, and the last one is the text's end: the law hands back true. Conditions: none. -/
import Derived.Test.YtmmmaekaoanceaaLexK
set_option maxRecDepth 100000
set_option linter.unusedSimpArgs false
namespace Go.Proofs.Ytmmmaekaoanceaa
open Go Go.RowKit Go.ChangeShapes Go.WideShapes Go.ChangeAt Go.Proofs
open Go.ChangeMaps (open_string shut_string)

structure RI (s : List UInt8) (l : List Tok) where
  k : Nat
  p : Nat
  hk : k ≤ l.length
  hp : p ≤ s.length
  h : Rise s p (l.drop k)
theorem lexRises_ok (s : List UInt8) (hsm : s.length ≤ maxLen) : CallOk Try.prog TT 11 [.str (S s)] (fun _ => none) (fun v _ => v = .bool true) := by
  have hsm : s.length ≤ 9223372036854775807 := hsm
  have h1 := tokens_ok s (fun _ => none)
  have hl := tok_some s
  have hsz := S_size s
  have hf : (tokT s).2.1 ≠ 0 → (tokT s).2.2 < s.length := by
    unfold tokT
    by_cases h : 1024 < s.length
    · rw [if_pos h]; intro _; simp only; omega
    · rw [if_neg h]; exact fun h => (lex_fault s 0 h).2
  have hr : (tokT s).2.1 = 0 → Rise s 0 (tokT s).1 := by
    unfold tokT
    by_cases h : 1024 < s.length
    · rw [if_pos h]; intro h; cases h
    · rw [if_neg h]; exact fun h => (lex_rise s 0 h (Nat.zero_le _)).2 0 (Nat.le_refl _)
  generalize tokT s = r at *
  obtain ⟨l, e, at_⟩ := r
  simp only at hl hf hr
  refine call_sem tt_ok Try.func11 rfl (by kernel_rfl) Try.ntmps11 Try.results11 ?_; conv => whnf
  repeat' (first | ((first | refine Sem.reg tt_ok ?_ | refine Sem.condS ?_ | refine Sem.regL tt_ok ?_ | refine Sem.skip tt_ok ?_ | refine Sem.exit tt_ok ?_ | refine Sem.ret tt_ok ?_ | refine BS_t (by assumption) ?_ | refine BS_f (by assumption) ?_ | refine atG (by repeat (first | assumption | exact setG_same _ _ _ | refine Eq.trans (setG_ne _ _ (by first | assumption | exact Ne.symm (by assumption))) ?_)) ?_ | refine (nthK_iff _ _).2 ⟨_, (by assumption), ?_⟩ | refine ⟨_, ⟨(by omega), (by assumption)⟩, ?_⟩ | refine And.intro (by first | decide | omega) ?_ | fail); conv => whnf) | refine Sem.seqS ?_ | refine Sem.block ?_ | fail)
  refine h1.on ?_; conv => whnf
  repeat' (first | ((first | refine Sem.reg tt_ok ?_ | refine Sem.condS ?_ | refine Sem.regL tt_ok ?_ | refine Sem.skip tt_ok ?_ | refine Sem.exit tt_ok ?_ | refine Sem.ret tt_ok ?_ | refine BS_t (by assumption) ?_ | refine BS_f (by assumption) ?_ | refine atG (by repeat (first | assumption | exact setG_same _ _ _ | refine Eq.trans (setG_ne _ _ (by first | assumption | exact Ne.symm (by assumption))) ?_)) ?_ | refine (nthK_iff _ _).2 ⟨_, (by assumption), ?_⟩ | refine ⟨_, ⟨(by omega), (by assumption)⟩, ?_⟩ | refine And.intro (by first | decide | omega) ?_ | fail); conv => whnf) | refine Sem.seqS ?_ | refine Sem.block ?_ | fail)
  by_cases he : e = 0
  · have t0 : (((e : Nat) : Int) != 0) = false := by simp [he]
    repeat' (first | ((first | refine Sem.reg tt_ok ?_ | refine Sem.condS ?_ | refine Sem.regL tt_ok ?_ | refine Sem.skip tt_ok ?_ | refine Sem.exit tt_ok ?_ | refine Sem.ret tt_ok ?_ | refine BS_t (by assumption) ?_ | refine BS_f (by assumption) ?_ | refine atG (by repeat (first | assumption | exact setG_same _ _ _ | refine Eq.trans (setG_ne _ _ (by first | assumption | exact Ne.symm (by assumption))) ?_)) ?_ | refine (nthK_iff _ _).2 ⟨_, (by assumption), ?_⟩ | refine ⟨_, ⟨(by omega), (by assumption)⟩, ?_⟩ | refine And.intro (by first | decide | omega) ?_ | fail); conv => whnf) | refine Sem.seqS ?_ | refine Sem.block ?_ | fail)
    refine Sem.loop (ι := RI s l) (fun x => ⟨(.str (S s) :: .top :: .bool false :: .slc 92 (l.map Tok.av) :: .top :: .int .i64 (x.p : Nat) :: .int .i64 (x.k : Nat) :: .top :: .top :: .top :: .top :: .top :: .top :: .top :: .top :: .top :: .top :: .top :: .top :: .top :: .top :: .top :: .top :: .top :: .top :: .top :: .top :: .top :: .top :: .top :: .top :: .top :: .top :: .top :: .top :: .top :: .top :: .top :: .top :: .top :: .top :: .top :: .top :: .top :: .top :: .top :: .top :: .top :: .top :: .top :: .top :: .top :: .top :: .top :: .top :: .top :: .top :: .top :: .top :: .top :: .top :: .top :: .top :: .top :: .top :: .top :: .top :: .top :: .top :: .top :: .top :: .top :: .top :: .top :: .top :: .top :: .top :: .top :: .top :: .top :: .top :: .top :: .top :: .top :: .top :: .top :: .top :: .top :: .top :: .top :: .top :: .top :: .top :: .top :: .top :: .top :: .top :: .top :: []), [], 0, 0, fun _ => none⟩) (fun x => l.length - x.k) ⟨0, 0, Nat.zero_le _, Nat.zero_le _, hr he⟩ ?_ (fun x => ?_)
    · refine weak_by [] ?_; (conv => whnf); repeat (first | (refine And.intro rfl ?_; conv => whnf) | fail)
      exact ⟨fun i y hy => hy, rfl, Nat.zero_le _, rfl, rfl⟩
    have hk := x.hk
    have hp := x.hp
    have hx := x.h
    generalize x.k = k at hk hx ⊢
    generalize x.p = p at hp hx ⊢
    repeat' (first | ((first | refine Sem.reg tt_ok ?_ | refine Sem.condS ?_ | refine Sem.regL tt_ok ?_ | refine Sem.skip tt_ok ?_ | refine Sem.exit tt_ok ?_ | refine Sem.ret tt_ok ?_ | refine BS_t (by assumption) ?_ | refine BS_f (by assumption) ?_ | refine atG (by repeat (first | assumption | exact setG_same _ _ _ | refine Eq.trans (setG_ne _ _ (by first | assumption | exact Ne.symm (by assumption))) ?_)) ?_ | refine (nthK_iff _ _).2 ⟨_, (by assumption), ?_⟩ | refine ⟨_, ⟨(by omega), (by assumption)⟩, ?_⟩ | refine And.intro (by first | decide | omega) ?_ | fail); conv => whnf) | refine Sem.seqS ?_ | refine Sem.block ?_ | fail)
    by_cases hlt : k < l.length
    · have c0 : decide (((k : Nat) : Int) < (((l.map Tok.av).length : Nat) : Int)) = true := by simp; omega
      obtain ⟨u, hu⟩ : ∃ u, l[k]? = some u := ⟨_, List.getElem?_eq_getElem hlt⟩
      have hlu : (l.map Tok.av)[((k : Nat) : Int).toNat]? = some u.av := by rw [Int.toNat_natCast, List.getElem?_map, hu]; rfl
      have hd : l.drop k = u :: l.drop (k + 1) := by
        obtain ⟨q1, rfl⟩ := List.getElem?_eq_some_iff.1 hu
        exact List.drop_eq_getElem_cons q1
      rw [hd] at hx
      obtain ⟨r1, r2, r3, r4, r5⟩ := hx
      have hus := S_size u.text
      have f1 : decide (((u.at_ : Nat) : Int) < ((p : Nat) : Int)) = false := by simp; omega
      have hw0 : IntKind.i64.wrap (((S s).size : Nat) - ((S u.text).size : Nat) : Int) = ((s.length - u.text.length : Nat) : Int) := by rw [IntWalk.i64_in _ (by omega)]; omega
      have f2 : decide (((u.at_ : Nat) : Int) > IntKind.i64.wrap (((S s).size : Nat) - ((S u.text).size : Nat) : Int)) = false := by rw [hw0]; simp; omega
      have hw : IntKind.i64.wrap (((u.at_ : Nat) : Int) + ((S u.text).size : Nat)) = ((u.at_ + u.text.length : Nat) : Int) := by rw [IntWalk.i64_in _ (by omega)]; omega
      have f3 : (!(((S s).extract ((u.at_ : Nat) : Int).toNat (IntKind.i64.wrap (((u.at_ : Nat) : Int) + ((S u.text).size : Nat))).toNat).toList == (S u.text).toList)) = false := by
        rw [hw, S_extract, Int.toNat_natCast, Int.toNat_natCast, show u.at_ + u.text.length - u.at_ = u.text.length by omega, r3]; simp
      have hw2 : IntKind.i64.wrap ((((l.map Tok.av).length : Nat) : Int) - 1) = ((l.length - 1 : Nat) : Int) := by rw [IntWalk.i64_in _ (by simp; omega)]; simp; omega
      have hdn : l.drop (k + 1) = [] ↔ k = l.length - 1 := by rw [List.drop_eq_nil_iff]; omega
      have f4 : (!((((u.kind : Nat) : Int) == 4) == (((k : Nat) : Int) == IntKind.i64.wrap ((((l.map Tok.av).length : Nat) : Int) - 1)))) = false := by
        rw [hw2]
        by_cases h4 : u.kind = 4
        · have := hdn.1 (r4.1 h4)
          rw [h4, this]; simp
        · have hn : ¬ k = l.length - 1 := fun h => h4 (r4.2 (hdn.2 h))
          have a1 : (((u.kind : Nat) : Int) == 4) = false := by rw [beq_eq_false_iff_ne]; omega
          have a2 : (((k : Nat) : Int) == ((l.length - 1 : Nat) : Int)) = false := by rw [beq_eq_false_iff_ne]; omega
          rw [a1, a2]; rfl
      repeat' (first | ((first | refine Sem.reg tt_ok ?_ | refine Sem.condS ?_ | refine Sem.regL tt_ok ?_ | refine Sem.skip tt_ok ?_ | refine Sem.exit tt_ok ?_ | refine Sem.ret tt_ok ?_ | refine BS_t (by assumption) ?_ | refine BS_f (by assumption) ?_ | refine atG (by repeat (first | assumption | exact setG_same _ _ _ | refine Eq.trans (setG_ne _ _ (by first | assumption | exact Ne.symm (by assumption))) ?_)) ?_ | refine (nthK_iff _ _).2 ⟨_, (by assumption), ?_⟩ | refine ⟨_, ⟨(by omega), (by assumption)⟩, ?_⟩ | refine And.intro (by first | decide | omega) ?_ | fail); conv => whnf) | refine Sem.seqS ?_ | refine Sem.block ?_ | fail)
      refine draw_sound (eff := []) tt_ok (by kernel_rfl) (by kernel_rfl) ?_; conv => whnf
      repeat' (first | ((first | refine BS_t (by assumption) ?_ | refine BS_f (by assumption) ?_ | refine atG (by repeat (first | assumption | exact setG_same _ _ _ | refine Eq.trans (setG_ne _ _ (by first | assumption | exact Ne.symm (by assumption))) ?_)) ?_ | refine (nthK_iff _ _).2 ⟨_, (by assumption), ?_⟩ | refine ⟨_, ⟨(by omega), (by assumption)⟩, ?_⟩ | refine And.intro (by first | decide | omega) ?_ | fail); conv => whnf) | fail)
      repeat' (first | ((first | refine Sem.reg tt_ok ?_ | refine Sem.condS ?_ | refine Sem.regL tt_ok ?_ | refine Sem.skip tt_ok ?_ | refine Sem.exit tt_ok ?_ | refine Sem.ret tt_ok ?_ | refine BS_t (by assumption) ?_ | refine BS_f (by assumption) ?_ | refine atG (by repeat (first | assumption | exact setG_same _ _ _ | refine Eq.trans (setG_ne _ _ (by first | assumption | exact Ne.symm (by assumption))) ?_)) ?_ | refine (nthK_iff _ _).2 ⟨_, (by assumption), ?_⟩ | refine ⟨_, ⟨(by omega), (by assumption)⟩, ?_⟩ | refine And.intro (by first | decide | omega) ?_ | fail); conv => whnf) | refine Sem.seqS ?_ | refine Sem.block ?_ | fail)
      refine ⟨⟨k + 1, u.at_ + u.text.length, hlt, r2, r5⟩, by show l.length - (k + 1) < l.length - k; omega, ?_⟩
      refine weak_by [] ?_; (conv => whnf); repeat (first | (refine And.intro rfl ?_; conv => whnf) | fail)
      refine And.intro hw ?_
      (conv => whnf); repeat (first | (refine And.intro rfl ?_; conv => whnf) | fail)
      refine And.intro (show _ = (((k + 1 : Nat)) : Int) from by rw [IntWalk.i64_in _ (by omega)]; omega) ?_
      (conv => whnf); repeat (first | (refine And.intro rfl ?_; conv => whnf) | fail)
      exact ⟨fun i y hy => hy, rfl, Nat.zero_le _, rfl, rfl⟩
    · have c0 : decide (((k : Nat) : Int) < (((l.map Tok.av).length : Nat) : Int)) = false := by simp; omega
      rw [List.drop_eq_nil_of_le (by omega)] at hx
      have hx : p = s.length := hx
      have f0 : (((p : Nat) : Int) == ((S s).size : Nat)) = true := by simp; omega
      repeat' (first | ((first | refine Sem.reg tt_ok ?_ | refine Sem.condS ?_ | refine Sem.regL tt_ok ?_ | refine Sem.skip tt_ok ?_ | refine Sem.exit tt_ok ?_ | refine Sem.ret tt_ok ?_ | refine BS_t (by assumption) ?_ | refine BS_f (by assumption) ?_ | refine atG (by repeat (first | assumption | exact setG_same _ _ _ | refine Eq.trans (setG_ne _ _ (by first | assumption | exact Ne.symm (by assumption))) ?_)) ?_ | refine (nthK_iff _ _).2 ⟨_, (by assumption), ?_⟩ | refine ⟨_, ⟨(by omega), (by assumption)⟩, ?_⟩ | refine And.intro (by first | decide | omega) ?_ | fail); conv => whnf) | refine Sem.seqS ?_ | refine Sem.block ?_ | fail)
      refine (awake08_ok _).on ?_; conv => whnf
      repeat' (first | ((first | refine Sem.reg tt_ok ?_ | refine Sem.condS ?_ | refine Sem.regL tt_ok ?_ | refine Sem.skip tt_ok ?_ | refine Sem.exit tt_ok ?_ | refine Sem.ret tt_ok ?_ | refine BS_t (by assumption) ?_ | refine BS_f (by assumption) ?_ | refine atG (by repeat (first | assumption | exact setG_same _ _ _ | refine Eq.trans (setG_ne _ _ (by first | assumption | exact Ne.symm (by assumption))) ?_)) ?_ | refine (nthK_iff _ _).2 ⟨_, (by assumption), ?_⟩ | refine ⟨_, ⟨(by omega), (by assumption)⟩, ?_⟩ | refine And.intro (by first | decide | omega) ?_ | fail); conv => whnf) | refine Sem.seqS ?_ | refine Sem.block ?_ | fail)
      exact ⟨_, fun _ _ h => h, rfl⟩
  · have t0 : (((e : Nat) : Int) != 0) = true := by simpa using he
    have hlt := hf he
    have t1 : decide (((at_ : Nat) : Int) ≥ 0) = true := by simp
    have t2 : decide (((at_ : Nat) : Int) < ((S s).size : Nat)) = true := by simp; omega
    repeat' (first | ((first | refine Sem.reg tt_ok ?_ | refine Sem.condS ?_ | refine Sem.regL tt_ok ?_ | refine Sem.skip tt_ok ?_ | refine Sem.exit tt_ok ?_ | refine Sem.ret tt_ok ?_ | refine BS_t (by assumption) ?_ | refine BS_f (by assumption) ?_ | refine atG (by repeat (first | assumption | exact setG_same _ _ _ | refine Eq.trans (setG_ne _ _ (by first | assumption | exact Ne.symm (by assumption))) ?_)) ?_ | refine (nthK_iff _ _).2 ⟨_, (by assumption), ?_⟩ | refine ⟨_, ⟨(by omega), (by assumption)⟩, ?_⟩ | refine And.intro (by first | decide | omega) ?_ | fail); conv => whnf) | refine Sem.seqS ?_ | refine Sem.block ?_ | fail)
    refine (awake08_ok _).on ?_; conv => whnf
    repeat' (first | ((first | refine Sem.reg tt_ok ?_ | refine Sem.condS ?_ | refine Sem.regL tt_ok ?_ | refine Sem.skip tt_ok ?_ | refine Sem.exit tt_ok ?_ | refine Sem.ret tt_ok ?_ | refine BS_t (by assumption) ?_ | refine BS_f (by assumption) ?_ | refine atG (by repeat (first | assumption | exact setG_same _ _ _ | refine Eq.trans (setG_ne _ _ (by first | assumption | exact Ne.symm (by assumption))) ?_)) ?_ | refine (nthK_iff _ _).2 ⟨_, (by assumption), ?_⟩ | refine ⟨_, ⟨(by omega), (by assumption)⟩, ?_⟩ | refine And.intro (by first | decide | omega) ?_ | fail); conv => whnf) | refine Sem.seqS ?_ | refine Sem.block ?_ | fail)
    exact ⟨_, fun _ _ h => h, rfl⟩
theorem lexRises_walk (b : ByteArray) (hb : b.size ≤ maxLen) (w : World) : Calls Try.prog 11 #[.string b] w (Gives w (.bool true)) := by
  refine law_of (lexRises_ok b.data.toList (by simpa using hb)) (fun v G h => h) rfl fun i a u ha hu => ?_
  match i with
  | 0 => simp [S_of] at ha hu; subst ha hu; exact .str _
  | i + 1 => simp at ha

set_option linter.unusedVariables false in
set_option maxRecDepth 100000 in
theorem lexRises_contract (H : Type) (enc : TypeId × Value → H) (W : World) (base : Nat) (args : Array Value) (ds gs : List (DataW H)) (before : List MemPlace)
    (hval : ∀ (j : Nat) t v, Try.f11.params[j]? = some t → args[j]? = some v → Value.okWide Try.prog W .any base t v)
    (hW : DataW.Whole enc Try.prog Try.f11.params.toList Rows.lexRisesSpec.vars false W args.toList ds gs before)
    (hsz : (DataW.weightsEach Try.prog (Try.f11.params.toList ++ (Rows.lexRisesSpec).plain.varTypes Try.prog) (ds ++ gs)).all (· ≤ reachBytes) = true) :
    Calls Try.prog 11 args W fun e W' => ∃ v, e = .returned v ∧ Rows.lexRisesSpec.post enc Try.prog Try.f11 false true false false W args v W' := by
  have hW' := hW
  obtain ⟨p, q, hA0, hV, rfl, hfz, hnd⟩ := hW
  have hA : DataW.TrodAll enc Try.prog W 0 (fun _ => true) true Try.f11.params.toList args.toList ds p := hA0
  rw [Try.params11] at hA hval hsz
  obtain ⟨v0, vs0, d0, ds0, p0, q0, hargs, rfl, rfl, h0, r0⟩ := trodAll_cons hA
  obtain ⟨rfl, rfl, rfl⟩ := trodAll_nil r0
  obtain rfl : args = #[v0] := by cases args; simp_all
  obtain ⟨rfl, rfl⟩ := trodVars_none hV
  clear hA0
  obtain ⟨a0, rfl, rfl, rfl, w0⟩ := open_string Try.underlying9 (hval 0 9 v0 rfl rfl) h0
  refine (lexRises_walk a0 w0 W).mono fun e W' ⟨he, hu⟩ => ?_
  subst he
  exact ⟨_, rfl, post_true laidOut (by kernel_rfl) Try.underlying4 rfl rfl hW' rfl hu⟩

theorem lexRises_closed : joinedFacts Try.prog 11 Try.f11 Rows.lexRisesSpec Rows.lexRisesRow = true := by
  unfold joinedFacts
  rw [fact_mayEnter, fact_lifted, fact_make]
  kernel_rfl

set_option maxRecDepth 100000 in
theorem lexRises_lifted (os : Os) (started : os.Started) (H : Type) (enc : TypeId × Value → H) :
    ReturnsInHanded {} Try.checked os 11 .any (Rows.lexRisesSpec.pre6 enc Try.prog Try.f11 Rows.lexRisesRow.domain false) (Rows.lexRisesSpec.post enc Try.prog Try.f11 false true false false) := by
  refine returnsInHanded_of_change_sized (C := Try.checked) own started (by kernel_rfl) Try.func11
    (ChangeSpec.witness6 (enc := enc) (C := Try.checked) false ⟨#[], #[.string ⟨#[]⟩], []⟩ 8 (by kernel_rfl) (by kernel_rfl) (by kernel_rfl) (by kernel_rfl)) ?_
  intro W base args ds gs before hval hW _ hsz _
  exact lexRises_contract H enc W base args ds gs before hval hW hsz

theorem lexRises_holds : Rows.LexRisesSaid :=
  OpenClaim.holds_of_wide 11 Try.f11 rfl rfl rfl rfl rfl rfl rfl ⟨rfl, rfl, rfl, rfl, rfl⟩ rfl rfl rfl rfl rfl (by kernel_rfl) Try.func11 lexRises_closed
    (of_decide_eq_true (by kernel_rfl)) (by unfold Func.isWrapper; rw [if_neg (by decide +kernel)]; exact ⟨rfl, rfl⟩)
    (fun os started H enc _ => lexRises_lifted os started H enc)
end Go.Proofs.Ytmmmaekaoanceaa
