/- 'LexAgain': whatever text: tokens that are joined have the same tokens, but for places, if the text is not too long: the law hands back true. Conditions: none. -/
import Derived.Test.YtmmmaekaoanceaaLexL
set_option maxRecDepth 100000
set_option linter.unusedSimpArgs false
namespace Go.Proofs.Ytmmmaekaoanceaa
open Go Go.RowKit Go.ChangeShapes Go.WideShapes Go.ChangeAt Go.Proofs
open Go.ChangeMaps (open_string shut_string)

theorem relab_len : ∀ (m : List Tok) (a : Nat), (relab m a).length = m.length
  | [], _ => rfl
  | t :: m, a => by rw [relab_cons, List.length_cons, List.length_cons, relab_len m]
theorem relab_at : ∀ (m : List Tok) (a i : Nat) (u v : Tok), m[i]? = some u → (relab m a)[i]? = some v → u.kind = v.kind ∧ u.text = v.text ∧ u.num = v.num
  | [], _, i, u, v, h, _ => by simp at h
  | t :: m, a, 0, u, v, h, h' => by
    rw [relab_cons] at h'
    simp only [List.getElem?_cons_zero, Option.some.injEq] at h h'
    subst h h'; exact ⟨rfl, rfl, rfl⟩
  | t :: m, a, i + 1, u, v, h, h' => by
    rw [relab_cons] at h'
    exact relab_at m _ i u v (by simpa using h) (by simpa using h')
theorem relab_text : ∀ (m : List Tok) (a : Nat), textsL (relab m a) = textsL m
  | [], _ => rfl
  | t :: m, a => by
    have := relab_text m (a + t.text.length + 1)
    rw [relab_cons]
    unfold textsL at *
    simp [this]
/-- what the law asks of a text's tokens -/
theorem again_plain (s : List UInt8) (h : (tokT s).2.1 = 0) : ∃ m n a, (tokT s).1 = m ++ [⟨4, [], n, a⟩] ∧ (tokT s).2.2 = 0 ∧ (∀ t ∈ (tokT s).1, t.text.length ≤ 16) ∧ Lib.join (textsL (tokT s).1) [32] = blanks m ∧
    (¬ 1024 < (blanks m).length → tokT (blanks m) = (relab m 0 ++ [⟨4, [], 0, (blanks m).length⟩], 0, 0)) ∧ n = 0 := by
  unfold tokT at h ⊢
  by_cases hs : 1024 < s.length
  · rw [if_pos hs] at h; cases h
  rw [if_neg hs] at h ⊢
  obtain ⟨m, h1, h2, h3⟩ := lex_toks s 0 h
  refine ⟨m, 0, s.length, h1, lex_well s 0 h, fun t ht => ?_, by rw [h1]; exact join_blanks m 0 _, fun hb => ?_, rfl⟩
  · rw [h1] at ht
    rcases List.mem_append.1 ht with ht | ht
    · exact (h2 t ht).1.len
    · rw [List.mem_singleton.1 ht]; simp
  · have := lex_blanks m [] (fun t ht => (h2 t ht).1)
    simp only [List.nil_append, List.length_nil] at this
    rw [if_neg hb]; exact this
theorem lexAgain_ok (s : List UInt8) : CallOk Try.prog TT 18 [.str (S s)] (fun _ => none) (fun v _ => v = .bool true) := by
  have h1 := tokens_ok s (fun _ => none)
  have hl := tok_some s
  have ha := again_plain s
  have hnil : (tokT s).2.1 ≠ 0 → (tokT s).1 = [] := by
    unfold tokT
    by_cases h : 1024 < s.length
    · rw [if_pos h]; intro _; rfl
    · rw [if_neg h]; exact fun h => (lex_fault s 0 h).1
  generalize tokT s = r at *
  obtain ⟨l, e, at_⟩ := r
  simp only at hl ha hnil
  refine call_sem tt_ok Try.func18 rfl (by kernel_rfl) Try.ntmps18 Try.results18 ?_; conv => whnf
  repeat' (first | ((first | refine Sem.reg tt_ok ?_ | refine Sem.condS ?_ | refine Sem.regL tt_ok ?_ | refine Sem.skip tt_ok ?_ | refine Sem.exit tt_ok ?_ | refine Sem.ret tt_ok ?_ | refine BS_t (by assumption) ?_ | refine BS_f (by assumption) ?_ | refine atG (by repeat (first | assumption | exact setG_same _ _ _ | refine Eq.trans (setG_ne _ _ (by first | assumption | exact Ne.symm (by assumption))) ?_)) ?_ | refine (nthK_iff _ _).2 ⟨_, (by assumption), ?_⟩ | refine ⟨_, ⟨(by omega), (by assumption)⟩, ?_⟩ | refine And.intro (by first | decide | omega) ?_ | fail); conv => whnf) | refine Sem.seqS ?_ | refine Sem.block ?_ | fail)
  refine h1.on ?_; conv => whnf
  repeat' (first | ((first | refine Sem.reg tt_ok ?_ | refine Sem.condS ?_ | refine Sem.regL tt_ok ?_ | refine Sem.skip tt_ok ?_ | refine Sem.exit tt_ok ?_ | refine Sem.ret tt_ok ?_ | refine BS_t (by assumption) ?_ | refine BS_f (by assumption) ?_ | refine atG (by repeat (first | assumption | exact setG_same _ _ _ | refine Eq.trans (setG_ne _ _ (by first | assumption | exact Ne.symm (by assumption))) ?_)) ?_ | refine (nthK_iff _ _).2 ⟨_, (by assumption), ?_⟩ | refine ⟨_, ⟨(by omega), (by assumption)⟩, ?_⟩ | refine And.intro (by first | decide | omega) ?_ | fail); conv => whnf) | refine Sem.seqS ?_ | refine Sem.block ?_ | fail)
  by_cases he : e = 0
  · have t0 : (((e : Nat) : Int) != 0) = false := by simp [he]
    obtain ⟨m, n, a, rfl, hat, hle, hjb, hag, hn0⟩ := ha he
    have hjo := lexjoin_ok (m ++ [⟨4, [], n, a⟩]) (fun _ => none) (by simp) (by omega) hle
    rw [hjb] at hjo
    have hszb := S_size (blanks m)
    have h2 := tokens_ok (blanks m) (fun _ => none)
    repeat' (first | ((first | refine Sem.reg tt_ok ?_ | refine Sem.condS ?_ | refine Sem.regL tt_ok ?_ | refine Sem.skip tt_ok ?_ | refine Sem.exit tt_ok ?_ | refine Sem.ret tt_ok ?_ | refine BS_t (by assumption) ?_ | refine BS_f (by assumption) ?_ | refine atG (by repeat (first | assumption | exact setG_same _ _ _ | refine Eq.trans (setG_ne _ _ (by first | assumption | exact Ne.symm (by assumption))) ?_)) ?_ | refine (nthK_iff _ _).2 ⟨_, (by assumption), ?_⟩ | refine ⟨_, ⟨(by omega), (by assumption)⟩, ?_⟩ | refine And.intro (by first | decide | omega) ?_ | fail); conv => whnf) | refine Sem.seqS ?_ | refine Sem.block ?_ | fail)
    refine hjo.on ?_; conv => whnf
    repeat' (first | ((first | refine Sem.reg tt_ok ?_ | refine Sem.condS ?_ | refine Sem.regL tt_ok ?_ | refine Sem.skip tt_ok ?_ | refine Sem.exit tt_ok ?_ | refine Sem.ret tt_ok ?_ | refine BS_t (by assumption) ?_ | refine BS_f (by assumption) ?_ | refine atG (by repeat (first | assumption | exact setG_same _ _ _ | refine Eq.trans (setG_ne _ _ (by first | assumption | exact Ne.symm (by assumption))) ?_)) ?_ | refine (nthK_iff _ _).2 ⟨_, (by assumption), ?_⟩ | refine ⟨_, ⟨(by omega), (by assumption)⟩, ?_⟩ | refine And.intro (by first | decide | omega) ?_ | fail); conv => whnf) | refine Sem.seqS ?_ | refine Sem.block ?_ | fail)
    by_cases hlong : 1024 < (blanks m).length
    · have e3 : tokT (blanks m) = ([], 3, 0) := if_pos hlong
      rw [e3] at h2
      have t1 : decide (((S (blanks m)).size : Int) > 1024) = true := by simp; omega
      refine h2.on ?_; conv => whnf
      repeat' (first | ((first | refine Sem.reg tt_ok ?_ | refine Sem.condS ?_ | refine Sem.regL tt_ok ?_ | refine Sem.skip tt_ok ?_ | refine Sem.exit tt_ok ?_ | refine Sem.ret tt_ok ?_ | refine BS_t (by assumption) ?_ | refine BS_f (by assumption) ?_ | refine atG (by repeat (first | assumption | exact setG_same _ _ _ | refine Eq.trans (setG_ne _ _ (by first | assumption | exact Ne.symm (by assumption))) ?_)) ?_ | refine (nthK_iff _ _).2 ⟨_, (by assumption), ?_⟩ | refine ⟨_, ⟨(by omega), (by assumption)⟩, ?_⟩ | refine And.intro (by first | decide | omega) ?_ | fail); conv => whnf) | refine Sem.seqS ?_ | refine Sem.block ?_ | fail)
      refine (awake08_ok _).on ?_; conv => whnf
      repeat' (first | ((first | refine Sem.reg tt_ok ?_ | refine Sem.condS ?_ | refine Sem.regL tt_ok ?_ | refine Sem.skip tt_ok ?_ | refine Sem.exit tt_ok ?_ | refine Sem.ret tt_ok ?_ | refine BS_t (by assumption) ?_ | refine BS_f (by assumption) ?_ | refine atG (by repeat (first | assumption | exact setG_same _ _ _ | refine Eq.trans (setG_ne _ _ (by first | assumption | exact Ne.symm (by assumption))) ?_)) ?_ | refine (nthK_iff _ _).2 ⟨_, (by assumption), ?_⟩ | refine ⟨_, ⟨(by omega), (by assumption)⟩, ?_⟩ | refine And.intro (by first | decide | omega) ?_ | fail); conv => whnf) | refine Sem.seqS ?_ | refine Sem.block ?_ | fail)
      exact ⟨_, fun _ _ h => h, rfl⟩
    · have hag := hag hlong
      rw [hag] at h2
      have t1 : decide (((S (blanks m)).size : Int) > 1024) = false := by simp; omega
      have hsame := same08_ok (m ++ [⟨4, [], n, a⟩]) (relab m 0 ++ [⟨4, [], 0, (blanks m).length⟩]) false (by simp [relab_len]) (fun i u v hu hv => by
        rcases Nat.lt_or_ge i m.length with hi | hi
        · rw [List.getElem?_append_left hi] at hu
          rw [List.getElem?_append_left (by rw [relab_len]; exact hi)] at hv
          obtain ⟨q1, q2, q3⟩ := relab_at m 0 i u v hu hv
          exact ⟨q1, q2, q3, fun h => by cases h⟩
        · rw [List.getElem?_append_right hi] at hu
          rw [List.getElem?_append_right (by rw [relab_len]; exact hi), relab_len] at hv
          cases hj : i - m.length with
          | zero =>
            rw [hj] at hu hv
            simp only [List.getElem?_cons_zero, Option.some.injEq] at hu hv
            subst hu hv
            exact ⟨rfl, rfl, hn0, fun h => by cases h⟩
          | succ j => rw [hj] at hu; simp at hu) (by simp at hl ⊢; omega) (fun _ => none)
      have hjo2 := lexjoin_ok (relab m 0 ++ [⟨4, [], 0, (blanks m).length⟩]) (fun _ => none) (by simp) (by simp [relab_len] at hl ⊢; omega) (fun t ht => by
        rcases List.mem_append.1 ht with ht | ht
        · obtain ⟨i, hi⟩ := List.getElem?_of_mem ht
          have hil : i < m.length := by rw [← relab_len m 0]; exact (List.getElem?_eq_some_iff.1 hi).1
          obtain ⟨q1, q2, q3⟩ := relab_at m 0 i m[i] t (List.getElem?_eq_getElem hil) hi
          rw [← q2]
          exact hle _ (List.mem_append_left _ (List.getElem_mem hil))
        · rw [List.mem_singleton.1 ht]; simp)
      have hj2 : Lib.join (textsL (relab m 0 ++ [⟨4, [], 0, (blanks m).length⟩])) [32] = blanks m := by
        rw [← join_blanks m 0 0]
        unfold textsL
        rw [List.map_append, List.map_append]
        have := relab_text m 0
        unfold textsL at this
        rw [this]; rfl
      rw [hj2] at hjo2
      have t2 : ((S (blanks m)).toList == (S (blanks m)).toList) = true := by simp
      refine h2.on ?_; conv => whnf
      repeat' (first | ((first | refine Sem.reg tt_ok ?_ | refine Sem.condS ?_ | refine Sem.regL tt_ok ?_ | refine Sem.skip tt_ok ?_ | refine Sem.exit tt_ok ?_ | refine Sem.ret tt_ok ?_ | refine BS_t (by assumption) ?_ | refine BS_f (by assumption) ?_ | refine atG (by repeat (first | assumption | exact setG_same _ _ _ | refine Eq.trans (setG_ne _ _ (by first | assumption | exact Ne.symm (by assumption))) ?_)) ?_ | refine (nthK_iff _ _).2 ⟨_, (by assumption), ?_⟩ | refine ⟨_, ⟨(by omega), (by assumption)⟩, ?_⟩ | refine And.intro (by first | decide | omega) ?_ | fail); conv => whnf) | refine Sem.seqS ?_ | refine Sem.block ?_ | fail)
      refine hsame.on ?_; conv => whnf
      repeat' (first | ((first | refine Sem.reg tt_ok ?_ | refine Sem.condS ?_ | refine Sem.regL tt_ok ?_ | refine Sem.skip tt_ok ?_ | refine Sem.exit tt_ok ?_ | refine Sem.ret tt_ok ?_ | refine BS_t (by assumption) ?_ | refine BS_f (by assumption) ?_ | refine atG (by repeat (first | assumption | exact setG_same _ _ _ | refine Eq.trans (setG_ne _ _ (by first | assumption | exact Ne.symm (by assumption))) ?_)) ?_ | refine (nthK_iff _ _).2 ⟨_, (by assumption), ?_⟩ | refine ⟨_, ⟨(by omega), (by assumption)⟩, ?_⟩ | refine And.intro (by first | decide | omega) ?_ | fail); conv => whnf) | refine Sem.seqS ?_ | refine Sem.block ?_ | fail)
      refine hjo2.on ?_; conv => whnf
      repeat' (first | ((first | refine Sem.reg tt_ok ?_ | refine Sem.condS ?_ | refine Sem.regL tt_ok ?_ | refine Sem.skip tt_ok ?_ | refine Sem.exit tt_ok ?_ | refine Sem.ret tt_ok ?_ | refine BS_t (by assumption) ?_ | refine BS_f (by assumption) ?_ | refine atG (by repeat (first | assumption | exact setG_same _ _ _ | refine Eq.trans (setG_ne _ _ (by first | assumption | exact Ne.symm (by assumption))) ?_)) ?_ | refine (nthK_iff _ _).2 ⟨_, (by assumption), ?_⟩ | refine ⟨_, ⟨(by omega), (by assumption)⟩, ?_⟩ | refine And.intro (by first | decide | omega) ?_ | fail); conv => whnf) | refine Sem.seqS ?_ | refine Sem.block ?_ | fail)
      refine (awake08_ok _).on ?_; conv => whnf
      repeat' (first | ((first | refine Sem.reg tt_ok ?_ | refine Sem.condS ?_ | refine Sem.regL tt_ok ?_ | refine Sem.skip tt_ok ?_ | refine Sem.exit tt_ok ?_ | refine Sem.ret tt_ok ?_ | refine BS_t (by assumption) ?_ | refine BS_f (by assumption) ?_ | refine atG (by repeat (first | assumption | exact setG_same _ _ _ | refine Eq.trans (setG_ne _ _ (by first | assumption | exact Ne.symm (by assumption))) ?_)) ?_ | refine (nthK_iff _ _).2 ⟨_, (by assumption), ?_⟩ | refine ⟨_, ⟨(by omega), (by assumption)⟩, ?_⟩ | refine And.intro (by first | decide | omega) ?_ | fail); conv => whnf) | refine Sem.seqS ?_ | refine Sem.block ?_ | fail)
      exact ⟨_, fun _ _ h => h, rfl⟩
  · have t0 : (((e : Nat) : Int) != 0) = true := by simpa using he
    have hl0 := hnil he
    subst hl0
    repeat' (first | ((first | refine Sem.reg tt_ok ?_ | refine Sem.condS ?_ | refine Sem.regL tt_ok ?_ | refine Sem.skip tt_ok ?_ | refine Sem.exit tt_ok ?_ | refine Sem.ret tt_ok ?_ | refine BS_t (by assumption) ?_ | refine BS_f (by assumption) ?_ | refine atG (by repeat (first | assumption | exact setG_same _ _ _ | refine Eq.trans (setG_ne _ _ (by first | assumption | exact Ne.symm (by assumption))) ?_)) ?_ | refine (nthK_iff _ _).2 ⟨_, (by assumption), ?_⟩ | refine ⟨_, ⟨(by omega), (by assumption)⟩, ?_⟩ | refine And.intro (by first | decide | omega) ?_ | fail); conv => whnf) | refine Sem.seqS ?_ | refine Sem.block ?_ | fail)
    refine (awake08_ok _).on ?_; conv => whnf
    repeat' (first | ((first | refine Sem.reg tt_ok ?_ | refine Sem.condS ?_ | refine Sem.regL tt_ok ?_ | refine Sem.skip tt_ok ?_ | refine Sem.exit tt_ok ?_ | refine Sem.ret tt_ok ?_ | refine BS_t (by assumption) ?_ | refine BS_f (by assumption) ?_ | refine atG (by repeat (first | assumption | exact setG_same _ _ _ | refine Eq.trans (setG_ne _ _ (by first | assumption | exact Ne.symm (by assumption))) ?_)) ?_ | refine (nthK_iff _ _).2 ⟨_, (by assumption), ?_⟩ | refine ⟨_, ⟨(by omega), (by assumption)⟩, ?_⟩ | refine And.intro (by first | decide | omega) ?_ | fail); conv => whnf) | refine Sem.seqS ?_ | refine Sem.block ?_ | fail)
    exact ⟨_, fun _ _ h => h, rfl⟩
theorem lexAgain_walk (b : ByteArray) (_hb : b.size ≤ maxLen) (w : World) : Calls Try.prog 18 #[.string b] w (Gives w (.bool true)) := by
  refine law_of (lexAgain_ok b.data.toList) (fun v G h => h) rfl fun i a u ha hu => ?_
  match i with
  | 0 => simp [S_of] at ha hu; subst ha hu; exact .str _
  | i + 1 => simp at ha

set_option linter.unusedVariables false in
set_option maxRecDepth 100000 in
theorem lexAgain_contract (H : Type) (enc : TypeId × Value → H) (W : World) (base : Nat) (args : Array Value) (ds gs : List (DataW H)) (before : List MemPlace)
    (hval : ∀ (j : Nat) t v, Try.f18.params[j]? = some t → args[j]? = some v → Value.okWide Try.prog W .any base t v)
    (hW : DataW.Whole enc Try.prog Try.f18.params.toList Rows.lexAgainSpec.vars false W args.toList ds gs before)
    (hsz : (DataW.weightsEach Try.prog (Try.f18.params.toList ++ (Rows.lexAgainSpec).plain.varTypes Try.prog) (ds ++ gs)).all (· ≤ reachBytes) = true) :
    Calls Try.prog 18 args W fun e W' => ∃ v, e = .returned v ∧ Rows.lexAgainSpec.post enc Try.prog Try.f18 false true false false W args v W' := by
  have hW' := hW
  obtain ⟨p, q, hA0, hV, rfl, hfz, hnd⟩ := hW
  have hA : DataW.TrodAll enc Try.prog W 0 (fun _ => true) true Try.f18.params.toList args.toList ds p := hA0
  rw [Try.params18] at hA hval hsz
  obtain ⟨v0, vs0, d0, ds0, p0, q0, hargs, rfl, rfl, h0, r0⟩ := trodAll_cons hA
  obtain ⟨rfl, rfl, rfl⟩ := trodAll_nil r0
  obtain rfl : args = #[v0] := by cases args; simp_all
  obtain ⟨rfl, rfl⟩ := trodVars_none hV
  clear hA0
  obtain ⟨a0, rfl, rfl, rfl, w0⟩ := open_string Try.underlying9 (hval 0 9 v0 rfl rfl) h0
  refine (lexAgain_walk a0 w0 W).mono fun e W' ⟨he, hu⟩ => ?_
  subst he
  exact ⟨_, rfl, post_true laidOut (by kernel_rfl) Try.underlying4 rfl rfl hW' rfl hu⟩

theorem lexAgain_closed : joinedFacts Try.prog 18 Try.f18 Rows.lexAgainSpec Rows.lexAgainRow = true := by
  unfold joinedFacts
  rw [fact_mayEnter, fact_lifted, fact_make]
  kernel_rfl

set_option maxRecDepth 100000 in
theorem lexAgain_lifted (os : Os) (started : os.Started) (H : Type) (enc : TypeId × Value → H) :
    ReturnsInHanded {} Try.checked os 18 .any (Rows.lexAgainSpec.pre6 enc Try.prog Try.f18 Rows.lexAgainRow.domain false) (Rows.lexAgainSpec.post enc Try.prog Try.f18 false true false false) := by
  refine returnsInHanded_of_change_sized (C := Try.checked) own started (by kernel_rfl) Try.func18
    (ChangeSpec.witness6 (enc := enc) (C := Try.checked) false ⟨#[], #[.string ⟨#[]⟩], []⟩ 8 (by kernel_rfl) (by kernel_rfl) (by kernel_rfl) (by kernel_rfl)) ?_
  intro W base args ds gs before hval hW _ hsz _
  exact lexAgain_contract H enc W base args ds gs before hval hW hsz

theorem lexAgain_holds : Rows.LexAgainSaid :=
  OpenClaim.holds_of_wide 18 Try.f18 rfl rfl rfl rfl rfl rfl rfl ⟨rfl, rfl, rfl, rfl, rfl⟩ rfl rfl rfl rfl rfl (by kernel_rfl) Try.func18 lexAgain_closed
    (of_decide_eq_true (by kernel_rfl)) (by unfold Func.isWrapper; rw [if_neg (by decide +kernel)]; exact ⟨rfl, rfl⟩)
    (fun os started H enc _ => lexAgain_lifted os started H enc)
end Go.Proofs.Ytmmmaekaoanceaa
