/- The lexer's laws: its example; how many tokens there are. -/
import Derived.Test.YtmmmaekaoanceaaLexJ
import Derived.Test.YtmmmaekaoanceaaFacts
import Derived.Test.YtmmmaekaoanceaaFrame
set_option maxRecDepth 100000
set_option linter.unusedSimpArgs false
namespace Go.Proofs.Ytmmmaekaoanceaa
open Go Go.RowKit Go.Proofs Go.Shelf

theorem tok_some (s : List UInt8) : (tokT s).1.length ≤ 1025 := by
  unfold tokT
  by_cases h : 1024 < s.length
  · rw [if_pos h]; simp
  · rw [if_neg h]
    by_cases he : (lexN s 0).2.1 = 0
    · obtain ⟨m, h1, _, h3⟩ := lex_toks s 0 he
      rw [h1, List.length_append, List.length_singleton]; omega
    · rw [(lex_fault s 0 he).1]; simp
theorem tok_ex : tokT [97, 58, 49, 50] = ([⟨1, [97], 0, 0⟩, ⟨3, [58], 0, 1⟩, ⟨2, [49, 50], 12, 2⟩, ⟨4, [], 0, 4⟩], 0, 0) := by
  have o0 : oneL [97, 58, 49, 50] 0 = (some ⟨1, [97], 0, 0⟩, 1, 0) := rfl
  have o1 : oneL [97, 58, 49, 50] 1 = (some ⟨3, [58], 0, 1⟩, 2, 0) := rfl
  have o2 : oneL [97, 58, 49, 50] 2 = (some ⟨2, [49, 50], 12, 2⟩, 4, 0) := rfl
  unfold tokT
  rw [if_neg (by decide), lex_next (by decide) (by rw [o0]), o0, lex_next (by decide) (by rw [o1]), o1, lex_next (by decide) (by rw [o2]), o2, lex_end (by decide)]
  rfl
theorem awake08_ok (G : Glob) : CallOk Try.prog TT 54 [] G (fun v G' => v = .bool true ∧ G' = G) := by
  have h := tokens_ok [97, 58, 49, 50] G
  rw [tok_ex] at h
  refine call_sem tt_ok Try.func54 rfl (by kernel_rfl) Try.ntmps54 Try.results54 ?_; conv => whnf
  repeat' (first | ((first | refine Sem.reg tt_ok ?_ | refine Sem.condS ?_ | refine Sem.regL tt_ok ?_ | refine Sem.skip tt_ok ?_ | refine Sem.exit tt_ok ?_ | refine Sem.ret tt_ok ?_ | refine BS_t (by assumption) ?_ | refine BS_f (by assumption) ?_ | refine atG (by repeat (first | assumption | exact setG_same _ _ _ | refine Eq.trans (setG_ne _ _ (by first | assumption | exact Ne.symm (by assumption))) ?_)) ?_ | refine (nthK_iff _ _).2 ⟨_, (by assumption), ?_⟩ | refine ⟨_, ⟨(by omega), (by assumption)⟩, ?_⟩ | refine And.intro (by first | decide | omega) ?_ | fail); conv => whnf) | refine Sem.seqS ?_ | refine Sem.block ?_ | fail)
  refine h.on ?_; conv => whnf
  repeat' (first | ((first | refine Sem.reg tt_ok ?_ | refine Sem.condS ?_ | refine Sem.regL tt_ok ?_ | refine Sem.skip tt_ok ?_ | refine Sem.exit tt_ok ?_ | refine Sem.ret tt_ok ?_ | refine BS_t (by assumption) ?_ | refine BS_f (by assumption) ?_ | refine atG (by repeat (first | assumption | exact setG_same _ _ _ | refine Eq.trans (setG_ne _ _ (by first | assumption | exact Ne.symm (by assumption))) ?_)) ?_ | refine (nthK_iff _ _).2 ⟨_, (by assumption), ?_⟩ | refine ⟨_, ⟨(by omega), (by assumption)⟩, ?_⟩ | refine And.intro (by first | decide | omega) ?_ | fail); conv => whnf) | refine Sem.seqS ?_ | refine Sem.block ?_ | fail)
  repeat' (first | (refine ⟨_, ⟨by decide, rfl⟩, ?_⟩; conv => whnf) | (refine Sem.ret tt_ok ?_; conv => whnf) | fail)
  repeat' (first | ((first | refine Sem.reg tt_ok ?_ | refine Sem.condS ?_ | refine Sem.regL tt_ok ?_ | refine Sem.skip tt_ok ?_ | refine Sem.exit tt_ok ?_ | refine Sem.ret tt_ok ?_ | refine BS_t (by assumption) ?_ | refine BS_f (by assumption) ?_ | refine atG (by repeat (first | assumption | exact setG_same _ _ _ | refine Eq.trans (setG_ne _ _ (by first | assumption | exact Ne.symm (by assumption))) ?_)) ?_ | refine (nthK_iff _ _).2 ⟨_, (by assumption), ?_⟩ | refine ⟨_, ⟨(by omega), (by assumption)⟩, ?_⟩ | refine And.intro (by first | decide | omega) ?_ | fail); conv => whnf) | refine Sem.seqS ?_ | refine Sem.block ?_ | fail)
  exact ⟨_, fun _ _ h => h, rfl, rfl⟩
end Go.Proofs.Ytmmmaekaoanceaa
