/- value.of, strconv.FormatBool and FormatInt in the abstract run. -/
import Derived.Test.YtgedlbfdhekdgaaDoorValB
import Derived.Test.YtgedlbfdhekdgaaDoorIto
set_option maxRecDepth 100000
set_option linter.unusedSimpArgs false
namespace Go.Proofs.YtgedlbfdhekdgaaDoor
open Go Go.RowKit Go.Proofs

def ofV (k : Int) : AV :=
  if k = 1 then .ifc 37 (.agg [.int .i64 0, .int .i64 1])
  else if k = 2 ∨ k = 3 then .ifc 37 (.agg [.int .i64 (-9223372036854775808), .int .i64 9223372036854775807])
  else if k = 6 then .ifc 37 (.agg [.int .i64 0, .int .i64 9999])
  else if k = 4 then .ifc 43 (.agg [.bool true])
  else if k = 5 then .ifc 43 (.agg [.bool false])
  else if k = 7 then .ifc 46 (.agg [])
  else if k = 8 then .ifc 48 (.agg [])
  else if k = 9 then .ifc 50 (.agg [.int .i64 0])
  else if k = 10 then .ifc 50 (.agg [.int .i64 1])
  else .nili
theorem kinds10 (k : Int) : k = 1 ∨ k = 2 ∨ k = 3 ∨ k = 4 ∨ k = 5 ∨ k = 6 ∨ k = 7 ∨ k = 8 ∨ k = 9 ∨ k = 10 ∨ (k ≠ 1 ∧ k ≠ 2 ∧ k ≠ 3 ∧ k ≠ 4 ∧ k ≠ 5 ∧ k ≠ 6 ∧ k ≠ 7 ∧ k ≠ 8 ∧ k ≠ 9 ∧ k ≠ 10) := by omega
theorem vof_ok (k : Int) (G : Glob) : CallOk Tryd.prog TT 16 [.int .i64 k] G (fun v G' => v = ofV k ∧ G' = G) := by
  rcases kinds10 k with rfl | rfl | rfl | rfl | rfl | rfl | rfl | rfl | rfl | rfl | ⟨h1, h2, h3, h4, h5, h6, h7, h8, h9, h10⟩
  rotate_right
  · have t1 : (k == 1) = false := by simpa using h1
    have t2 : (k == 2) = false := by simpa using h2
    have t3 : (k == 3) = false := by simpa using h3
    have t4 : (k == 4) = false := by simpa using h4
    have t5 : (k == 5) = false := by simpa using h5
    have t6 : (k == 6) = false := by simpa using h6
    have t7 : (k == 7) = false := by simpa using h7
    have t8 : (k == 8) = false := by simpa using h8
    have t9 : (k == 9) = false := by simpa using h9
    have t10 : (k == 10) = false := by simpa using h10
    have e : ofV k = .nili := by unfold ofV; rw [if_neg h1, if_neg (by omega), if_neg h6, if_neg h4, if_neg h5, if_neg h7, if_neg h8, if_neg h9, if_neg h10]
    rw [e]
    refine call_sem tt_ok Tryd.func16 rfl (by kernel_rfl) Tryd.ntmps16 Tryd.results16 ?_; conv => whnf
    repeat' (first | ((first | refine Sem.reg tt_ok ?_ | refine Sem.condS ?_ | refine Sem.regL tt_ok ?_ | refine Sem.skip tt_ok ?_ | refine Sem.exit tt_ok ?_ | refine Sem.ret tt_ok ?_ | refine BS_t (by assumption) ?_ | refine BS_f (by assumption) ?_ | refine (nthK_iff _ _).2 ⟨_, (by assumption), ?_⟩ | refine ⟨_, ⟨(by omega), (by assumption)⟩, ?_⟩ | refine And.intro (by first | decide | omega) ?_ | fail); conv => whnf) | refine Sem.seqS ?_ | refine Sem.block ?_ | fail)
    exact ⟨_, fun _ _ h => h, rfl, rfl⟩
  all_goals
    refine call_sem tt_ok Tryd.func16 rfl (by kernel_rfl) Tryd.ntmps16 Tryd.results16 ?_; conv => whnf
    repeat' (first | ((first | refine Sem.reg tt_ok ?_ | refine Sem.condS ?_ | refine Sem.regL tt_ok ?_ | refine Sem.skip tt_ok ?_ | refine Sem.exit tt_ok ?_ | refine Sem.ret tt_ok ?_ | refine BS_t (by assumption) ?_ | refine BS_f (by assumption) ?_ | refine (nthK_iff _ _).2 ⟨_, (by assumption), ?_⟩ | refine ⟨_, ⟨(by omega), (by assumption)⟩, ?_⟩ | refine And.intro (by first | decide | omega) ?_ | fail); conv => whnf) | refine Sem.seqS ?_ | refine Sem.block ?_ | fail)
    exact ⟨_, fun _ _ h => h, rfl, rfl⟩
theorem fbool_ok (b : Bool) (G : Glob) : CallOk Tryd.prog TT 17 [.bool b] G (fun v G' => v = .str (S (if b = true then [116, 114, 117, 101] else [102, 97, 108, 115, 101])) ∧ G' = G) := by
  have h1 : CallOk Tryd.prog TT 39 [.bool b] G (fun v G' => v = .str (S (if b = true then [116, 114, 117, 101] else [102, 97, 108, 115, 101])) ∧ G' = G) := by
    cases b <;>
    · refine call_sem tt_ok Tryd.func39 rfl (by kernel_rfl) Tryd.ntmps39 Tryd.results39 ?_; conv => whnf
      repeat' (first | ((first | refine Sem.reg tt_ok ?_ | refine Sem.condS ?_ | refine Sem.regL tt_ok ?_ | refine Sem.skip tt_ok ?_ | refine Sem.exit tt_ok ?_ | refine Sem.ret tt_ok ?_ | refine BS_t (by assumption) ?_ | refine BS_f (by assumption) ?_ | refine (nthK_iff _ _).2 ⟨_, (by assumption), ?_⟩ | refine ⟨_, ⟨(by omega), (by assumption)⟩, ?_⟩ | refine And.intro (by first | decide | omega) ?_ | fail); conv => whnf) | refine Sem.seqS ?_ | refine Sem.block ?_ | fail)
      exact ⟨_, fun _ _ h => h, rfl, rfl⟩
  refine call_sem tt_ok Tryd.func17 rfl (by kernel_rfl) Tryd.ntmps17 Tryd.results17 ?_; conv => whnf
  repeat' (first | ((first | refine Sem.reg tt_ok ?_ | refine Sem.condS ?_ | refine Sem.regL tt_ok ?_ | refine Sem.skip tt_ok ?_ | refine Sem.exit tt_ok ?_ | refine Sem.ret tt_ok ?_ | refine BS_t (by assumption) ?_ | refine BS_f (by assumption) ?_ | refine (nthK_iff _ _).2 ⟨_, (by assumption), ?_⟩ | refine ⟨_, ⟨(by omega), (by assumption)⟩, ?_⟩ | refine And.intro (by first | decide | omega) ?_ | fail); conv => whnf) | refine Sem.seqS ?_ | refine Sem.block ?_ | fail)
  refine h1.on ?_; conv => whnf
  repeat' (first | ((first | refine Sem.reg tt_ok ?_ | refine Sem.condS ?_ | refine Sem.regL tt_ok ?_ | refine Sem.skip tt_ok ?_ | refine Sem.exit tt_ok ?_ | refine Sem.ret tt_ok ?_ | refine BS_t (by assumption) ?_ | refine BS_f (by assumption) ?_ | refine (nthK_iff _ _).2 ⟨_, (by assumption), ?_⟩ | refine ⟨_, ⟨(by omega), (by assumption)⟩, ?_⟩ | refine And.intro (by first | decide | omega) ?_ | fail); conv => whnf) | refine Sem.seqS ?_ | refine Sem.block ?_ | fail)
  exact ⟨_, fun _ _ h => h, rfl, rfl⟩
end Go.Proofs.YtgedlbfdhekdgaaDoor
