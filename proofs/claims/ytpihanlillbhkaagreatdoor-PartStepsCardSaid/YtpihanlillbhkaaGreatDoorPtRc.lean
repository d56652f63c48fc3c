/- The document's layer 31: a push. Printed by genptr.py. -/
import Derived.Test.YtpihanlillbhkaaGreatDoorPtR
set_option maxRecDepth 100000
set_option linter.unusedSimpArgs false
set_option linter.unusedVariables false
namespace Go.Proofs.YtpihanlillbhkaaGreatDoor
open Go Go.RowKit Go.Proofs

set_option maxHeartbeats 16000000 in
theorem rapply5_ok (q : PQ) (a : St31) (hc : q.qu.length ≤ 1000000) (G : Glob) : CallOk Tryz.prog TT 18 [q.av, .int .i64 5, .agg [.str a.name, .str a.text, .int .i64 a.num, .int .u64 a.ticks], .int .i64 a.now] G (fun v G' => v = .tup [PQ.av ⟨q.kv, q.cn, q.qu ++ [(a.name, a.text)], q.le⟩, .agg [.str ⟨#[]⟩, .bool false, .int .i64 0]] ∧ G' = G) := by
  have e : (q.qu ++ [(a.name, a.text)]).map kvR = ([] ++ q.qu.map kvR) ++ [[.str a.name, .str a.text]] := by simp [kvR]
  have hb : (TT 115).bytes = 32 := rfl
  have m1 : ([] : List (List AV)).length + (q.qu.map kvR).length ≤ maxLen := by rw [List.length_map]; unfold maxLen; simp; omega
  have m2 : (([] : List (List AV)).length + (q.qu.map kvR).length) * (TT 115).bytes ≤ 140737488355328 := by rw [hb, List.length_map]; simp; omega
  have m3 : (([] : List (List AV)) ++ q.qu.map kvR).length + ([[.str a.name, .str a.text]] : List (List AV)).length ≤ maxLen := by rw [List.length_append, List.length_map]; unfold maxLen; simp; omega
  have m4 : ((([] : List (List AV)) ++ q.qu.map kvR).length + ([[.str a.name, .str a.text]] : List (List AV)).length) * (TT 115).bytes ≤ 140737488355328 := by rw [hb, List.length_append, List.length_map]; simp; omega
  unfold PQ.av
  simp only
  rw [e]
  clear hb e
  refine call_sem tt_ok Tryz.func18 rfl (by kernel_rfl) Tryz.ntmps18 Tryz.results18 ?_; conv => whnf
  repeat' (first | ((first | refine Sem.st tt_ok rfl ?_ | refine BS_t (by assumption) ?_ | refine BS_f (by assumption) ?_ | refine nthKi (by assumption) ?_ | refine ⟨_, ⟨(by omega), (by assumption)⟩, ?_⟩ | refine And.intro (by first | decide | omega) ?_); conv => whnf) | refine Sem.seqS ?_ | refine Sem.block ?_)
  refine DrawOk.toW ⟨(.top :: .top :: .top :: .top :: .lptr 0 0 :: .top :: .lptr 1 0 :: .top :: .lptr 2 0 :: .lptr 3 0 :: .lptr 4 0 :: .top :: .top :: .top :: .top :: .top :: .top :: .top :: .top :: .top :: .top :: .top :: .top :: .top :: .top :: .top :: .top :: .top :: .top :: .top :: .top :: .top :: .top :: .top :: .top :: .top :: .top :: .top :: .top :: .top :: .top :: .top :: .top :: .top :: .top :: .top :: .top :: .top :: .top :: .top :: .top :: .top :: .top :: .top :: .top :: .top :: .top :: .top :: .top :: .top :: .top :: .top :: .top :: .top :: .top :: .top :: .top :: .top :: .top :: .top :: .top :: .top :: .top :: .top :: .top :: .top :: .top :: .top :: .top :: .top :: .top :: .top :: .top :: .top :: .top :: .top :: .top :: .top :: .top :: .top :: .top :: .top :: .top :: .top :: .top :: .top :: .top :: .top :: .top :: .top :: .top :: .top :: .top :: .top :: .top :: .top :: .top :: .top :: .top :: .top :: .top :: .top :: .top :: .top :: .top :: .top :: .top :: .top :: .top :: .top :: .top :: .top :: .top :: .top :: .top :: .top :: .top :: .top :: .top :: .top :: .top :: .top :: .top :: .top :: .top :: .top :: .top :: .top :: .top :: .top :: .top :: .top :: .top :: .top :: .top :: .top :: .top :: .top :: .top :: .top :: .top :: .top :: .top :: .top :: .top :: []), [.live none [.slc 92 (q.kv.map kvR), .slc 113 (q.cn.map CRw.av), .slc 115 (([] ++ q.qu.map kvR) ++ [[.str a.name, .str a.text]]), .slc 99 (q.le.map leR)], .live none [.str a.name, .str a.text, .int .i64 a.num, .int .u64 a.ticks], .live none [.nils, .nils, .nils, .nils], .live none [.str ⟨#[]⟩, .bool false, .int .i64 0], .live none [.str ⟨#[]⟩, .bool false, .int .i64 0]], 5, 0, G⟩ ?_ ?_
  · refine draw_allT [1, 4, 6, 11] tt_ok (by kernel_rfl) 13 rfl (by kernel_rfl) (by kernel_rfl) ?_
    conv => whnf
    repeat' (first
      | exact m1
      | exact m2
      | exact m3
      | exact m4
      | (refine weak_by [] ?_; conv => whnf)
      | (refine And.intro ?_ ?_ <;> conv => whnf)
      | exact fun i y hy => hy
      | rfl
      | exact Nat.le_refl 5)
  conv => whnf
  repeat' (first | ((first | refine Sem.st tt_ok rfl ?_ | refine BS_t (by assumption) ?_ | refine BS_f (by assumption) ?_ | refine nthKi (by assumption) ?_ | refine ⟨_, ⟨(by omega), (by assumption)⟩, ?_⟩ | refine And.intro (by first | decide | omega) ?_); conv => whnf) | refine Sem.seqS ?_ | refine Sem.block ?_)
  refine draw_all tt_ok (by kernel_rfl) 4 rfl ?_
  conv => whnf
  repeat' (refine And.intro ?_ ?_ <;> conv => whnf)
  all_goals
    repeat' (first | ((first | refine Sem.st tt_ok rfl ?_ | refine BS_t (by assumption) ?_ | refine BS_f (by assumption) ?_ | refine nthKi (by assumption) ?_ | refine ⟨_, ⟨(by omega), (by assumption)⟩, ?_⟩ | refine And.intro (by first | decide | omega) ?_); conv => whnf) | refine Sem.seqS ?_ | refine Sem.block ?_)
    exact ⟨_, fun _ _ h => h, rfl, rfl⟩
end Go.Proofs.YtpihanlillbhkaaGreatDoor
