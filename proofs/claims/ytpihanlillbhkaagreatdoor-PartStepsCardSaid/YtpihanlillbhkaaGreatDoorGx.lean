/- One text out of several: PtRd, PtS. -/
import Derived.Test.YtpihanlillbhkaaGreatDoorPtR
import Derived.Test.YtpihanlillbhkaaGreatDoorPtRb
import Derived.Test.YtpihanlillbhkaaGreatDoorPtRc

section
/- The document's layer 31: the other operations. Printed by genptr.py. -/
set_option maxRecDepth 100000
set_option linter.unusedSimpArgs false
set_option linter.unusedVariables false
namespace Go.Proofs.YtpihanlillbhkaaGreatDoor
open Go Go.RowKit Go.Proofs

set_option maxHeartbeats 4000000 in
theorem rapply1_ok (q : PQ) (a : St31) (hk : q.kv.length ≤ 1000000) (hu : q.qu.length ≤ 1000000) (hl : q.le.length ≤ 1000000) (G : Glob) : CallOk Tryz.prog TT 18 [q.av, .int .i64 1, .agg [.str a.name, .str a.text, .int .i64 a.num, .int .u64 a.ticks], .int .i64 a.now] G (fun v G' => v = .tup [((q, (match lget q.kv a.name with | some v => (⟨v, true, 0⟩ : PRes) | none => noRes))).1.av, ((q, (match lget q.kv a.name with | some v => (⟨v, true, 0⟩ : PRes) | none => noRes))).2.av] ∧ G' = G) := by
  have hg := get26_ok q.kv a.name G (by omega)
  unfold kget at hg
  unfold PQ.av PRes.av
  cases hx : lget q.kv a.name with
  | some v =>
    simp only [hx] at hg
    simp only
    refine call_sem tt_ok Tryz.func18 rfl (by kernel_rfl) Tryz.ntmps18 Tryz.results18 ?_; conv => whnf
    repeat' (first | ((first | refine Sem.st tt_ok rfl ?_ | refine BS_t (by assumption) ?_ | refine BS_f (by assumption) ?_ | refine nthKi (by assumption) ?_ | refine ⟨_, ⟨(by omega), (by assumption)⟩, ?_⟩ | refine And.intro (by first | decide | omega) ?_); conv => whnf) | refine Sem.seqS ?_ | refine Sem.block ?_)
    refine hg.on ?_; conv => whnf
    repeat' (first | ((first | refine Sem.st tt_ok rfl ?_ | refine BS_t (by assumption) ?_ | refine BS_f (by assumption) ?_ | refine nthKi (by assumption) ?_ | refine ⟨_, ⟨(by omega), (by assumption)⟩, ?_⟩ | refine And.intro (by first | decide | omega) ?_); conv => whnf) | refine Sem.seqS ?_ | refine Sem.block ?_)
    refine draw_all tt_ok (by kernel_rfl) 4 rfl ?_
    conv => whnf
    repeat' (refine And.intro ?_ ?_ <;> conv => whnf)
    all_goals
      repeat' (first | ((first | refine Sem.st tt_ok rfl ?_ | refine BS_t (by assumption) ?_ | refine BS_f (by assumption) ?_ | refine nthKi (by assumption) ?_ | refine ⟨_, ⟨(by omega), (by assumption)⟩, ?_⟩ | refine And.intro (by first | decide | omega) ?_); conv => whnf) | refine Sem.seqS ?_ | refine Sem.block ?_)
      exact ⟨_, fun _ _ h => h, rfl, rfl⟩
  | none =>
    simp only [hx] at hg
    simp only [noRes]
    refine call_sem tt_ok Tryz.func18 rfl (by kernel_rfl) Tryz.ntmps18 Tryz.results18 ?_; conv => whnf
    repeat' (first | ((first | refine Sem.st tt_ok rfl ?_ | refine BS_t (by assumption) ?_ | refine BS_f (by assumption) ?_ | refine nthKi (by assumption) ?_ | refine ⟨_, ⟨(by omega), (by assumption)⟩, ?_⟩ | refine And.intro (by first | decide | omega) ?_); conv => whnf) | refine Sem.seqS ?_ | refine Sem.block ?_)
    refine hg.on ?_; conv => whnf
    repeat' (first | ((first | refine Sem.st tt_ok rfl ?_ | refine BS_t (by assumption) ?_ | refine BS_f (by assumption) ?_ | refine nthKi (by assumption) ?_ | refine ⟨_, ⟨(by omega), (by assumption)⟩, ?_⟩ | refine And.intro (by first | decide | omega) ?_); conv => whnf) | refine Sem.seqS ?_ | refine Sem.block ?_)
    refine draw_all tt_ok (by kernel_rfl) 4 rfl ?_
    conv => whnf
    repeat' (refine And.intro ?_ ?_ <;> conv => whnf)
    all_goals
      repeat' (first | ((first | refine Sem.st tt_ok rfl ?_ | refine BS_t (by assumption) ?_ | refine BS_f (by assumption) ?_ | refine nthKi (by assumption) ?_ | refine ⟨_, ⟨(by omega), (by assumption)⟩, ?_⟩ | refine And.intro (by first | decide | omega) ?_); conv => whnf) | refine Sem.seqS ?_ | refine Sem.block ?_)
      exact ⟨_, fun _ _ h => h, rfl, rfl⟩
set_option maxHeartbeats 4000000 in
theorem rapply2_ok (q : PQ) (a : St31) (hk : q.kv.length ≤ 1000000) (hu : q.qu.length ≤ 1000000) (hl : q.le.length ≤ 1000000) (G : Glob) : CallOk Tryz.prog TT 18 [q.av, .int .i64 2, .agg [.str a.name, .str a.text, .int .i64 a.num, .int .u64 a.ticks], .int .i64 a.now] G (fun v G' => v = .tup [(((⟨putK a.name a.text q.kv false, q.cn, q.qu, q.le⟩ : PQ), noRes)).1.av, (((⟨putK a.name a.text q.kv false, q.cn, q.qu, q.le⟩ : PQ), noRes)).2.av] ∧ G' = G) := by
  have hg := put26_ok q.kv a.name a.text G (by omega)
  unfold PQ.av PRes.av noRes
  simp only
  refine call_sem tt_ok Tryz.func18 rfl (by kernel_rfl) Tryz.ntmps18 Tryz.results18 ?_; conv => whnf
  repeat' (first | ((first | refine Sem.st tt_ok rfl ?_ | refine BS_t (by assumption) ?_ | refine BS_f (by assumption) ?_ | refine nthKi (by assumption) ?_ | refine ⟨_, ⟨(by omega), (by assumption)⟩, ?_⟩ | refine And.intro (by first | decide | omega) ?_); conv => whnf) | refine Sem.seqS ?_ | refine Sem.block ?_)
  refine hg.on ?_; conv => whnf
  repeat' (first | ((first | refine Sem.st tt_ok rfl ?_ | refine BS_t (by assumption) ?_ | refine BS_f (by assumption) ?_ | refine nthKi (by assumption) ?_ | refine ⟨_, ⟨(by omega), (by assumption)⟩, ?_⟩ | refine And.intro (by first | decide | omega) ?_); conv => whnf) | refine Sem.seqS ?_ | refine Sem.block ?_)
  refine draw_all tt_ok (by kernel_rfl) 4 rfl ?_
  conv => whnf
  repeat' (refine And.intro ?_ ?_ <;> conv => whnf)
  all_goals
    repeat' (first | ((first | refine Sem.st tt_ok rfl ?_ | refine BS_t (by assumption) ?_ | refine BS_f (by assumption) ?_ | refine nthKi (by assumption) ?_ | refine ⟨_, ⟨(by omega), (by assumption)⟩, ?_⟩ | refine And.intro (by first | decide | omega) ?_); conv => whnf) | refine Sem.seqS ?_ | refine Sem.block ?_)
    exact ⟨_, fun _ _ h => h, rfl, rfl⟩
set_option maxHeartbeats 4000000 in
theorem rapply3_ok (q : PQ) (a : St31) (hk : q.kv.length ≤ 1000000) (hu : q.qu.length ≤ 1000000) (hl : q.le.length ≤ 1000000) (G : Glob) : CallOk Tryz.prog TT 18 [q.av, .int .i64 3, .agg [.str a.name, .str a.text, .int .i64 a.num, .int .u64 a.ticks], .int .i64 a.now] G (fun v G' => v = .tup [(((⟨delR q.kv a.name, q.cn, q.qu, q.le⟩ : PQ), (⟨⟨#[]⟩, (lget q.kv a.name).isSome, 0⟩ : PRes))).1.av, (((⟨delR q.kv a.name, q.cn, q.qu, q.le⟩ : PQ), (⟨⟨#[]⟩, (lget q.kv a.name).isSome, 0⟩ : PRes))).2.av] ∧ G' = G) := by
  have hg := get26_ok q.kv a.name G (by omega)
  have hd := del26_ok q.kv a.name G (by omega)
  unfold kget at hg
  unfold PQ.av PRes.av
  cases hx : lget q.kv a.name with
  | some v =>
    simp only [hx] at hg
    simp only [Option.isSome]
    refine call_sem tt_ok Tryz.func18 rfl (by kernel_rfl) Tryz.ntmps18 Tryz.results18 ?_; conv => whnf
    repeat' (first | ((first | refine Sem.st tt_ok rfl ?_ | refine BS_t (by assumption) ?_ | refine BS_f (by assumption) ?_ | refine nthKi (by assumption) ?_ | refine ⟨_, ⟨(by omega), (by assumption)⟩, ?_⟩ | refine And.intro (by first | decide | omega) ?_); conv => whnf) | refine Sem.seqS ?_ | refine Sem.block ?_)
    refine hg.on ?_; conv => whnf
    repeat' (first | ((first | refine Sem.st tt_ok rfl ?_ | refine BS_t (by assumption) ?_ | refine BS_f (by assumption) ?_ | refine nthKi (by assumption) ?_ | refine ⟨_, ⟨(by omega), (by assumption)⟩, ?_⟩ | refine And.intro (by first | decide | omega) ?_); conv => whnf) | refine Sem.seqS ?_ | refine Sem.block ?_)
    refine hd.on ?_; conv => whnf
    repeat' (first | ((first | refine Sem.st tt_ok rfl ?_ | refine BS_t (by assumption) ?_ | refine BS_f (by assumption) ?_ | refine nthKi (by assumption) ?_ | refine ⟨_, ⟨(by omega), (by assumption)⟩, ?_⟩ | refine And.intro (by first | decide | omega) ?_); conv => whnf) | refine Sem.seqS ?_ | refine Sem.block ?_)
    refine draw_all tt_ok (by kernel_rfl) 4 rfl ?_
    conv => whnf
    repeat' (refine And.intro ?_ ?_ <;> conv => whnf)
    all_goals
      repeat' (first | ((first | refine Sem.st tt_ok rfl ?_ | refine BS_t (by assumption) ?_ | refine BS_f (by assumption) ?_ | refine nthKi (by assumption) ?_ | refine ⟨_, ⟨(by omega), (by assumption)⟩, ?_⟩ | refine And.intro (by first | decide | omega) ?_); conv => whnf) | refine Sem.seqS ?_ | refine Sem.block ?_)
      exact ⟨_, fun _ _ h => h, rfl, rfl⟩
  | none =>
    simp only [hx] at hg
    simp only [Option.isSome]
    refine call_sem tt_ok Tryz.func18 rfl (by kernel_rfl) Tryz.ntmps18 Tryz.results18 ?_; conv => whnf
    repeat' (first | ((first | refine Sem.st tt_ok rfl ?_ | refine BS_t (by assumption) ?_ | refine BS_f (by assumption) ?_ | refine nthKi (by assumption) ?_ | refine ⟨_, ⟨(by omega), (by assumption)⟩, ?_⟩ | refine And.intro (by first | decide | omega) ?_); conv => whnf) | refine Sem.seqS ?_ | refine Sem.block ?_)
    refine hg.on ?_; conv => whnf
    repeat' (first | ((first | refine Sem.st tt_ok rfl ?_ | refine BS_t (by assumption) ?_ | refine BS_f (by assumption) ?_ | refine nthKi (by assumption) ?_ | refine ⟨_, ⟨(by omega), (by assumption)⟩, ?_⟩ | refine And.intro (by first | decide | omega) ?_); conv => whnf) | refine Sem.seqS ?_ | refine Sem.block ?_)
    refine hd.on ?_; conv => whnf
    repeat' (first | ((first | refine Sem.st tt_ok rfl ?_ | refine BS_t (by assumption) ?_ | refine BS_f (by assumption) ?_ | refine nthKi (by assumption) ?_ | refine ⟨_, ⟨(by omega), (by assumption)⟩, ?_⟩ | refine And.intro (by first | decide | omega) ?_); conv => whnf) | refine Sem.seqS ?_ | refine Sem.block ?_)
    refine draw_all tt_ok (by kernel_rfl) 4 rfl ?_
    conv => whnf
    repeat' (refine And.intro ?_ ?_ <;> conv => whnf)
    all_goals
      repeat' (first | ((first | refine Sem.st tt_ok rfl ?_ | refine BS_t (by assumption) ?_ | refine BS_f (by assumption) ?_ | refine nthKi (by assumption) ?_ | refine ⟨_, ⟨(by omega), (by assumption)⟩, ?_⟩ | refine And.intro (by first | decide | omega) ?_); conv => whnf) | refine Sem.seqS ?_ | refine Sem.block ?_)
      exact ⟨_, fun _ _ h => h, rfl, rfl⟩
set_option maxHeartbeats 4000000 in
theorem rapply6_ok (q : PQ) (a : St31) (hk : q.kv.length ≤ 1000000) (hu : q.qu.length ≤ 1000000) (hl : q.le.length ≤ 1000000) (G : Glob) : CallOk Tryz.prog TT 18 [q.av, .int .i64 6, .agg [.str a.name, .str a.text, .int .i64 a.num, .int .u64 a.ticks], .int .i64 a.now] G (fun v G' => v = .tup [((match popAt q.qu a.name with | some (r, t) => ((⟨q.kv, q.cn, r, q.le⟩ : PQ), (⟨t, true, 0⟩ : PRes)) | none => (q, noRes))).1.av, ((match popAt q.qu a.name with | some (r, t) => ((⟨q.kv, q.cn, r, q.le⟩ : PQ), (⟨t, true, 0⟩ : PRes)) | none => (q, noRes))).2.av] ∧ G' = G) := by
  have hg := pop28_ok q.qu a.name G (by omega)
  unfold popV at hg
  unfold PQ.av PRes.av
  cases hx : popAt q.qu a.name with
  | some z =>
    obtain ⟨r, t⟩ := z
    simp only [hx] at hg
    simp only
    refine call_sem tt_ok Tryz.func18 rfl (by kernel_rfl) Tryz.ntmps18 Tryz.results18 ?_; conv => whnf
    repeat' (first | ((first | refine Sem.st tt_ok rfl ?_ | refine BS_t (by assumption) ?_ | refine BS_f (by assumption) ?_ | refine nthKi (by assumption) ?_ | refine ⟨_, ⟨(by omega), (by assumption)⟩, ?_⟩ | refine And.intro (by first | decide | omega) ?_); conv => whnf) | refine Sem.seqS ?_ | refine Sem.block ?_)
    refine hg.on ?_; conv => whnf
    repeat' (first | ((first | refine Sem.st tt_ok rfl ?_ | refine BS_t (by assumption) ?_ | refine BS_f (by assumption) ?_ | refine nthKi (by assumption) ?_ | refine ⟨_, ⟨(by omega), (by assumption)⟩, ?_⟩ | refine And.intro (by first | decide | omega) ?_); conv => whnf) | refine Sem.seqS ?_ | refine Sem.block ?_)
    refine draw_all tt_ok (by kernel_rfl) 4 rfl ?_
    conv => whnf
    repeat' (refine And.intro ?_ ?_ <;> conv => whnf)
    all_goals
      repeat' (first | ((first | refine Sem.st tt_ok rfl ?_ | refine BS_t (by assumption) ?_ | refine BS_f (by assumption) ?_ | refine nthKi (by assumption) ?_ | refine ⟨_, ⟨(by omega), (by assumption)⟩, ?_⟩ | refine And.intro (by first | decide | omega) ?_); conv => whnf) | refine Sem.seqS ?_ | refine Sem.block ?_)
      exact ⟨_, fun _ _ h => h, rfl, rfl⟩
  | none =>
    simp only [hx] at hg
    simp only [noRes]
    refine call_sem tt_ok Tryz.func18 rfl (by kernel_rfl) Tryz.ntmps18 Tryz.results18 ?_; conv => whnf
    repeat' (first | ((first | refine Sem.st tt_ok rfl ?_ | refine BS_t (by assumption) ?_ | refine BS_f (by assumption) ?_ | refine nthKi (by assumption) ?_ | refine ⟨_, ⟨(by omega), (by assumption)⟩, ?_⟩ | refine And.intro (by first | decide | omega) ?_); conv => whnf) | refine Sem.seqS ?_ | refine Sem.block ?_)
    refine hg.on ?_; conv => whnf
    repeat' (first | ((first | refine Sem.st tt_ok rfl ?_ | refine BS_t (by assumption) ?_ | refine BS_f (by assumption) ?_ | refine nthKi (by assumption) ?_ | refine ⟨_, ⟨(by omega), (by assumption)⟩, ?_⟩ | refine And.intro (by first | decide | omega) ?_); conv => whnf) | refine Sem.seqS ?_ | refine Sem.block ?_)
    refine draw_all tt_ok (by kernel_rfl) 4 rfl ?_
    conv => whnf
    repeat' (refine And.intro ?_ ?_ <;> conv => whnf)
    all_goals
      repeat' (first | ((first | refine Sem.st tt_ok rfl ?_ | refine BS_t (by assumption) ?_ | refine BS_f (by assumption) ?_ | refine nthKi (by assumption) ?_ | refine ⟨_, ⟨(by omega), (by assumption)⟩, ?_⟩ | refine And.intro (by first | decide | omega) ?_); conv => whnf) | refine Sem.seqS ?_ | refine Sem.block ?_)
      exact ⟨_, fun _ _ h => h, rfl, rfl⟩
set_option maxHeartbeats 4000000 in
theorem rapply7_ok (q : PQ) (a : St31) (hk : q.kv.length ≤ 1000000) (hu : q.qu.length ≤ 1000000) (hl : q.le.length ≤ 1000000) (ht : 0 ≤ a.ticks ∧ a.ticks ≤ 18446744073709551615) (G : Glob) : CallOk Tryz.prog TT 18 [q.av, .int .i64 7, .agg [.str a.name, .str a.text, .int .i64 a.num, .int .u64 a.ticks], .int .i64 a.now] G (fun v G' => v = .tup [((match lget q.le a.name with
    | some (x, _) => if x = a.text then ((⟨q.kv, q.cn, q.qu, putA a.name (a.text, tillOf (ticksOf a.ticks) a.now) q.le false⟩ : PQ), (⟨⟨#[]⟩, true, 0⟩ : PRes)) else (q, noRes)
    | none => (⟨q.kv, q.cn, q.qu, putA a.name (a.text, tillOf (ticksOf a.ticks) a.now) q.le false⟩, ⟨⟨#[]⟩, true, 0⟩))).1.av, ((match lget q.le a.name with
    | some (x, _) => if x = a.text then ((⟨q.kv, q.cn, q.qu, putA a.name (a.text, tillOf (ticksOf a.ticks) a.now) q.le false⟩ : PQ), (⟨⟨#[]⟩, true, 0⟩ : PRes)) else (q, noRes)
    | none => (⟨q.kv, q.cn, q.qu, putA a.name (a.text, tillOf (ticksOf a.ticks) a.now) q.le false⟩, ⟨⟨#[]⟩, true, 0⟩))).2.av] ∧ G' = G) := by
  have hg := take29_ok q.le a.name a.text (ticksOf a.ticks) a.now G (by omega)
  unfold takeVL at hg
  unfold PQ.av PRes.av
  by_cases hlt : a.ticks < 1048576
  · have t1 : decide (a.ticks < 1048576) = true := decide_eq_true hlt
    have w1 : IntKind.i64.wrap a.ticks = ticksOf a.ticks := by unfold ticksOf; rw [if_pos hlt]; exact IntWalk.i64_in _ (by omega)
    cases hx : lget q.le a.name with
    | some v =>
      obtain ⟨v, u⟩ := v
      simp only [hx] at hg
      simp only
      by_cases hvt : v = a.text
      · rw [if_pos hvt] at hg
        rw [if_pos hvt]
        simp only
        refine call_sem tt_ok Tryz.func18 rfl (by kernel_rfl) Tryz.ntmps18 Tryz.results18 ?_; conv => whnf
        repeat' (first | ((first | refine Sem.st tt_ok rfl ?_ | refine BS_t (by assumption) ?_ | refine BS_f (by assumption) ?_ | refine nthKi (by assumption) ?_ | refine ⟨_, ⟨(by omega), (by assumption)⟩, ?_⟩ | refine And.intro (by first | decide | omega) ?_); conv => whnf) | refine Sem.seqS ?_ | refine Sem.block ?_)
        rw [w1]
        refine hg.on ?_; conv => whnf
        repeat' (first | ((first | refine Sem.st tt_ok rfl ?_ | refine BS_t (by assumption) ?_ | refine BS_f (by assumption) ?_ | refine nthKi (by assumption) ?_ | refine ⟨_, ⟨(by omega), (by assumption)⟩, ?_⟩ | refine And.intro (by first | decide | omega) ?_); conv => whnf) | refine Sem.seqS ?_ | refine Sem.block ?_)
        refine draw_all tt_ok (by kernel_rfl) 4 rfl ?_
        conv => whnf
        repeat' (refine And.intro ?_ ?_ <;> conv => whnf)
        all_goals
          repeat' (first | ((first | refine Sem.st tt_ok rfl ?_ | refine BS_t (by assumption) ?_ | refine BS_f (by assumption) ?_ | refine nthKi (by assumption) ?_ | refine ⟨_, ⟨(by omega), (by assumption)⟩, ?_⟩ | refine And.intro (by first | decide | omega) ?_); conv => whnf) | refine Sem.seqS ?_ | refine Sem.block ?_)
          exact ⟨_, fun _ _ h => h, rfl, rfl⟩
      · rw [if_neg hvt] at hg
        rw [if_neg hvt]
        simp only [noRes]
        refine call_sem tt_ok Tryz.func18 rfl (by kernel_rfl) Tryz.ntmps18 Tryz.results18 ?_; conv => whnf
        repeat' (first | ((first | refine Sem.st tt_ok rfl ?_ | refine BS_t (by assumption) ?_ | refine BS_f (by assumption) ?_ | refine nthKi (by assumption) ?_ | refine ⟨_, ⟨(by omega), (by assumption)⟩, ?_⟩ | refine And.intro (by first | decide | omega) ?_); conv => whnf) | refine Sem.seqS ?_ | refine Sem.block ?_)
        rw [w1]
        refine hg.on ?_; conv => whnf
        repeat' (first | ((first | refine Sem.st tt_ok rfl ?_ | refine BS_t (by assumption) ?_ | refine BS_f (by assumption) ?_ | refine nthKi (by assumption) ?_ | refine ⟨_, ⟨(by omega), (by assumption)⟩, ?_⟩ | refine And.intro (by first | decide | omega) ?_); conv => whnf) | refine Sem.seqS ?_ | refine Sem.block ?_)
        refine draw_all tt_ok (by kernel_rfl) 4 rfl ?_
        conv => whnf
        repeat' (refine And.intro ?_ ?_ <;> conv => whnf)
        all_goals
          repeat' (first | ((first | refine Sem.st tt_ok rfl ?_ | refine BS_t (by assumption) ?_ | refine BS_f (by assumption) ?_ | refine nthKi (by assumption) ?_ | refine ⟨_, ⟨(by omega), (by assumption)⟩, ?_⟩ | refine And.intro (by first | decide | omega) ?_); conv => whnf) | refine Sem.seqS ?_ | refine Sem.block ?_)
          exact ⟨_, fun _ _ h => h, rfl, rfl⟩
    | none =>
      simp only [hx] at hg
      simp only [noRes]
      refine call_sem tt_ok Tryz.func18 rfl (by kernel_rfl) Tryz.ntmps18 Tryz.results18 ?_; conv => whnf
      repeat' (first | ((first | refine Sem.st tt_ok rfl ?_ | refine BS_t (by assumption) ?_ | refine BS_f (by assumption) ?_ | refine nthKi (by assumption) ?_ | refine ⟨_, ⟨(by omega), (by assumption)⟩, ?_⟩ | refine And.intro (by first | decide | omega) ?_); conv => whnf) | refine Sem.seqS ?_ | refine Sem.block ?_)
      rw [w1]
      refine hg.on ?_; conv => whnf
      repeat' (first | ((first | refine Sem.st tt_ok rfl ?_ | refine BS_t (by assumption) ?_ | refine BS_f (by assumption) ?_ | refine nthKi (by assumption) ?_ | refine ⟨_, ⟨(by omega), (by assumption)⟩, ?_⟩ | refine And.intro (by first | decide | omega) ?_); conv => whnf) | refine Sem.seqS ?_ | refine Sem.block ?_)
      refine draw_all tt_ok (by kernel_rfl) 4 rfl ?_
      conv => whnf
      repeat' (refine And.intro ?_ ?_ <;> conv => whnf)
      all_goals
        repeat' (first | ((first | refine Sem.st tt_ok rfl ?_ | refine BS_t (by assumption) ?_ | refine BS_f (by assumption) ?_ | refine nthKi (by assumption) ?_ | refine ⟨_, ⟨(by omega), (by assumption)⟩, ?_⟩ | refine And.intro (by first | decide | omega) ?_); conv => whnf) | refine Sem.seqS ?_ | refine Sem.block ?_)
        exact ⟨_, fun _ _ h => h, rfl, rfl⟩
  · have t1 : decide (a.ticks < 1048576) = false := decide_eq_false hlt
    have w1 : ticksOf a.ticks = 1048576 := by unfold ticksOf; rw [if_neg hlt]
    rw [w1] at hg ⊢
    cases hx : lget q.le a.name with
    | some v =>
      obtain ⟨v, u⟩ := v
      simp only [hx] at hg
      simp only
      by_cases hvt : v = a.text
      · rw [if_pos hvt] at hg
        rw [if_pos hvt]
        simp only
        refine call_sem tt_ok Tryz.func18 rfl (by kernel_rfl) Tryz.ntmps18 Tryz.results18 ?_; conv => whnf
        repeat' (first | ((first | refine Sem.st tt_ok rfl ?_ | refine BS_t (by assumption) ?_ | refine BS_f (by assumption) ?_ | refine nthKi (by assumption) ?_ | refine ⟨_, ⟨(by omega), (by assumption)⟩, ?_⟩ | refine And.intro (by first | decide | omega) ?_); conv => whnf) | refine Sem.seqS ?_ | refine Sem.block ?_)
        refine hg.on ?_; conv => whnf
        repeat' (first | ((first | refine Sem.st tt_ok rfl ?_ | refine BS_t (by assumption) ?_ | refine BS_f (by assumption) ?_ | refine nthKi (by assumption) ?_ | refine ⟨_, ⟨(by omega), (by assumption)⟩, ?_⟩ | refine And.intro (by first | decide | omega) ?_); conv => whnf) | refine Sem.seqS ?_ | refine Sem.block ?_)
        refine draw_all tt_ok (by kernel_rfl) 4 rfl ?_
        conv => whnf
        repeat' (refine And.intro ?_ ?_ <;> conv => whnf)
        all_goals
          repeat' (first | ((first | refine Sem.st tt_ok rfl ?_ | refine BS_t (by assumption) ?_ | refine BS_f (by assumption) ?_ | refine nthKi (by assumption) ?_ | refine ⟨_, ⟨(by omega), (by assumption)⟩, ?_⟩ | refine And.intro (by first | decide | omega) ?_); conv => whnf) | refine Sem.seqS ?_ | refine Sem.block ?_)
          exact ⟨_, fun _ _ h => h, rfl, rfl⟩
      · rw [if_neg hvt] at hg
        rw [if_neg hvt]
        simp only [noRes]
        refine call_sem tt_ok Tryz.func18 rfl (by kernel_rfl) Tryz.ntmps18 Tryz.results18 ?_; conv => whnf
        repeat' (first | ((first | refine Sem.st tt_ok rfl ?_ | refine BS_t (by assumption) ?_ | refine BS_f (by assumption) ?_ | refine nthKi (by assumption) ?_ | refine ⟨_, ⟨(by omega), (by assumption)⟩, ?_⟩ | refine And.intro (by first | decide | omega) ?_); conv => whnf) | refine Sem.seqS ?_ | refine Sem.block ?_)
        refine hg.on ?_; conv => whnf
        repeat' (first | ((first | refine Sem.st tt_ok rfl ?_ | refine BS_t (by assumption) ?_ | refine BS_f (by assumption) ?_ | refine nthKi (by assumption) ?_ | refine ⟨_, ⟨(by omega), (by assumption)⟩, ?_⟩ | refine And.intro (by first | decide | omega) ?_); conv => whnf) | refine Sem.seqS ?_ | refine Sem.block ?_)
        refine draw_all tt_ok (by kernel_rfl) 4 rfl ?_
        conv => whnf
        repeat' (refine And.intro ?_ ?_ <;> conv => whnf)
        all_goals
          repeat' (first | ((first | refine Sem.st tt_ok rfl ?_ | refine BS_t (by assumption) ?_ | refine BS_f (by assumption) ?_ | refine nthKi (by assumption) ?_ | refine ⟨_, ⟨(by omega), (by assumption)⟩, ?_⟩ | refine And.intro (by first | decide | omega) ?_); conv => whnf) | refine Sem.seqS ?_ | refine Sem.block ?_)
          exact ⟨_, fun _ _ h => h, rfl, rfl⟩
    | none =>
      simp only [hx] at hg
      simp only [noRes]
      refine call_sem tt_ok Tryz.func18 rfl (by kernel_rfl) Tryz.ntmps18 Tryz.results18 ?_; conv => whnf
      repeat' (first | ((first | refine Sem.st tt_ok rfl ?_ | refine BS_t (by assumption) ?_ | refine BS_f (by assumption) ?_ | refine nthKi (by assumption) ?_ | refine ⟨_, ⟨(by omega), (by assumption)⟩, ?_⟩ | refine And.intro (by first | decide | omega) ?_); conv => whnf) | refine Sem.seqS ?_ | refine Sem.block ?_)
      refine hg.on ?_; conv => whnf
      repeat' (first | ((first | refine Sem.st tt_ok rfl ?_ | refine BS_t (by assumption) ?_ | refine BS_f (by assumption) ?_ | refine nthKi (by assumption) ?_ | refine ⟨_, ⟨(by omega), (by assumption)⟩, ?_⟩ | refine And.intro (by first | decide | omega) ?_); conv => whnf) | refine Sem.seqS ?_ | refine Sem.block ?_)
      refine draw_all tt_ok (by kernel_rfl) 4 rfl ?_
      conv => whnf
      repeat' (refine And.intro ?_ ?_ <;> conv => whnf)
      all_goals
        repeat' (first | ((first | refine Sem.st tt_ok rfl ?_ | refine BS_t (by assumption) ?_ | refine BS_f (by assumption) ?_ | refine nthKi (by assumption) ?_ | refine ⟨_, ⟨(by omega), (by assumption)⟩, ?_⟩ | refine And.intro (by first | decide | omega) ?_); conv => whnf) | refine Sem.seqS ?_ | refine Sem.block ?_)
        exact ⟨_, fun _ _ h => h, rfl, rfl⟩
set_option maxHeartbeats 4000000 in
theorem rapply8_ok (q : PQ) (a : St31) (hk : q.kv.length ≤ 1000000) (hu : q.qu.length ≤ 1000000) (hl : q.le.length ≤ 1000000) (hn : (q.le.map (·.1)).Nodup) (G : Glob) : CallOk Tryz.prog TT 18 [q.av, .int .i64 8, .agg [.str a.name, .str a.text, .int .i64 a.num, .int .u64 a.ticks], .int .i64 a.now] G (fun v G' => v = .tup [((match lget q.le a.name with
    | some (x, _) => if x = a.text then ((⟨q.kv, q.cn, q.qu, delA q.le a.name⟩ : PQ), (⟨⟨#[]⟩, true, 0⟩ : PRes)) else (q, noRes)
    | none => (q, noRes))).1.av, ((match lget q.le a.name with
    | some (x, _) => if x = a.text then ((⟨q.kv, q.cn, q.qu, delA q.le a.name⟩ : PQ), (⟨⟨#[]⟩, true, 0⟩ : PRes)) else (q, noRes)
    | none => (q, noRes))).2.av] ∧ G' = G) := by
  have hg := free29_ok q.le a.name a.text G (by omega) hn
  unfold freeV at hg
  unfold PQ.av PRes.av
  cases hx : lget q.le a.name with
  | some v =>
    obtain ⟨v, u⟩ := v
    simp only [hx] at hg
    simp only
    by_cases hvt : v = a.text
    · rw [if_pos hvt] at hg
      rw [if_pos hvt]
      simp only
      refine call_sem tt_ok Tryz.func18 rfl (by kernel_rfl) Tryz.ntmps18 Tryz.results18 ?_; conv => whnf
      repeat' (first | ((first | refine Sem.st tt_ok rfl ?_ | refine BS_t (by assumption) ?_ | refine BS_f (by assumption) ?_ | refine nthKi (by assumption) ?_ | refine ⟨_, ⟨(by omega), (by assumption)⟩, ?_⟩ | refine And.intro (by first | decide | omega) ?_); conv => whnf) | refine Sem.seqS ?_ | refine Sem.block ?_)
      refine hg.on ?_; conv => whnf
      repeat' (first | ((first | refine Sem.st tt_ok rfl ?_ | refine BS_t (by assumption) ?_ | refine BS_f (by assumption) ?_ | refine nthKi (by assumption) ?_ | refine ⟨_, ⟨(by omega), (by assumption)⟩, ?_⟩ | refine And.intro (by first | decide | omega) ?_); conv => whnf) | refine Sem.seqS ?_ | refine Sem.block ?_)
      refine draw_all tt_ok (by kernel_rfl) 4 rfl ?_
      conv => whnf
      repeat' (refine And.intro ?_ ?_ <;> conv => whnf)
      all_goals
        repeat' (first | ((first | refine Sem.st tt_ok rfl ?_ | refine BS_t (by assumption) ?_ | refine BS_f (by assumption) ?_ | refine nthKi (by assumption) ?_ | refine ⟨_, ⟨(by omega), (by assumption)⟩, ?_⟩ | refine And.intro (by first | decide | omega) ?_); conv => whnf) | refine Sem.seqS ?_ | refine Sem.block ?_)
        exact ⟨_, fun _ _ h => h, rfl, rfl⟩
    · rw [if_neg hvt] at hg
      rw [if_neg hvt]
      simp only [noRes]
      refine call_sem tt_ok Tryz.func18 rfl (by kernel_rfl) Tryz.ntmps18 Tryz.results18 ?_; conv => whnf
      repeat' (first | ((first | refine Sem.st tt_ok rfl ?_ | refine BS_t (by assumption) ?_ | refine BS_f (by assumption) ?_ | refine nthKi (by assumption) ?_ | refine ⟨_, ⟨(by omega), (by assumption)⟩, ?_⟩ | refine And.intro (by first | decide | omega) ?_); conv => whnf) | refine Sem.seqS ?_ | refine Sem.block ?_)
      refine hg.on ?_; conv => whnf
      repeat' (first | ((first | refine Sem.st tt_ok rfl ?_ | refine BS_t (by assumption) ?_ | refine BS_f (by assumption) ?_ | refine nthKi (by assumption) ?_ | refine ⟨_, ⟨(by omega), (by assumption)⟩, ?_⟩ | refine And.intro (by first | decide | omega) ?_); conv => whnf) | refine Sem.seqS ?_ | refine Sem.block ?_)
      refine draw_all tt_ok (by kernel_rfl) 4 rfl ?_
      conv => whnf
      repeat' (refine And.intro ?_ ?_ <;> conv => whnf)
      all_goals
        repeat' (first | ((first | refine Sem.st tt_ok rfl ?_ | refine BS_t (by assumption) ?_ | refine BS_f (by assumption) ?_ | refine nthKi (by assumption) ?_ | refine ⟨_, ⟨(by omega), (by assumption)⟩, ?_⟩ | refine And.intro (by first | decide | omega) ?_); conv => whnf) | refine Sem.seqS ?_ | refine Sem.block ?_)
        exact ⟨_, fun _ _ h => h, rfl, rfl⟩
  | none =>
    simp only [hx] at hg
    simp only [noRes]
    refine call_sem tt_ok Tryz.func18 rfl (by kernel_rfl) Tryz.ntmps18 Tryz.results18 ?_; conv => whnf
    repeat' (first | ((first | refine Sem.st tt_ok rfl ?_ | refine BS_t (by assumption) ?_ | refine BS_f (by assumption) ?_ | refine nthKi (by assumption) ?_ | refine ⟨_, ⟨(by omega), (by assumption)⟩, ?_⟩ | refine And.intro (by first | decide | omega) ?_); conv => whnf) | refine Sem.seqS ?_ | refine Sem.block ?_)
    refine hg.on ?_; conv => whnf
    repeat' (first | ((first | refine Sem.st tt_ok rfl ?_ | refine BS_t (by assumption) ?_ | refine BS_f (by assumption) ?_ | refine nthKi (by assumption) ?_ | refine ⟨_, ⟨(by omega), (by assumption)⟩, ?_⟩ | refine And.intro (by first | decide | omega) ?_); conv => whnf) | refine Sem.seqS ?_ | refine Sem.block ?_)
    refine draw_all tt_ok (by kernel_rfl) 4 rfl ?_
    conv => whnf
    repeat' (refine And.intro ?_ ?_ <;> conv => whnf)
    all_goals
      repeat' (first | ((first | refine Sem.st tt_ok rfl ?_ | refine BS_t (by assumption) ?_ | refine BS_f (by assumption) ?_ | refine nthKi (by assumption) ?_ | refine ⟨_, ⟨(by omega), (by assumption)⟩, ?_⟩ | refine And.intro (by first | decide | omega) ?_); conv => whnf) | refine Sem.seqS ?_ | refine Sem.block ?_)
      exact ⟨_, fun _ _ h => h, rfl, rfl⟩
end Go.Proofs.YtpihanlillbhkaaGreatDoor
end

section
/- The document's layer 31: an operation done. -/
set_option maxRecDepth 100000
set_option linter.unusedSimpArgs false
set_option linter.unusedVariables false
namespace Go.Proofs.YtpihanlillbhkaaGreatDoor
open Go Go.RowKit Go.Proofs

theorem pq_len {q : PQ} (hq : q.size ≤ 1000000) : q.kv.length ≤ 1000000 ∧ q.qu.length ≤ 1000000 ∧ q.le.length ≤ 1000000 := by
  have l1 := sum_len (fun x : ByteArray × ByteArray => 16 + x.1.size + x.2.size) (fun x => by omega) q.kv
  have e1 : sizeR q.kv = (q.kv.map fun x : ByteArray × ByteArray => 16 + x.1.size + x.2.size).sum := rfl
  have l4 := sum_len (fun x : ByteArray × (ByteArray × Int) => 24 + x.1.size + x.2.1.size) (fun x => by omega) q.le
  have e4 : sizeL q.le = (q.le.map fun x : ByteArray × (ByteArray × Int) => 24 + x.1.size + x.2.1.size).sum := rfl
  have l5 := sum_len (fun x : ByteArray × ByteArray => 16 + x.2.size) (fun x => by omega) q.qu
  have e5 : szA q.qu = (q.qu.map fun x : ByteArray × ByteArray => 16 + x.2.size).sum := rfl
  unfold PQ.size sz28 at hq
  omega
theorem rapply_ok (q : PQ) (a : St31) (hq : q.size ≤ 1000000) (hc : q.cn.length ≤ 1000000) (hop : 1 ≤ a.op ∧ a.op ≤ 8) (ht : 0 ≤ a.ticks ∧ a.ticks ≤ 18446744073709551615) (hn : (q.le.map (·.1)).Nodup) (G : Glob) :
    CallOk Tryz.prog TT 18 [q.av, .int .i64 a.op, .agg [.str a.name, .str a.text, .int .i64 a.num, .int .u64 a.ticks], .int .i64 a.now] G (fun v G' => v = .tup [(applyQ q a).1.av, (applyQ q a).2.av] ∧ G' = G) := by
  obtain ⟨h1, h2, h3⟩ := pq_len hq
  have hcs : a.op = 1 ∨ a.op = 2 ∨ a.op = 3 ∨ a.op = 4 ∨ a.op = 5 ∨ a.op = 6 ∨ a.op = 7 ∨ a.op = 8 := by omega
  rcases hcs with h | h | h | h | h | h | h | h
  · have e := rapply1_ok q a h1 h2 h3 G
    unfold applyQ
    rw [h, if_pos rfl]
    exact e
  · have e := rapply2_ok q a h1 h2 h3 G
    unfold applyQ
    rw [h, if_neg (by decide), if_pos rfl]
    exact e
  · have e := rapply3_ok q a h1 h2 h3 G
    unfold applyQ
    rw [h, if_neg (by decide), if_neg (by decide), if_pos rfl]
    exact e
  · have e := rapply4_ok q a hc G
    unfold applyQ
    rw [h, if_neg (by decide), if_neg (by decide), if_neg (by decide), if_pos rfl]
    exact e
  · have e := rapply5_ok q a h2 G
    unfold applyQ
    rw [h, if_neg (by decide), if_neg (by decide), if_neg (by decide), if_neg (by decide), if_pos rfl]
    exact e
  · have e := rapply6_ok q a h1 h2 h3 G
    unfold applyQ
    rw [h, if_neg (by decide), if_neg (by decide), if_neg (by decide), if_neg (by decide), if_neg (by decide), if_pos rfl]
    exact e
  · have e := rapply7_ok q a h1 h2 h3 ht G
    unfold applyQ
    rw [h, if_neg (by decide), if_neg (by decide), if_neg (by decide), if_neg (by decide), if_neg (by decide), if_neg (by decide), if_pos rfl]
    exact e
  · have e := rapply8_ok q a h1 h2 h3 hn G
    unfold applyQ
    rw [h, if_neg (by decide), if_neg (by decide), if_neg (by decide), if_neg (by decide), if_neg (by decide), if_neg (by decide), if_neg (by decide)]
    exact e
theorem apply_len (q : PQ) (a : St31) : (applyQ q a).1.cn.length ≤ q.cn.length + 1 := by
  unfold applyQ
  repeat' split
  all_goals simp
theorem apply_bound {s : PS} {q : PQ} (h : PR s q) (a : St31) : (applyQ q a).1.size ≤ q.size + 64 + a.name.size + a.text.size := by
  have hg : growS s a ≤ 64 + a.name.size + a.text.size := by
    unfold growS
    split
    · unfold kgrow; split <;> omega
    · split
      · unfold cgrow; split <;> omega
      · split
        · unfold fgrow; split <;> omega
        · split
          · unfold lgrow; split <;> omega
          · omega
  rcases apply_size h a with ⟨_, h1⟩ | h1 <;> omega
set_option maxHeartbeats 4000000 in
theorem rdo_ok {s : PS} (q : PQ) (a : St31) (hp : PR s q) (hq : q.size ≤ 80000) (hc : q.cn.length ≤ 80000) (ht : 0 ≤ a.ticks ∧ a.ticks ≤ 18446744073709551615) (hs : a.name.size + a.text.size ≤ 10000) (G : Glob) :
    CallOk Tryz.prog TT 10 [q.av, .int .i64 a.op, .agg [.str a.name, .str a.text, .int .i64 a.num, .int .u64 a.ticks], .int .i64 a.now, .int .i64 a.limit] G (fun v G' => v = .tup [(doQ q a).1.av, (doQ q a).2.1.av, .int .i64 (doQ q a).2.2] ∧ G' = G) := by
  by_cases h0 : a.op < 1 ∨ 8 < a.op
  · unfold doQ
    rw [if_pos h0]
    unfold PQ.av PRes.av noRes
    simp only
    by_cases h1 : a.op < 1
    · have t1 : decide (a.op < 1) = true := decide_eq_true h1
      refine call_sem tt_ok Tryz.func10 rfl (by kernel_rfl) Tryz.ntmps10 Tryz.results10 ?_; conv => whnf
      repeat' (first | ((first | refine Sem.st tt_ok rfl ?_ | refine BS_t (by assumption) ?_ | refine BS_f (by assumption) ?_ | refine nthKi (by assumption) ?_ | refine ⟨_, ⟨(by omega), (by assumption)⟩, ?_⟩ | refine And.intro (by first | decide | omega) ?_); conv => whnf) | refine Sem.seqS ?_ | refine Sem.block ?_)
      exact ⟨_, fun _ _ h => h, rfl, rfl⟩
    · have t1 : decide (a.op < 1) = false := decide_eq_false h1
      have t2 : decide (a.op > 8) = true := by rw [decide_eq_true_eq]; omega
      refine call_sem tt_ok Tryz.func10 rfl (by kernel_rfl) Tryz.ntmps10 Tryz.results10 ?_; conv => whnf
      repeat' (first | ((first | refine Sem.st tt_ok rfl ?_ | refine BS_t (by assumption) ?_ | refine BS_f (by assumption) ?_ | refine nthKi (by assumption) ?_ | refine ⟨_, ⟨(by omega), (by assumption)⟩, ?_⟩ | refine And.intro (by first | decide | omega) ?_); conv => whnf) | refine Sem.seqS ?_ | refine Sem.block ?_)
      exact ⟨_, fun _ _ h => h, rfl, rfl⟩
  have hop : 1 ≤ a.op ∧ a.op ≤ 8 := by omega
  have t1 : decide (a.op < 1) = false := decide_eq_false (by omega)
  have t2 : decide (a.op > 8) = false := decide_eq_false (by omega)
  have hpE := hp.exp a.now
  have hszE := exp_size q a.now
  have hex := expire29_ok q.le a.now G (by have := (pq_len (q := q) (by omega)).2.2; omega)
  have hap := rapply_ok (expQ q a.now) a (by omega) (by show q.cn.length ≤ 1000000; omega) hop ht (rise_nodupA hpE.l.ri) G
  have hbd := apply_bound hpE a
  have hal := apply_len (expQ q a.now) a
  have hcl : (expQ q a.now).cn.length = q.cn.length := rfl
  have hz1 := rsize31_ok (expQ q a.now) (by omega) (by omega) G
  have hz2 := rsize31_ok (applyQ (expQ q a.now) a).1 (by omega) (by omega) G
  unfold doQ fullQ
  rw [if_neg h0]
  have he : (expQ q a.now).av = .agg [.slc 92 (q.kv.map kvR), .slc 113 (q.cn.map CRw.av), .slc 115 (q.qu.map kvR), .slc 99 ((liveL a.now q.le).map leR)] := rfl
  generalize (expQ q a.now).size = n1 at *
  generalize applyQ (expQ q a.now) a = ar at *
  obtain ⟨⟨kv', cn', qu', le'⟩, ⟨rt, rh, rn⟩⟩ := ar
  simp only at hz2 hap hbd hal ⊢
  rw [he] at hap hz1
  generalize PQ.size ⟨kv', cn', qu', le'⟩ = n2 at *
  unfold PQ.av PRes.av at *
  simp only at *
  clear hp hpE hq hszE hbd hal hcl hop h0
  by_cases c1 : n1 < n2
  case neg =>
    have t3 : decide (((n2 : Nat) : Int) > ((n1 : Nat) : Int)) = false := by rw [decide_eq_false_iff_not]; omega
    rw [decide_eq_false c1, Bool.false_and, if_neg (by decide)]
    simp only
    refine call_sem tt_ok Tryz.func10 rfl (by kernel_rfl) Tryz.ntmps10 Tryz.results10 ?_; conv => whnf
    repeat' (first | ((first | refine Sem.st tt_ok rfl ?_ | refine BS_t (by assumption) ?_ | refine BS_f (by assumption) ?_ | refine nthKi (by assumption) ?_ | refine ⟨_, ⟨(by omega), (by assumption)⟩, ?_⟩ | refine And.intro (by first | decide | omega) ?_); conv => whnf) | refine Sem.seqS ?_ | refine Sem.block ?_)
    refine hex.on ?_; conv => whnf
    repeat' (first | ((first | refine Sem.st tt_ok rfl ?_ | refine BS_t (by assumption) ?_ | refine BS_f (by assumption) ?_ | refine nthKi (by assumption) ?_ | refine ⟨_, ⟨(by omega), (by assumption)⟩, ?_⟩ | refine And.intro (by first | decide | omega) ?_); conv => whnf) | refine Sem.seqS ?_ | refine Sem.block ?_)
    refine hap.on ?_; conv => whnf
    repeat' (first | ((first | refine Sem.st tt_ok rfl ?_ | refine BS_t (by assumption) ?_ | refine BS_f (by assumption) ?_ | refine nthKi (by assumption) ?_ | refine ⟨_, ⟨(by omega), (by assumption)⟩, ?_⟩ | refine And.intro (by first | decide | omega) ?_); conv => whnf) | refine Sem.seqS ?_ | refine Sem.block ?_)
    refine draw_sound (eff := []) tt_ok (by kernel_rfl) (by kernel_rfl) ?_; conv => whnf
    repeat' (first | ((first | refine BS_t (by assumption) ?_ | refine BS_f (by assumption) ?_ | refine nthKi (by assumption) ?_ | refine ⟨_, ⟨(by omega), (by assumption)⟩, ?_⟩ | refine And.intro (by first | decide | omega) ?_); conv => whnf) | fail)
    refine ⟨_, _, hz2, ?_⟩; (conv => whnf); refine And.intro rfl ?_; conv => whnf
    repeat' (first | ((first | refine BS_t (by assumption) ?_ | refine BS_f (by assumption) ?_ | refine nthKi (by assumption) ?_ | refine ⟨_, ⟨(by omega), (by assumption)⟩, ?_⟩ | refine And.intro (by first | decide | omega) ?_); conv => whnf) | fail)
    refine ⟨_, _, hz1, ?_⟩; (conv => whnf); refine And.intro rfl ?_; conv => whnf
    repeat' (first | ((first | refine BS_t (by assumption) ?_ | refine BS_f (by assumption) ?_ | refine nthKi (by assumption) ?_ | refine ⟨_, ⟨(by omega), (by assumption)⟩, ?_⟩ | refine And.intro (by first | decide | omega) ?_); conv => whnf) | fail)
    repeat' (first | ((first | refine Sem.st tt_ok rfl ?_ | refine BS_t (by assumption) ?_ | refine BS_f (by assumption) ?_ | refine nthKi (by assumption) ?_ | refine ⟨_, ⟨(by omega), (by assumption)⟩, ?_⟩ | refine And.intro (by first | decide | omega) ?_); conv => whnf) | refine Sem.seqS ?_ | refine Sem.block ?_)
    refine draw_all tt_ok (by kernel_rfl) 5 rfl ?_
    conv => whnf
    repeat' (refine And.intro ?_ ?_ <;> conv => whnf)
    all_goals
      repeat' (first | ((first | refine Sem.st tt_ok rfl ?_ | refine BS_t (by assumption) ?_ | refine BS_f (by assumption) ?_ | refine nthKi (by assumption) ?_ | refine ⟨_, ⟨(by omega), (by assumption)⟩, ?_⟩ | refine And.intro (by first | decide | omega) ?_); conv => whnf) | refine Sem.seqS ?_ | refine Sem.block ?_)
      exact ⟨_, fun _ _ h => h, rfl, rfl⟩
  have t3 : decide (((n2 : Nat) : Int) > ((n1 : Nat) : Int)) = true := by rw [decide_eq_true_eq]; omega
  by_cases c2 : a.limit < (n2 : Nat)
  case neg =>
    have t4 : decide (((n2 : Nat) : Int) > a.limit) = false := by rw [decide_eq_false_iff_not]; omega
    rw [decide_eq_false c2, Bool.and_false, if_neg (by decide)]
    simp only
    refine call_sem tt_ok Tryz.func10 rfl (by kernel_rfl) Tryz.ntmps10 Tryz.results10 ?_; conv => whnf
    repeat' (first | ((first | refine Sem.st tt_ok rfl ?_ | refine BS_t (by assumption) ?_ | refine BS_f (by assumption) ?_ | refine nthKi (by assumption) ?_ | refine ⟨_, ⟨(by omega), (by assumption)⟩, ?_⟩ | refine And.intro (by first | decide | omega) ?_); conv => whnf) | refine Sem.seqS ?_ | refine Sem.block ?_)
    refine hex.on ?_; conv => whnf
    repeat' (first | ((first | refine Sem.st tt_ok rfl ?_ | refine BS_t (by assumption) ?_ | refine BS_f (by assumption) ?_ | refine nthKi (by assumption) ?_ | refine ⟨_, ⟨(by omega), (by assumption)⟩, ?_⟩ | refine And.intro (by first | decide | omega) ?_); conv => whnf) | refine Sem.seqS ?_ | refine Sem.block ?_)
    refine hap.on ?_; conv => whnf
    repeat' (first | ((first | refine Sem.st tt_ok rfl ?_ | refine BS_t (by assumption) ?_ | refine BS_f (by assumption) ?_ | refine nthKi (by assumption) ?_ | refine ⟨_, ⟨(by omega), (by assumption)⟩, ?_⟩ | refine And.intro (by first | decide | omega) ?_); conv => whnf) | refine Sem.seqS ?_ | refine Sem.block ?_)
    refine draw_sound (eff := []) tt_ok (by kernel_rfl) (by kernel_rfl) ?_; conv => whnf
    repeat' (first | ((first | refine BS_t (by assumption) ?_ | refine BS_f (by assumption) ?_ | refine nthKi (by assumption) ?_ | refine ⟨_, ⟨(by omega), (by assumption)⟩, ?_⟩ | refine And.intro (by first | decide | omega) ?_); conv => whnf) | fail)
    refine ⟨_, _, hz2, ?_⟩; (conv => whnf); refine And.intro rfl ?_; conv => whnf
    repeat' (first | ((first | refine BS_t (by assumption) ?_ | refine BS_f (by assumption) ?_ | refine nthKi (by assumption) ?_ | refine ⟨_, ⟨(by omega), (by assumption)⟩, ?_⟩ | refine And.intro (by first | decide | omega) ?_); conv => whnf) | fail)
    refine ⟨_, _, hz1, ?_⟩; (conv => whnf); refine And.intro rfl ?_; conv => whnf
    repeat' (first | ((first | refine BS_t (by assumption) ?_ | refine BS_f (by assumption) ?_ | refine nthKi (by assumption) ?_ | refine ⟨_, ⟨(by omega), (by assumption)⟩, ?_⟩ | refine And.intro (by first | decide | omega) ?_); conv => whnf) | fail)
    refine ⟨_, _, hz2, ?_⟩; (conv => whnf); refine And.intro rfl ?_; conv => whnf
    repeat' (first | ((first | refine BS_t (by assumption) ?_ | refine BS_f (by assumption) ?_ | refine nthKi (by assumption) ?_ | refine ⟨_, ⟨(by omega), (by assumption)⟩, ?_⟩ | refine And.intro (by first | decide | omega) ?_); conv => whnf) | fail)
    repeat' (first | ((first | refine Sem.st tt_ok rfl ?_ | refine BS_t (by assumption) ?_ | refine BS_f (by assumption) ?_ | refine nthKi (by assumption) ?_ | refine ⟨_, ⟨(by omega), (by assumption)⟩, ?_⟩ | refine And.intro (by first | decide | omega) ?_); conv => whnf) | refine Sem.seqS ?_ | refine Sem.block ?_)
    refine draw_all tt_ok (by kernel_rfl) 5 rfl ?_
    conv => whnf
    repeat' (refine And.intro ?_ ?_ <;> conv => whnf)
    all_goals
      repeat' (first | ((first | refine Sem.st tt_ok rfl ?_ | refine BS_t (by assumption) ?_ | refine BS_f (by assumption) ?_ | refine nthKi (by assumption) ?_ | refine ⟨_, ⟨(by omega), (by assumption)⟩, ?_⟩ | refine And.intro (by first | decide | omega) ?_); conv => whnf) | refine Sem.seqS ?_ | refine Sem.block ?_)
      exact ⟨_, fun _ _ h => h, rfl, rfl⟩
  have t4 : decide (((n2 : Nat) : Int) > a.limit) = true := by rw [decide_eq_true_eq]; omega
  rw [decide_eq_true c1, decide_eq_true c2, Bool.and_self, if_pos rfl]
  simp only [noRes]
  refine call_sem tt_ok Tryz.func10 rfl (by kernel_rfl) Tryz.ntmps10 Tryz.results10 ?_; conv => whnf
  repeat' (first | ((first | refine Sem.st tt_ok rfl ?_ | refine BS_t (by assumption) ?_ | refine BS_f (by assumption) ?_ | refine nthKi (by assumption) ?_ | refine ⟨_, ⟨(by omega), (by assumption)⟩, ?_⟩ | refine And.intro (by first | decide | omega) ?_); conv => whnf) | refine Sem.seqS ?_ | refine Sem.block ?_)
  refine hex.on ?_; conv => whnf
  repeat' (first | ((first | refine Sem.st tt_ok rfl ?_ | refine BS_t (by assumption) ?_ | refine BS_f (by assumption) ?_ | refine nthKi (by assumption) ?_ | refine ⟨_, ⟨(by omega), (by assumption)⟩, ?_⟩ | refine And.intro (by first | decide | omega) ?_); conv => whnf) | refine Sem.seqS ?_ | refine Sem.block ?_)
  refine hap.on ?_; conv => whnf
  repeat' (first | ((first | refine Sem.st tt_ok rfl ?_ | refine BS_t (by assumption) ?_ | refine BS_f (by assumption) ?_ | refine nthKi (by assumption) ?_ | refine ⟨_, ⟨(by omega), (by assumption)⟩, ?_⟩ | refine And.intro (by first | decide | omega) ?_); conv => whnf) | refine Sem.seqS ?_ | refine Sem.block ?_)
  refine draw_sound (eff := []) tt_ok (by kernel_rfl) (by kernel_rfl) ?_; conv => whnf
  repeat' (first | ((first | refine BS_t (by assumption) ?_ | refine BS_f (by assumption) ?_ | refine nthKi (by assumption) ?_ | refine ⟨_, ⟨(by omega), (by assumption)⟩, ?_⟩ | refine And.intro (by first | decide | omega) ?_); conv => whnf) | fail)
  refine ⟨_, _, hz2, ?_⟩; (conv => whnf); refine And.intro rfl ?_; conv => whnf
  repeat' (first | ((first | refine BS_t (by assumption) ?_ | refine BS_f (by assumption) ?_ | refine nthKi (by assumption) ?_ | refine ⟨_, ⟨(by omega), (by assumption)⟩, ?_⟩ | refine And.intro (by first | decide | omega) ?_); conv => whnf) | fail)
  refine ⟨_, _, hz1, ?_⟩; (conv => whnf); refine And.intro rfl ?_; conv => whnf
  repeat' (first | ((first | refine BS_t (by assumption) ?_ | refine BS_f (by assumption) ?_ | refine nthKi (by assumption) ?_ | refine ⟨_, ⟨(by omega), (by assumption)⟩, ?_⟩ | refine And.intro (by first | decide | omega) ?_); conv => whnf) | fail)
  refine ⟨_, _, hz2, ?_⟩; (conv => whnf); refine And.intro rfl ?_; conv => whnf
  repeat' (first | ((first | refine BS_t (by assumption) ?_ | refine BS_f (by assumption) ?_ | refine nthKi (by assumption) ?_ | refine ⟨_, ⟨(by omega), (by assumption)⟩, ?_⟩ | refine And.intro (by first | decide | omega) ?_); conv => whnf) | fail)
  repeat' (first | ((first | refine Sem.st tt_ok rfl ?_ | refine BS_t (by assumption) ?_ | refine BS_f (by assumption) ?_ | refine nthKi (by assumption) ?_ | refine ⟨_, ⟨(by omega), (by assumption)⟩, ?_⟩ | refine And.intro (by first | decide | omega) ?_); conv => whnf) | refine Sem.seqS ?_ | refine Sem.block ?_)
  exact ⟨_, fun _ _ h => h, rfl, rfl⟩
end Go.Proofs.YtpihanlillbhkaaGreatDoor
end
