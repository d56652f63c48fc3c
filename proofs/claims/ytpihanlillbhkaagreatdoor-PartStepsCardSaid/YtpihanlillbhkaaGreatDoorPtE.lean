/- A partition: which operation is which. Printed by genptd.py. -/
import Derived.Test.YtpihanlillbhkaaGreatDoorPtD
set_option maxRecDepth 100000
set_option linter.unusedSimpArgs false
set_option linter.unusedVariables false
namespace Go.Proofs.YtpihanlillbhkaaGreatDoor
open Go Go.RowKit Go.Proofs

theorem texts1_ok (G : Glob) (pb : Nat) (a : St31) : CallOk Tryz.prog TT 60 [.gptr pb 0, .int .i64 1, .agg [.str a.name, .str a.text, .int .i64 a.num, .int .u64 a.ticks]] G
    (fun v G' => ∃ x y, G x = none ∧ setG G x (.cells [.gptr pb 0]) y = none ∧ v = .tup [.agg [.fn (.func 57) [] [], .fn (.func 79) [] [.gptr x 0, .gptr y 0]], .bool true] ∧ G' = setG (setG G x (.cells [.gptr pb 0])) y (.cells [.str a.name, .str a.text, .int .i64 a.num, .int .u64 a.ticks])) := by
  refine call_sem tt_ok Tryz.func60 rfl (by kernel_rfl) Tryz.ntmps60 Tryz.results60 ?_; conv => whnf
  repeat' (first | ((first | refine Sem.st tt_ok rfl ?_ | refine BS_t (by assumption) ?_ | refine BS_f (by assumption) ?_ | refine atG (by repeat (first | assumption | exact setG_same _ _ _ | refine atNe (by first | assumption | exact Ne.symm (by assumption)) ?_)) ?_ | refine nthKi (by assumption) ?_ | refine ⟨_, ⟨(by omega), (by assumption)⟩, ?_⟩ | refine And.intro (by first | decide | omega) ?_); conv => whnf) | refine Sem.seqS ?_ | refine Sem.block ?_)
  intro x hx
  conv => whnf
  intro y hy
  conv => whnf
  exact ⟨_, fun _ _ h => h, x, y, hx, hy, rfl, rfl⟩
theorem find1_ok (G : Glob) (pb : Nat) (a : St31) (now : Int) : CallOk Tryz.prog TT 15 [.gptr pb 0, .int .i64 1, .agg [.str a.name, .str a.text, .int .i64 a.num, .int .u64 a.ticks], .int .i64 now] G
    (fun v G' => ∃ x y, G x = none ∧ setG G x (.cells [.gptr pb 0]) y = none ∧ v = .tup [.agg [.fn (.func 57) [] [], .fn (.func 79) [] [.gptr x 0, .gptr y 0]], .bool true] ∧ G' = setG (setG G x (.cells [.gptr pb 0])) y (.cells [.str a.name, .str a.text, .int .i64 a.num, .int .u64 a.ticks])) := by
  refine call_sem tt_ok Tryz.func15 rfl (by kernel_rfl) Tryz.ntmps15 Tryz.results15 ?_; conv => whnf
  repeat' (first | ((first | refine Sem.st tt_ok rfl ?_ | refine BS_t (by assumption) ?_ | refine BS_f (by assumption) ?_ | refine atG (by repeat (first | assumption | exact setG_same _ _ _ | refine atNe (by first | assumption | exact Ne.symm (by assumption)) ?_)) ?_ | refine nthKi (by assumption) ?_ | refine ⟨_, ⟨(by omega), (by assumption)⟩, ?_⟩ | refine And.intro (by first | decide | omega) ?_); conv => whnf) | refine Sem.seqS ?_ | refine Sem.block ?_)
  refine (texts1_ok G pb a).mono fun v G1 hv => ?_; obtain ⟨x, y, hx, hy, rfl, rfl⟩ := hv; conv => whnf
  repeat' (first | ((first | refine Sem.st tt_ok rfl ?_ | refine BS_t (by assumption) ?_ | refine BS_f (by assumption) ?_ | refine atG (by repeat (first | assumption | exact setG_same _ _ _ | refine atNe (by first | assumption | exact Ne.symm (by assumption)) ?_)) ?_ | refine nthKi (by assumption) ?_ | refine ⟨_, ⟨(by omega), (by assumption)⟩, ?_⟩ | refine And.intro (by first | decide | omega) ?_); conv => whnf) | refine Sem.seqS ?_ | refine Sem.block ?_)
  exact ⟨_, fun _ _ h => h, x, y, hx, hy, rfl, rfl⟩
theorem texts2_ok (G : Glob) (pb : Nat) (a : St31) : CallOk Tryz.prog TT 60 [.gptr pb 0, .int .i64 2, .agg [.str a.name, .str a.text, .int .i64 a.num, .int .u64 a.ticks]] G
    (fun v G' => ∃ x y, G x = none ∧ setG G x (.cells [.gptr pb 0]) y = none ∧ v = .tup [.agg [.fn (.func 80) [] [.gptr x 0, .gptr y 0], .fn (.func 82) [] [.gptr x 0, .gptr y 0]], .bool true] ∧ G' = setG (setG G x (.cells [.gptr pb 0])) y (.cells [.str a.name, .str a.text, .int .i64 a.num, .int .u64 a.ticks])) := by
  refine call_sem tt_ok Tryz.func60 rfl (by kernel_rfl) Tryz.ntmps60 Tryz.results60 ?_; conv => whnf
  repeat' (first | ((first | refine Sem.st tt_ok rfl ?_ | refine BS_t (by assumption) ?_ | refine BS_f (by assumption) ?_ | refine atG (by repeat (first | assumption | exact setG_same _ _ _ | refine atNe (by first | assumption | exact Ne.symm (by assumption)) ?_)) ?_ | refine nthKi (by assumption) ?_ | refine ⟨_, ⟨(by omega), (by assumption)⟩, ?_⟩ | refine And.intro (by first | decide | omega) ?_); conv => whnf) | refine Sem.seqS ?_ | refine Sem.block ?_)
  intro x hx
  conv => whnf
  intro y hy
  conv => whnf
  exact ⟨_, fun _ _ h => h, x, y, hx, hy, rfl, rfl⟩
theorem find2_ok (G : Glob) (pb : Nat) (a : St31) (now : Int) : CallOk Tryz.prog TT 15 [.gptr pb 0, .int .i64 2, .agg [.str a.name, .str a.text, .int .i64 a.num, .int .u64 a.ticks], .int .i64 now] G
    (fun v G' => ∃ x y, G x = none ∧ setG G x (.cells [.gptr pb 0]) y = none ∧ v = .tup [.agg [.fn (.func 80) [] [.gptr x 0, .gptr y 0], .fn (.func 82) [] [.gptr x 0, .gptr y 0]], .bool true] ∧ G' = setG (setG G x (.cells [.gptr pb 0])) y (.cells [.str a.name, .str a.text, .int .i64 a.num, .int .u64 a.ticks])) := by
  refine call_sem tt_ok Tryz.func15 rfl (by kernel_rfl) Tryz.ntmps15 Tryz.results15 ?_; conv => whnf
  repeat' (first | ((first | refine Sem.st tt_ok rfl ?_ | refine BS_t (by assumption) ?_ | refine BS_f (by assumption) ?_ | refine atG (by repeat (first | assumption | exact setG_same _ _ _ | refine atNe (by first | assumption | exact Ne.symm (by assumption)) ?_)) ?_ | refine nthKi (by assumption) ?_ | refine ⟨_, ⟨(by omega), (by assumption)⟩, ?_⟩ | refine And.intro (by first | decide | omega) ?_); conv => whnf) | refine Sem.seqS ?_ | refine Sem.block ?_)
  refine (texts2_ok G pb a).mono fun v G1 hv => ?_; obtain ⟨x, y, hx, hy, rfl, rfl⟩ := hv; conv => whnf
  repeat' (first | ((first | refine Sem.st tt_ok rfl ?_ | refine BS_t (by assumption) ?_ | refine BS_f (by assumption) ?_ | refine atG (by repeat (first | assumption | exact setG_same _ _ _ | refine atNe (by first | assumption | exact Ne.symm (by assumption)) ?_)) ?_ | refine nthKi (by assumption) ?_ | refine ⟨_, ⟨(by omega), (by assumption)⟩, ?_⟩ | refine And.intro (by first | decide | omega) ?_); conv => whnf) | refine Sem.seqS ?_ | refine Sem.block ?_)
  exact ⟨_, fun _ _ h => h, x, y, hx, hy, rfl, rfl⟩
theorem texts3_ok (G : Glob) (pb : Nat) (a : St31) : CallOk Tryz.prog TT 60 [.gptr pb 0, .int .i64 3, .agg [.str a.name, .str a.text, .int .i64 a.num, .int .u64 a.ticks]] G
    (fun v G' => ∃ x y, G x = none ∧ setG G x (.cells [.gptr pb 0]) y = none ∧ v = .tup [.agg [.fn (.func 57) [] [], .fn (.func 84) [] [.gptr x 0, .gptr y 0]], .bool true] ∧ G' = setG (setG G x (.cells [.gptr pb 0])) y (.cells [.str a.name, .str a.text, .int .i64 a.num, .int .u64 a.ticks])) := by
  refine call_sem tt_ok Tryz.func60 rfl (by kernel_rfl) Tryz.ntmps60 Tryz.results60 ?_; conv => whnf
  repeat' (first | ((first | refine Sem.st tt_ok rfl ?_ | refine BS_t (by assumption) ?_ | refine BS_f (by assumption) ?_ | refine atG (by repeat (first | assumption | exact setG_same _ _ _ | refine atNe (by first | assumption | exact Ne.symm (by assumption)) ?_)) ?_ | refine nthKi (by assumption) ?_ | refine ⟨_, ⟨(by omega), (by assumption)⟩, ?_⟩ | refine And.intro (by first | decide | omega) ?_); conv => whnf) | refine Sem.seqS ?_ | refine Sem.block ?_)
  intro x hx
  conv => whnf
  intro y hy
  conv => whnf
  exact ⟨_, fun _ _ h => h, x, y, hx, hy, rfl, rfl⟩
theorem find3_ok (G : Glob) (pb : Nat) (a : St31) (now : Int) : CallOk Tryz.prog TT 15 [.gptr pb 0, .int .i64 3, .agg [.str a.name, .str a.text, .int .i64 a.num, .int .u64 a.ticks], .int .i64 now] G
    (fun v G' => ∃ x y, G x = none ∧ setG G x (.cells [.gptr pb 0]) y = none ∧ v = .tup [.agg [.fn (.func 57) [] [], .fn (.func 84) [] [.gptr x 0, .gptr y 0]], .bool true] ∧ G' = setG (setG G x (.cells [.gptr pb 0])) y (.cells [.str a.name, .str a.text, .int .i64 a.num, .int .u64 a.ticks])) := by
  refine call_sem tt_ok Tryz.func15 rfl (by kernel_rfl) Tryz.ntmps15 Tryz.results15 ?_; conv => whnf
  repeat' (first | ((first | refine Sem.st tt_ok rfl ?_ | refine BS_t (by assumption) ?_ | refine BS_f (by assumption) ?_ | refine atG (by repeat (first | assumption | exact setG_same _ _ _ | refine atNe (by first | assumption | exact Ne.symm (by assumption)) ?_)) ?_ | refine nthKi (by assumption) ?_ | refine ⟨_, ⟨(by omega), (by assumption)⟩, ?_⟩ | refine And.intro (by first | decide | omega) ?_); conv => whnf) | refine Sem.seqS ?_ | refine Sem.block ?_)
  refine (texts3_ok G pb a).mono fun v G1 hv => ?_; obtain ⟨x, y, hx, hy, rfl, rfl⟩ := hv; conv => whnf
  repeat' (first | ((first | refine Sem.st tt_ok rfl ?_ | refine BS_t (by assumption) ?_ | refine BS_f (by assumption) ?_ | refine atG (by repeat (first | assumption | exact setG_same _ _ _ | refine atNe (by first | assumption | exact Ne.symm (by assumption)) ?_)) ?_ | refine nthKi (by assumption) ?_ | refine ⟨_, ⟨(by omega), (by assumption)⟩, ?_⟩ | refine And.intro (by first | decide | omega) ?_); conv => whnf) | refine Sem.seqS ?_ | refine Sem.block ?_)
  exact ⟨_, fun _ _ h => h, x, y, hx, hy, rfl, rfl⟩
theorem find4_ok (G : Glob) (pb : Nat) (a : St31) (now : Int) : CallOk Tryz.prog TT 15 [.gptr pb 0, .int .i64 4, .agg [.str a.name, .str a.text, .int .i64 a.num, .int .u64 a.ticks], .int .i64 now] G
    (fun v G' => ∃ x y, G x = none ∧ setG G x (.cells [.gptr pb 0]) y = none ∧ v = .tup [.agg [.fn (.func 49) [] [.gptr x 0, .gptr y 0], .fn (.func 51) [] [.gptr x 0, .gptr y 0]], .bool true] ∧ G' = setG (setG G x (.cells [.gptr pb 0])) y (.cells [.str a.name, .str a.text, .int .i64 a.num, .int .u64 a.ticks])) := by
  refine call_sem tt_ok Tryz.func15 rfl (by kernel_rfl) Tryz.ntmps15 Tryz.results15 ?_; conv => whnf
  repeat' (first | ((first | refine Sem.st tt_ok rfl ?_ | refine BS_t (by assumption) ?_ | refine BS_f (by assumption) ?_ | refine atG (by repeat (first | assumption | exact setG_same _ _ _ | refine atNe (by first | assumption | exact Ne.symm (by assumption)) ?_)) ?_ | refine nthKi (by assumption) ?_ | refine ⟨_, ⟨(by omega), (by assumption)⟩, ?_⟩ | refine And.intro (by first | decide | omega) ?_); conv => whnf) | refine Sem.seqS ?_ | refine Sem.block ?_)
  intro x hx
  conv => whnf
  intro y hy
  conv => whnf
  exact ⟨_, fun _ _ h => h, x, y, hx, hy, rfl, rfl⟩
theorem texts5_ok (G : Glob) (pb : Nat) (a : St31) : CallOk Tryz.prog TT 60 [.gptr pb 0, .int .i64 5, .agg [.str a.name, .str a.text, .int .i64 a.num, .int .u64 a.ticks]] G
    (fun v G' => ∃ x y, G x = none ∧ setG G x (.cells [.gptr pb 0]) y = none ∧ v = .tup [.agg [.fn (.func 86) [] [.gptr x 0, .gptr y 0], .fn (.func 88) [] [.gptr x 0, .gptr y 0]], .bool true] ∧ G' = setG (setG G x (.cells [.gptr pb 0])) y (.cells [.str a.name, .str a.text, .int .i64 a.num, .int .u64 a.ticks])) := by
  refine call_sem tt_ok Tryz.func60 rfl (by kernel_rfl) Tryz.ntmps60 Tryz.results60 ?_; conv => whnf
  repeat' (first | ((first | refine Sem.st tt_ok rfl ?_ | refine BS_t (by assumption) ?_ | refine BS_f (by assumption) ?_ | refine atG (by repeat (first | assumption | exact setG_same _ _ _ | refine atNe (by first | assumption | exact Ne.symm (by assumption)) ?_)) ?_ | refine nthKi (by assumption) ?_ | refine ⟨_, ⟨(by omega), (by assumption)⟩, ?_⟩ | refine And.intro (by first | decide | omega) ?_); conv => whnf) | refine Sem.seqS ?_ | refine Sem.block ?_)
  intro x hx
  conv => whnf
  intro y hy
  conv => whnf
  exact ⟨_, fun _ _ h => h, x, y, hx, hy, rfl, rfl⟩
theorem find5_ok (G : Glob) (pb : Nat) (a : St31) (now : Int) : CallOk Tryz.prog TT 15 [.gptr pb 0, .int .i64 5, .agg [.str a.name, .str a.text, .int .i64 a.num, .int .u64 a.ticks], .int .i64 now] G
    (fun v G' => ∃ x y, G x = none ∧ setG G x (.cells [.gptr pb 0]) y = none ∧ v = .tup [.agg [.fn (.func 86) [] [.gptr x 0, .gptr y 0], .fn (.func 88) [] [.gptr x 0, .gptr y 0]], .bool true] ∧ G' = setG (setG G x (.cells [.gptr pb 0])) y (.cells [.str a.name, .str a.text, .int .i64 a.num, .int .u64 a.ticks])) := by
  refine call_sem tt_ok Tryz.func15 rfl (by kernel_rfl) Tryz.ntmps15 Tryz.results15 ?_; conv => whnf
  repeat' (first | ((first | refine Sem.st tt_ok rfl ?_ | refine BS_t (by assumption) ?_ | refine BS_f (by assumption) ?_ | refine atG (by repeat (first | assumption | exact setG_same _ _ _ | refine atNe (by first | assumption | exact Ne.symm (by assumption)) ?_)) ?_ | refine nthKi (by assumption) ?_ | refine ⟨_, ⟨(by omega), (by assumption)⟩, ?_⟩ | refine And.intro (by first | decide | omega) ?_); conv => whnf) | refine Sem.seqS ?_ | refine Sem.block ?_)
  refine (texts5_ok G pb a).mono fun v G1 hv => ?_; obtain ⟨x, y, hx, hy, rfl, rfl⟩ := hv; conv => whnf
  repeat' (first | ((first | refine Sem.st tt_ok rfl ?_ | refine BS_t (by assumption) ?_ | refine BS_f (by assumption) ?_ | refine atG (by repeat (first | assumption | exact setG_same _ _ _ | refine atNe (by first | assumption | exact Ne.symm (by assumption)) ?_)) ?_ | refine nthKi (by assumption) ?_ | refine ⟨_, ⟨(by omega), (by assumption)⟩, ?_⟩ | refine And.intro (by first | decide | omega) ?_); conv => whnf) | refine Sem.seqS ?_ | refine Sem.block ?_)
  exact ⟨_, fun _ _ h => h, x, y, hx, hy, rfl, rfl⟩
theorem texts6_ok (G : Glob) (pb : Nat) (a : St31) : CallOk Tryz.prog TT 60 [.gptr pb 0, .int .i64 6, .agg [.str a.name, .str a.text, .int .i64 a.num, .int .u64 a.ticks]] G
    (fun v G' => ∃ x y, G x = none ∧ setG G x (.cells [.gptr pb 0]) y = none ∧ v = .tup [.agg [.fn (.func 57) [] [], .fn (.func 90) [] [.gptr x 0, .gptr y 0]], .bool true] ∧ G' = setG (setG G x (.cells [.gptr pb 0])) y (.cells [.str a.name, .str a.text, .int .i64 a.num, .int .u64 a.ticks])) := by
  refine call_sem tt_ok Tryz.func60 rfl (by kernel_rfl) Tryz.ntmps60 Tryz.results60 ?_; conv => whnf
  repeat' (first | ((first | refine Sem.st tt_ok rfl ?_ | refine BS_t (by assumption) ?_ | refine BS_f (by assumption) ?_ | refine atG (by repeat (first | assumption | exact setG_same _ _ _ | refine atNe (by first | assumption | exact Ne.symm (by assumption)) ?_)) ?_ | refine nthKi (by assumption) ?_ | refine ⟨_, ⟨(by omega), (by assumption)⟩, ?_⟩ | refine And.intro (by first | decide | omega) ?_); conv => whnf) | refine Sem.seqS ?_ | refine Sem.block ?_)
  intro x hx
  conv => whnf
  intro y hy
  conv => whnf
  exact ⟨_, fun _ _ h => h, x, y, hx, hy, rfl, rfl⟩
theorem find6_ok (G : Glob) (pb : Nat) (a : St31) (now : Int) : CallOk Tryz.prog TT 15 [.gptr pb 0, .int .i64 6, .agg [.str a.name, .str a.text, .int .i64 a.num, .int .u64 a.ticks], .int .i64 now] G
    (fun v G' => ∃ x y, G x = none ∧ setG G x (.cells [.gptr pb 0]) y = none ∧ v = .tup [.agg [.fn (.func 57) [] [], .fn (.func 90) [] [.gptr x 0, .gptr y 0]], .bool true] ∧ G' = setG (setG G x (.cells [.gptr pb 0])) y (.cells [.str a.name, .str a.text, .int .i64 a.num, .int .u64 a.ticks])) := by
  refine call_sem tt_ok Tryz.func15 rfl (by kernel_rfl) Tryz.ntmps15 Tryz.results15 ?_; conv => whnf
  repeat' (first | ((first | refine Sem.st tt_ok rfl ?_ | refine BS_t (by assumption) ?_ | refine BS_f (by assumption) ?_ | refine atG (by repeat (first | assumption | exact setG_same _ _ _ | refine atNe (by first | assumption | exact Ne.symm (by assumption)) ?_)) ?_ | refine nthKi (by assumption) ?_ | refine ⟨_, ⟨(by omega), (by assumption)⟩, ?_⟩ | refine And.intro (by first | decide | omega) ?_); conv => whnf) | refine Sem.seqS ?_ | refine Sem.block ?_)
  refine (texts6_ok G pb a).mono fun v G1 hv => ?_; obtain ⟨x, y, hx, hy, rfl, rfl⟩ := hv; conv => whnf
  repeat' (first | ((first | refine Sem.st tt_ok rfl ?_ | refine BS_t (by assumption) ?_ | refine BS_f (by assumption) ?_ | refine atG (by repeat (first | assumption | exact setG_same _ _ _ | refine atNe (by first | assumption | exact Ne.symm (by assumption)) ?_)) ?_ | refine nthKi (by assumption) ?_ | refine ⟨_, ⟨(by omega), (by assumption)⟩, ?_⟩ | refine And.intro (by first | decide | omega) ?_); conv => whnf) | refine Sem.seqS ?_ | refine Sem.block ?_)
  exact ⟨_, fun _ _ h => h, x, y, hx, hy, rfl, rfl⟩
theorem find8_ok (G : Glob) (pb : Nat) (a : St31) (now : Int) : CallOk Tryz.prog TT 15 [.gptr pb 0, .int .i64 8, .agg [.str a.name, .str a.text, .int .i64 a.num, .int .u64 a.ticks], .int .i64 now] G
    (fun v G' => ∃ x y, G x = none ∧ setG G x (.cells [.gptr pb 0]) y = none ∧ v = .tup [.agg [.fn (.func 57) [] [], .fn (.func 58) [] [.gptr x 0, .gptr y 0]], .bool true] ∧ G' = setG (setG G x (.cells [.gptr pb 0])) y (.cells [.str a.name, .str a.text, .int .i64 a.num, .int .u64 a.ticks])) := by
  refine call_sem tt_ok Tryz.func15 rfl (by kernel_rfl) Tryz.ntmps15 Tryz.results15 ?_; conv => whnf
  repeat' (first | ((first | refine Sem.st tt_ok rfl ?_ | refine BS_t (by assumption) ?_ | refine BS_f (by assumption) ?_ | refine atG (by repeat (first | assumption | exact setG_same _ _ _ | refine atNe (by first | assumption | exact Ne.symm (by assumption)) ?_)) ?_ | refine nthKi (by assumption) ?_ | refine ⟨_, ⟨(by omega), (by assumption)⟩, ?_⟩ | refine And.intro (by first | decide | omega) ?_); conv => whnf) | refine Sem.seqS ?_ | refine Sem.block ?_)
  intro x hx
  conv => whnf
  intro y hy
  conv => whnf
  exact ⟨_, fun _ _ h => h, x, y, hx, hy, rfl, rfl⟩
theorem find7_ok (G : Glob) (pb : Nat) (a : St31) (now : Int) (ht : 0 ≤ a.ticks ∧ a.ticks ≤ 18446744073709551615) : CallOk Tryz.prog TT 15 [.gptr pb 0, .int .i64 7, .agg [.str a.name, .str a.text, .int .i64 a.num, .int .u64 a.ticks], .int .i64 now] G
    (fun v G' => ∃ x y z w, G x = none ∧ setG G x (.cells [.gptr pb 0]) y = none ∧ setG (setG G x (.cells [.gptr pb 0])) y (.cells [.str a.name, .str a.text, .int .i64 a.num, .int .u64 a.ticks]) z = none ∧ setG (setG (setG G x (.cells [.gptr pb 0])) y (.cells [.str a.name, .str a.text, .int .i64 a.num, .int .u64 a.ticks])) z (.cells [.int .i64 (ticksOf a.ticks)]) w = none ∧ v = .tup [.agg [.fn (.func 53) [] [.gptr x 0, .gptr y 0], .fn (.func 55) [] [.gptr x 0, .gptr y 0, .gptr z 0, .gptr w 0]], .bool true] ∧
      G' = setG (setG (setG (setG G x (.cells [.gptr pb 0])) y (.cells [.str a.name, .str a.text, .int .i64 a.num, .int .u64 a.ticks])) z (.cells [.int .i64 (ticksOf a.ticks)])) w (.cells [.int .i64 now])) := by
  have w1 : IntKind.i64.wrap ((fun a b : Int => if b < a then b else a) a.ticks 1048576) = ticksOf a.ticks := by
    show IntKind.i64.wrap (if 1048576 < a.ticks then 1048576 else a.ticks) = ticksOf a.ticks
    unfold ticksOf
    by_cases h1 : 1048576 < a.ticks
    · rw [if_pos h1, if_neg (by omega)]; exact IntWalk.i64_in _ (by omega)
    · rw [if_neg h1, IntWalk.i64_in _ (by omega)]
      split <;> omega
  refine call_sem tt_ok Tryz.func15 rfl (by kernel_rfl) Tryz.ntmps15 Tryz.results15 ?_; conv => whnf
  repeat' (first | ((first | refine Sem.st tt_ok rfl ?_ | refine BS_t (by assumption) ?_ | refine BS_f (by assumption) ?_ | refine atG (by repeat (first | assumption | exact setG_same _ _ _ | refine atNe (by first | assumption | exact Ne.symm (by assumption)) ?_)) ?_ | refine nthKi (by assumption) ?_ | refine ⟨_, ⟨(by omega), (by assumption)⟩, ?_⟩ | refine And.intro (by first | decide | omega) ?_); conv => whnf) | refine Sem.seqS ?_ | refine Sem.block ?_)
  rw [w1]
  intro x hx
  conv => whnf
  intro y hy
  conv => whnf
  intro z hz
  conv => whnf
  intro w hw
  conv => whnf
  exact ⟨_, fun _ _ h => h, x, y, z, w, hx, hy, hz, hw, rfl, rfl⟩
theorem texts0_ok (G : Glob) (pb : Nat) (a : St31) (op : Int) (h : op < 1 ∨ 8 < op) : CallOk Tryz.prog TT 60 [.gptr pb 0, .int .i64 op, .agg [.str a.name, .str a.text, .int .i64 a.num, .int .u64 a.ticks]] G (fun v G' => v = .tup [.agg [.nilf, .nilf], .bool false] ∧ G' = G) := by
  have t1 : (op == 1) = false := by rw [beq_eq_false_iff_ne]; omega
  have t2 : (op == 2) = false := by rw [beq_eq_false_iff_ne]; omega
  have t3 : (op == 3) = false := by rw [beq_eq_false_iff_ne]; omega
  have t5 : (op == 5) = false := by rw [beq_eq_false_iff_ne]; omega
  have t6 : (op == 6) = false := by rw [beq_eq_false_iff_ne]; omega
  refine call_sem tt_ok Tryz.func60 rfl (by kernel_rfl) Tryz.ntmps60 Tryz.results60 ?_; conv => whnf
  repeat' (first | ((first | refine Sem.st tt_ok rfl ?_ | refine BS_t (by assumption) ?_ | refine BS_f (by assumption) ?_ | refine atG (by repeat (first | assumption | exact setG_same _ _ _ | refine atNe (by first | assumption | exact Ne.symm (by assumption)) ?_)) ?_ | refine nthKi (by assumption) ?_ | refine ⟨_, ⟨(by omega), (by assumption)⟩, ?_⟩ | refine And.intro (by first | decide | omega) ?_); conv => whnf) | refine Sem.seqS ?_ | refine Sem.block ?_)
  exact ⟨_, fun _ _ h => h, rfl, rfl⟩
theorem find0_ok (G : Glob) (pb : Nat) (a : St31) (op now : Int) (h : op < 1 ∨ 8 < op) : CallOk Tryz.prog TT 15 [.gptr pb 0, .int .i64 op, .agg [.str a.name, .str a.text, .int .i64 a.num, .int .u64 a.ticks], .int .i64 now] G (fun v G' => v = .tup [.agg [.nilf, .nilf], .bool false] ∧ G' = G) := by
  have t4 : (op == 4) = false := by rw [beq_eq_false_iff_ne]; omega
  have t7 : (op == 7) = false := by rw [beq_eq_false_iff_ne]; omega
  have t8 : (op == 8) = false := by rw [beq_eq_false_iff_ne]; omega
  have hx := texts0_ok G pb a op h
  refine call_sem tt_ok Tryz.func15 rfl (by kernel_rfl) Tryz.ntmps15 Tryz.results15 ?_; conv => whnf
  repeat' (first | ((first | refine Sem.st tt_ok rfl ?_ | refine BS_t (by assumption) ?_ | refine BS_f (by assumption) ?_ | refine atG (by repeat (first | assumption | exact setG_same _ _ _ | refine atNe (by first | assumption | exact Ne.symm (by assumption)) ?_)) ?_ | refine nthKi (by assumption) ?_ | refine ⟨_, ⟨(by omega), (by assumption)⟩, ?_⟩ | refine And.intro (by first | decide | omega) ?_); conv => whnf) | refine Sem.seqS ?_ | refine Sem.block ?_)
  refine hx.on ?_; conv => whnf
  repeat' (first | ((first | refine Sem.st tt_ok rfl ?_ | refine BS_t (by assumption) ?_ | refine BS_f (by assumption) ?_ | refine atG (by repeat (first | assumption | exact setG_same _ _ _ | refine atNe (by first | assumption | exact Ne.symm (by assumption)) ?_)) ?_ | refine nthKi (by assumption) ?_ | refine ⟨_, ⟨(by omega), (by assumption)⟩, ?_⟩ | refine And.intro (by first | decide | omega) ?_); conv => whnf) | refine Sem.seqS ?_ | refine Sem.block ?_)
  exact ⟨_, fun _ _ h => h, rfl, rfl⟩
end Go.Proofs.YtpihanlillbhkaaGreatDoor
