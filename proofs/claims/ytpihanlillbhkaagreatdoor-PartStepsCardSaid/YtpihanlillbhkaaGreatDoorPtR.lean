/- The document's layer 31: Size, and what an operation makes of a partition. -/
import Derived.Test.YtpihanlillbhkaaGreatDoorGt
import Derived.Test.YtpihanlillbhkaaGreatDoorGu
set_option maxRecDepth 100000
set_option linter.unusedSimpArgs false
set_option linter.unusedVariables false
namespace Go.Proofs.YtpihanlillbhkaaGreatDoor
open Go Go.RowKit Go.Proofs

theorem DrawOk.toW {P : Program} {T : TypeId → TR} {ops : Array Oper} {c : Cf} {K : Cf → Prop} (c1 : Cf) (h : DrawOk P T ops c (fun c' => Weak T c1 c')) (hk : K c1) : DrawOk P T ops c K :=
  ⟨fun g a w st id Q hQ => h.draw g a w st id Q fun g' w' a' c' hc h1 h2 => by
    obtain ⟨g2, q1, q2⟩ := hc.weak g' a' w' h1
    exact hQ g2 w' a' c1 hk q1 (h2.trans q2)⟩
def PQ.av (q : PQ) : AV := .agg [.slc 92 (q.kv.map kvR), .slc 113 (q.cn.map CRw.av), .slc 115 (q.qu.map kvR), .slc 99 (q.le.map leR)]
theorem rsize31_ok (q : PQ) (hq : q.size ≤ 100000) (hc : q.cn.length ≤ 1000000) (G : Glob) : CallOk Tryz.prog TT 12 [q.av] G (fun v G' => v = .int .i64 (q.size : Nat) ∧ G' = G) := by
  have hq' := hq
  unfold PQ.size at hq'
  have l1 := sum_len (fun x : ByteArray × ByteArray => 16 + x.1.size + x.2.size) (fun x => by omega) q.kv
  have e1 : sizeR q.kv = (q.kv.map fun x : ByteArray × ByteArray => 16 + x.1.size + x.2.size).sum := rfl
  have l4 := sum_len (fun x : ByteArray × (ByteArray × Int) => 24 + x.1.size + x.2.1.size) (fun x => by omega) q.le
  have e4 : sizeL q.le = (q.le.map fun x : ByteArray × (ByteArray × Int) => 24 + x.1.size + x.2.1.size).sum := rfl
  have l5 := sum_len (fun x : ByteArray × ByteArray => 16 + x.2.size) (fun x => by omega) q.qu
  have e5 : szA q.qu = (q.qu.map fun x : ByteArray × ByteArray => 16 + x.2.size).sum := rfl
  have e6 : szA q.qu ≤ sz28 q.qu := by unfold sz28; omega
  have h1 := size26_ok q.kv G (by omega) (by omega)
  have h2 := size27_ok q.cn G (by omega) (by omega)
  have h3 := size28_ok q.qu G (by omega) (by omega)
  have h4 := size29_ok q.le G (by omega) (by omega)
  unfold PQ.size PQ.av
  generalize sizeR q.kv = n1 at *
  generalize sz27 (q.cn.map (·.name)) = n2 at *
  generalize sz28 q.qu = n3 at *
  generalize sizeL q.le = n4 at *
  have w1 : IntKind.i64.wrap (((n1 : Nat) : Int) + ((n2 : Nat) : Int)) = ((n1 + n2 : Nat) : Int) := by rw [IntWalk.i64_in _ (by omega)]; omega
  have w2 : IntKind.i64.wrap (((n1 + n2 : Nat) : Int) + ((n3 : Nat) : Int)) = ((n1 + n2 + n3 : Nat) : Int) := by rw [IntWalk.i64_in _ (by omega)]; omega
  have w3 : IntKind.i64.wrap (((n1 + n2 + n3 : Nat) : Int) + ((n4 : Nat) : Int)) = ((n1 + n2 + n3 + n4 : Nat) : Int) := by rw [IntWalk.i64_in _ (by omega)]; omega
  refine call_sem tt_ok Tryz.func12 rfl (by kernel_rfl) Tryz.ntmps12 Tryz.results12 ?_; conv => whnf
  repeat' (first | ((first | refine Sem.st tt_ok rfl ?_ | refine BS_t (by assumption) ?_ | refine BS_f (by assumption) ?_ | refine nthKi (by assumption) ?_ | refine ⟨_, ⟨(by omega), (by assumption)⟩, ?_⟩ | refine And.intro (by first | decide | omega) ?_); conv => whnf) | refine Sem.seqS ?_ | refine Sem.block ?_)
  refine draw_sound (eff := []) tt_ok (by kernel_rfl) (by kernel_rfl) ?_; conv => whnf
  repeat' (first | ((first | refine BS_t (by assumption) ?_ | refine BS_f (by assumption) ?_ | refine nthKi (by assumption) ?_ | refine ⟨_, ⟨(by omega), (by assumption)⟩, ?_⟩ | refine And.intro (by first | decide | omega) ?_); conv => whnf) | fail)
  refine ⟨_, _, h1, ?_⟩; (conv => whnf); refine And.intro rfl ?_; conv => whnf
  repeat' (first | ((first | refine BS_t (by assumption) ?_ | refine BS_f (by assumption) ?_ | refine nthKi (by assumption) ?_ | refine ⟨_, ⟨(by omega), (by assumption)⟩, ?_⟩ | refine And.intro (by first | decide | omega) ?_); conv => whnf) | fail)
  refine ⟨_, _, h2, ?_⟩; (conv => whnf); refine And.intro rfl ?_; conv => whnf
  repeat' (first | ((first | refine BS_t (by assumption) ?_ | refine BS_f (by assumption) ?_ | refine nthKi (by assumption) ?_ | refine ⟨_, ⟨(by omega), (by assumption)⟩, ?_⟩ | refine And.intro (by first | decide | omega) ?_); conv => whnf) | fail)
  refine ⟨_, _, h3, ?_⟩; (conv => whnf); refine And.intro rfl ?_; conv => whnf
  repeat' (first | ((first | refine BS_t (by assumption) ?_ | refine BS_f (by assumption) ?_ | refine nthKi (by assumption) ?_ | refine ⟨_, ⟨(by omega), (by assumption)⟩, ?_⟩ | refine And.intro (by first | decide | omega) ?_); conv => whnf) | fail)
  refine ⟨_, _, h4, ?_⟩; (conv => whnf); refine And.intro rfl ?_; conv => whnf
  repeat' (first | ((first | refine BS_t (by assumption) ?_ | refine BS_f (by assumption) ?_ | refine nthKi (by assumption) ?_ | refine ⟨_, ⟨(by omega), (by assumption)⟩, ?_⟩ | refine And.intro (by first | decide | omega) ?_); conv => whnf) | fail)
  repeat' (first | ((first | refine Sem.st tt_ok rfl ?_ | refine BS_t (by assumption) ?_ | refine BS_f (by assumption) ?_ | refine nthKi (by assumption) ?_ | refine ⟨_, ⟨(by omega), (by assumption)⟩, ?_⟩ | refine And.intro (by first | decide | omega) ?_); conv => whnf) | refine Sem.seqS ?_ | refine Sem.block ?_)
  exact ⟨_, fun _ _ h => h, congrArg (AV.int .i64) (by rw [w1, w2, w3]), rfl⟩
end Go.Proofs.YtpihanlillbhkaaGreatDoor
