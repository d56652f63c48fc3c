/- One text out of several: CntA, PtnC, PopB, CntB, Nm27, PopC, FifC, Ref27, PrtL. -/
import Derived.Test.YtpihanlillbhkaaGreatDoorMapA
import Derived.Test.YtpihanlillbhkaaGreatDoorGl
import Derived.Test.YtpihanlillbhkaaGreatDoorGf
import Derived.Test.YtpihanlillbhkaaGreatDoorGz
import Derived.Test.YtpihanlillbhkaaGreatDoorGm
import Derived.Test.YtpihanlillbhkaaGreatDoorLaw

section
/- counter in the abstract run. -/
set_option maxRecDepth 100000
set_option linter.unusedSimpArgs false
namespace Go.Proofs.YtpihanlillbhkaaGreatDoor
open Go Go.RowKit Go.Proofs

def cav (n : Int) : AV := .int .i64 n
def cgrow (l : List (ByteArray × Int)) (name : ByteArray) : Int := match lget l name with | some _ => 0 | none => 24 + name.size
def cval (l : List (ByteArray × Int)) (name : ByteArray) : Int := match lget l name with | some x => x | none => 0
theorem bk_nil {l : List (ByteArray × Int)} (h : bk cav l = []) : l = [] := by simpa [bk] using h
end Go.Proofs.YtpihanlillbhkaaGreatDoor
end

section
/- counter, at its place within a partition. Printed by genpart.py. -/
set_option maxRecDepth 100000
set_option linter.unusedSimpArgs false
namespace Go.Proofs.YtpihanlillbhkaaGreatDoor
open Go Go.RowKit Go.Proofs

theorem Pcgrows_ok (s : Oth) (G : Glob) (b : Nat) (mv : AV) (n : Int) (l : List (ByteArray × Int)) (name : ByteArray) (hn : name.size ≤ 140737488351232) (h : StC s G b mv n (bk cav l)) : CallOk Tryz.prog TT 50 [.gptr b 2, .str name] G (fun v G' => v = .int .i64 (cgrow l name) ∧ G' = G) := by
  obtain ⟨h1, ⟨rfl, hl⟩ | ⟨mb, rfl, h2⟩⟩ := h
  · cases bk_nil hl
    refine call_body tt_ok Tryz.func50 rfl (by kernel_rfl) Tryz.ntmps50 Tryz.results50 ?_; conv => whnf
    repeat' (first | ((first | refine BS_t (by assumption) ?_ | refine BS_f (by assumption) ?_ | refine atG (by repeat (first | assumption | exact setG_same _ _ _ | refine atNe (by first | assumption | exact Ne.symm (by assumption)) ?_)) ?_ | refine nthKi (by assumption) ?_ | refine ⟨_, ⟨(by omega), (by assumption)⟩, ?_⟩ | refine And.intro (by first | decide | omega) ?_ | fail); conv => whnf) | fail)
    refine ⟨_, fun _ _ h => h, ?_, rfl⟩
    rw [IntWalk.i64_in _ (by omega)]
    rfl
  · refine call_body tt_ok Tryz.func50 rfl (by kernel_rfl) Tryz.ntmps50 Tryz.results50 ?_; conv => whnf
    repeat' (first | ((first | refine BS_t (by assumption) ?_ | refine BS_f (by assumption) ?_ | refine atG (by repeat (first | assumption | exact setG_same _ _ _ | refine atNe (by first | assumption | exact Ne.symm (by assumption)) ?_)) ?_ | refine nthKi (by assumption) ?_ | refine ⟨_, ⟨(by omega), (by assumption)⟩, ?_⟩ | refine And.intro (by first | decide | omega) ?_ | fail); conv => whnf) | fail)
    refine ⟨_, h2, _, bk_get cav name l, ?_⟩
    unfold cgrow
    cases lget l name with
    | some v =>
      repeat' (first | ((first | refine BS_t (by assumption) ?_ | refine BS_f (by assumption) ?_ | refine atG (by repeat (first | assumption | exact setG_same _ _ _ | refine atNe (by first | assumption | exact Ne.symm (by assumption)) ?_)) ?_ | refine nthKi (by assumption) ?_ | refine ⟨_, ⟨(by omega), (by assumption)⟩, ?_⟩ | refine And.intro (by first | decide | omega) ?_ | fail); conv => whnf) | fail)
      exact ⟨_, fun _ _ h => h, rfl, rfl⟩
    | none =>
      repeat' (first | ((first | refine BS_t (by assumption) ?_ | refine BS_f (by assumption) ?_ | refine atG (by repeat (first | assumption | exact setG_same _ _ _ | refine atNe (by first | assumption | exact Ne.symm (by assumption)) ?_)) ?_ | refine nthKi (by assumption) ?_ | refine ⟨_, ⟨(by omega), (by assumption)⟩, ?_⟩ | refine And.intro (by first | decide | omega) ?_ | fail); conv => whnf) | fail)
      refine ⟨_, fun _ _ h => h, ?_, rfl⟩
      rw [IntWalk.i64_in _ (by omega)]
theorem Pcvalue_ok (s : Oth) (G : Glob) (b : Nat) (mv : AV) (n : Int) (l : List (ByteArray × Int)) (name : ByteArray) (h : StC s G b mv n (bk cav l)) : CallOk Tryz.prog TT 35 [.gptr b 2, .str name] G (fun v G' => v = .int .i64 (cval l name) ∧ G' = G) := by
  obtain ⟨h1, ⟨rfl, hl⟩ | ⟨mb, rfl, h2⟩⟩ := h
  · cases bk_nil hl
    refine call_body tt_ok Tryz.func35 rfl (by kernel_rfl) Tryz.ntmps35 Tryz.results35 ?_; conv => whnf
    repeat' (first | ((first | refine BS_t (by assumption) ?_ | refine BS_f (by assumption) ?_ | refine atG (by repeat (first | assumption | exact setG_same _ _ _ | refine atNe (by first | assumption | exact Ne.symm (by assumption)) ?_)) ?_ | refine nthKi (by assumption) ?_ | refine ⟨_, ⟨(by omega), (by assumption)⟩, ?_⟩ | refine And.intro (by first | decide | omega) ?_ | fail); conv => whnf) | fail)
    exact ⟨_, fun _ _ h => h, rfl, rfl⟩
  · refine call_body tt_ok Tryz.func35 rfl (by kernel_rfl) Tryz.ntmps35 Tryz.results35 ?_; conv => whnf
    repeat' (first | ((first | refine BS_t (by assumption) ?_ | refine BS_f (by assumption) ?_ | refine atG (by repeat (first | assumption | exact setG_same _ _ _ | refine atNe (by first | assumption | exact Ne.symm (by assumption)) ?_)) ?_ | refine nthKi (by assumption) ?_ | refine ⟨_, ⟨(by omega), (by assumption)⟩, ?_⟩ | refine And.intro (by first | decide | omega) ?_ | fail); conv => whnf) | fail)
    refine ⟨_, h2, _, bk_get cav name l, ?_⟩
    unfold cval
    cases lget l name with
    | some v =>
      repeat' (first | ((first | refine BS_t (by assumption) ?_ | refine BS_f (by assumption) ?_ | refine atG (by repeat (first | assumption | exact setG_same _ _ _ | refine atNe (by first | assumption | exact Ne.symm (by assumption)) ?_)) ?_ | refine nthKi (by assumption) ?_ | refine ⟨_, ⟨(by omega), (by assumption)⟩, ?_⟩ | refine And.intro (by first | decide | omega) ?_ | fail); conv => whnf) | fail)
      exact ⟨_, fun _ _ h => h, rfl, rfl⟩
    | none =>
      repeat' (first | ((first | refine BS_t (by assumption) ?_ | refine BS_f (by assumption) ?_ | refine atG (by repeat (first | assumption | exact setG_same _ _ _ | refine atNe (by first | assumption | exact Ne.symm (by assumption)) ?_)) ?_ | refine nthKi (by assumption) ?_ | refine ⟨_, ⟨(by omega), (by assumption)⟩, ?_⟩ | refine And.intro (by first | decide | omega) ?_ | fail); conv => whnf) | fail)
      exact ⟨_, fun _ _ h => h, rfl, rfl⟩
theorem Pcadd_ok (s : Oth) (G : Glob) (b : Nat) (mv : AV) (n : Int) (l : List (ByteArray × Int)) (name : ByteArray) (k : Int) (hn : name.size ≤ 140737488351232) (n0 : 0 ≤ n) (n1 : n ≤ 4611686018427387904) (h : StC s G b mv n (bk cav l)) :
    CallOk Tryz.prog TT 52 [.gptr b 2, .str name, .int .i64 k] G (fun v G' => v = .int .i64 (IntKind.i64.wrap (cval l name + k)) ∧ ∃ mv', StC s G' b mv' (n + cgrow l name) (bk cav (lput l name (IntKind.i64.wrap (cval l name + k)))) ∧ Kept G G' b mv mv') := by
  have hg := Pcgrows_ok s G b mv n l name hn h
  have hw : IntKind.i64.wrap (n + cgrow l name) = n + cgrow l name := IntWalk.i64_in _ (by unfold cgrow; split <;> omega)
  obtain ⟨h1, ⟨rfl, hl⟩ | ⟨mb, rfl, h2⟩⟩ := h
  · cases bk_nil hl
    refine call_sem tt_ok Tryz.func52 rfl (by kernel_rfl) Tryz.ntmps52 Tryz.results52 ?_; conv => whnf
    repeat' (first | ((first | refine Sem.st tt_ok rfl ?_ | refine BS_t (by assumption) ?_ | refine BS_f (by assumption) ?_ | refine atG (by repeat (first | assumption | exact setG_same _ _ _ | refine atNe (by first | assumption | exact Ne.symm (by assumption)) ?_)) ?_ | refine nthKi (by assumption) ?_ | refine ⟨_, ⟨(by omega), (by assumption)⟩, ?_⟩ | refine And.intro (by first | decide | omega) ?_ | fail); conv => whnf) | refine Sem.seqS ?_ | refine Sem.block ?_ | fail)
    refine draw_sound (eff := []) tt_ok (by kernel_rfl) (by kernel_rfl) ?_; conv => whnf
    repeat' (first | ((first | refine BS_t (by assumption) ?_ | refine BS_f (by assumption) ?_ | refine atG (by repeat (first | assumption | exact setG_same _ _ _ | refine atNe (by first | assumption | exact Ne.symm (by assumption)) ?_)) ?_ | refine nthKi (by assumption) ?_ | refine ⟨_, ⟨(by omega), (by assumption)⟩, ?_⟩ | refine And.intro (by first | decide | omega) ?_ | fail); conv => whnf) | fail)
    refine ⟨_, _, hg, ?_⟩; (conv => whnf); refine And.intro rfl ?_; conv => whnf
    repeat' (first | ((first | refine BS_t (by assumption) ?_ | refine BS_f (by assumption) ?_ | refine atG (by repeat (first | assumption | exact setG_same _ _ _ | refine atNe (by first | assumption | exact Ne.symm (by assumption)) ?_)) ?_ | refine nthKi (by assumption) ?_ | refine ⟨_, ⟨(by omega), (by assumption)⟩, ?_⟩ | refine And.intro (by first | decide | omega) ?_ | fail); conv => whnf) | fail)
    rw [hw]
    repeat' (first | ((first | refine Sem.st tt_ok rfl ?_ | refine BS_t (by assumption) ?_ | refine BS_f (by assumption) ?_ | refine atG (by repeat (first | assumption | exact setG_same _ _ _ | refine atNe (by first | assumption | exact Ne.symm (by assumption)) ?_)) ?_ | refine nthKi (by assumption) ?_ | refine ⟨_, ⟨(by omega), (by assumption)⟩, ?_⟩ | refine And.intro (by first | decide | omega) ?_ | fail); conv => whnf) | refine Sem.seqS ?_ | refine Sem.block ?_ | fail)
    intro mb hmb
    conv => whnf
    repeat' (first | ((first | refine Sem.st tt_ok rfl ?_ | refine BS_t (by assumption) ?_ | refine BS_f (by assumption) ?_ | refine atG (by repeat (first | assumption | exact setG_same _ _ _ | refine atNe (by first | assumption | exact Ne.symm (by assumption)) ?_)) ?_ | refine nthKi (by assumption) ?_ | refine ⟨_, ⟨(by omega), (by assumption)⟩, ?_⟩ | refine And.intro (by first | decide | omega) ?_ | fail); conv => whnf) | refine Sem.seqS ?_ | refine Sem.block ?_ | fail)
    have hne : mb ≠ b := by rintro rfl; simp [setG_same] at hmb
    repeat' (first | ((first | refine Sem.st tt_ok rfl ?_ | refine BS_t (by assumption) ?_ | refine BS_f (by assumption) ?_ | refine atG (by repeat (first | assumption | exact setG_same _ _ _ | refine atNe (by first | assumption | exact Ne.symm (by assumption)) ?_)) ?_ | refine nthKi (by assumption) ?_ | refine ⟨_, ⟨(by omega), (by assumption)⟩, ?_⟩ | refine And.intro (by first | decide | omega) ?_ | fail); conv => whnf) | refine Sem.seqS ?_ | refine Sem.block ?_ | fail)
    refine Exists.intro _ (And.intro (by repeat (first | assumption | exact setG_same _ _ _ | refine atNe (by first | assumption | exact Ne.symm (by assumption)) ?_)) ?_); conv => whnf
    refine ⟨_, rfl, ?_⟩; conv => whnf
    repeat' (first | ((first | refine Sem.st tt_ok rfl ?_ | refine BS_t (by assumption) ?_ | refine BS_f (by assumption) ?_ | refine atG (by repeat (first | assumption | exact setG_same _ _ _ | refine atNe (by first | assumption | exact Ne.symm (by assumption)) ?_)) ?_ | refine nthKi (by assumption) ?_ | refine ⟨_, ⟨(by omega), (by assumption)⟩, ?_⟩ | refine And.intro (by first | decide | omega) ?_ | fail); conv => whnf) | refine Sem.seqS ?_ | refine Sem.block ?_ | fail)
    refine Exists.intro _ (And.intro (by repeat (first | assumption | exact setG_same _ _ _ | refine atNe (by first | assumption | exact Ne.symm (by assumption)) ?_)) ?_); conv => whnf
    repeat' (first | ((first | refine Sem.st tt_ok rfl ?_ | refine BS_t (by assumption) ?_ | refine BS_f (by assumption) ?_ | refine atG (by repeat (first | assumption | exact setG_same _ _ _ | refine atNe (by first | assumption | exact Ne.symm (by assumption)) ?_)) ?_ | refine nthKi (by assumption) ?_ | refine ⟨_, ⟨(by omega), (by assumption)⟩, ?_⟩ | refine And.intro (by first | decide | omega) ?_ | fail); conv => whnf) | refine Sem.seqS ?_ | refine Sem.block ?_ | fail)
    refine Exists.intro _ (And.intro (by repeat (first | assumption | exact setG_same _ _ _ | refine atNe (by first | assumption | exact Ne.symm (by assumption)) ?_)) ?_); conv => whnf
    refine ⟨_, mget_put_same _ _ (keyB_str name) _, ?_⟩
    repeat' (first | ((first | refine Sem.st tt_ok rfl ?_ | refine BS_t (by assumption) ?_ | refine BS_f (by assumption) ?_ | refine atG (by repeat (first | assumption | exact setG_same _ _ _ | refine atNe (by first | assumption | exact Ne.symm (by assumption)) ?_)) ?_ | refine nthKi (by assumption) ?_ | refine ⟨_, ⟨(by omega), (by assumption)⟩, ?_⟩ | refine And.intro (by first | decide | omega) ?_ | fail); conv => whnf) | refine Sem.seqS ?_ | refine Sem.block ?_ | fail)
    refine ⟨_, fun _ _ h => h, rfl, .mp mb, ⟨by repeat (first | assumption | exact setG_same _ _ _ | refine atNe (by first | assumption | exact Ne.symm (by assumption)) ?_), .inr ⟨mb, rfl, setG_same _ _ _⟩⟩, .inr ⟨rfl, mb, by rwa [setG_ne _ _ hne] at hmb, rfl⟩, fun i x hi hb _ => ?_⟩
    have : i ≠ mb := by rintro rfl; rw [setG_ne _ _ hne] at hmb; simp [hmb] at hi
    simpa [setG, hb, this] using hi
  · have hne : mb ≠ b := by rintro rfl; simp [h1] at h2
    refine call_sem tt_ok Tryz.func52 rfl (by kernel_rfl) Tryz.ntmps52 Tryz.results52 ?_; conv => whnf
    repeat' (first | ((first | refine Sem.st tt_ok rfl ?_ | refine BS_t (by assumption) ?_ | refine BS_f (by assumption) ?_ | refine atG (by repeat (first | assumption | exact setG_same _ _ _ | refine atNe (by first | assumption | exact Ne.symm (by assumption)) ?_)) ?_ | refine nthKi (by assumption) ?_ | refine ⟨_, ⟨(by omega), (by assumption)⟩, ?_⟩ | refine And.intro (by first | decide | omega) ?_ | fail); conv => whnf) | refine Sem.seqS ?_ | refine Sem.block ?_ | fail)
    refine draw_sound (eff := []) tt_ok (by kernel_rfl) (by kernel_rfl) ?_; conv => whnf
    repeat' (first | ((first | refine BS_t (by assumption) ?_ | refine BS_f (by assumption) ?_ | refine atG (by repeat (first | assumption | exact setG_same _ _ _ | refine atNe (by first | assumption | exact Ne.symm (by assumption)) ?_)) ?_ | refine nthKi (by assumption) ?_ | refine ⟨_, ⟨(by omega), (by assumption)⟩, ?_⟩ | refine And.intro (by first | decide | omega) ?_ | fail); conv => whnf) | fail)
    refine ⟨_, _, hg, ?_⟩; (conv => whnf); refine And.intro rfl ?_; conv => whnf
    repeat' (first | ((first | refine BS_t (by assumption) ?_ | refine BS_f (by assumption) ?_ | refine atG (by repeat (first | assumption | exact setG_same _ _ _ | refine atNe (by first | assumption | exact Ne.symm (by assumption)) ?_)) ?_ | refine nthKi (by assumption) ?_ | refine ⟨_, ⟨(by omega), (by assumption)⟩, ?_⟩ | refine And.intro (by first | decide | omega) ?_ | fail); conv => whnf) | fail)
    rw [hw]
    repeat' (first | ((first | refine Sem.st tt_ok rfl ?_ | refine BS_t (by assumption) ?_ | refine BS_f (by assumption) ?_ | refine atG (by repeat (first | assumption | exact setG_same _ _ _ | refine atNe (by first | assumption | exact Ne.symm (by assumption)) ?_)) ?_ | refine nthKi (by assumption) ?_ | refine ⟨_, ⟨(by omega), (by assumption)⟩, ?_⟩ | refine And.intro (by first | decide | omega) ?_ | fail); conv => whnf) | refine Sem.seqS ?_ | refine Sem.block ?_ | fail)
    refine ⟨_, (setG_ne _ _ hne).trans h2, _, bk_get cav name l, ?_⟩
    have hv : cval l name = (match lget l name with | some x => x | none => 0) := rfl
    generalize hq : cval l name = q at hv ⊢
    cases hl : lget l name with
    | some x =>
      simp only [hl] at hv
      subst hv
      repeat' (first | ((first | refine Sem.st tt_ok rfl ?_ | refine BS_t (by assumption) ?_ | refine BS_f (by assumption) ?_ | refine atG (by repeat (first | assumption | exact setG_same _ _ _ | refine atNe (by first | assumption | exact Ne.symm (by assumption)) ?_)) ?_ | refine nthKi (by assumption) ?_ | refine ⟨_, ⟨(by omega), (by assumption)⟩, ?_⟩ | refine And.intro (by first | decide | omega) ?_ | fail); conv => whnf) | refine Sem.seqS ?_ | refine Sem.block ?_ | fail)
      refine Exists.intro _ (And.intro (by repeat (first | assumption | exact setG_same _ _ _ | refine atNe (by first | assumption | exact Ne.symm (by assumption)) ?_)) ?_); conv => whnf
      repeat' (first | ((first | refine Sem.st tt_ok rfl ?_ | refine BS_t (by assumption) ?_ | refine BS_f (by assumption) ?_ | refine atG (by repeat (first | assumption | exact setG_same _ _ _ | refine atNe (by first | assumption | exact Ne.symm (by assumption)) ?_)) ?_ | refine nthKi (by assumption) ?_ | refine ⟨_, ⟨(by omega), (by assumption)⟩, ?_⟩ | refine And.intro (by first | decide | omega) ?_ | fail); conv => whnf) | refine Sem.seqS ?_ | refine Sem.block ?_ | fail)
      refine Exists.intro _ (And.intro (by repeat (first | assumption | exact setG_same _ _ _ | refine atNe (by first | assumption | exact Ne.symm (by assumption)) ?_)) ?_); conv => whnf
      refine ⟨_, mget_put_same _ _ (keyB_str name) _, ?_⟩
      repeat' (first | ((first | refine Sem.st tt_ok rfl ?_ | refine BS_t (by assumption) ?_ | refine BS_f (by assumption) ?_ | refine atG (by repeat (first | assumption | exact setG_same _ _ _ | refine atNe (by first | assumption | exact Ne.symm (by assumption)) ?_)) ?_ | refine nthKi (by assumption) ?_ | refine ⟨_, ⟨(by omega), (by assumption)⟩, ?_⟩ | refine And.intro (by first | decide | omega) ?_ | fail); conv => whnf) | refine Sem.seqS ?_ | refine Sem.block ?_ | fail)
      refine ⟨_, fun _ _ h => h, rfl, .mp mb, ⟨by repeat (first | assumption | exact setG_same _ _ _ | refine atNe (by first | assumption | exact Ne.symm (by assumption)) ?_), .inr ⟨mb, rfl, (setG_same _ _ _).trans (congrArg (fun z => some (GB.map none z)) (bk_put cav name _ l))⟩⟩, .inl rfl, fun i x hi hb hm => ?_⟩
      have : i ≠ mb := by rintro rfl; exact hm rfl
      simpa [setG, hb, this] using hi
    | none =>
      simp only [hl] at hv
      subst hv
      repeat' (first | ((first | refine Sem.st tt_ok rfl ?_ | refine BS_t (by assumption) ?_ | refine BS_f (by assumption) ?_ | refine atG (by repeat (first | assumption | exact setG_same _ _ _ | refine atNe (by first | assumption | exact Ne.symm (by assumption)) ?_)) ?_ | refine nthKi (by assumption) ?_ | refine ⟨_, ⟨(by omega), (by assumption)⟩, ?_⟩ | refine And.intro (by first | decide | omega) ?_ | fail); conv => whnf) | refine Sem.seqS ?_ | refine Sem.block ?_ | fail)
      refine Exists.intro _ (And.intro (by repeat (first | assumption | exact setG_same _ _ _ | refine atNe (by first | assumption | exact Ne.symm (by assumption)) ?_)) ?_); conv => whnf
      repeat' (first | ((first | refine Sem.st tt_ok rfl ?_ | refine BS_t (by assumption) ?_ | refine BS_f (by assumption) ?_ | refine atG (by repeat (first | assumption | exact setG_same _ _ _ | refine atNe (by first | assumption | exact Ne.symm (by assumption)) ?_)) ?_ | refine nthKi (by assumption) ?_ | refine ⟨_, ⟨(by omega), (by assumption)⟩, ?_⟩ | refine And.intro (by first | decide | omega) ?_ | fail); conv => whnf) | refine Sem.seqS ?_ | refine Sem.block ?_ | fail)
      refine Exists.intro _ (And.intro (by repeat (first | assumption | exact setG_same _ _ _ | refine atNe (by first | assumption | exact Ne.symm (by assumption)) ?_)) ?_); conv => whnf
      refine ⟨_, mget_put_same _ _ (keyB_str name) _, ?_⟩
      repeat' (first | ((first | refine Sem.st tt_ok rfl ?_ | refine BS_t (by assumption) ?_ | refine BS_f (by assumption) ?_ | refine atG (by repeat (first | assumption | exact setG_same _ _ _ | refine atNe (by first | assumption | exact Ne.symm (by assumption)) ?_)) ?_ | refine nthKi (by assumption) ?_ | refine ⟨_, ⟨(by omega), (by assumption)⟩, ?_⟩ | refine And.intro (by first | decide | omega) ?_ | fail); conv => whnf) | refine Sem.seqS ?_ | refine Sem.block ?_ | fail)
      refine ⟨_, fun _ _ h => h, rfl, .mp mb, ⟨by repeat (first | assumption | exact setG_same _ _ _ | refine atNe (by first | assumption | exact Ne.symm (by assumption)) ?_), .inr ⟨mb, rfl, (setG_same _ _ _).trans (congrArg (fun z => some (GB.map none z)) (bk_put cav name _ l))⟩⟩, .inl rfl, fun i x hi hb hm => ?_⟩
      have : i ≠ mb := by rintro rfl; exact hm rfl
      simpa [setG, hb, this] using hi
end Go.Proofs.YtpihanlillbhkaaGreatDoor
end

section
/- The document's layer 28, Pop, in the model. -/
set_option maxRecDepth 100000
set_option linter.unusedSimpArgs false
namespace Go.Proofs.YtpihanlillbhkaaGreatDoor
open Go Go.RowKit Go.Proofs

end Go.Proofs.YtpihanlillbhkaaGreatDoor
end

section
/- The counters' rows: what is much, and all that is added. -/
set_option maxRecDepth 100000
set_option linter.unusedSimpArgs false
namespace Go.Proofs.YtpihanlillbhkaaGreatDoor
open Go Go.RowKit Go.Proofs

structure CRw where
  name : ByteArray
  n : Int
def CRw.av (x : CRw) : List AV := [.str x.name, .int .i64 x.n]
theorem keys_lput' {α : Type} {z k : ByteArray} {x : α} : ∀ (l : List (ByteArray × α)), z = k ∨ z ∈ l.map (·.1) → z ∈ (lput l k x).map (·.1)
  | [], h => by simpa [lput] using h
  | (y, u) :: r, h => by
    by_cases hz : k = y
    · subst hz
      simp only [lput, decide_true, List.map_cons, List.mem_cons] at h ⊢
      rcases h with h | h | h
      · exact .inl h
      · exact .inl h
      · exact .inr h
    · simp only [lput, hz, decide_false, List.map_cons, List.mem_cons] at h ⊢
      rcases h with h | h | h
      · exact .inr (keys_lput' r (.inl h))
      · exact .inl h
      · exact .inr (keys_lput' r (.inr h))
def sumN : List CRw → ByteArray → Int
  | [], _ => 0
  | x :: r, z => (if x.name = z then x.n else 0) + sumN r z
theorem sumN_app (z : ByteArray) : ∀ (l r : List CRw), sumN (l ++ r) z = sumN l z + sumN r z
  | [], r => by simp [sumN]
  | x :: l, r => by simp only [List.cons_append, sumN, sumN_app z l r]; omega
theorem sumN_perm (z : ByteArray) {l r : List CRw} (h : l.Perm r) : sumN l z = sumN r z := by
  induction h with
  | nil => rfl
  | cons x _ ih => simp only [sumN, ih]
  | swap x y l => simp only [sumN]; omega
  | trans _ _ ih1 ih2 => exact ih1.trans ih2
def addA (m : List (ByteArray × Int)) (x : CRw) : List (ByteArray × Int) := lput m x.name (IntKind.i64.wrap (cval m x.name + x.n))
def totC (m : List (ByteArray × Int)) : Nat := (m.map fun e => 24 + e.1.size).sum
/-- what stands in a book to which rows were added -/
structure CInv (m : List (ByteArray × Int)) (l : List CRw) : Prop where
  nd : (m.map (·.1)).Nodup
  keys : ∀ z, z ∈ m.map (·.1) ↔ z ∈ l.map (·.name)
  val : ∀ z, cval m z = IntKind.i64.wrap (sumN l z)
theorem CInv.nil : CInv [] [] := ⟨List.nodup_nil, fun z => by simp, fun z => rfl⟩
theorem CInv.add {m : List (ByteArray × Int)} {l : List CRw} (h : CInv m l) (x : CRw) : CInv (addA m x) (l ++ [x]) := by
  refine ⟨nodup_lput _ _ _ h.nd, fun z => ?_, fun z => ?_⟩
  · rw [List.map_append, List.mem_append, ← h.keys z]
    constructor
    · intro hz
      rcases keys_lput _ hz with rfl | hz
      · exact .inr (by simp)
      · exact .inl hz
    · rintro (hz | hz)
      · exact keys_lput' _ (.inr hz)
      · simp at hz; exact keys_lput' _ (.inl hz)
  · rw [sumN_app]
    by_cases hz : z = x.name
    · subst hz
      have : cval (addA m x) x.name = IntKind.i64.wrap (cval m x.name + x.n) := by unfold cval addA; rw [lget_put_same]; rfl
      rw [this, h.val]
      simp only [sumN, if_true]
      rw [IntKind.wrap_i64, IntKind.wrap_i64, IntKind.wrap_i64]
      omega
    · have : cval (addA m x) z = cval m z := by unfold cval addA; rw [lget_put_ne hz]
      rw [this, h.val]
      have hz' : ¬ x.name = z := fun e => hz e.symm
      simp only [sumN, if_neg hz', Int.add_zero]
theorem CInv.perm {m : List (ByteArray × Int)} {l r : List CRw} (h : CInv m l) (hp : l.Perm r) : CInv m r :=
  ⟨h.nd, fun z => (h.keys z).trans (hp.map _).mem_iff, fun z => by rw [h.val, sumN_perm z hp]⟩
theorem CInv.same {m m' : List (ByteArray × Int)} {l : List CRw} (h : CInv m l) (h' : CInv m' l) : (∀ z, cval m z = cval m' z) ∧ (m.map (·.1)).Perm (m'.map (·.1)) :=
  ⟨fun z => by rw [h.val, h'.val], (List.perm_ext_iff_of_nodup h.nd h'.nd).2 fun z => (h.keys z).trans (h'.keys z).symm⟩
theorem totC_put (k : ByteArray) (v : Int) : ∀ (m : List (ByteArray × Int)), ((totC (lput m k v) : Nat) : Int) = totC m + cgrow m k
  | [] => by simp [totC, lput, cgrow, lget]
  | (z, y) :: r => by
    by_cases hz : k = z
    · subst hz
      simp [totC, lput, cgrow, lget]
    · have := totC_put k v r
      simp only [totC, lput, hz, decide_false, List.map_cons, List.sum_cons, cgrow, lget] at this ⊢
      omega
end Go.Proofs.YtpihanlillbhkaaGreatDoor
end

section
/- The document's layer 27, the names of rows, each once, rising, in the abstract run. -/
set_option maxRecDepth 100000
set_option linter.unusedSimpArgs false
namespace Go.Proofs.YtpihanlillbhkaaGreatDoor
open Go Go.RowKit Go.Proofs

structure NmI (L out : List ByteArray) where
  i : Nat
  hi : i ≤ L.length
  nx : Option Nat
  h : Best L out i nx
def sz27 (l : List ByteArray) : Nat := ((namesN l).map fun s => 24 + s.size).sum
end Go.Proofs.YtpihanlillbhkaaGreatDoor
end

section
/- The document's layer 28 in the abstract run: Pop, Waits, Names, Size. -/
set_option maxRecDepth 100000
set_option linter.unusedSimpArgs false
namespace Go.Proofs.YtpihanlillbhkaaGreatDoor
open Go Go.RowKit Go.Proofs

/-- the first row of a name taken out -/
def popAt : KvL → ByteArray → Option (KvL × ByteArray)
  | [], _ => none
  | x :: r, z => if x.1 = z then some (r, x.2) else (popAt r z).map fun y => (x :: y.1, y.2)
def waitN (l : KvL) (z : ByteArray) : Nat := (l.filter fun x => decide (x.1 = z)).length
theorem waitN_le (l : KvL) (z : ByteArray) : waitN l z ≤ l.length := List.length_filter_le _ _
def szA (l : KvL) : Nat := (l.map fun x => 16 + x.2.size).sum
def szN (l : KvL) : Nat := ((namesN (l.map (·.1))).map fun s => 16 + s.size).sum
def sz28 (l : KvL) : Nat := szA l + szN l
end Go.Proofs.YtpihanlillbhkaaGreatDoor
end

section
/- A hall and the document's rows: the plain law. -/
set_option maxRecDepth 100000
set_option linter.unusedSimpArgs false
namespace Go.Proofs.YtpihanlillbhkaaGreatDoor
open Go Go.RowKit Go.Proofs

theorem lget_in {α : Type} {k : ByteArray} {v : α} : ∀ {m : List (ByteArray × α)}, (m.map (·.1)).Nodup → (k, v) ∈ m → lget m k = some v
  | [], _, h => by cases h
  | (z, y) :: r, hn, h => by
    simp only [List.map_cons, List.nodup_cons] at hn
    rcases List.mem_cons.1 h with h | h
    · cases h; simp [lget]
    · have hz : ¬ k = z := fun e => hn.1 (List.mem_map.2 ⟨_, h, e⟩)
      simp only [lget, hz, decide_false]
      exact lget_in hn.2 h
theorem sum_add {α : Type} (f g : α → Nat) : ∀ l : List α, (l.map fun x => f x + g x).sum = (l.map f).sum + (l.map g).sum
  | [] => rfl
  | x :: r => by simp only [List.map_cons, List.sum_cons, sum_add f g r]; omega
theorem sum_zero {α : Type} (f : α → Nat) : ∀ l : List α, (∀ x ∈ l, f x = 0) → (l.map f).sum = 0
  | [], _ => rfl
  | x :: r, h => by simp only [List.map_cons, List.sum_cons, sum_zero f r fun y hy => h y (by simp [hy]), h x (by simp)]
theorem sum_one {k : ByteArray} (n : Nat) : ∀ {ks : List ByteArray}, ks.Nodup → k ∈ ks → (ks.map fun z => if k = z then n else 0).sum = n
  | [], _, h => by cases h
  | z :: r, hn, h => by
    simp only [List.nodup_cons] at hn
    by_cases e : k = z
    · subst e
      simp only [List.map_cons, List.sum_cons, if_true]
      rw [sum_zero _ r fun y hy => by
        have : ¬ k = y := fun e => hn.1 (e ▸ hy)
        simp [this]]
      rfl
    · simp only [List.map_cons, List.sum_cons, e, if_false, Nat.zero_add]
      rcases List.mem_cons.1 h with h | h
      · exact absurd h e
      · exact sum_one n hn.2 h
/-- rows put together by their names -/
theorem sum_group (f : ByteArray × ByteArray → Nat) {ks : List ByteArray} (hn : ks.Nodup) : ∀ r : KvL, (∀ x ∈ r, x.1 ∈ ks) → (ks.map fun z => ((r.filter fun x => decide (x.1 = z)).map f).sum).sum = (r.map f).sum
  | [], _ => sum_zero _ _ fun _ _ => rfl
  | x :: r, h => by
    have ih := sum_group f hn r fun y hy => h y (by simp [hy])
    have h1 := sum_one (f x) hn (h x (by simp))
    rw [List.map_cons, List.sum_cons, ← ih, ← h1, ← sum_add]
    congr 1
    refine List.map_congr_left fun z _ => ?_
    by_cases e : x.1 = z <;> simp [e]
structure FInv (fl : FiL) (r : KvL) : Prop where
  nd : (fl.map (·.1)).Nodup
  ne : ∀ e ∈ fl, e.2.2 ≠ []
  tx : ∀ z, fT fl z = (r.filter fun x => decide (x.1 = z)).map (·.2)
theorem FInv.nil : FInv [] [] := ⟨List.nodup_nil, fun _ h => (by cases h), fun _ => rfl⟩
theorem fT_in {fl : FiL} (hn : (fl.map (·.1)).Nodup) {e : ByteArray × Qu} (he : e ∈ fl) : fT fl e.1 = e.2.2.map (·.2) := by
  unfold fT
  rw [lget_in hn he]
theorem FInv.keys {fl : FiL} {r : KvL} (h : FInv fl r) (z : ByteArray) : z ∈ fl.map (·.1) ↔ z ∈ r.map (·.1) := by
  constructor
  · intro hz
    obtain ⟨e, he, rfl⟩ := List.mem_map.1 hz
    have h1 := h.tx e.1
    rw [fT_in h.nd he] at h1
    have h2 := h.ne e he
    cases hf : r.filter fun x => decide (x.1 = e.1) with
    | nil =>
      rw [hf] at h1
      simp at h1
      exact absurd h1 h2
    | cons y ys =>
      have hy : y ∈ r.filter fun x => decide (x.1 = e.1) := by rw [hf]; simp
      rw [List.mem_filter] at hy
      exact List.mem_map.2 ⟨y, hy.1, by simpa using hy.2⟩
  · intro hz
    obtain ⟨x, hx, rfl⟩ := List.mem_map.1 hz
    have h1 := h.tx x.1
    have hm : x ∈ r.filter fun y => decide (y.1 = x.1) := List.mem_filter.2 ⟨hx, by simp⟩
    unfold fT at h1
    cases hl : lget fl x.1 with
    | none =>
      rw [hl] at h1
      have : (r.filter fun y => decide (y.1 = x.1)) = [] := by simpa using h1.symm
      rw [this] at hm
      cases hm
    | some q => exact List.mem_map.2 ⟨_, lget_mem hl, rfl⟩
theorem FInv.tot {fl : FiL} {r : KvL} (h : FInv fl r) : totF fl = sz28 r := by
  have hp : (fl.map (·.1)).Perm (namesN (r.map (·.1))) := namesN_perm h.nd h.keys
  have e1 : totF fl = ((fl.map (·.1)).map fun z => (16 + z.size) + ((r.filter fun x => decide (x.1 = z)).map fun x => 16 + x.2.size).sum).sum := by
    unfold totF
    rw [List.map_map]
    congr 1
    refine List.map_congr_left fun e he => ?_
    have h1 := h.tx e.1
    rw [fT_in h.nd he] at h1
    have h2 := congrArg (fun l => (l.map fun s : ByteArray => 16 + s.size).sum) h1
    simp only [List.map_map] at h2
    show 16 + e.1.size + (e.2.2.map fun x => 16 + x.2.size).sum = 16 + e.1.size + ((r.filter fun x => decide (x.1 = e.1)).map fun x => 16 + x.2.size).sum
    have h3 : (e.2.2.map fun x => 16 + x.2.size).sum = ((r.filter fun x => decide (x.1 = e.1)).map fun x => 16 + x.2.size).sum := h2
    omega
  rw [e1, sum_add, sum_group _ h.nd r fun x hx => (h.keys _).2 (List.mem_map.2 ⟨x, hx, rfl⟩), (hp.map _).sum_nat]
  unfold sz28 szA szN
  omega
theorem FInv.push {fl fl' : FiL} {r : KvL} (h : FInv fl r) {k v : ByteArray} (hn : (fl'.map (·.1)).Nodup) (hne : ∀ e ∈ fl', e.2.2 ≠ []) (h1 : fT fl' k = fT fl k ++ [v]) (h2 : ∀ z, z ≠ k → fT fl' z = fT fl z) : FInv fl' (r ++ [(k, v)]) := by
  refine ⟨hn, hne, fun z => ?_⟩
  rw [List.filter_append, List.map_append, ← h.tx z]
  by_cases hz : z = k
  · subst hz
    rw [h1]
    simp
  · rw [h2 z hz]
    have : ¬ k = z := fun e => hz e.symm
    simp [this]
theorem fgrow_sz {fl : FiL} {r : KvL} (h : FInv fl r) (k v : ByteArray) : ((sz28 r : Nat) : Int) + fgrow fl k v = sz28 (r ++ [(k, v)]) := by
  let x : Qu := match lget fl k with | some x => (x.1, x.2 ++ [(0, v)]) | none => (0, [(0, v)])
  have hI : FInv (lput fl k x) (r ++ [(k, v)]) := by
    refine h.push (nodup_lput _ _ _ h.nd) (fun e he => ?_) ?_ fun z hz => fT_put_ne _ _ hz
    · rcases mem_lput fl h.nd he with rfl | ⟨he, -⟩
      · show x.2 ≠ []
        simp only [x]
        cases lget fl k <;> simp
      · exact h.ne e he
    · rw [fT_put]
      simp only [x]
      unfold fT
      cases lget fl k <;> simp
  have hp := totF_put fl k x
  rw [← h.tot, ← hI.tot]
  unfold fgrow
  cases hq : lget fl k with
  | some y =>
    have hp' : totF (lput fl k (y.1, y.2 ++ [(0, v)])) + qT (k, y) = totF fl + qT (k, (y.1, y.2 ++ [(0, v)])) := by simpa only [x, hq] using hp
    have q : qT (k, (y.1, y.2 ++ [(0, v)])) = qT (k, y) + (16 + v.size) := by simp [qT]; omega
    simp only [x, hq]
    omega
  | none =>
    have hp' : totF (lput fl k (0, [(0, v)])) + 0 = totF fl + qT (k, (0, [(0, v)])) := by simpa only [x, hq] using hp
    have q : qT (k, ((0, [(0, v)]) : Qu)) = (16 + v.size) + (16 + k.size) := by simp [qT]; omega
    simp only [x, hq]
    omega
theorem popAt_spec : ∀ {r r' : KvL} {k t : ByteArray}, popAt r k = some (r', t) → (r.filter fun x => decide (x.1 = k)).map (·.2) = t :: (r'.filter fun x => decide (x.1 = k)).map (·.2) ∧ (∀ z, z ≠ k → (r'.filter fun x => decide (x.1 = z)) = r.filter fun x => decide (x.1 = z)) ∧ r'.length ≤ r.length ∧ (∀ x ∈ r', x ∈ r) ∧ (k, t) ∈ r
  | [], _, _, _, h => by cases h
  | x :: r, r', k, t, h => by
    by_cases hx : x.1 = k
    · simp only [popAt, hx, if_true, Option.some.injEq, Prod.mk.injEq] at h
      obtain ⟨rfl, rfl⟩ := h
      refine ⟨by simp [hx], fun z hz => ?_, by simp, fun y hy => by simp [hy], by simp [← hx]⟩
      have : ¬ x.1 = z := fun e => hz (e.symm.trans hx)
      simp [this]
    · simp only [popAt, hx, if_false, Option.map_eq_some_iff] at h
      obtain ⟨⟨r1, t1⟩, h1, h2⟩ := h
      simp only [Prod.mk.injEq] at h2
      obtain ⟨rfl, rfl⟩ := h2
      obtain ⟨g1, g2, g3, g4, g5⟩ := popAt_spec h1
      refine ⟨by simp [hx, g1], fun z hz => ?_, by simp [g3], fun y hy => ?_, by simp [g5]⟩
      · by_cases e : x.1 = z <;> simp [e, g2 z hz]
      · rcases List.mem_cons.1 hy with rfl | hy
        · simp
        · simp [g4 y hy]
theorem popAt_nil : ∀ {r : KvL} {k : ByteArray}, popAt r k = none → (r.filter fun x => decide (x.1 = k)) = []
  | [], _, _ => rfl
  | x :: r, k, h => by
    by_cases hx : x.1 = k
    · simp [popAt, hx] at h
    · simp only [popAt, hx, if_false, Option.map_eq_none_iff] at h
      simp [hx, popAt_nil h]
theorem FInv.pop {fl fl' : FiL} {r r' : KvL} (h : FInv fl r) {k t : ByteArray} (hp : popAt r k = some (r', t)) (hn : (fl'.map (·.1)).Nodup) (hne : ∀ e ∈ fl', e.2.2 ≠ []) (h1 : fT fl' k = (r'.filter fun x => decide (x.1 = k)).map (·.2)) (h2 : ∀ z, z ≠ k → fT fl' z = fT fl z) : FInv fl' r' := by
  refine ⟨hn, hne, fun z => ?_⟩
  by_cases hz : z = k
  · subst hz
    exact h1
  · rw [h2 z hz, h.tx z, (popAt_spec hp).2.1 z hz]
theorem FInv.hall {G : Glob} {b : Nat} {mv : AV} {n : Int} {fl : FiL} (h : HallG G b mv n fl) : (fl.map (·.1)).Nodup ∧ ∀ e ∈ fl, e.2.2 ≠ [] := ⟨h.2.1, fun e he => (h.2.2.1 e he).1⟩
theorem FInv.waits {fl : FiL} {r : KvL} (h : FInv fl r) (k : ByteArray) : (match lget fl k with | some x => (x.2.length : Int) | none => 0) = ((waitN r k : Nat) : Int) := by
  have h1 := congrArg List.length (h.tx k)
  unfold fT at h1
  unfold waitN
  cases hq : lget fl k with
  | some x => rw [hq] at h1; simp at h1 ⊢; omega
  | none => rw [hq] at h1; simp at h1 ⊢; omega
theorem FInv.names {fl : FiL} {r : KvL} (h : FInv fl r) : keysE fl = (namesN (r.map (·.1))).map fun s => [AV.str s] := keysE_names h.nd h.keys
end Go.Proofs.YtpihanlillbhkaaGreatDoor
end

section
/- The document's layer 27 in the abstract run. -/
set_option maxRecDepth 100000
set_option linter.unusedSimpArgs false
namespace Go.Proofs.YtpihanlillbhkaaGreatDoor
open Go Go.RowKit Go.Proofs

end Go.Proofs.YtpihanlillbhkaaGreatDoor
end

section
/- A step of a partition, as an argument. -/
set_option maxRecDepth 100000
namespace Go.Proofs.YtpihanlillbhkaaGreatDoor
open Go Go.RowKit Go.ChangeShapes Go.WideShapes Go.ChangeAt Go.Deep Go.Proofs

structure St31 where
  op : Int
  name : ByteArray
  text : ByteArray
  num : Int
  ticks : Int
  now : Int
  limit : Int
def St31.vals (s : St31) : List Value := [.int .i64 s.op, .string s.name, .string s.text, .int .i64 s.num, .int .u64 s.ticks, .int .i64 s.now, .int .i64 s.limit]
def St31.args (s : St31) : List AV := [.str s.name, .str s.text, .int .i64 s.num, .int .u64 s.ticks]
def St31.av (s : St31) : List AV := [.int .i64 s.op, .str s.name, .str s.text, .int .i64 s.num, .int .u64 s.ticks, .int .i64 s.now, .int .i64 s.limit]
section
variable {H : Type} {enc : TypeId × Value → H} {w : World} {base : Nat} {spare : Nat → Bool} {held : Bool}
end
end Go.Proofs.YtpihanlillbhkaaGreatDoor
end
