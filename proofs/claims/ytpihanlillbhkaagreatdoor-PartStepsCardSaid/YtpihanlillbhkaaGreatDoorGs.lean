/- One text out of several: CntA, PtnC, PopB, CntB, Nm27, PopC, FifC, Ref27, PrtL. -/
import Derived.Test.YtpihanlillbhkaaGreatDoorMapA
import Derived.Test.YtpihanlillbhkaaGreatDoorGl
import Derived.Test.YtpihanlillbhkaaGreatDoorGf
import Derived.Test.YtpihanlillbhkaaGreatDoorGz
import Derived.Test.YtpihanlillbhkaaGreatDoorGm
import Derived.Test.YtpihanlillbhkaaGreatDoorLaw

section
/- counter in the abstract run. -/
set_option maxRecDepth 100000
set_option linter.unusedSimpArgs false
namespace Go.Proofs.YtpihanlillbhkaaGreatDoor
open Go Go.RowKit Go.Proofs

def cav (n : Int) : AV := .int .i64 n
def cgrow (l : List (ByteArray × Int)) (name : ByteArray) : Int := match lget l name with | some _ => 0 | none => 24 + name.size
def cval (l : List (ByteArray × Int)) (name : ByteArray) : Int := match lget l name with | some x => x | none => 0
theorem bk_nil {l : List (ByteArray × Int)} (h : bk cav l = []) : l = [] := by simpa [bk] using h
end Go.Proofs.YtpihanlillbhkaaGreatDoor
end

section
/- counter, at its place within a partition. Printed by genpart.py. -/
set_option maxRecDepth 100000
set_option linter.unusedSimpArgs false
namespace Go.Proofs.YtpihanlillbhkaaGreatDoor
open Go Go.RowKit Go.Proofs

theorem Pcgrows_ok (s : Oth) (G : Glob) (b : Nat) (mv : AV) (n : Int) (l : List (ByteArray × Int)) (name : ByteArray) (hn : name.size ≤ 140737488351232) (h : StC s G b mv n (bk cav l)) : CallOk Tryz.prog TT 50 [.gptr b 2, .str name] G (fun v G' => v = .int .i64 (cgrow l name) ∧ G' = G) := by
  obtain ⟨h1, ⟨rfl, hl⟩ | ⟨mb, rfl, h2⟩⟩ := h
  · cases bk_nil hl
    refine call_body tt_ok Tryz.func50 rfl (by kernel_rfl) Tryz.ntmps50 Tryz.results50 ?_; conv => whnf
    repeat' (first | ((first | refine BS_t (by assumption) ?_ | refine BS_f (by assumption) ?_ | refine atG (by repeat (first | assumption | exact setG_same _ _ _ | refine atNe (by first | assumption | exact Ne.symm (by assumption)) ?_)) ?_ | refine nthKi (by assumption) ?_ | refine ⟨_, ⟨(by omega), (by assumption)⟩, ?_⟩ | refine And.intro (by first | decide | omega) ?_); conv => whnf) | fail)
    refine ⟨_, fun _ _ h => h, ?_, rfl⟩
    rw [IntWalk.i64_in _ (by omega)]
    rfl
  · refine call_body tt_ok Tryz.func50 rfl (by kernel_rfl) Tryz.ntmps50 Tryz.results50 ?_; conv => whnf
    repeat' (first | ((first | refine BS_t (by assumption) ?_ | refine BS_f (by assumption) ?_ | refine atG (by repeat (first | assumption | exact setG_same _ _ _ | refine atNe (by first | assumption | exact Ne.symm (by assumption)) ?_)) ?_ | refine nthKi (by assumption) ?_ | refine ⟨_, ⟨(by omega), (by assumption)⟩, ?_⟩ | refine And.intro (by first | decide | omega) ?_); conv => whnf) | fail)
    refine ⟨_, h2, _, bk_get cav name l, ?_⟩
    unfold cgrow
    cases lget l name with
    | some v =>
      repeat' (first | ((first | refine BS_t (by assumption) ?_ | refine BS_f (by assumption) ?_ | refine atG (by repeat (first | assumption | exact setG_same _ _ _ | refine atNe (by first | assumption | exact Ne.symm (by assumption)) ?_)) ?_ | refine nthKi (by assumption) ?_ | refine ⟨_, ⟨(by omega), (by assumption)⟩, ?_⟩ | refine And.intro (by first | decide | omega) ?_); conv => whnf) | fail)
      exact ⟨_, fun _ _ h => h, rfl, rfl⟩
    | none =>
      repeat' (first | ((first | refine BS_t (by assumption) ?_ | refine BS_f (by assumption) ?_ | refine atG (by repeat (first | assumption | exact setG_same _ _ _ | refine atNe (by first | assumption | exact Ne.symm (by assumption)) ?_)) ?_ | refine nthKi (by assumption) ?_ | refine ⟨_, ⟨(by omega), (by assumption)⟩, ?_⟩ | refine And.intro (by first | decide | omega) ?_); conv => whnf) | fail)
      refine ⟨_, fun _ _ h => h, ?_, rfl⟩
      rw [IntWalk.i64_in _ (by omega)]
theorem Pcvalue_ok (s : Oth) (G : Glob) (b : Nat) (mv : AV) (n : Int) (l : List (ByteArray × Int)) (name : ByteArray) (h : StC s G b mv n (bk cav l)) : CallOk Tryz.prog TT 35 [.gptr b 2, .str name] G (fun v G' => v = .int .i64 (cval l name) ∧ G' = G) := by
  obtain ⟨h1, ⟨rfl, hl⟩ | ⟨mb, rfl, h2⟩⟩ := h
  · cases bk_nil hl
    refine call_body tt_ok Tryz.func35 rfl (by kernel_rfl) Tryz.ntmps35 Tryz.results35 ?_; conv => whnf
    repeat' (first | ((first | refine BS_t (by assumption) ?_ | refine BS_f (by assumption) ?_ | refine atG (by repeat (first | assumption | exact setG_same _ _ _ | refine atNe (by first | assumption | exact Ne.symm (by assumption)) ?_)) ?_ | refine nthKi (by assumption) ?_ | refine ⟨_, ⟨(by omega), (by assumption)⟩, ?_⟩ | refine And.intro (by first | decide | omega) ?_); conv => whnf) | fail)
    exact ⟨_, fun _ _ h => h, rfl, rfl⟩
  · refine call_body tt_ok Tryz.func35 rfl (by kernel_rfl) Tryz.ntmps35 Tryz.results35 ?_; conv => whnf
    repeat' (first | ((first | refine BS_t (by assumption) ?_ | refine BS_f (by assumption) ?_ | refine atG (by repeat (first | assumption | exact setG_same _ _ _ | refine atNe (by first | assumption | exact Ne.symm (by assumption)) ?_)) ?_ | refine nthKi (by assumption) ?_ | refine ⟨_, ⟨(by omega), (by assumption)⟩, ?_⟩ | refine And.intro (by first | decide | omega) ?_); conv => whnf) | fail)
    refine ⟨_, h2, _, bk_get cav name l, ?_⟩
    unfold cval
    cases lget l name with
    | some v =>
      repeat' (first | ((first | refine BS_t (by assumption) ?_ | refine BS_f (by assumption) ?_ | refine atG (by repeat (first | assumption | exact setG_same _ _ _ | refine atNe (by first | assumption | exact Ne.symm (by assumption)) ?_)) ?_ | refine nthKi (by assumption) ?_ | refine ⟨_, ⟨(by omega), (by assumption)⟩, ?_⟩ | refine And.intro (by first | decide | omega) ?_); conv => whnf) | fail)
      exact ⟨_, fun _ _ h => h, rfl, rfl⟩
    | none =>
      repeat' (first | ((first | refine BS_t (by assumption) ?_ | refine BS_f (by assumption) ?_ | refine atG (by repeat (first | assumption | exact setG_same _ _ _ | refine atNe (by first | assumption | exact Ne.symm (by assumption)) ?_)) ?_ | refine nthKi (by assumption) ?_ | refine ⟨_, ⟨(by omega), (by assumption)⟩, ?_⟩ | refine And.intro (by first | decide | omega) ?_); conv => whnf) | fail)
      exact ⟨_, fun _ _ h => h, rfl, rfl⟩
theorem Pcadd_ok (s : Oth) (G : Glob) (b : Nat) (mv : AV) (n : Int) (l : List (ByteArray × Int)) (name : ByteArray) (k : Int) (hn : name.size ≤ 140737488351232) (n0 : 0 ≤ n) (n1 : n ≤ 4611686018427387904) (h : StC s G b mv n (bk cav l)) :
    CallOk Tryz.prog TT 52 [.gptr b 2, .str name, .int .i64 k] G (fun v G' => v = .int .i64 (IntKind.i64.wrap (cval l name + k)) ∧ ∃ mv', StC s G' b mv' (n + cgrow l name) (bk cav (lput l name (IntKind.i64.wrap (cval l name + k)))) ∧ Kept G G' b mv mv') := by
  have hg := Pcgrows_ok s G b mv n l name hn h
  have hw : IntKind.i64.wrap (n + cgrow l name) = n + cgrow l name := IntWalk.i64_in _ (by unfold cgrow; split <;> omega)
  obtain ⟨h1, ⟨rfl, hl⟩ | ⟨mb, rfl, h2⟩⟩ := h
  · cases bk_nil hl
    refine call_sem tt_ok Tryz.func52 rfl (by kernel_rfl) Tryz.ntmps52 Tryz.results52 ?_; conv => whnf
    repeat' (first | ((first | refine Sem.st tt_ok rfl ?_ | refine BS_t (by assumption) ?_ | refine BS_f (by assumption) ?_ | refine atG (by repeat (first | assumption | exact setG_same _ _ _ | refine atNe (by first | assumption | exact Ne.symm (by assumption)) ?_)) ?_ | refine nthKi (by assumption) ?_ | refine ⟨_, ⟨(by omega), (by assumption)⟩, ?_⟩ | refine And.intro (by first | decide | omega) ?_); conv => whnf) | refine Sem.seqS ?_ | refine Sem.block ?_)
    refine draw_sound (eff := []) tt_ok (by kernel_rfl) (by kernel_rfl) ?_; conv => whnf
    repeat' (first | ((first | refine BS_t (by assumption) ?_ | refine BS_f (by assumption) ?_ | refine atG (by repeat (first | assumption | exact setG_same _ _ _ | refine atNe (by first | assumption | exact Ne.symm (by assumption)) ?_)) ?_ | refine nthKi (by assumption) ?_ | refine ⟨_, ⟨(by omega), (by assumption)⟩, ?_⟩ | refine And.intro (by first | decide | omega) ?_); conv => whnf) | fail)
    refine ⟨_, _, hg, ?_⟩; (conv => whnf); refine And.intro rfl ?_; conv => whnf
    repeat' (first | ((first | refine BS_t (by assumption) ?_ | refine BS_f (by assumption) ?_ | refine atG (by repeat (first | assumption | exact setG_same _ _ _ | refine atNe (by first | assumption | exact Ne.symm (by assumption)) ?_)) ?_ | refine nthKi (by assumption) ?_ | refine ⟨_, ⟨(by omega), (by assumption)⟩, ?_⟩ | refine And.intro (by first | decide | omega) ?_); conv => whnf) | fail)
    rw [hw]
    repeat' (first | ((first | refine Sem.st tt_ok rfl ?_ | refine BS_t (by assumption) ?_ | refine BS_f (by assumption) ?_ | refine atG (by repeat (first | assumption | exact setG_same _ _ _ | refine atNe (by first | assumption | exact Ne.symm (by assumption)) ?_)) ?_ | refine nthKi (by assumption) ?_ | refine ⟨_, ⟨(by omega), (by assumption)⟩, ?_⟩ | refine And.intro (by first | decide | omega) ?_); conv => whnf) | refine Sem.seqS ?_ | refine Sem.block ?_)
    intro mb hmb
    conv => whnf
    repeat' (first | ((first | refine Sem.st tt_ok rfl ?_ | refine BS_t (by assumption) ?_ | refine BS_f (by assumption) ?_ | refine atG (by repeat (first | assumption | exact setG_same _ _ _ | refine atNe (by first | assumption | exact Ne.symm (by assumption)) ?_)) ?_ | refine nthKi (by assumption) ?_ | refine ⟨_, ⟨(by omega), (by assumption)⟩, ?_⟩ | refine And.intro (by first | decide | omega) ?_); conv => whnf) | refine Sem.seqS ?_ | refine Sem.block ?_)
    have hne : mb ≠ b := by rintro rfl; simp [setG_same] at hmb
    repeat' (first | ((first | refine Sem.st tt_ok rfl ?_ | refine BS_t (by assumption) ?_ | refine BS_f (by assumption) ?_ | refine atG (by repeat (first | assumption | exact setG_same _ _ _ | refine atNe (by first | assumption | exact Ne.symm (by assumption)) ?_)) ?_ | refine nthKi (by assumption) ?_ | refine ⟨_, ⟨(by omega), (by assumption)⟩, ?_⟩ | refine And.intro (by first | decide | omega) ?_); conv => whnf) | refine Sem.seqS ?_ | refine Sem.block ?_)
    refine Exists.intro _ (And.intro (by repeat (first | assumption | exact setG_same _ _ _ | refine atNe (by first | assumption | exact Ne.symm (by assumption)) ?_)) ?_); conv => whnf
    refine ⟨_, rfl, ?_⟩; conv => whnf
    repeat' (first | ((first | refine Sem.st tt_ok rfl ?_ | refine BS_t (by assumption) ?_ | refine BS_f (by assumption) ?_ | refine atG (by repeat (first | assumption | exact setG_same _ _ _ | refine atNe (by first | assumption | exact Ne.symm (by assumption)) ?_)) ?_ | refine nthKi (by assumption) ?_ | refine ⟨_, ⟨(by omega), (by assumption)⟩, ?_⟩ | refine And.intro (by first | decide | omega) ?_); conv => whnf) | refine Sem.seqS ?_ | refine Sem.block ?_)
    refine Exists.intro _ (And.intro (by repeat (first | assumption | exact setG_same _ _ _ | refine atNe (by first | assumption | exact Ne.symm (by assumption)) ?_)) ?_); conv => whnf
    repeat' (first | ((first | refine Sem.st tt_ok rfl ?_ | refine BS_t (by assumption) ?_ | refine BS_f (by assumption) ?_ | refine atG (by repeat (first | assumption | exact setG_same _ _ _ | refine atNe (by first | assumption | exact Ne.symm (by assumption)) ?_)) ?_ | refine nthKi (by assumption) ?_ | refine ⟨_, ⟨(by omega), (by assumption)⟩, ?_⟩ | refine And.intro (by first | decide | omega) ?_); conv => whnf) | refine Sem.seqS ?_ | refine Sem.block ?_)
    refine Exists.intro _ (And.intro (by repeat (first | assumption | exact setG_same _ _ _ | refine atNe (by first | assumption | exact Ne.symm (by assumption)) ?_)) ?_); conv => whnf
    refine ⟨_, mget_put_same _ _ (keyB_str name) _, ?_⟩
    repeat' (first | ((first | refine Sem.st tt_ok rfl ?_ | refine BS_t (by assumption) ?_ | refine BS_f (by assumption) ?_ | refine atG (by repeat (first | assumption | exact setG_same _ _ _ | refine atNe (by first | assumption | exact Ne.symm (by assumption)) ?_)) ?_ | refine nthKi (by assumption) ?_ | refine ⟨_, ⟨(by omega), (by assumption)⟩, ?_⟩ | refine And.intro (by first | decide | omega) ?_); conv => whnf) | refine Sem.seqS ?_ | refine Sem.block ?_)
    refine ⟨_, fun _ _ h => h, rfl, .mp mb, ⟨by repeat (first | assumption | exact setG_same _ _ _ | refine atNe (by first | assumption | exact Ne.symm (by assumption)) ?_), .inr ⟨mb, rfl, setG_same _ _ _⟩⟩, .inr ⟨rfl, mb, by rwa [setG_ne _ _ hne] at hmb, rfl⟩, fun i x hi hb _ => ?_⟩
    have : i ≠ mb := by rintro rfl; rw [setG_ne _ _ hne] at hmb; simp [hmb] at hi
    simpa [setG, hb, this] using hi
  · have hne : mb ≠ b := by rintro rfl; simp [h1] at h2
    refine call_sem tt_ok Tryz.func52 rfl (by kernel_rfl) Tryz.ntmps52 Tryz.results52 ?_; conv => whnf
    repeat' (first | ((first | refine Sem.st tt_ok rfl ?_ | refine BS_t (by assumption) ?_ | refine BS_f (by assumption) ?_ | refine atG (by repeat (first | assumption | exact setG_same _ _ _ | refine atNe (by first | assumption | exact Ne.symm (by assumption)) ?_)) ?_ | refine nthKi (by assumption) ?_ | refine ⟨_, ⟨(by omega), (by assumption)⟩, ?_⟩ | refine And.intro (by first | decide | omega) ?_); conv => whnf) | refine Sem.seqS ?_ | refine Sem.block ?_)
    refine draw_sound (eff := []) tt_ok (by kernel_rfl) (by kernel_rfl) ?_; conv => whnf
    repeat' (first | ((first | refine BS_t (by assumption) ?_ | refine BS_f (by assumption) ?_ | refine atG (by repeat (first | assumption | exact setG_same _ _ _ | refine atNe (by first | assumption | exact Ne.symm (by assumption)) ?_)) ?_ | refine nthKi (by assumption) ?_ | refine ⟨_, ⟨(by omega), (by assumption)⟩, ?_⟩ | refine And.intro (by first | decide | omega) ?_); conv => whnf) | fail)
    refine ⟨_, _, hg, ?_⟩; (conv => whnf); refine And.intro rfl ?_; conv => whnf
    repeat' (first | ((first | refine BS_t (by assumption) ?_ | refine BS_f (by assumption) ?_ | refine atG (by repeat (first | assumption | exact setG_same _ _ _ | refine atNe (by first | assumption | exact Ne.symm (by assumption)) ?_)) ?_ | refine nthKi (by assumption) ?_ | refine ⟨_, ⟨(by omega), (by assumption)⟩, ?_⟩ | refine And.intro (by first | decide | omega) ?_); conv => whnf) | fail)
    rw [hw]
    repeat' (first | ((first | refine Sem.st tt_ok rfl ?_ | refine BS_t (by assumption) ?_ | refine BS_f (by assumption) ?_ | refine atG (by repeat (first | assumption | exact setG_same _ _ _ | refine atNe (by first | assumption | exact Ne.symm (by assumption)) ?_)) ?_ | refine nthKi (by assumption) ?_ | refine ⟨_, ⟨(by omega), (by assumption)⟩, ?_⟩ | refine And.intro (by first | decide | omega) ?_); conv => whnf) | refine Sem.seqS ?_ | refine Sem.block ?_)
    refine ⟨_, (setG_ne _ _ hne).trans h2, _, bk_get cav name l, ?_⟩
    have hv : cval l name = (match lget l name with | some x => x | none => 0) := rfl
    generalize hq : cval l name = q at hv ⊢
    cases hl : lget l name with
    | some x =>
      simp only [hl] at hv
      subst hv
      repeat' (first | ((first | refine Sem.st tt_ok rfl ?_ | refine BS_t (by assumption) ?_ | refine BS_f (by assumption) ?_ | refine atG (by repeat (first | assumption | exact setG_same _ _ _ | refine atNe (by first | assumption | exact Ne.symm (by assumption)) ?_)) ?_ | refine nthKi (by assumption) ?_ | refine ⟨_, ⟨(by omega), (by assumption)⟩, ?_⟩ | refine And.intro (by first | decide | omega) ?_); conv => whnf) | refine Sem.seqS ?_ | refine Sem.block ?_)
      refine Exists.intro _ (And.intro (by repeat (first | assumption | exact setG_same _ _ _ | refine atNe (by first | assumption | exact Ne.symm (by assumption)) ?_)) ?_); conv => whnf
      repeat' (first | ((first | refine Sem.st tt_ok rfl ?_ | refine BS_t (by assumption) ?_ | refine BS_f (by assumption) ?_ | refine atG (by repeat (first | assumption | exact setG_same _ _ _ | refine atNe (by first | assumption | exact Ne.symm (by assumption)) ?_)) ?_ | refine nthKi (by assumption) ?_ | refine ⟨_, ⟨(by omega), (by assumption)⟩, ?_⟩ | refine And.intro (by first | decide | omega) ?_); conv => whnf) | refine Sem.seqS ?_ | refine Sem.block ?_)
      refine Exists.intro _ (And.intro (by repeat (first | assumption | exact setG_same _ _ _ | refine atNe (by first | assumption | exact Ne.symm (by assumption)) ?_)) ?_); conv => whnf
      refine ⟨_, mget_put_same _ _ (keyB_str name) _, ?_⟩
      repeat' (first | ((first | refine Sem.st tt_ok rfl ?_ | refine BS_t (by assumption) ?_ | refine BS_f (by assumption) ?_ | refine atG (by repeat (first | assumption | exact setG_same _ _ _ | refine atNe (by first | assumption | exact Ne.symm (by assumption)) ?_)) ?_ | refine nthKi (by assumption) ?_ | refine ⟨_, ⟨(by omega), (by assumption)⟩, ?_⟩ | refine And.intro (by first | decide | omega) ?_); conv => whnf) | refine Sem.seqS ?_ | refine Sem.block ?_)
      refine ⟨_, fun _ _ h => h, rfl, .mp mb, ⟨by repeat (first | assumption | exact setG_same _ _ _ | refine atNe (by first | assumption | exact Ne.symm (by assumption)) ?_), .inr ⟨mb, rfl, (setG_same _ _ _).trans (congrArg (fun z => some (GB.map none z)) (bk_put cav name _ l))⟩⟩, .inl rfl, fun i x hi hb hm => ?_⟩
      have : i ≠ mb := by rintro rfl; exact hm rfl
      simpa [setG, hb, this] using hi
    | none =>
      simp only [hl] at hv
      subst hv
      repeat' (first | ((first | refine Sem.st tt_ok rfl ?_ | refine BS_t (by assumption) ?_ | refine BS_f (by assumption) ?_ | refine atG (by repeat (first | assumption | exact setG_same _ _ _ | refine atNe (by first | assumption | exact Ne.symm (by assumption)) ?_)) ?_ | refine nthKi (by assumption) ?_ | refine ⟨_, ⟨(by omega), (by assumption)⟩, ?_⟩ | refine And.intro (by first | decide | omega) ?_); conv => whnf) | refine Sem.seqS ?_ | refine Sem.block ?_)
      refine Exists.intro _ (And.intro (by repeat (first | assumption | exact setG_same _ _ _ | refine atNe (by first | assumption | exact Ne.symm (by assumption)) ?_)) ?_); conv => whnf
      repeat' (first | ((first | refine Sem.st tt_ok rfl ?_ | refine BS_t (by assumption) ?_ | refine BS_f (by assumption) ?_ | refine atG (by repeat (first | assumption | exact setG_same _ _ _ | refine atNe (by first | assumption | exact Ne.symm (by assumption)) ?_)) ?_ | refine nthKi (by assumption) ?_ | refine ⟨_, ⟨(by omega), (by assumption)⟩, ?_⟩ | refine And.intro (by first | decide | omega) ?_); conv => whnf) | refine Sem.seqS ?_ | refine Sem.block ?_)
      refine Exists.intro _ (And.intro (by repeat (first | assumption | exact setG_same _ _ _ | refine atNe (by first | assumption | exact Ne.symm (by assumption)) ?_)) ?_); conv => whnf
      refine ⟨_, mget_put_same _ _ (keyB_str name) _, ?_⟩
      repeat' (first | ((first | refine Sem.st tt_ok rfl ?_ | refine BS_t (by assumption) ?_ | refine BS_f (by assumption) ?_ | refine atG (by repeat (first | assumption | exact setG_same _ _ _ | refine atNe (by first | assumption | exact Ne.symm (by assumption)) ?_)) ?_ | refine nthKi (by assumption) ?_ | refine ⟨_, ⟨(by omega), (by assumption)⟩, ?_⟩ | refine And.intro (by first | decide | omega) ?_); conv => whnf) | refine Sem.seqS ?_ | refine Sem.block ?_)
      refine ⟨_, fun _ _ h => h, rfl, .mp mb, ⟨by repeat (first | assumption | exact setG_same _ _ _ | refine atNe (by first | assumption | exact Ne.symm (by assumption)) ?_), .inr ⟨mb, rfl, (setG_same _ _ _).trans (congrArg (fun z => some (GB.map none z)) (bk_put cav name _ l))⟩⟩, .inl rfl, fun i x hi hb hm => ?_⟩
      have : i ≠ mb := by rintro rfl; exact hm rfl
      simpa [setG, hb, this] using hi
end Go.Proofs.YtpihanlillbhkaaGreatDoor
end

section
/- The document's layer 28, Pop, in the model. -/
set_option maxRecDepth 100000
set_option linter.unusedSimpArgs false
namespace Go.Proofs.YtpihanlillbhkaaGreatDoor
open Go Go.RowKit Go.Proofs

theorem rowP28 : Row1 Tryz.prog 29 115 (.agg #[.string ⟨#[]⟩, .string ⟨#[]⟩]) 2 32 := ⟨by kernel_rfl, by kernel_rfl, rfl, by decide⟩
def kvV (x : ByteArray × ByteArray) : List Value := [.string x.1, .string x.2]
set_option maxHeartbeats 4000000 in
theorem pop28_any (v : Value) (l : KvL) (z : ByteArray) (w : World) (hr : Row w v l 2 kvV) (hl : l.length ≤ 1048576) :
    Calls Tryz.prog 65 #[v, .string z] w (fun e w' => (∃ i x u, l[i]? = some x ∧ x.1 = z ∧ (∀ y ∈ l.take i, y.1 ≠ z) ∧ e = .returned (.tuple #[u, .string x.2, .bool true]) ∧ w'.ownsRow w.heap.size 115 2 u ((l.take i).length + (l.drop (i + 1)).length) ((l.take i).flatMap kvV ++ (l.drop (i + 1)).flatMap kvV) ∧ Up w w') ∨
      ((∀ y ∈ l, y.1 ≠ z) ∧ e = .returned (.tuple #[v, .string ⟨#[]⟩, .bool false]) ∧ Up w w')) := by
  obtain ⟨p, cap, rfl, hlc, hm, hrow⟩ := id hr
  unfold maxLen at hm
  have HR := Lib.hid hr
  clear hr
  go_enter Tryz.func65, Tryz.ntmps65
  go_wp2_with fail
  go_loopw [7] (fun i wr => ∃ k : Nat, k ≤ l.length ∧ i = .int .i64 k ∧ Hid (∀ y ∈ l.take k, y.1 ≠ z) ∧ Up w wr) (fun i _ => l.length - (intOf i).toNat)
  case atStart => exact ⟨0, Nat.zero_le _, rfl, Lib.hid (fun y h => (by cases h)), Up.refl _⟩
  case round =>
    obtain ⟨k, hk, rfl, hs, hup⟩ := hrel
    by_cases hlt : k < l.length
    · obtain ⟨b, o, rfl, hb, hc⟩ := hrow (by omega)
      have hx : l[k]? = some l[k] := List.getElem?_eq_getElem hlt
      have ht : l.take (k + 1) = l.take k ++ [l[k]] := by rw [List.take_add_one, hx]; rfl
      generalize l[k] = x at *
      obtain ⟨xa, xb⟩ := x
      have c1 : wr.cell? ⟨b, o + k * 2, none⟩ = some (.string xa) := by
        rw [hup.cell hb]; have := hc k _ hx 0 _ rfl; simpa using this
      have c2 : wr.cell? ⟨b, o + (k * 2 + 1), none⟩ = some (.string xb) := by
        rw [hup.cell hb]; have := hc k _ hx 1 _ rfl; simpa using this
      have hw1 : b < wr.heap.size := Nat.lt_of_lt_of_le hb hup.size
      clear hc hrow
      by_cases heq : xa = z
      · have d1 : (xa.toList == z.toList) = true := by simp [heq]
        have HX := Lib.hid hx
        have HE := Lib.hid heq
        clear hx heq ht
        go_wp2_with fail
        have hmade := Lib.hid (World.ownsRow_made (base := wr.heap.size) (e := 115) (size := 2) wr.drew #[] 0 (Nat.le_refl _) (by decide) (by decide))
        have hA := Lib.hid ((row_take HR.out k hk).up hup)
        obtain ⟨q, hB, hq8⟩ : ∃ q, Row wr (.slice q (l.length - (k + 1)) (cap - (k + 1))) (l.drop (k + 1)) 2 kvV ∧ ((cap = k + 1 ∧ q = some ⟨b, o, none⟩) ∨ (¬ cap = k + 1 ∧ q = some ⟨b, o + (k + 1) * 2, none⟩)) := by
          by_cases hcap : cap = k + 1
          · refine ⟨_, ⟨_, _, by rw [List.length_drop], by rw [List.length_drop]; omega, by unfold maxLen; omega, fun h => ?_⟩, .inl ⟨hcap, rfl⟩⟩
            rw [List.length_drop] at h
            omega
          · exact ⟨_, (row_drop HR.out (k + 1) hlt).up hup, .inr ⟨hcap, rfl⟩⟩
        have i1 : IntKind.i64.wrap ((k : Int) + 1) = (k : Int) + 1 := by rw [IntWalk.i64_in _ (by omega)]
        have t1 : (l.take k).length = k := by rw [List.length_take]; omega
        have t2 : (l.drop (k + 1)).length = l.length - (k + 1) := by rw [List.length_drop]
        have i2 : (0 : Int) ≤ (k : Int) := by omega
        have i3 : (k : Int) ≤ (cap : Int) := by omega
        have i4 : (k : Int) ≤ (l.length : Int) := by omega
        have i5 : (0 : Int) ≤ (k : Int) + 1 := by omega
        have i6 : (k : Int) + 1 ≤ (l.length : Int) := by omega
        have i7 : (k : Int) + 1 ≤ (cap : Int) := by omega
        have i8 : (l.length : Int) ≤ (cap : Int) := by omega
        have hKS : ∀ w', Up wr w' → Up wr w' ∧ w'.cell? ⟨b, o + k * 2 + 1, none⟩ = some (.string xb) := fun w' hu => ⟨hu, by rw [hu.cell hw1]; exact c2⟩
        clear c1
        refine wp_region_held_drew (S := fun w' => Up wr w' ∧ w'.cell? ⟨b, o + k * 2 + 1, none⟩ = some (.string xb)) (by kernel_rfl) (hKS _ ((Up.refl _).drew)) fun hS0 => ?_
        refine wpAnyH_take (i := 1) (v := .slice (some ⟨b, o, none⟩) l.length cap) rfl (by kernel_rfl) (by kernel_rfl) (by kernel_rfl) (fun _ _ _ h => h) (.inl ⟨rfl, fun w' hw' => ?_⟩) (by assumption) ?_
        · go_simp
        simp only [Act.put, List.setIfInBounds_toArray, List.set_cons_zero, List.set_cons_succ]
        refine wpAnyH_take (i := 2) (v := .int .i64 k) rfl (by kernel_rfl) (by kernel_rfl) (by kernel_rfl) (fun _ _ _ h => h) (.inl ⟨rfl, fun w' hw' => ?_⟩) (by assumption) ?_
        · go_simp
        simp only [Act.put, List.setIfInBounds_toArray, List.set_cons_zero, List.set_cons_succ]
        refine wpAnyH_take (i := 3) (v := .slice (some ⟨b, o, none⟩) k cap) rfl (by kernel_rfl) (by kernel_rfl) (by kernel_rfl) (fun _ _ _ h => h) (.inl ⟨rfl, fun w' hw' => ?_⟩) (by assumption) ?_
        · go_simp
        simp only [Act.put, List.setIfInBounds_toArray, List.set_cons_zero, List.set_cons_succ]
        refine wpAnyH_take (i := 5) (v := .slice (some ⟨b, o, none⟩) l.length cap) rfl (by kernel_rfl) (by kernel_rfl) (by kernel_rfl) (fun _ _ _ h => h) (.inl ⟨rfl, fun w' hw' => ?_⟩) (by assumption) ?_
        · go_simp
        simp only [Act.put, List.setIfInBounds_toArray, List.set_cons_zero, List.set_cons_succ]
        refine wpAnyH_take (i := 6) (v := .int .i64 k) rfl (by kernel_rfl) (by kernel_rfl) (by kernel_rfl) (fun _ _ _ h => h) (.inl ⟨rfl, fun w' hw' => ?_⟩) (by assumption) ?_
        · go_simp
        simp only [Act.put, List.setIfInBounds_toArray, List.set_cons_zero, List.set_cons_succ]
        refine wpAnyH_take (i := 7) (v := .int .i64 ((k : Int) + 1)) rfl (by kernel_rfl) (by kernel_rfl) (by kernel_rfl) (fun _ _ _ h => h) (.inl ⟨rfl, fun w' hw' => ?_⟩) (by assumption) ?_
        · go_simp
        simp only [Act.put, List.setIfInBounds_toArray, List.set_cons_zero, List.set_cons_succ]
        refine wpAnyH_take (i := 8) (v := .slice q (l.length - (k + 1)) (cap - (k + 1))) rfl (by kernel_rfl) (by kernel_rfl) (by kernel_rfl) (fun _ _ _ h => h) (.inl ⟨rfl, fun w' hw' => ?_⟩) (by assumption) ?_
        · (rcases hq8 with ⟨hc8, rfl⟩ | ⟨hc8, rfl⟩ <;> go_simp)
        simp only [Act.put, List.setIfInBounds_toArray, List.set_cons_zero, List.set_cons_succ]
        refine wpAnyH_take (i := 10) (v := .slice (some ⟨b, o, none⟩) l.length cap) rfl (by kernel_rfl) (by kernel_rfl) (by kernel_rfl) (fun _ _ _ h => h) (.inl ⟨rfl, fun w' hw' => ?_⟩) (by assumption) ?_
        · go_simp
        simp only [Act.put, List.setIfInBounds_toArray, List.set_cons_zero, List.set_cons_succ]
        refine wpAnyH_take (i := 11) (v := .int .i64 k) rfl (by kernel_rfl) (by kernel_rfl) (by kernel_rfl) (fun _ _ _ h => h) (.inl ⟨rfl, fun w' hw' => ?_⟩) (by assumption) ?_
        · go_simp
        simp only [Act.put, List.setIfInBounds_toArray, List.set_cons_zero, List.set_cons_succ]
        refine wpAnyH_take (i := 12) (v := .pointer (some ⟨b, o + k * 2, none⟩)) rfl (by kernel_rfl) (by kernel_rfl) (by kernel_rfl) (fun _ _ _ h => h) (.inl ⟨rfl, fun w' hw' => ?_⟩) (by assumption) ?_
        · go_simp
        simp only [Act.put, List.setIfInBounds_toArray, List.set_cons_zero, List.set_cons_succ]
        refine wpAnyH_take (i := 13) (v := .pointer (some ⟨b, o + k * 2 + 1, none⟩)) rfl (by kernel_rfl) (by kernel_rfl) (by kernel_rfl) (fun _ _ _ h => h) (.inl ⟨rfl, fun w' hw' => ?_⟩) (by assumption) ?_
        · go_simp
        simp only [Act.put, List.setIfInBounds_toArray, List.set_cons_zero, List.set_cons_succ]
        refine wpAnyH_take (i := 14) (v := .string xb) rfl (by kernel_rfl) (by kernel_rfl) (by kernel_rfl) (fun _ _ _ h => h) (.inl ⟨rfl, fun w' hw' => ?_⟩) (by assumption) ?_
        · have hc := hw'.2; go_simp
        simp only [Act.put, List.setIfInBounds_toArray, List.set_cons_zero, List.set_cons_succ]
        refine wpAnyH_ready (rs := [0]) (by kernel_rfl) (by simp) (.cons rfl (fun K' hK => ?_) .nil)
        refine step_go rfl ?_
        go_simp
        refine hK.out _ _ (hKS _ (by repeat (first | with_reducible exact Up.refl _ | with_reducible exact hS0.1 | with_reducible exact And.left (by assumption) | assumption | with_reducible refine Up.drew ?_ | with_reducible refine Up.alloc ?_ _))) fun hS1 => ?_
        refine wpAnyH_ready (rs := [4]) (by kernel_rfl) (by simp) (.cons rfl (fun K' hK => ?_) .nil)
        refine step_apps rfl (.tmp 21) (.tmp 24) 29 115 rfl rowP28 (base := wr.heap.size) (by simp) (v := .slice (some ⟨wr.heap.size, 0, none⟩) 0 0) (n := 0) (xs := []) (by rfl) hmade.out (l := l.take k) (cells := kvV) (vx := .slice (some ⟨b, o, none⟩) k cap) (by rfl) (hA.out.up hS1.1) (fun x hx => rfl) (fun x hx u hu => by simp [kvV] at hu; rcases hu with rfl | rfl <;> rfl) (by unfold maxLen; omega) (by omega) fun v1 wA hoA => ?_
        have hU1 : Up wr wA := hoA.up wr (Nat.le_refl _) hS1.1
        refine hK.out _ _ (hKS _ hU1) fun hS2 => ?_
        simp only [Act.put, List.setIfInBounds_toArray, List.set_cons_zero, List.set_cons_succ]
        refine wpAnyH_ready (rs := [9]) (by kernel_rfl) (by simp) (.cons rfl (fun K' hK => ?_) .nil)
        refine step_apps rfl (.tmp 25) (.tmp 29) 29 115 rfl rowP28 (base := wr.heap.size) hU1.size (v := v1) (n := _) (xs := _) (by rfl) hoA.own (l := l.drop (k + 1)) (cells := kvV) (vx := .slice q (l.length - (k + 1)) (cap - (k + 1))) (by rfl) (hB.up hU1) (fun x hx => rfl) (fun x hx u hu => by simp [kvV] at hu; rcases hu with rfl | rfl <;> rfl) (by unfold maxLen; omega) (by omega) fun v2 wB hoB => ?_
        have hU2 : Up wr wB := hoB.up wr (Nat.le_refl _) hU1
        refine hK.out _ _ (hKS _ hU2) fun hS3 => ?_
        simp only [Act.put, List.setIfInBounds_toArray, List.set_cons_zero, List.set_cons_succ]
        refine wpAnyH_take (i := 15) (oi := { dst := some 4, op := _, type := _, pos := _, after := _, guard := _ }) (v := v2) rfl (by kernel_rfl) (by kernel_rfl) (by kernel_rfl) (fun _ _ _ h => h) (.inl ⟨rfl, fun w' hw' => ?_⟩) (by assumption) ?_
        · go_simp
        simp only [Act.put, List.setIfInBounds_toArray, List.set_cons_zero, List.set_cons_succ]
        refine wpAnyH_take (i := 16) (oi := { dst := some 5, op := _, type := _, pos := _, after := _, guard := _ }) (v := .string xb) rfl (by kernel_rfl) (by kernel_rfl) (by kernel_rfl) (fun _ _ _ h => h) (.inl ⟨rfl, fun w' hw' => ?_⟩) (by assumption) ?_
        · go_simp
        simp only [Act.put, List.setIfInBounds_toArray, List.set_cons_zero, List.set_cons_succ]
        refine wpAnyH_take (i := 17) (oi := { dst := some 6, op := _, type := _, pos := _, after := _, guard := _ }) (v := .bool true) rfl (by kernel_rfl) (by kernel_rfl) (by kernel_rfl) (fun _ _ _ h => h) (.inl ⟨rfl, fun w' hw' => ?_⟩) (by assumption) ?_
        · go_simp
        simp only [Act.put, List.setIfInBounds_toArray, List.set_cons_zero, List.set_cons_succ]
        refine wpAnyH_done (by kernel_rfl) ?_ _
        go_wp2_with fail
        refine bodyPost_ret (v := .tuple #[v2, .string xb, .bool true]) (by simp [results, Tryz.results65, go_sem]) rfl ?_
        refine .inl ⟨k, xa, xb, HX.out, HE.out, fun a b h => hs.out (a, b) h, v2, rfl, ?_, hup.trans hU2⟩
        have h1 := hoB.own
        rw [Nat.zero_add, List.nil_append] at h1
        have h2 := own_lower hup.size h1
        rw [List.length_take, List.length_drop] at h2
        exact h2
      · have d1 : (xa.toList == z.toList) = false := by rw [bl_eq]; simpa using heq
        have HS := Lib.hid (show ∀ y ∈ l.take (k + 1), y.1 ≠ z from fun y hy => by
          rw [ht] at hy
          rcases List.mem_append.1 hy with h | h
          · exact hs.out y h
          · simp at h; subst h; exact heq)
        clear hx heq ht hs
        go_wp2_with fail
        go_roundw
        case rel => exact ⟨k + 1, by omega, by go_num, HS, hup⟩
        case measure => simp [intOf]; omega
    · have HA := Lib.hid (show ∀ y ∈ l, y.1 ≠ z from fun y hy => hs.out y (by rw [List.take_of_length_le (by omega)]; exact hy))
      clear hs hrow
      go_wp2_with fail
      refine bodyPost_ret (v := .tuple #[.slice p l.length cap, .string ⟨#[]⟩, .bool false]) (by simp [results, Tryz.results65, go_sem]) rfl ?_
      exact .inr ⟨HA.out, rfl, hup⟩
end Go.Proofs.YtpihanlillbhkaaGreatDoor
end

section
/- The counters' rows: what is much, and all that is added. -/
set_option maxRecDepth 100000
set_option linter.unusedSimpArgs false
namespace Go.Proofs.YtpihanlillbhkaaGreatDoor
open Go Go.RowKit Go.Proofs

structure CRw where
  name : ByteArray
  n : Int
def CRw.av (x : CRw) : List AV := [.str x.name, .int .i64 x.n]
theorem keys_lput' {α : Type} {z k : ByteArray} {x : α} : ∀ (l : List (ByteArray × α)), z = k ∨ z ∈ l.map (·.1) → z ∈ (lput l k x).map (·.1)
  | [], h => by simpa [lput] using h
  | (y, u) :: r, h => by
    by_cases hz : k = y
    · subst hz
      simp only [lput, decide_true, List.map_cons, List.mem_cons] at h ⊢
      rcases h with h | h | h
      · exact .inl h
      · exact .inl h
      · exact .inr h
    · simp only [lput, hz, decide_false, List.map_cons, List.mem_cons] at h ⊢
      rcases h with h | h | h
      · exact .inr (keys_lput' r (.inl h))
      · exact .inl h
      · exact .inr (keys_lput' r (.inr h))
def sumN : List CRw → ByteArray → Int
  | [], _ => 0
  | x :: r, z => (if x.name = z then x.n else 0) + sumN r z
theorem sumN_app (z : ByteArray) : ∀ (l r : List CRw), sumN (l ++ r) z = sumN l z + sumN r z
  | [], r => by simp [sumN]
  | x :: l, r => by simp only [List.cons_append, sumN, sumN_app z l r]; omega
theorem sumN_perm (z : ByteArray) {l r : List CRw} (h : l.Perm r) : sumN l z = sumN r z := by
  induction h with
  | nil => rfl
  | cons x _ ih => simp only [sumN, ih]
  | swap x y l => simp only [sumN]; omega
  | trans _ _ ih1 ih2 => exact ih1.trans ih2
def addA (m : List (ByteArray × Int)) (x : CRw) : List (ByteArray × Int) := lput m x.name (IntKind.i64.wrap (cval m x.name + x.n))
def totC (m : List (ByteArray × Int)) : Nat := (m.map fun e => 24 + e.1.size).sum
/-- what stands in a book to which rows were added -/
structure CInv (m : List (ByteArray × Int)) (l : List CRw) : Prop where
  nd : (m.map (·.1)).Nodup
  keys : ∀ z, z ∈ m.map (·.1) ↔ z ∈ l.map (·.name)
  val : ∀ z, cval m z = IntKind.i64.wrap (sumN l z)
theorem CInv.nil : CInv [] [] := ⟨List.nodup_nil, fun z => by simp, fun z => rfl⟩
theorem CInv.add {m : List (ByteArray × Int)} {l : List CRw} (h : CInv m l) (x : CRw) : CInv (addA m x) (l ++ [x]) := by
  refine ⟨nodup_lput _ _ _ h.nd, fun z => ?_, fun z => ?_⟩
  · rw [List.map_append, List.mem_append, ← h.keys z]
    constructor
    · intro hz
      rcases keys_lput _ hz with rfl | hz
      · exact .inr (by simp)
      · exact .inl hz
    · rintro (hz | hz)
      · exact keys_lput' _ (.inr hz)
      · simp at hz; exact keys_lput' _ (.inl hz)
  · rw [sumN_app]
    by_cases hz : z = x.name
    · subst hz
      have : cval (addA m x) x.name = IntKind.i64.wrap (cval m x.name + x.n) := by unfold cval addA; rw [lget_put_same]; rfl
      rw [this, h.val]
      simp only [sumN, if_true]
      rw [IntKind.wrap_i64, IntKind.wrap_i64, IntKind.wrap_i64]
      omega
    · have : cval (addA m x) z = cval m z := by unfold cval addA; rw [lget_put_ne hz]
      rw [this, h.val]
      have hz' : ¬ x.name = z := fun e => hz e.symm
      simp only [sumN, if_neg hz', Int.add_zero]
theorem CInv.perm {m : List (ByteArray × Int)} {l r : List CRw} (h : CInv m l) (hp : l.Perm r) : CInv m r :=
  ⟨h.nd, fun z => (h.keys z).trans (hp.map _).mem_iff, fun z => by rw [h.val, sumN_perm z hp]⟩
theorem CInv.same {m m' : List (ByteArray × Int)} {l : List CRw} (h : CInv m l) (h' : CInv m' l) : (∀ z, cval m z = cval m' z) ∧ (m.map (·.1)).Perm (m'.map (·.1)) :=
  ⟨fun z => by rw [h.val, h'.val], (List.perm_ext_iff_of_nodup h.nd h'.nd).2 fun z => (h.keys z).trans (h'.keys z).symm⟩
theorem totC_put (k : ByteArray) (v : Int) : ∀ (m : List (ByteArray × Int)), ((totC (lput m k v) : Nat) : Int) = totC m + cgrow m k
  | [] => by simp [totC, lput, cgrow, lget]
  | (z, y) :: r => by
    by_cases hz : k = z
    · subst hz
      simp [totC, lput, cgrow, lget]
    · have := totC_put k v r
      simp only [totC, lput, hz, decide_false, List.map_cons, List.sum_cons, cgrow, lget] at this ⊢
      omega
end Go.Proofs.YtpihanlillbhkaaGreatDoor
end

section
/- The document's layer 27, the names of rows, each once, rising, in the abstract run. -/
set_option maxRecDepth 100000
set_option linter.unusedSimpArgs false
namespace Go.Proofs.YtpihanlillbhkaaGreatDoor
open Go Go.RowKit Go.Proofs

theorem nil_or_snoc {α : Type} (l : List α) : l = [] ∨ ∃ p y, l = p ++ [y] := by
  rcases List.eq_nil_or_concat l with h | ⟨p, y, h⟩
  · exact .inl h
  · exact .inr ⟨p, y, by rw [h, List.concat_eq_append]⟩
structure NmI (L out : List ByteArray) where
  i : Nat
  hi : i ≤ L.length
  nx : Option Nat
  h : Best L out i nx
set_option maxHeartbeats 1000000 in
theorem names27_ok (l : List CRw) (G : Glob) (hl : l.length ≤ 1048576) : CallOk Tryz.prog TT 44 [.slc 113 (l.map CRw.av)] G (fun v G' => v = .slc 9 ((namesN (l.map (·.name))).map fun s => [AV.str s]) ∧ G' = G) := by
  refine call_sem tt_ok Tryz.func44 rfl (by kernel_rfl) Tryz.ntmps44 Tryz.results44 ?_; conv => whnf
  repeat' (first | ((first | refine Sem.st tt_ok rfl ?_ | refine BS_t (by assumption) ?_ | refine BS_f (by assumption) ?_ | refine nthKi (by assumption) ?_ | refine ⟨_, ⟨(by omega), (by assumption)⟩, ?_⟩ | refine And.intro (by first | decide | omega) ?_); conv => whnf) | refine Sem.seqS ?_ | refine Sem.block ?_)
  have hnl := len_namesN (l.map (·.name))
  rw [List.length_map] at hnl
  refine Sem.loop (ι := {x : List ByteArray × List ByteArray // namesN (l.map (·.name)) = x.1 ++ x.2}) (fun x => ⟨(.slc 113 (l.map CRw.av) :: .top :: .nils :: .own 0 9 (x.1.1.map fun s => [AV.str s]) :: .top :: .top :: .top :: .top :: .top :: .top :: .top :: .top :: .top :: .top :: .top :: .top :: .top :: .top :: .top :: .top :: .top :: .top :: .top :: .top :: .top :: .top :: .top :: .top :: .top :: .top :: .top :: .top :: .top :: .top :: .top :: .top :: .top :: .top :: .top :: .top :: .top :: .top :: .top :: .top :: .top :: .top :: .top :: .top :: .top :: .top :: .top :: .top :: .top :: .top :: .top :: .top :: .top :: .top :: []), [], 0, 1, G⟩) (fun x => x.1.2.length) ⟨([], namesN (l.map (·.name))), rfl⟩ ?_ (fun x => ?_)
  · refine weak_by [none] ?_; (conv => whnf); repeat (refine And.intro rfl ?_; conv => whnf)
    exact ⟨fun i x hx => hx, rfl, Nat.zero_le _, rfl, rfl⟩
  obtain ⟨⟨out, rest⟩, hns⟩ := x
  simp only at hns
  have hlo : out.length ≤ l.length := by rw [hns] at hnl; simp at hnl; omega
  repeat' (first | ((first | refine Sem.st tt_ok rfl ?_ | refine BS_t (by assumption) ?_ | refine BS_f (by assumption) ?_ | refine nthKi (by assumption) ?_ | refine ⟨_, ⟨(by omega), (by assumption)⟩, ?_⟩ | refine And.intro (by first | decide | omega) ?_); conv => whnf) | refine Sem.seqS ?_ | refine Sem.block ?_)
  refine Sem.loop (ι := NmI (l.map (·.name)) out) (fun x => ⟨(.slc 113 (l.map CRw.av) :: .top :: .nils :: .own 0 9 (out.map fun s => [AV.str s]) :: .int .i64 (nxI x.nx) :: .int .i64 (x.i : Nat) :: .top :: .top :: .top :: .top :: .top :: .top :: .top :: .top :: .top :: .top :: .top :: .top :: .top :: .top :: .top :: .top :: .top :: .top :: .top :: .top :: .top :: .top :: .top :: .top :: .top :: .top :: .top :: .top :: .top :: .top :: .top :: .top :: .top :: .top :: .top :: .top :: .top :: .top :: .top :: .top :: .top :: .top :: .top :: .top :: .top :: .top :: .top :: .top :: .top :: .top :: .top :: .top :: []), [], 0, 1, G⟩) (fun x => l.length - x.i) ⟨0, Nat.zero_le _, none, fun x hx => by cases hx⟩ ?_ (fun x => ?_)
  · refine weak_by [some 0] ?_; (conv => whnf); repeat (refine And.intro rfl ?_; conv => whnf)
    exact ⟨fun i x hx => hx, rfl, Nat.zero_le _, rfl, rfl⟩
  obtain ⟨i, hi, nx, hb⟩ := x
  rw [List.length_map] at hi
  repeat' (first | ((first | refine Sem.st tt_ok rfl ?_ | refine BS_t (by assumption) ?_ | refine BS_f (by assumption) ?_ | refine nthKi (by assumption) ?_ | refine ⟨_, ⟨(by omega), (by assumption)⟩, ?_⟩ | refine And.intro (by first | decide | omega) ?_); conv => whnf) | refine Sem.seqS ?_ | refine Sem.block ?_)
  refine BS_intro (fun hk => ?_) (fun hk => ?_) <;> conv => whnf
  · have hks : i < l.length := by simp at hk; omega
    clear hk
    obtain ⟨v, hv⟩ : ∃ v, l[i]? = some v := ⟨_, List.getElem?_eq_getElem hks⟩
    have hsm : (l.map CRw.av)[((i : Nat) : Int).toNat]? = some v.av := by rw [Int.toNat_natCast, List.getElem?_map, hv]; rfl
    have hxn : (l.map (·.name))[i]? = some v.name := by rw [List.getElem?_map, hv]; rfl
    have hw : IntKind.i64.wrap ((i : Int) + 1) = ((i + 1 : Nat) : Int) := by rw [IntWalk.i64_in _ (by omega)]; omega
    rcases nil_or_snoc out with rfl | ⟨pre, y, rfl⟩
    · cases nx with
      | none =>
        dsimp only [nxI]
        repeat' (first | ((first | refine Sem.st tt_ok rfl ?_ | refine BS_t (by assumption) ?_ | refine BS_f (by assumption) ?_ | refine nthKi (by assumption) ?_ | refine ⟨_, ⟨(by omega), (by assumption)⟩, ?_⟩ | refine And.intro (by first | decide | omega) ?_); conv => whnf) | refine Sem.seqS ?_ | refine Sem.block ?_)
        refine draw_sound (eff := []) tt_ok (by kernel_rfl) (by kernel_rfl) ?_; conv => whnf
        repeat' (first | ((first | refine BS_t (by assumption) ?_ | refine BS_f (by assumption) ?_ | refine nthKi (by assumption) ?_ | refine ⟨_, ⟨(by omega), (by assumption)⟩, ?_⟩ | refine And.intro (by first | decide | omega) ?_); conv => whnf) | fail)
        repeat' (first | ((first | refine Sem.st tt_ok rfl ?_ | refine BS_t (by assumption) ?_ | refine BS_f (by assumption) ?_ | refine nthKi (by assumption) ?_ | refine ⟨_, ⟨(by omega), (by assumption)⟩, ?_⟩ | refine And.intro (by first | decide | omega) ?_); conv => whnf) | refine Sem.seqS ?_ | refine Sem.block ?_)
        refine ⟨⟨i + 1, by rw [List.length_map]; omega, some i, best_new hb hxn (gtO_nil _) (fun n z h => by cases h)⟩, by show l.length - (i + 1) < l.length - i; omega, ?_⟩
        refine weak_by [some 0] ?_; (conv => whnf); repeat (refine And.intro rfl ?_; conv => whnf)
        refine And.intro hw ?_
        (conv => whnf); repeat (refine And.intro rfl ?_; conv => whnf)
        exact ⟨fun i y hy => hy, rfl, Nat.zero_le _, rfl, rfl⟩
      | some n =>
        dsimp only [nxI]
        obtain ⟨z, hz, hz1, hz2⟩ := id hb
        obtain ⟨u, hu, rfl⟩ : ∃ u, l[n]? = some u ∧ u.name = z := by rw [List.getElem?_map, Option.map_eq_some_iff] at hz; exact hz
        have hsn : (l.map CRw.av)[((n : Nat) : Int).toNat]? = some u.av := by rw [Int.toNat_natCast, List.getElem?_map, hu]; rfl
        cases hlt : Op.bytesLess v.name.toList u.name.toList with
        | true =>
          have hl1 : ltB v.name u.name := by rw [ltB_less] at hlt; simpa using hlt
          repeat' (first | ((first | refine Sem.st tt_ok rfl ?_ | refine BS_t (by assumption) ?_ | refine BS_f (by assumption) ?_ | refine nthKi (by assumption) ?_ | refine ⟨_, ⟨(by omega), (by assumption)⟩, ?_⟩ | refine And.intro (by first | decide | omega) ?_); conv => whnf) | refine Sem.seqS ?_ | refine Sem.block ?_)
          refine draw_sound (eff := []) tt_ok (by kernel_rfl) (by kernel_rfl) ?_; conv => whnf
          repeat' (first | ((first | refine BS_t (by assumption) ?_ | refine BS_f (by assumption) ?_ | refine nthKi (by assumption) ?_ | refine ⟨_, ⟨(by omega), (by assumption)⟩, ?_⟩ | refine And.intro (by first | decide | omega) ?_); conv => whnf) | fail)
          repeat' (first | ((first | refine Sem.st tt_ok rfl ?_ | refine BS_t (by assumption) ?_ | refine BS_f (by assumption) ?_ | refine nthKi (by assumption) ?_ | refine ⟨_, ⟨(by omega), (by assumption)⟩, ?_⟩ | refine And.intro (by first | decide | omega) ?_); conv => whnf) | refine Sem.seqS ?_ | refine Sem.block ?_)
          refine ⟨⟨i + 1, by rw [List.length_map]; omega, some i, best_new hb hxn (gtO_nil _) (fun n' z' e1 e2 => by cases e1; rw [hz] at e2; cases e2; exact hl1)⟩, by show l.length - (i + 1) < l.length - i; omega, ?_⟩
          refine weak_by [some 0] ?_; (conv => whnf); repeat (refine And.intro rfl ?_; conv => whnf)
          refine And.intro hw ?_
          (conv => whnf); repeat (refine And.intro rfl ?_; conv => whnf)
          exact ⟨fun i y hy => hy, rfl, Nat.zero_le _, rfl, rfl⟩
        | false =>
          have hl1 : ¬ ltB v.name u.name := by rw [ltB_less] at hlt; simpa using hlt
          repeat' (first | ((first | refine Sem.st tt_ok rfl ?_ | refine BS_t (by assumption) ?_ | refine BS_f (by assumption) ?_ | refine nthKi (by assumption) ?_ | refine ⟨_, ⟨(by omega), (by assumption)⟩, ?_⟩ | refine And.intro (by first | decide | omega) ?_); conv => whnf) | refine Sem.seqS ?_ | refine Sem.block ?_)
          refine draw_sound (eff := []) tt_ok (by kernel_rfl) (by kernel_rfl) ?_; conv => whnf
          repeat' (first | ((first | refine BS_t (by assumption) ?_ | refine BS_f (by assumption) ?_ | refine nthKi (by assumption) ?_ | refine ⟨_, ⟨(by omega), (by assumption)⟩, ?_⟩ | refine And.intro (by first | decide | omega) ?_); conv => whnf) | fail)
          repeat' (first | ((first | refine Sem.st tt_ok rfl ?_ | refine BS_t (by assumption) ?_ | refine BS_f (by assumption) ?_ | refine nthKi (by assumption) ?_ | refine ⟨_, ⟨(by omega), (by assumption)⟩, ?_⟩ | refine And.intro (by first | decide | omega) ?_); conv => whnf) | refine Sem.seqS ?_ | refine Sem.block ?_)
          refine ⟨⟨i + 1, by rw [List.length_map]; omega, some n, best_old hb hxn hz hl1⟩, by show l.length - (i + 1) < l.length - i; omega, ?_⟩
          refine weak_by [some 0] ?_; (conv => whnf); repeat (refine And.intro rfl ?_; conv => whnf)
          refine And.intro hw ?_
          (conv => whnf); repeat (refine And.intro rfl ?_; conv => whnf)
          exact ⟨fun i y hy => hy, rfl, Nat.zero_le _, rfl, rfl⟩
    · have hlp : ((((pre ++ [y]).map fun s => [AV.str s]).length : Nat) : Int) = (pre.length : Int) + 1 := by simp
      have hlo2 : pre.length + 1 ≤ l.length := by simpa using hlo
      have hix : 0 ≤ IntKind.i64.wrap (((((pre ++ [y]).map fun s => [AV.str s]).length : Nat) : Int) - 1) ∧ ((pre ++ [y]).map fun s => [AV.str s])[(IntKind.i64.wrap (((((pre ++ [y]).map fun s => [AV.str s]).length : Nat) : Int) - 1)).toNat]? = some [AV.str y] := by
        have e : IntKind.i64.wrap (((((pre ++ [y]).map fun s => [AV.str s]).length : Nat) : Int) - 1) = (pre.length : Nat) := by rw [hlp, IntWalk.i64_in _ (by omega)]; omega
        rw [e]
        exact ⟨by omega, by rw [Int.toNat_natCast, List.getElem?_map]; simp⟩
      have hn0 : (((((pre ++ [y]).map fun s => [AV.str s]).length : Nat) : Int) == 0) = false := by rw [hlp]; simp; omega
      cases hgt : (!(Op.bytesLess v.name.toList y.toList || v.name.toList == y.toList)) with
      | true =>
        have hg1 : GtO (pre ++ [y]) v.name := gtO_snoc.2 (by rw [ltB_gtr] at hgt; simpa using hgt)
        cases nx with
        | none =>
          dsimp only [nxI]
          repeat' (first | ((first | refine Sem.st tt_ok rfl ?_ | refine BS_t (by assumption) ?_ | refine BS_f (by assumption) ?_ | refine nthKi (by assumption) ?_ | refine ⟨_, ⟨(by omega), (by assumption)⟩, ?_⟩ | refine And.intro (by first | decide | omega) ?_); conv => whnf) | refine Sem.seqS ?_ | refine Sem.block ?_)
          refine draw_sound (eff := []) tt_ok (by kernel_rfl) (by kernel_rfl) ?_; conv => whnf
          repeat' (first | ((first | refine BS_t (by assumption) ?_ | refine BS_f (by assumption) ?_ | refine nthKi (by assumption) ?_ | refine ⟨_, ⟨(by omega), (by assumption)⟩, ?_⟩ | refine And.intro (by first | decide | omega) ?_); conv => whnf) | fail)
          refine ⟨_, hix, ?_⟩
          conv => whnf
          repeat' (first | ((first | refine BS_t (by assumption) ?_ | refine BS_f (by assumption) ?_ | refine nthKi (by assumption) ?_ | refine ⟨_, ⟨(by omega), (by assumption)⟩, ?_⟩ | refine And.intro (by first | decide | omega) ?_); conv => whnf) | fail)
          repeat' (first | ((first | refine Sem.st tt_ok rfl ?_ | refine BS_t (by assumption) ?_ | refine BS_f (by assumption) ?_ | refine nthKi (by assumption) ?_ | refine ⟨_, ⟨(by omega), (by assumption)⟩, ?_⟩ | refine And.intro (by first | decide | omega) ?_); conv => whnf) | refine Sem.seqS ?_ | refine Sem.block ?_)
          refine ⟨⟨i + 1, by rw [List.length_map]; omega, some i, best_new hb hxn hg1 (fun n z h => by cases h)⟩, by show l.length - (i + 1) < l.length - i; omega, ?_⟩
          refine weak_by [some 0] ?_; (conv => whnf); repeat (refine And.intro rfl ?_; conv => whnf)
          refine And.intro hw ?_
          (conv => whnf); repeat (refine And.intro rfl ?_; conv => whnf)
          exact ⟨fun i y hy => hy, rfl, Nat.zero_le _, rfl, rfl⟩
        | some n =>
          dsimp only [nxI]
          obtain ⟨z, hz, hz1, hz2⟩ := id hb
          obtain ⟨u, hu, rfl⟩ : ∃ u, l[n]? = some u ∧ u.name = z := by rw [List.getElem?_map, Option.map_eq_some_iff] at hz; exact hz
          have hsn : (l.map CRw.av)[((n : Nat) : Int).toNat]? = some u.av := by rw [Int.toNat_natCast, List.getElem?_map, hu]; rfl
          cases hlt : Op.bytesLess v.name.toList u.name.toList with
          | true =>
            have hl1 : ltB v.name u.name := by rw [ltB_less] at hlt; simpa using hlt
            repeat' (first | ((first | refine Sem.st tt_ok rfl ?_ | refine BS_t (by assumption) ?_ | refine BS_f (by assumption) ?_ | refine nthKi (by assumption) ?_ | refine ⟨_, ⟨(by omega), (by assumption)⟩, ?_⟩ | refine And.intro (by first | decide | omega) ?_); conv => whnf) | refine Sem.seqS ?_ | refine Sem.block ?_)
            refine draw_sound (eff := []) tt_ok (by kernel_rfl) (by kernel_rfl) ?_; conv => whnf
            repeat' (first | ((first | refine BS_t (by assumption) ?_ | refine BS_f (by assumption) ?_ | refine nthKi (by assumption) ?_ | refine ⟨_, ⟨(by omega), (by assumption)⟩, ?_⟩ | refine And.intro (by first | decide | omega) ?_); conv => whnf) | fail)
            refine ⟨_, hix, ?_⟩
            conv => whnf
            repeat' (first | ((first | refine BS_t (by assumption) ?_ | refine BS_f (by assumption) ?_ | refine nthKi (by assumption) ?_ | refine ⟨_, ⟨(by omega), (by assumption)⟩, ?_⟩ | refine And.intro (by first | decide | omega) ?_); conv => whnf) | fail)
            repeat' (first | ((first | refine Sem.st tt_ok rfl ?_ | refine BS_t (by assumption) ?_ | refine BS_f (by assumption) ?_ | refine nthKi (by assumption) ?_ | refine ⟨_, ⟨(by omega), (by assumption)⟩, ?_⟩ | refine And.intro (by first | decide | omega) ?_); conv => whnf) | refine Sem.seqS ?_ | refine Sem.block ?_)
            refine ⟨⟨i + 1, by rw [List.length_map]; omega, some i, best_new hb hxn hg1 (fun n' z' e1 e2 => by cases e1; rw [hz] at e2; cases e2; exact hl1)⟩, by show l.length - (i + 1) < l.length - i; omega, ?_⟩
            refine weak_by [some 0] ?_; (conv => whnf); repeat (refine And.intro rfl ?_; conv => whnf)
            refine And.intro hw ?_
            (conv => whnf); repeat (refine And.intro rfl ?_; conv => whnf)
            exact ⟨fun i y hy => hy, rfl, Nat.zero_le _, rfl, rfl⟩
          | false =>
            have hl1 : ¬ ltB v.name u.name := by rw [ltB_less] at hlt; simpa using hlt
            repeat' (first | ((first | refine Sem.st tt_ok rfl ?_ | refine BS_t (by assumption) ?_ | refine BS_f (by assumption) ?_ | refine nthKi (by assumption) ?_ | refine ⟨_, ⟨(by omega), (by assumption)⟩, ?_⟩ | refine And.intro (by first | decide | omega) ?_); conv => whnf) | refine Sem.seqS ?_ | refine Sem.block ?_)
            refine draw_sound (eff := []) tt_ok (by kernel_rfl) (by kernel_rfl) ?_; conv => whnf
            repeat' (first | ((first | refine BS_t (by assumption) ?_ | refine BS_f (by assumption) ?_ | refine nthKi (by assumption) ?_ | refine ⟨_, ⟨(by omega), (by assumption)⟩, ?_⟩ | refine And.intro (by first | decide | omega) ?_); conv => whnf) | fail)
            refine ⟨_, hix, ?_⟩
            conv => whnf
            repeat' (first | ((first | refine BS_t (by assumption) ?_ | refine BS_f (by assumption) ?_ | refine nthKi (by assumption) ?_ | refine ⟨_, ⟨(by omega), (by assumption)⟩, ?_⟩ | refine And.intro (by first | decide | omega) ?_); conv => whnf) | fail)
            repeat' (first | ((first | refine Sem.st tt_ok rfl ?_ | refine BS_t (by assumption) ?_ | refine BS_f (by assumption) ?_ | refine nthKi (by assumption) ?_ | refine ⟨_, ⟨(by omega), (by assumption)⟩, ?_⟩ | refine And.intro (by first | decide | omega) ?_); conv => whnf) | refine Sem.seqS ?_ | refine Sem.block ?_)
            refine ⟨⟨i + 1, by rw [List.length_map]; omega, some n, best_old hb hxn hz hl1⟩, by show l.length - (i + 1) < l.length - i; omega, ?_⟩
            refine weak_by [some 0] ?_; (conv => whnf); repeat (refine And.intro rfl ?_; conv => whnf)
            refine And.intro hw ?_
            (conv => whnf); repeat (refine And.intro rfl ?_; conv => whnf)
            exact ⟨fun i y hy => hy, rfl, Nat.zero_le _, rfl, rfl⟩
      | false =>
        have hg1 : ¬ GtO (pre ++ [y]) v.name := fun h => by have := gtO_snoc.1 h; rw [ltB_gtr] at hgt; simp at hgt; exact hgt this
        cases nx with
        | none =>
          dsimp only [nxI]
          repeat' (first | ((first | refine Sem.st tt_ok rfl ?_ | refine BS_t (by assumption) ?_ | refine BS_f (by assumption) ?_ | refine nthKi (by assumption) ?_ | refine ⟨_, ⟨(by omega), (by assumption)⟩, ?_⟩ | refine And.intro (by first | decide | omega) ?_); conv => whnf) | refine Sem.seqS ?_ | refine Sem.block ?_)
          refine draw_sound (eff := []) tt_ok (by kernel_rfl) (by kernel_rfl) ?_; conv => whnf
          repeat' (first | ((first | refine BS_t (by assumption) ?_ | refine BS_f (by assumption) ?_ | refine nthKi (by assumption) ?_ | refine ⟨_, ⟨(by omega), (by assumption)⟩, ?_⟩ | refine And.intro (by first | decide | omega) ?_); conv => whnf) | fail)
          refine ⟨_, hix, ?_⟩
          conv => whnf
          repeat' (first | ((first | refine BS_t (by assumption) ?_ | refine BS_f (by assumption) ?_ | refine nthKi (by assumption) ?_ | refine ⟨_, ⟨(by omega), (by assumption)⟩, ?_⟩ | refine And.intro (by first | decide | omega) ?_); conv => whnf) | fail)
          repeat' (first | ((first | refine Sem.st tt_ok rfl ?_ | refine BS_t (by assumption) ?_ | refine BS_f (by assumption) ?_ | refine nthKi (by assumption) ?_ | refine ⟨_, ⟨(by omega), (by assumption)⟩, ?_⟩ | refine And.intro (by first | decide | omega) ?_); conv => whnf) | refine Sem.seqS ?_ | refine Sem.block ?_)
          refine ⟨⟨i + 1, by rw [List.length_map]; omega, none, best_not hb hxn hg1⟩, by show l.length - (i + 1) < l.length - i; omega, ?_⟩
          refine weak_by [some 0] ?_; (conv => whnf); repeat (refine And.intro rfl ?_; conv => whnf)
          refine And.intro hw ?_
          (conv => whnf); repeat (refine And.intro rfl ?_; conv => whnf)
          exact ⟨fun i y hy => hy, rfl, Nat.zero_le _, rfl, rfl⟩
        | some n =>
          dsimp only [nxI]
          repeat' (first | ((first | refine Sem.st tt_ok rfl ?_ | refine BS_t (by assumption) ?_ | refine BS_f (by assumption) ?_ | refine nthKi (by assumption) ?_ | refine ⟨_, ⟨(by omega), (by assumption)⟩, ?_⟩ | refine And.intro (by first | decide | omega) ?_); conv => whnf) | refine Sem.seqS ?_ | refine Sem.block ?_)
          refine draw_sound (eff := []) tt_ok (by kernel_rfl) (by kernel_rfl) ?_; conv => whnf
          repeat' (first | ((first | refine BS_t (by assumption) ?_ | refine BS_f (by assumption) ?_ | refine nthKi (by assumption) ?_ | refine ⟨_, ⟨(by omega), (by assumption)⟩, ?_⟩ | refine And.intro (by first | decide | omega) ?_); conv => whnf) | fail)
          refine ⟨_, hix, ?_⟩
          conv => whnf
          repeat' (first | ((first | refine BS_t (by assumption) ?_ | refine BS_f (by assumption) ?_ | refine nthKi (by assumption) ?_ | refine ⟨_, ⟨(by omega), (by assumption)⟩, ?_⟩ | refine And.intro (by first | decide | omega) ?_); conv => whnf) | fail)
          repeat' (first | ((first | refine Sem.st tt_ok rfl ?_ | refine BS_t (by assumption) ?_ | refine BS_f (by assumption) ?_ | refine nthKi (by assumption) ?_ | refine ⟨_, ⟨(by omega), (by assumption)⟩, ?_⟩ | refine And.intro (by first | decide | omega) ?_); conv => whnf) | refine Sem.seqS ?_ | refine Sem.block ?_)
          refine ⟨⟨i + 1, by rw [List.length_map]; omega, some n, best_not hb hxn hg1⟩, by show l.length - (i + 1) < l.length - i; omega, ?_⟩
          refine weak_by [some 0] ?_; (conv => whnf); repeat (refine And.intro rfl ?_; conv => whnf)
          refine And.intro hw ?_
          (conv => whnf); repeat (refine And.intro rfl ?_; conv => whnf)
          exact ⟨fun i y hy => hy, rfl, Nat.zero_le _, rfl, rfl⟩
  · have hk' : i = l.length := by simp at hk; omega
    subst hk'
    have hT : (l.map (·.name)).take l.length = l.map (·.name) := by rw [List.take_of_length_le]; simp
    cases nx with
    | none =>
      dsimp only [nxI]
      have hr : rest = [] := names_none hns (by simpa only [Best, hT] using hb)
      subst hr
      repeat' (first | ((first | refine Sem.st tt_ok rfl ?_ | refine BS_t (by assumption) ?_ | refine BS_f (by assumption) ?_ | refine nthKi (by assumption) ?_ | refine ⟨_, ⟨(by omega), (by assumption)⟩, ?_⟩ | refine And.intro (by first | decide | omega) ?_); conv => whnf) | refine Sem.seqS ?_ | refine Sem.block ?_)
      rw [List.append_nil] at hns
      refine ⟨_, fun _ _ h => h, ?_, rfl⟩
      rw [hns]
    | some n =>
      dsimp only [nxI]
      obtain ⟨z, hz, hz1, hz2⟩ := id hb
      rw [hT] at hz2
      obtain ⟨u, hu, rfl⟩ : ∃ u, l[n]? = some u ∧ u.name = z := by rw [List.getElem?_map, Option.map_eq_some_iff] at hz; exact hz
      have hsn : (l.map CRw.av)[((n : Nat) : Int).toNat]? = some u.av := by rw [Int.toNat_natCast, List.getElem?_map, hu]; rfl
      obtain ⟨rest', rfl⟩ := names_some hns (List.mem_of_getElem? hz) hz1 hz2
      repeat' (first | ((first | refine Sem.st tt_ok rfl ?_ | refine BS_t (by assumption) ?_ | refine BS_f (by assumption) ?_ | refine nthKi (by assumption) ?_ | refine ⟨_, ⟨(by omega), (by assumption)⟩, ?_⟩ | refine And.intro (by first | decide | omega) ?_); conv => whnf) | refine Sem.seqS ?_ | refine Sem.block ?_)
      refine And.intro (app_le (by simp only [List.length_map, List.length_append, List.length_cons, List.length_nil]; omega) (by decide)) ?_; conv => whnf
      repeat' (first | ((first | refine Sem.st tt_ok rfl ?_ | refine BS_t (by assumption) ?_ | refine BS_f (by assumption) ?_ | refine nthKi (by assumption) ?_ | refine ⟨_, ⟨(by omega), (by assumption)⟩, ?_⟩ | refine And.intro (by first | decide | omega) ?_); conv => whnf) | refine Sem.seqS ?_ | refine Sem.block ?_)
      refine ⟨⟨(out ++ [u.name], rest'), by rw [hns]; simp⟩, by show rest'.length < (u.name :: rest').length; simp, ?_⟩
      refine weak_by [some 0] ?_; (conv => whnf); repeat (refine And.intro rfl ?_; conv => whnf)
      refine And.intro (by
        show _ = (out ++ [u.name]).map fun s => [AV.str s]
        rw [List.map_append]; rfl) ?_
      exact ⟨fun i y hy => hy, rfl, Nat.zero_le _, rfl, rfl⟩
def sz27 (l : List ByteArray) : Nat := ((namesN l).map fun s => 24 + s.size).sum
theorem sum_take {α : Type} (f : α → Nat) (l : List α) (k : Nat) : ((l.take k).map f).sum ≤ (l.map f).sum := by
  have : (l.map f).sum = ((l.take k).map f).sum + ((l.drop k).map f).sum := by
    rw [← List.sum_append_nat, ← List.map_append, List.take_append_drop]
  omega
theorem size27_ok (l : List CRw) (G : Glob) (hl : l.length ≤ 1048576) (hz : sz27 (l.map (·.name)) ≤ 4611686018427387904) : CallOk Tryz.prog TT 24 [.slc 113 (l.map CRw.av)] G (fun v G' => v = .int .i64 (sz27 (l.map (·.name)) : Nat) ∧ G' = G) := by
  have hN := names27_ok l G hl
  have hnl := len_namesN (l.map (·.name))
  unfold sz27 at hz ⊢
  rw [List.length_map] at hnl
  generalize namesN (l.map (·.name)) = ns at hN hnl hz ⊢
  refine call_sem tt_ok Tryz.func24 rfl (by kernel_rfl) Tryz.ntmps24 Tryz.results24 ?_; conv => whnf
  repeat' (first | ((first | refine Sem.st tt_ok rfl ?_ | refine BS_t (by assumption) ?_ | refine BS_f (by assumption) ?_ | refine nthKi (by assumption) ?_ | refine ⟨_, ⟨(by omega), (by assumption)⟩, ?_⟩ | refine And.intro (by first | decide | omega) ?_); conv => whnf) | refine Sem.seqS ?_ | refine Sem.block ?_)
  refine hN.on ?_; conv => whnf
  repeat' (first | ((first | refine Sem.st tt_ok rfl ?_ | refine BS_t (by assumption) ?_ | refine BS_f (by assumption) ?_ | refine nthKi (by assumption) ?_ | refine ⟨_, ⟨(by omega), (by assumption)⟩, ?_⟩ | refine And.intro (by first | decide | omega) ?_); conv => whnf) | refine Sem.seqS ?_ | refine Sem.block ?_)
  refine Sem.loop (ι := {k : Nat // k ≤ ns.length}) (fun x => ⟨(.slc 113 (l.map CRw.av) :: .top :: .top :: .int .i64 (((ns.take x.1).map fun s => 24 + s.size).sum : Nat) :: .slc 9 (ns.map fun s => [AV.str s]) :: .int .i64 (x.1 : Nat) :: .top :: .top :: .top :: .top :: .top :: .top :: .top :: .top :: .top :: .top :: .top :: .top :: .top :: .top :: .top :: .top :: .top :: []), [], 0, 0, G⟩) (fun x => ns.length - x.1) ⟨0, Nat.zero_le _⟩ ?_ (fun x => ?_)
  · refine weak_by [] ?_; (conv => whnf); repeat (refine And.intro rfl ?_; conv => whnf)
    exact ⟨fun i x hx => hx, rfl, Nat.zero_le _, rfl, rfl⟩
  obtain ⟨k, hk0⟩ := x
  repeat' (first | ((first | refine Sem.st tt_ok rfl ?_ | refine BS_t (by assumption) ?_ | refine BS_f (by assumption) ?_ | refine nthKi (by assumption) ?_ | refine ⟨_, ⟨(by omega), (by assumption)⟩, ?_⟩ | refine And.intro (by first | decide | omega) ?_); conv => whnf) | refine Sem.seqS ?_ | refine Sem.block ?_)
  refine BS_intro (fun hk => ?_) (fun hk => ?_) <;> conv => whnf
  · have hks : k < ns.length := by simp at hk; omega
    clear hk
    obtain ⟨v, hv⟩ : ∃ v, ns[k]? = some v := ⟨_, List.getElem?_eq_getElem hks⟩
    have hsm : (ns.map fun s => [AV.str s])[((k : Nat) : Int).toNat]? = some [AV.str v] := by rw [Int.toNat_natCast, List.getElem?_map, hv]; rfl
    have ht : ns.take (k + 1) = ns.take k ++ [v] := by rw [List.take_add_one, hv]; rfl
    have hs1 : ((ns.take (k + 1)).map fun s => 24 + s.size).sum = ((ns.take k).map fun s => 24 + s.size).sum + (24 + v.size) := by rw [ht]; simp
    have hs2 := sum_take (fun s : ByteArray => 24 + s.size) ns (k + 1)
    have hw : IntKind.i64.wrap ((k : Int) + 1) = ((k + 1 : Nat) : Int) := by rw [IntWalk.i64_in _ (by omega)]; omega
    repeat' (first | ((first | refine Sem.st tt_ok rfl ?_ | refine BS_t (by assumption) ?_ | refine BS_f (by assumption) ?_ | refine nthKi (by assumption) ?_ | refine ⟨_, ⟨(by omega), (by assumption)⟩, ?_⟩ | refine And.intro (by first | decide | omega) ?_); conv => whnf) | refine Sem.seqS ?_ | refine Sem.block ?_)
    refine ⟨⟨k + 1, by omega⟩, by show ns.length - (k + 1) < ns.length - k; omega, ?_⟩
    refine weak_by [] ?_; (conv => whnf); repeat (refine And.intro rfl ?_; conv => whnf)
    refine And.intro (by
      show IntKind.i64.wrap ((((ns.take k).map fun s => 24 + s.size).sum : Nat) + IntKind.i64.wrap (24 + (v.size : Int))) = ((((ns.take (k + 1)).map fun s => 24 + s.size).sum : Nat) : Int)
      rw [IntWalk.i64_in (24 + (v.size : Int)) (by omega), IntWalk.i64_in _ (by omega)]
      omega) ?_
    (conv => whnf); repeat (refine And.intro rfl ?_; conv => whnf)
    refine And.intro hw ?_
    (conv => whnf); repeat (refine And.intro rfl ?_; conv => whnf)
    exact ⟨fun i y hy => hy, rfl, Nat.zero_le _, rfl, rfl⟩
  · have hk' : k = ns.length := by simp at hk; omega
    subst hk'
    rw [List.take_length]
    repeat' (first | ((first | refine Sem.st tt_ok rfl ?_ | refine BS_t (by assumption) ?_ | refine BS_f (by assumption) ?_ | refine nthKi (by assumption) ?_ | refine ⟨_, ⟨(by omega), (by assumption)⟩, ?_⟩ | refine And.intro (by first | decide | omega) ?_); conv => whnf) | refine Sem.seqS ?_ | refine Sem.block ?_)
    exact ⟨_, fun _ _ h => h, rfl, rfl⟩
end Go.Proofs.YtpihanlillbhkaaGreatDoor
end

section
/- The document's layer 28 in the abstract run: Pop, Waits, Names, Size. -/
set_option maxRecDepth 100000
set_option linter.unusedSimpArgs false
namespace Go.Proofs.YtpihanlillbhkaaGreatDoor
open Go Go.RowKit Go.Proofs

theorem kvrow_in {g : Gh} {w : World} {u : Value} {l : KvL} (h : Dz TT g w (.slc 115 (l.map kvR)) u) : Row w u l 2 kvV := by
  refine dz_row h rfl (by decide) fun x _ => ⟨rfl, fun j c y z hc hy hz => ?_⟩
  match j with
  | 0 => simp only [kvR, kvV, List.getElem?_cons_zero, Option.some.injEq] at hc hy; subst hc hy; cases hz; rfl
  | 1 => simp only [kvR, kvV, List.getElem?_cons_zero, List.getElem?_cons_succ, Option.some.injEq] at hc hy; subst hc hy; cases hz; rfl
  | j + 2 => simp [kvR] at hc
theorem kvrow_out {g : Gh} {w w' : World} {v : Value} {l : KvL} (h : w'.ownsRow w.heap.size 115 2 v l.length (l.flatMap kvV)) : Dz TT (g.still w) w' (.slc 115 (l.map kvR)) v := by
  refine own_dz h rfl (by simp) fun i cells hi => ?_
  rw [List.getElem?_map] at hi
  cases hx : l[i]? with
  | none => rw [hx] at hi; cases hi
  | some x =>
    rw [hx] at hi
    simp only [Option.map_some, Option.some.injEq] at hi
    subst hi
    refine ⟨rfl, fun j c hj => ?_⟩
    have key : ∀ j y, (kvV x)[j]? = some y → (l.flatMap kvV)[i * 2 + j]? = some y := fun j y hy => by
      exact flat_get l i x j y (fun _ _ => rfl) hx hy
    match j with
    | 0 => simp only [kvR, List.getElem?_cons_zero, Option.some.injEq] at hj; subst hj; exact ⟨_, key 0 _ rfl, rfl, .str _⟩
    | 1 => simp only [kvR, List.getElem?_cons_zero, List.getElem?_cons_succ, Option.some.injEq] at hj; subst hj; exact ⟨_, key 1 _ rfl, rfl, .str _⟩
    | j + 2 => simp [kvR] at hj
/-- the first row of a name taken out -/
def popAt : KvL → ByteArray → Option (KvL × ByteArray)
  | [], _ => none
  | x :: r, z => if x.1 = z then some (r, x.2) else (popAt r z).map fun y => (x :: y.1, y.2)
theorem popAt_none : ∀ {l : KvL} {z : ByteArray}, (∀ y ∈ l, y.1 ≠ z) → popAt l z = none
  | [], _, _ => rfl
  | x :: r, z, h => by
    have h1 := h x (by simp)
    have h2 := popAt_none (l := r) (z := z) fun y hy => h y (List.mem_cons_of_mem _ hy)
    simp [popAt, h1, h2]
theorem popAt_some : ∀ {l : KvL} {z : ByteArray} {i : Nat} {x : ByteArray × ByteArray}, l[i]? = some x → x.1 = z → (∀ y ∈ l.take i, y.1 ≠ z) → popAt l z = some (l.take i ++ l.drop (i + 1), x.2)
  | [], _, _, _, h, _, _ => by simp at h
  | y :: r, z, 0, x, h, hz, _ => by
    simp only [List.getElem?_cons_zero, Option.some.injEq] at h
    subst h
    simp [popAt, hz]
  | y :: r, z, i + 1, x, h, hz, hn => by
    have h1 := hn y (by simp)
    have h2 := popAt_some (l := r) (i := i) (x := x) (by simpa using h) hz fun u hu => hn u (by simp [hu])
    simp [popAt, h1, h2]
def popV (l : KvL) (z : ByteArray) : AV := match popAt l z with | some (r, t) => .tup [.slc 115 (r.map kvR), .str t, .bool true] | none => .tup [.slc 115 (l.map kvR), .str ⟨#[]⟩, .bool false]
theorem pop28_ok (l : KvL) (z : ByteArray) (G : Glob) (hl : l.length ≤ 1048576) : CallOk Tryz.prog TT 65 [.slc 115 (l.map kvR), .str z] G (fun v G' => v = popV l z ∧ G' = G) := by
  refine CallOk.of_up ⟨_, Tryz.func65, by decide, rfl⟩ fun g us w hu hd => ?_
  obtain ⟨us⟩ := us
  match us, hu with
  | [u0, u1], _ =>
    have hd0 := hd 0 _ _ rfl rfl
    have h0 := kvrow_in hd0
    cases hd 1 _ _ rfl rfl
    refine (pop28_any _ l z w h0 hl).mono fun e w' he => ?_
    rcases he with ⟨i, x, u, h1, h2, h3, rfl, h4, h5⟩ | ⟨h1, rfl, h5⟩
    · refine ⟨_, rfl, h5, ?_⟩
      unfold popV
      rw [popAt_some h1 h2 h3]
      rw [← List.length_append, ← List.flatMap_append] at h4
      have h6 := kvrow_out (g := g) h4
      refine .tup _ _ rfl fun i c u hc hu => ?_
      match i with
      | 0 => simp at hc hu; subst hc hu; simpa using h6
      | 1 => simp at hc hu; subst hc hu; exact .str _
      | 2 => simp at hc hu; subst hc hu; exact .bool _
      | i + 3 => simp at hc
    · refine ⟨_, rfl, h5, ?_⟩
      unfold popV
      rw [popAt_none h1]
      refine .tup _ _ rfl fun i c u hc hu => ?_
      match i with
      | 0 => simp at hc hu; subst hc hu; exact hd0.mono (still_ext h5).dx
      | 1 => simp at hc hu; subst hc hu; exact .str _
      | 2 => simp at hc hu; subst hc hu; exact .bool _
      | i + 3 => simp at hc
def waitN (l : KvL) (z : ByteArray) : Nat := (l.filter fun x => decide (x.1 = z)).length
theorem waitN_le (l : KvL) (z : ByteArray) : waitN l z ≤ l.length := List.length_filter_le _ _
theorem waits28_ok (l : KvL) (z : ByteArray) (G : Glob) (hl : l.length ≤ 1048576) : CallOk Tryz.prog TT 48 [.slc 115 (l.map kvR), .str z] G (fun v G' => v = .int .i64 (waitN l z : Nat) ∧ G' = G) := by
  refine call_sem tt_ok Tryz.func48 rfl (by kernel_rfl) Tryz.ntmps48 Tryz.results48 ?_; conv => whnf
  repeat' (first | ((first | refine Sem.st tt_ok rfl ?_ | refine BS_t (by assumption) ?_ | refine BS_f (by assumption) ?_ | refine nthKi (by assumption) ?_ | refine ⟨_, ⟨(by omega), (by assumption)⟩, ?_⟩ | refine And.intro (by first | decide | omega) ?_); conv => whnf) | refine Sem.seqS ?_ | refine Sem.block ?_)
  refine Sem.loop (ι := {k : Nat // k ≤ l.length}) (fun x => ⟨(.slc 115 (l.map kvR) :: .str z :: .top :: .top :: .top :: .int .i64 (waitN (l.take x.1) z : Nat) :: .int .i64 (x.1 : Nat) :: .top :: .top :: .top :: .top :: .top :: .top :: .top :: .top :: .top :: .top :: .top :: .top :: .top :: .top :: .top :: .top :: []), [], 0, 0, G⟩) (fun x => l.length - x.1) ⟨0, Nat.zero_le _⟩ ?_ (fun x => ?_)
  · refine weak_by [] ?_; (conv => whnf); repeat (refine And.intro rfl ?_; conv => whnf)
    exact ⟨fun i x hx => hx, rfl, Nat.zero_le _, rfl, rfl⟩
  obtain ⟨k, hk0⟩ := x
  repeat' (first | ((first | refine Sem.st tt_ok rfl ?_ | refine BS_t (by assumption) ?_ | refine BS_f (by assumption) ?_ | refine nthKi (by assumption) ?_ | refine ⟨_, ⟨(by omega), (by assumption)⟩, ?_⟩ | refine And.intro (by first | decide | omega) ?_); conv => whnf) | refine Sem.seqS ?_ | refine Sem.block ?_)
  refine BS_intro (fun hk => ?_) (fun hk => ?_) <;> conv => whnf
  · have hks : k < l.length := by simp at hk; omega
    clear hk
    obtain ⟨v, hv⟩ : ∃ v, l[k]? = some v := ⟨_, List.getElem?_eq_getElem hks⟩
    have hsm : (l.map kvR)[((k : Nat) : Int).toNat]? = some (kvR v) := by rw [Int.toNat_natCast, List.getElem?_map, hv]; rfl
    have ht : l.take (k + 1) = l.take k ++ [v] := by rw [List.take_add_one, hv]; rfl
    have hw : IntKind.i64.wrap ((k : Int) + 1) = ((k + 1 : Nat) : Int) := by rw [IntWalk.i64_in _ (by omega)]; omega
    have hwl := waitN_le (l.take k) z
    rw [List.length_take] at hwl
    obtain ⟨a, b⟩ := v
    repeat' (first | ((first | refine Sem.st tt_ok rfl ?_ | refine BS_t (by assumption) ?_ | refine BS_f (by assumption) ?_ | refine nthKi (by assumption) ?_ | refine ⟨_, ⟨(by omega), (by assumption)⟩, ?_⟩ | refine And.intro (by first | decide | omega) ?_); conv => whnf) | refine Sem.seqS ?_ | refine Sem.block ?_)
    refine BS_intro (fun he => ?_) (fun he => ?_) <;> conv => whnf
    · have hne : a = z := by simpa [bl_eq] using he
      repeat' (first | ((first | refine Sem.st tt_ok rfl ?_ | refine BS_t (by assumption) ?_ | refine BS_f (by assumption) ?_ | refine nthKi (by assumption) ?_ | refine ⟨_, ⟨(by omega), (by assumption)⟩, ?_⟩ | refine And.intro (by first | decide | omega) ?_); conv => whnf) | refine Sem.seqS ?_ | refine Sem.block ?_)
      refine ⟨⟨k + 1, by omega⟩, by show l.length - (k + 1) < l.length - k; omega, ?_⟩
      refine weak_by [] ?_; (conv => whnf); repeat (refine And.intro rfl ?_; conv => whnf)
      refine And.intro (by
        show IntKind.i64.wrap ((waitN (l.take k) z : Nat) + 1) = ((waitN (l.take (k + 1)) z : Nat) : Int)
        rw [ht, IntWalk.i64_in _ (by omega)]
        unfold waitN
        simp [hne]) ?_
      (conv => whnf); repeat (refine And.intro rfl ?_; conv => whnf)
      refine And.intro hw ?_
      (conv => whnf); repeat (refine And.intro rfl ?_; conv => whnf)
      exact ⟨fun i y hy => hy, rfl, Nat.zero_le _, rfl, rfl⟩
    · have hne : ¬ a = z := by simpa [bl_eq] using he
      repeat' (first | ((first | refine Sem.st tt_ok rfl ?_ | refine BS_t (by assumption) ?_ | refine BS_f (by assumption) ?_ | refine nthKi (by assumption) ?_ | refine ⟨_, ⟨(by omega), (by assumption)⟩, ?_⟩ | refine And.intro (by first | decide | omega) ?_); conv => whnf) | refine Sem.seqS ?_ | refine Sem.block ?_)
      refine ⟨⟨k + 1, by omega⟩, by show l.length - (k + 1) < l.length - k; omega, ?_⟩
      refine weak_by [] ?_; (conv => whnf); repeat (refine And.intro rfl ?_; conv => whnf)
      refine And.intro (by
        show ((waitN (l.take k) z : Nat) : Int) = ((waitN (l.take (k + 1)) z : Nat) : Int)
        rw [ht]
        unfold waitN
        simp [hne]) ?_
      (conv => whnf); repeat (refine And.intro rfl ?_; conv => whnf)
      refine And.intro hw ?_
      (conv => whnf); repeat (refine And.intro rfl ?_; conv => whnf)
      exact ⟨fun i y hy => hy, rfl, Nat.zero_le _, rfl, rfl⟩
  · have hk' : k = l.length := by simp at hk; omega
    subst hk'
    rw [List.take_length]
    repeat' (first | ((first | refine Sem.st tt_ok rfl ?_ | refine BS_t (by assumption) ?_ | refine BS_f (by assumption) ?_ | refine nthKi (by assumption) ?_ | refine ⟨_, ⟨(by omega), (by assumption)⟩, ?_⟩ | refine And.intro (by first | decide | omega) ?_); conv => whnf) | refine Sem.seqS ?_ | refine Sem.block ?_)
    exact ⟨_, fun _ _ h => h, rfl, rfl⟩
theorem names28_ok (l : KvL) (G : Glob) (hl : l.length ≤ 1048576) : CallOk Tryz.prog TT 47 [.slc 115 (l.map kvR)] G (fun v G' => v = .slc 9 ((namesN (l.map (·.1))).map fun s => [AV.str s]) ∧ G' = G) := by
  refine call_sem tt_ok Tryz.func47 rfl (by kernel_rfl) Tryz.ntmps47 Tryz.results47 ?_; conv => whnf
  repeat' (first | ((first | refine Sem.st tt_ok rfl ?_ | refine BS_t (by assumption) ?_ | refine BS_f (by assumption) ?_ | refine nthKi (by assumption) ?_ | refine ⟨_, ⟨(by omega), (by assumption)⟩, ?_⟩ | refine And.intro (by first | decide | omega) ?_); conv => whnf) | refine Sem.seqS ?_ | refine Sem.block ?_)
  refine Sem.loop (ι := {k : Nat // k ≤ l.length}) (fun x => ⟨(.slc 115 (l.map kvR) :: .top :: .top :: .own 0 113 (((l.take x.1).map fun y => (⟨y.1, 0⟩ : CRw)).map CRw.av) :: .int .i64 (x.1 : Nat) :: .top :: .top :: .top :: .top :: .top :: .top :: .top :: .top :: .top :: .top :: .top :: .top :: .top :: .top :: .top :: .top :: .top :: []), [], 0, 1, G⟩) (fun x => l.length - x.1) ⟨0, Nat.zero_le _⟩ ?_ (fun x => ?_)
  · refine weak_by [none] ?_; (conv => whnf); repeat (refine And.intro rfl ?_; conv => whnf)
    exact ⟨fun i x hx => hx, rfl, Nat.zero_le _, rfl, rfl⟩
  obtain ⟨k, hk0⟩ := x
  repeat' (first | ((first | refine Sem.st tt_ok rfl ?_ | refine BS_t (by assumption) ?_ | refine BS_f (by assumption) ?_ | refine nthKi (by assumption) ?_ | refine ⟨_, ⟨(by omega), (by assumption)⟩, ?_⟩ | refine And.intro (by first | decide | omega) ?_); conv => whnf) | refine Sem.seqS ?_ | refine Sem.block ?_)
  refine BS_intro (fun hk => ?_) (fun hk => ?_) <;> conv => whnf
  · have hks : k < l.length := by simp at hk; omega
    clear hk
    obtain ⟨v, hv⟩ : ∃ v, l[k]? = some v := ⟨_, List.getElem?_eq_getElem hks⟩
    have hsm : (l.map kvR)[((k : Nat) : Int).toNat]? = some (kvR v) := by rw [Int.toNat_natCast, List.getElem?_map, hv]; rfl
    have ht : l.take (k + 1) = l.take k ++ [v] := by rw [List.take_add_one, hv]; rfl
    have hw : IntKind.i64.wrap ((k : Int) + 1) = ((k + 1 : Nat) : Int) := by rw [IntWalk.i64_in _ (by omega)]; omega
    obtain ⟨a, b⟩ := v
    repeat' (first | ((first | refine Sem.st tt_ok rfl ?_ | refine BS_t (by assumption) ?_ | refine BS_f (by assumption) ?_ | refine nthKi (by assumption) ?_ | refine ⟨_, ⟨(by omega), (by assumption)⟩, ?_⟩ | refine And.intro (by first | decide | omega) ?_); conv => whnf) | refine Sem.seqS ?_ | refine Sem.block ?_)
    refine And.intro (app_le (by simp; omega) (by decide)) ?_; conv => whnf
    repeat' (first | ((first | refine Sem.st tt_ok rfl ?_ | refine BS_t (by assumption) ?_ | refine BS_f (by assumption) ?_ | refine nthKi (by assumption) ?_ | refine ⟨_, ⟨(by omega), (by assumption)⟩, ?_⟩ | refine And.intro (by first | decide | omega) ?_); conv => whnf) | refine Sem.seqS ?_ | refine Sem.block ?_)
    refine ⟨⟨k + 1, by omega⟩, by show l.length - (k + 1) < l.length - k; omega, ?_⟩
    refine weak_by [some 0] ?_; (conv => whnf); repeat (refine And.intro rfl ?_; conv => whnf)
    refine And.intro (by
      show _ = (((l.take (k + 1)).map fun y => (⟨y.1, 0⟩ : CRw)).map CRw.av)
      rw [ht, List.map_append, List.map_append]; rfl) ?_
    (conv => whnf); repeat (refine And.intro rfl ?_; conv => whnf)
    refine And.intro hw ?_
    (conv => whnf); repeat (refine And.intro rfl ?_; conv => whnf)
    exact ⟨fun i y hy => hy, rfl, Nat.zero_le _, rfl, rfl⟩
  · have hk' : k = l.length := by simp at hk; omega
    subst hk'
    rw [List.take_length]
    have hN := names27_ok (l.map fun y => (⟨y.1, 0⟩ : CRw)) G (by simpa using hl)
    rw [show ((l.map fun y => (⟨y.1, 0⟩ : CRw)).map (·.name)) = l.map (·.1) by rw [List.map_map]; rfl] at hN
    repeat' (first | ((first | refine Sem.st tt_ok rfl ?_ | refine BS_t (by assumption) ?_ | refine BS_f (by assumption) ?_ | refine nthKi (by assumption) ?_ | refine ⟨_, ⟨(by omega), (by assumption)⟩, ?_⟩ | refine And.intro (by first | decide | omega) ?_); conv => whnf) | refine Sem.seqS ?_ | refine Sem.block ?_)
    refine hN.on ?_; conv => whnf
    repeat' (first | ((first | refine Sem.st tt_ok rfl ?_ | refine BS_t (by assumption) ?_ | refine BS_f (by assumption) ?_ | refine nthKi (by assumption) ?_ | refine ⟨_, ⟨(by omega), (by assumption)⟩, ?_⟩ | refine And.intro (by first | decide | omega) ?_); conv => whnf) | refine Sem.seqS ?_ | refine Sem.block ?_)
    exact ⟨_, fun _ _ h => h, rfl, rfl⟩
def szA (l : KvL) : Nat := (l.map fun x => 16 + x.2.size).sum
def szN (l : KvL) : Nat := ((namesN (l.map (·.1))).map fun s => 16 + s.size).sum
def sz28 (l : KvL) : Nat := szA l + szN l
theorem size28_ok (l : KvL) (G : Glob) (hl : l.length ≤ 1048576) (hz : sz28 l ≤ 4611686018427387904) : CallOk Tryz.prog TT 25 [.slc 115 (l.map kvR)] G (fun v G' => v = .int .i64 (sz28 l : Nat) ∧ G' = G) := by
  have hN := names28_ok l G hl
  have hnl := len_namesN (l.map (·.1))
  unfold sz28 szN at hz ⊢
  rw [List.length_map] at hnl
  generalize namesN (l.map (·.1)) = ns at hN hnl hz ⊢
  refine call_sem tt_ok Tryz.func25 rfl (by kernel_rfl) Tryz.ntmps25 Tryz.results25 ?_; conv => whnf
  repeat' (first | ((first | refine Sem.st tt_ok rfl ?_ | refine BS_t (by assumption) ?_ | refine BS_f (by assumption) ?_ | refine nthKi (by assumption) ?_ | refine ⟨_, ⟨(by omega), (by assumption)⟩, ?_⟩ | refine And.intro (by first | decide | omega) ?_); conv => whnf) | refine Sem.seqS ?_ | refine Sem.block ?_)
  refine Sem.loop (ι := {k : Nat // k ≤ l.length}) (fun x => ⟨(.slc 115 (l.map kvR) :: .top :: .top :: .int .i64 (szA (l.take x.1) : Nat) :: .int .i64 (x.1 : Nat) :: .top :: .top :: .top :: .top :: .top :: .top :: .top :: .top :: .top :: .top :: .top :: .top :: .top :: .top :: .top :: .top :: .top :: .top :: .top :: .top :: .top :: .top :: .top :: .top :: .top :: .top :: .top :: .top :: .top :: .top :: .top :: .top :: .top :: .top :: []), [], 0, 0, G⟩) (fun x => l.length - x.1) ⟨0, Nat.zero_le _⟩ ?_ (fun x => ?_)
  · refine weak_by [] ?_; (conv => whnf); repeat (refine And.intro rfl ?_; conv => whnf)
    exact ⟨fun i x hx => hx, rfl, Nat.zero_le _, rfl, rfl⟩
  obtain ⟨k, hk0⟩ := x
  repeat' (first | ((first | refine Sem.st tt_ok rfl ?_ | refine BS_t (by assumption) ?_ | refine BS_f (by assumption) ?_ | refine nthKi (by assumption) ?_ | refine ⟨_, ⟨(by omega), (by assumption)⟩, ?_⟩ | refine And.intro (by first | decide | omega) ?_); conv => whnf) | refine Sem.seqS ?_ | refine Sem.block ?_)
  refine BS_intro (fun hk => ?_) (fun hk => ?_) <;> conv => whnf
  · have hks : k < l.length := by simp at hk; omega
    clear hk
    obtain ⟨v, hv⟩ : ∃ v, l[k]? = some v := ⟨_, List.getElem?_eq_getElem hks⟩
    have hsm : (l.map kvR)[((k : Nat) : Int).toNat]? = some (kvR v) := by rw [Int.toNat_natCast, List.getElem?_map, hv]; rfl
    have ht : l.take (k + 1) = l.take k ++ [v] := by rw [List.take_add_one, hv]; rfl
    have hs1 : szA (l.take (k + 1)) = szA (l.take k) + (16 + v.2.size) := by rw [ht]; simp [szA]
    have hs2 : szA (l.take (k + 1)) ≤ szA l := sum_take (fun x : ByteArray × ByteArray => 16 + x.2.size) l (k + 1)
    have hw : IntKind.i64.wrap ((k : Int) + 1) = ((k + 1 : Nat) : Int) := by rw [IntWalk.i64_in _ (by omega)]; omega
    obtain ⟨a, b⟩ := v
    simp only at hs1
    repeat' (first | ((first | refine Sem.st tt_ok rfl ?_ | refine BS_t (by assumption) ?_ | refine BS_f (by assumption) ?_ | refine nthKi (by assumption) ?_ | refine ⟨_, ⟨(by omega), (by assumption)⟩, ?_⟩ | refine And.intro (by first | decide | omega) ?_); conv => whnf) | refine Sem.seqS ?_ | refine Sem.block ?_)
    refine ⟨⟨k + 1, by omega⟩, by show l.length - (k + 1) < l.length - k; omega, ?_⟩
    refine weak_by [] ?_; (conv => whnf); repeat (refine And.intro rfl ?_; conv => whnf)
    refine And.intro (by
      show IntKind.i64.wrap ((szA (l.take k) : Nat) + IntKind.i64.wrap (16 + (b.size : Int))) = ((szA (l.take (k + 1)) : Nat) : Int)
      rw [IntWalk.i64_in (16 + (b.size : Int)) (by omega), IntWalk.i64_in _ (by omega)]
      omega) ?_
    (conv => whnf); repeat (refine And.intro rfl ?_; conv => whnf)
    refine And.intro hw ?_
    (conv => whnf); repeat (refine And.intro rfl ?_; conv => whnf)
    exact ⟨fun i y hy => hy, rfl, Nat.zero_le _, rfl, rfl⟩
  · have hk' : k = l.length := by simp at hk; omega
    subst hk'
    rw [List.take_length]
    repeat' (first | ((first | refine Sem.st tt_ok rfl ?_ | refine BS_t (by assumption) ?_ | refine BS_f (by assumption) ?_ | refine nthKi (by assumption) ?_ | refine ⟨_, ⟨(by omega), (by assumption)⟩, ?_⟩ | refine And.intro (by first | decide | omega) ?_); conv => whnf) | refine Sem.seqS ?_ | refine Sem.block ?_)
    refine hN.on ?_; conv => whnf
    repeat' (first | ((first | refine Sem.st tt_ok rfl ?_ | refine BS_t (by assumption) ?_ | refine BS_f (by assumption) ?_ | refine nthKi (by assumption) ?_ | refine ⟨_, ⟨(by omega), (by assumption)⟩, ?_⟩ | refine And.intro (by first | decide | omega) ?_); conv => whnf) | refine Sem.seqS ?_ | refine Sem.block ?_)
    refine Sem.loop (ι := {k : Nat // k ≤ ns.length}) (fun x => ⟨(.slc 115 (l.map kvR) :: .top :: .top :: .int .i64 (szA l + ((ns.take x.1).map fun s => 16 + s.size).sum : Nat) :: .top :: .slc 9 (ns.map fun s => [AV.str s]) :: .int .i64 (x.1 : Nat) :: .top :: .top :: .top :: .top :: .top :: .top :: .top :: .top :: .top :: .top :: .top :: .top :: .top :: .top :: .top :: .top :: .top :: .top :: .top :: .top :: .top :: .top :: .top :: .top :: .top :: .top :: .top :: .top :: .top :: .top :: .top :: .top :: []), [], 0, 0, G⟩) (fun x => ns.length - x.1) ⟨0, Nat.zero_le _⟩ ?_ (fun x => ?_)
    · refine weak_by [] ?_; (conv => whnf); repeat (refine And.intro rfl ?_; conv => whnf)
      exact ⟨fun i x hx => hx, rfl, Nat.zero_le _, rfl, rfl⟩
    obtain ⟨k, hk0⟩ := x
    repeat' (first | ((first | refine Sem.st tt_ok rfl ?_ | refine BS_t (by assumption) ?_ | refine BS_f (by assumption) ?_ | refine nthKi (by assumption) ?_ | refine ⟨_, ⟨(by omega), (by assumption)⟩, ?_⟩ | refine And.intro (by first | decide | omega) ?_); conv => whnf) | refine Sem.seqS ?_ | refine Sem.block ?_)
    refine BS_intro (fun hk => ?_) (fun hk => ?_) <;> conv => whnf
    · have hks : k < ns.length := by simp at hk; omega
      clear hk
      obtain ⟨v, hv⟩ : ∃ v, ns[k]? = some v := ⟨_, List.getElem?_eq_getElem hks⟩
      have hsm : (ns.map fun s => [AV.str s])[((k : Nat) : Int).toNat]? = some [AV.str v] := by rw [Int.toNat_natCast, List.getElem?_map, hv]; rfl
      have ht : ns.take (k + 1) = ns.take k ++ [v] := by rw [List.take_add_one, hv]; rfl
      have hs1 : ((ns.take (k + 1)).map fun s => 16 + s.size).sum = ((ns.take k).map fun s => 16 + s.size).sum + (16 + v.size) := by rw [ht]; simp
      have hs2 := sum_take (fun s : ByteArray => 16 + s.size) ns (k + 1)
      have hw : IntKind.i64.wrap ((k : Int) + 1) = ((k + 1 : Nat) : Int) := by rw [IntWalk.i64_in _ (by omega)]; omega
      repeat' (first | ((first | refine Sem.st tt_ok rfl ?_ | refine BS_t (by assumption) ?_ | refine BS_f (by assumption) ?_ | refine nthKi (by assumption) ?_ | refine ⟨_, ⟨(by omega), (by assumption)⟩, ?_⟩ | refine And.intro (by first | decide | omega) ?_); conv => whnf) | refine Sem.seqS ?_ | refine Sem.block ?_)
      refine ⟨⟨k + 1, by omega⟩, by show ns.length - (k + 1) < ns.length - k; omega, ?_⟩
      refine weak_by [] ?_; (conv => whnf); repeat (refine And.intro rfl ?_; conv => whnf)
      refine And.intro (by
        show IntKind.i64.wrap (((szA l + ((ns.take k).map fun s => 16 + s.size).sum : Nat) : Int) + IntKind.i64.wrap (16 + (v.size : Int))) = ((szA l + ((ns.take (k + 1)).map fun s => 16 + s.size).sum : Nat) : Int)
        rw [IntWalk.i64_in (16 + (v.size : Int)) (by omega), IntWalk.i64_in _ (by omega)]
        omega) ?_
      (conv => whnf); repeat (refine And.intro rfl ?_; conv => whnf)
      refine And.intro hw ?_
      (conv => whnf); repeat (refine And.intro rfl ?_; conv => whnf)
      exact ⟨fun i y hy => hy, rfl, Nat.zero_le _, rfl, rfl⟩
    · have hk' : k = ns.length := by simp at hk; omega
      subst hk'
      rw [List.take_length]
      repeat' (first | ((first | refine Sem.st tt_ok rfl ?_ | refine BS_t (by assumption) ?_ | refine BS_f (by assumption) ?_ | refine nthKi (by assumption) ?_ | refine ⟨_, ⟨(by omega), (by assumption)⟩, ?_⟩ | refine And.intro (by first | decide | omega) ?_); conv => whnf) | refine Sem.seqS ?_ | refine Sem.block ?_)
      exact ⟨_, fun _ _ h => h, rfl, rfl⟩
end Go.Proofs.YtpihanlillbhkaaGreatDoor
end

section
/- A hall and the document's rows: the plain law. -/
set_option maxRecDepth 100000
set_option linter.unusedSimpArgs false
namespace Go.Proofs.YtpihanlillbhkaaGreatDoor
open Go Go.RowKit Go.Proofs

theorem lget_in {α : Type} {k : ByteArray} {v : α} : ∀ {m : List (ByteArray × α)}, (m.map (·.1)).Nodup → (k, v) ∈ m → lget m k = some v
  | [], _, h => by cases h
  | (z, y) :: r, hn, h => by
    simp only [List.map_cons, List.nodup_cons] at hn
    rcases List.mem_cons.1 h with h | h
    · cases h; simp [lget]
    · have hz : ¬ k = z := fun e => hn.1 (List.mem_map.2 ⟨_, h, e⟩)
      simp only [lget, hz, decide_false]
      exact lget_in hn.2 h
theorem sum_add {α : Type} (f g : α → Nat) : ∀ l : List α, (l.map fun x => f x + g x).sum = (l.map f).sum + (l.map g).sum
  | [] => rfl
  | x :: r => by simp only [List.map_cons, List.sum_cons, sum_add f g r]; omega
theorem sum_zero {α : Type} (f : α → Nat) : ∀ l : List α, (∀ x ∈ l, f x = 0) → (l.map f).sum = 0
  | [], _ => rfl
  | x :: r, h => by simp only [List.map_cons, List.sum_cons, sum_zero f r fun y hy => h y (by simp [hy]), h x (by simp)]
theorem sum_one {k : ByteArray} (n : Nat) : ∀ {ks : List ByteArray}, ks.Nodup → k ∈ ks → (ks.map fun z => if k = z then n else 0).sum = n
  | [], _, h => by cases h
  | z :: r, hn, h => by
    simp only [List.nodup_cons] at hn
    by_cases e : k = z
    · subst e
      simp only [List.map_cons, List.sum_cons, if_true]
      rw [sum_zero _ r fun y hy => by
        have : ¬ k = y := fun e => hn.1 (e ▸ hy)
        simp [this]]
      rfl
    · simp only [List.map_cons, List.sum_cons, e, if_false, Nat.zero_add]
      rcases List.mem_cons.1 h with h | h
      · exact absurd h e
      · exact sum_one n hn.2 h
/-- rows put together by their names -/
theorem sum_group (f : ByteArray × ByteArray → Nat) {ks : List ByteArray} (hn : ks.Nodup) : ∀ r : KvL, (∀ x ∈ r, x.1 ∈ ks) → (ks.map fun z => ((r.filter fun x => decide (x.1 = z)).map f).sum).sum = (r.map f).sum
  | [], _ => sum_zero _ _ fun _ _ => rfl
  | x :: r, h => by
    have ih := sum_group f hn r fun y hy => h y (by simp [hy])
    have h1 := sum_one (f x) hn (h x (by simp))
    rw [List.map_cons, List.sum_cons, ← ih, ← h1, ← sum_add]
    congr 1
    refine List.map_congr_left fun z _ => ?_
    by_cases e : x.1 = z <;> simp [e]
structure FInv (fl : FiL) (r : KvL) : Prop where
  nd : (fl.map (·.1)).Nodup
  ne : ∀ e ∈ fl, e.2.2 ≠ []
  tx : ∀ z, fT fl z = (r.filter fun x => decide (x.1 = z)).map (·.2)
theorem FInv.nil : FInv [] [] := ⟨List.nodup_nil, fun _ h => (by cases h), fun _ => rfl⟩
theorem fT_in {fl : FiL} (hn : (fl.map (·.1)).Nodup) {e : ByteArray × Qu} (he : e ∈ fl) : fT fl e.1 = e.2.2.map (·.2) := by
  unfold fT
  rw [lget_in hn he]
theorem FInv.keys {fl : FiL} {r : KvL} (h : FInv fl r) (z : ByteArray) : z ∈ fl.map (·.1) ↔ z ∈ r.map (·.1) := by
  constructor
  · intro hz
    obtain ⟨e, he, rfl⟩ := List.mem_map.1 hz
    have h1 := h.tx e.1
    rw [fT_in h.nd he] at h1
    have h2 := h.ne e he
    cases hf : r.filter fun x => decide (x.1 = e.1) with
    | nil =>
      rw [hf] at h1
      simp at h1
      exact absurd h1 h2
    | cons y ys =>
      have hy : y ∈ r.filter fun x => decide (x.1 = e.1) := by rw [hf]; simp
      rw [List.mem_filter] at hy
      exact List.mem_map.2 ⟨y, hy.1, by simpa using hy.2⟩
  · intro hz
    obtain ⟨x, hx, rfl⟩ := List.mem_map.1 hz
    have h1 := h.tx x.1
    have hm : x ∈ r.filter fun y => decide (y.1 = x.1) := List.mem_filter.2 ⟨hx, by simp⟩
    unfold fT at h1
    cases hl : lget fl x.1 with
    | none =>
      rw [hl] at h1
      have : (r.filter fun y => decide (y.1 = x.1)) = [] := by simpa using h1.symm
      rw [this] at hm
      cases hm
    | some q => exact List.mem_map.2 ⟨_, lget_mem hl, rfl⟩
theorem FInv.tot {fl : FiL} {r : KvL} (h : FInv fl r) : totF fl = sz28 r := by
  have hp : (fl.map (·.1)).Perm (namesN (r.map (·.1))) := namesN_perm h.nd h.keys
  have e1 : totF fl = ((fl.map (·.1)).map fun z => (16 + z.size) + ((r.filter fun x => decide (x.1 = z)).map fun x => 16 + x.2.size).sum).sum := by
    unfold totF
    rw [List.map_map]
    congr 1
    refine List.map_congr_left fun e he => ?_
    have h1 := h.tx e.1
    rw [fT_in h.nd he] at h1
    have h2 := congrArg (fun l => (l.map fun s : ByteArray => 16 + s.size).sum) h1
    simp only [List.map_map] at h2
    show 16 + e.1.size + (e.2.2.map fun x => 16 + x.2.size).sum = 16 + e.1.size + ((r.filter fun x => decide (x.1 = e.1)).map fun x => 16 + x.2.size).sum
    have h3 : (e.2.2.map fun x => 16 + x.2.size).sum = ((r.filter fun x => decide (x.1 = e.1)).map fun x => 16 + x.2.size).sum := h2
    omega
  rw [e1, sum_add, sum_group _ h.nd r fun x hx => (h.keys _).2 (List.mem_map.2 ⟨x, hx, rfl⟩), (hp.map _).sum_nat]
  unfold sz28 szA szN
  omega
theorem FInv.push {fl fl' : FiL} {r : KvL} (h : FInv fl r) {k v : ByteArray} (hn : (fl'.map (·.1)).Nodup) (hne : ∀ e ∈ fl', e.2.2 ≠ []) (h1 : fT fl' k = fT fl k ++ [v]) (h2 : ∀ z, z ≠ k → fT fl' z = fT fl z) : FInv fl' (r ++ [(k, v)]) := by
  refine ⟨hn, hne, fun z => ?_⟩
  rw [List.filter_append, List.map_append, ← h.tx z]
  by_cases hz : z = k
  · subst hz
    rw [h1]
    simp
  · rw [h2 z hz]
    have : ¬ k = z := fun e => hz e.symm
    simp [this]
theorem fgrow_sz {fl : FiL} {r : KvL} (h : FInv fl r) (k v : ByteArray) : ((sz28 r : Nat) : Int) + fgrow fl k v = sz28 (r ++ [(k, v)]) := by
  let x : Qu := match lget fl k with | some x => (x.1, x.2 ++ [(0, v)]) | none => (0, [(0, v)])
  have hI : FInv (lput fl k x) (r ++ [(k, v)]) := by
    refine h.push (nodup_lput _ _ _ h.nd) (fun e he => ?_) ?_ fun z hz => fT_put_ne _ _ hz
    · rcases mem_lput fl h.nd he with rfl | ⟨he, -⟩
      · show x.2 ≠ []
        simp only [x]
        cases lget fl k <;> simp
      · exact h.ne e he
    · rw [fT_put]
      simp only [x]
      unfold fT
      cases lget fl k <;> simp
  have hp := totF_put fl k x
  rw [← h.tot, ← hI.tot]
  unfold fgrow
  cases hq : lget fl k with
  | some y =>
    have hp' : totF (lput fl k (y.1, y.2 ++ [(0, v)])) + qT (k, y) = totF fl + qT (k, (y.1, y.2 ++ [(0, v)])) := by simpa only [x, hq] using hp
    have q : qT (k, (y.1, y.2 ++ [(0, v)])) = qT (k, y) + (16 + v.size) := by simp [qT]; omega
    simp only [x, hq]
    omega
  | none =>
    have hp' : totF (lput fl k (0, [(0, v)])) + 0 = totF fl + qT (k, (0, [(0, v)])) := by simpa only [x, hq] using hp
    have q : qT (k, ((0, [(0, v)]) : Qu)) = (16 + v.size) + (16 + k.size) := by simp [qT]; omega
    simp only [x, hq]
    omega
theorem popAt_spec : ∀ {r r' : KvL} {k t : ByteArray}, popAt r k = some (r', t) → (r.filter fun x => decide (x.1 = k)).map (·.2) = t :: (r'.filter fun x => decide (x.1 = k)).map (·.2) ∧ (∀ z, z ≠ k → (r'.filter fun x => decide (x.1 = z)) = r.filter fun x => decide (x.1 = z)) ∧ r'.length ≤ r.length ∧ (∀ x ∈ r', x ∈ r) ∧ (k, t) ∈ r
  | [], _, _, _, h => by cases h
  | x :: r, r', k, t, h => by
    by_cases hx : x.1 = k
    · simp only [popAt, hx, if_true, Option.some.injEq, Prod.mk.injEq] at h
      obtain ⟨rfl, rfl⟩ := h
      refine ⟨by simp [hx], fun z hz => ?_, by simp, fun y hy => by simp [hy], by simp [← hx]⟩
      have : ¬ x.1 = z := fun e => hz (e.symm.trans hx)
      simp [this]
    · simp only [popAt, hx, if_false, Option.map_eq_some_iff] at h
      obtain ⟨⟨r1, t1⟩, h1, h2⟩ := h
      simp only [Prod.mk.injEq] at h2
      obtain ⟨rfl, rfl⟩ := h2
      obtain ⟨g1, g2, g3, g4, g5⟩ := popAt_spec h1
      refine ⟨by simp [hx, g1], fun z hz => ?_, by simp [g3], fun y hy => ?_, by simp [g5]⟩
      · by_cases e : x.1 = z <;> simp [e, g2 z hz]
      · rcases List.mem_cons.1 hy with rfl | hy
        · simp
        · simp [g4 y hy]
theorem popAt_nil : ∀ {r : KvL} {k : ByteArray}, popAt r k = none → (r.filter fun x => decide (x.1 = k)) = []
  | [], _, _ => rfl
  | x :: r, k, h => by
    by_cases hx : x.1 = k
    · simp [popAt, hx] at h
    · simp only [popAt, hx, if_false, Option.map_eq_none_iff] at h
      simp [hx, popAt_nil h]
theorem FInv.pop {fl fl' : FiL} {r r' : KvL} (h : FInv fl r) {k t : ByteArray} (hp : popAt r k = some (r', t)) (hn : (fl'.map (·.1)).Nodup) (hne : ∀ e ∈ fl', e.2.2 ≠ []) (h1 : fT fl' k = (r'.filter fun x => decide (x.1 = k)).map (·.2)) (h2 : ∀ z, z ≠ k → fT fl' z = fT fl z) : FInv fl' r' := by
  refine ⟨hn, hne, fun z => ?_⟩
  by_cases hz : z = k
  · subst hz
    exact h1
  · rw [h2 z hz, h.tx z, (popAt_spec hp).2.1 z hz]
theorem FInv.hall {G : Glob} {b : Nat} {mv : AV} {n : Int} {fl : FiL} (h : HallG G b mv n fl) : (fl.map (·.1)).Nodup ∧ ∀ e ∈ fl, e.2.2 ≠ [] := ⟨h.2.1, fun e he => (h.2.2.1 e he).1⟩
theorem FInv.waits {fl : FiL} {r : KvL} (h : FInv fl r) (k : ByteArray) : (match lget fl k with | some x => (x.2.length : Int) | none => 0) = ((waitN r k : Nat) : Int) := by
  have h1 := congrArg List.length (h.tx k)
  unfold fT at h1
  unfold waitN
  cases hq : lget fl k with
  | some x => rw [hq] at h1; simp at h1 ⊢; omega
  | none => rw [hq] at h1; simp at h1 ⊢; omega
theorem FInv.names {fl : FiL} {r : KvL} (h : FInv fl r) : keysE fl = (namesN (r.map (·.1))).map fun s => [AV.str s] := keysE_names h.nd h.keys
end Go.Proofs.YtpihanlillbhkaaGreatDoor
end

section
/- The document's layer 27 in the abstract run. -/
set_option maxRecDepth 100000
set_option linter.unusedSimpArgs false
namespace Go.Proofs.YtpihanlillbhkaaGreatDoor
open Go Go.RowKit Go.Proofs

theorem value27_ok (l : List CRw) (z : ByteArray) (G : Glob) (hl : l.length ≤ 1048576) : CallOk Tryz.prog TT 46 [.slc 113 (l.map CRw.av), .str z] G (fun v G' => v = .int .i64 (IntKind.i64.wrap (sumN l z)) ∧ G' = G) := by
  refine call_sem tt_ok Tryz.func46 rfl (by kernel_rfl) Tryz.ntmps46 Tryz.results46 ?_; conv => whnf
  repeat' (first | ((first | refine Sem.st tt_ok rfl ?_ | refine BS_t (by assumption) ?_ | refine BS_f (by assumption) ?_ | refine nthKi (by assumption) ?_ | refine ⟨_, ⟨(by omega), (by assumption)⟩, ?_⟩ | refine And.intro (by first | decide | omega) ?_); conv => whnf) | refine Sem.seqS ?_ | refine Sem.block ?_)
  refine Sem.loop (ι := {k : Nat // k ≤ l.length}) (fun x => ⟨(.slc 113 (l.map CRw.av) :: .str z :: .top :: .top :: .top :: .int .i64 (IntKind.i64.wrap (sumN (l.take x.1) z)) :: .int .i64 (x.1 : Nat) :: .top :: .top :: .top :: .top :: .top :: .top :: .top :: .top :: .top :: .top :: .top :: .top :: .top :: .top :: .top :: .top :: .top :: .top :: .top :: .top :: .top :: []), [], 0, 0, G⟩) (fun x => l.length - x.1) ⟨0, Nat.zero_le _⟩ ?_ (fun x => ?_)
  · refine weak_by [] ?_; (conv => whnf); repeat (refine And.intro rfl ?_; conv => whnf)
    exact ⟨fun i x hx => hx, rfl, Nat.zero_le _, rfl, rfl⟩
  obtain ⟨k, hk0⟩ := x
  repeat' (first | ((first | refine Sem.st tt_ok rfl ?_ | refine BS_t (by assumption) ?_ | refine BS_f (by assumption) ?_ | refine nthKi (by assumption) ?_ | refine ⟨_, ⟨(by omega), (by assumption)⟩, ?_⟩ | refine And.intro (by first | decide | omega) ?_); conv => whnf) | refine Sem.seqS ?_ | refine Sem.block ?_)
  refine BS_intro (fun hk => ?_) (fun hk => ?_) <;> conv => whnf
  · have hks : k < l.length := by simp at hk; omega
    clear hk
    obtain ⟨v, hv⟩ : ∃ v, l[k]? = some v := ⟨_, List.getElem?_eq_getElem hks⟩
    have hsm : (l.map CRw.av)[((k : Nat) : Int).toNat]? = some v.av := by rw [Int.toNat_natCast, List.getElem?_map, hv]; rfl
    have ht : l.take (k + 1) = l.take k ++ [v] := by rw [List.take_add_one, hv]; rfl
    have hw : IntKind.i64.wrap ((k : Int) + 1) = ((k + 1 : Nat) : Int) := by rw [IntWalk.i64_in _ (by omega)]; omega
    repeat' (first | ((first | refine Sem.st tt_ok rfl ?_ | refine BS_t (by assumption) ?_ | refine BS_f (by assumption) ?_ | refine nthKi (by assumption) ?_ | refine ⟨_, ⟨(by omega), (by assumption)⟩, ?_⟩ | refine And.intro (by first | decide | omega) ?_); conv => whnf) | refine Sem.seqS ?_ | refine Sem.block ?_)
    refine BS_intro (fun he => ?_) (fun he => ?_) <;> conv => whnf
    · have hne : v.name = z := by simpa [bl_eq] using he
      repeat' (first | ((first | refine Sem.st tt_ok rfl ?_ | refine BS_t (by assumption) ?_ | refine BS_f (by assumption) ?_ | refine nthKi (by assumption) ?_ | refine ⟨_, ⟨(by omega), (by assumption)⟩, ?_⟩ | refine And.intro (by first | decide | omega) ?_); conv => whnf) | refine Sem.seqS ?_ | refine Sem.block ?_)
      refine ⟨⟨k + 1, by omega⟩, by show l.length - (k + 1) < l.length - k; omega, ?_⟩
      refine weak_by [] ?_; (conv => whnf); repeat (refine And.intro rfl ?_; conv => whnf)
      refine And.intro (by
        show IntKind.i64.wrap (IntKind.i64.wrap (sumN (l.take k) z) + v.n) = IntKind.i64.wrap (sumN (l.take (k + 1)) z)
        rw [ht, sumN_app]
        simp only [sumN, hne, if_true]
        rw [IntKind.wrap_i64, IntKind.wrap_i64, IntKind.wrap_i64]
        omega) ?_
      (conv => whnf); repeat (refine And.intro rfl ?_; conv => whnf)
      refine And.intro hw ?_
      (conv => whnf); repeat (refine And.intro rfl ?_; conv => whnf)
      exact ⟨fun i y hy => hy, rfl, Nat.zero_le _, rfl, rfl⟩
    · have hne : ¬ v.name = z := by simpa [bl_eq] using he
      repeat' (first | ((first | refine Sem.st tt_ok rfl ?_ | refine BS_t (by assumption) ?_ | refine BS_f (by assumption) ?_ | refine nthKi (by assumption) ?_ | refine ⟨_, ⟨(by omega), (by assumption)⟩, ?_⟩ | refine And.intro (by first | decide | omega) ?_); conv => whnf) | refine Sem.seqS ?_ | refine Sem.block ?_)
      refine ⟨⟨k + 1, by omega⟩, by show l.length - (k + 1) < l.length - k; omega, ?_⟩
      refine weak_by [] ?_; (conv => whnf); repeat (refine And.intro rfl ?_; conv => whnf)
      refine And.intro (by
        show IntKind.i64.wrap (sumN (l.take k) z) = IntKind.i64.wrap (sumN (l.take (k + 1)) z)
        rw [ht, sumN_app]
        simp only [sumN, hne, if_false, Int.add_zero]) ?_
      (conv => whnf); repeat (refine And.intro rfl ?_; conv => whnf)
      refine And.intro hw ?_
      (conv => whnf); repeat (refine And.intro rfl ?_; conv => whnf)
      exact ⟨fun i y hy => hy, rfl, Nat.zero_le _, rfl, rfl⟩
  · have hk' : k = l.length := by simp at hk; omega
    subst hk'
    rw [List.take_length]
    repeat' (first | ((first | refine Sem.st tt_ok rfl ?_ | refine BS_t (by assumption) ?_ | refine BS_f (by assumption) ?_ | refine nthKi (by assumption) ?_ | refine ⟨_, ⟨(by omega), (by assumption)⟩, ?_⟩ | refine And.intro (by first | decide | omega) ?_); conv => whnf) | refine Sem.seqS ?_ | refine Sem.block ?_)
    exact ⟨_, fun _ _ h => h, rfl, rfl⟩
end Go.Proofs.YtpihanlillbhkaaGreatDoor
end

section
/- A step of a partition, as an argument. -/
set_option maxRecDepth 100000
namespace Go.Proofs.YtpihanlillbhkaaGreatDoor
open Go Go.RowKit Go.ChangeShapes Go.WideShapes Go.ChangeAt Go.Deep Go.Proofs

structure St31 where
  op : Int
  name : ByteArray
  text : ByteArray
  num : Int
  ticks : Int
  now : Int
  limit : Int
def St31.vals (s : St31) : List Value := [.int .i64 s.op, .string s.name, .string s.text, .int .i64 s.num, .int .u64 s.ticks, .int .i64 s.now, .int .i64 s.limit]
def St31.args (s : St31) : List AV := [.str s.name, .str s.text, .int .i64 s.num, .int .u64 s.ticks]
def St31.av (s : St31) : List AV := [.int .i64 s.op, .str s.name, .str s.text, .int .i64 s.num, .int .u64 s.ticks, .int .i64 s.now, .int .i64 s.limit]
section
variable {H : Type} {enc : TypeId × Value → H} {w : World} {base : Nat} {spare : Nat → Bool} {held : Bool}
end
end Go.Proofs.YtpihanlillbhkaaGreatDoor
end
