/- the laws' small functions on orders: ours, awake. -/
import Derived.Test.YtpnlhnhjedopgaaOrdA
set_option maxRecDepth 100000
set_option linter.unusedSimpArgs false
namespace Go.Proofs.Ytpnlhnhjedopgaa
open Go Go.RowKit Go.Proofs

theorem ours_ok (o : Ord) (G : Glob) : CallOk Try.prog TT 20 [.agg o.av] G (fun v G' => v = .agg o.av ∧ G' = G) := by
  unfold Ord.av
  refine call_sem tt_ok Try.func20 rfl (by kernel_rfl) Try.ntmps20 Try.results20 ?_; conv => whnf
  repeat' (first | ((first | refine Sem.reg tt_ok ?_ | refine Sem.condS ?_ | refine Sem.regL tt_ok ?_ | refine Sem.skip tt_ok ?_ | refine Sem.exit tt_ok ?_ | refine Sem.ret tt_ok ?_ | refine BS_t (by assumption) ?_ | refine BS_f (by assumption) ?_ | refine atG (by repeat (first | assumption | exact setG_same _ _ _ | refine Eq.trans (setG_ne _ _ (by first | assumption | exact Ne.symm (by assumption))) ?_)) ?_ | refine (nthK_iff _ _).2 ⟨_, (by assumption), ?_⟩ | refine ⟨_, ⟨(by omega), (by assumption)⟩, ?_⟩ | refine And.intro (by first | decide | omega) ?_ | fail); conv => whnf) | refine Sem.seqS ?_ | refine Sem.block ?_ | fail)
  exact ⟨_, fun _ _ h => h, rfl, rfl⟩
def wakeO : Ord := ⟨0, 1, 3, ⟨1040, 0, 0, 0, 0, 0, 0, 0, 0⟩⟩
theorem kept_new {G G1 G2 : Glob} {b : Nat} {x : GB} {mv mv' : AV} (hb : G b = none) (he : G1 = setG G b x) (hm : ∀ i, mv ≠ .mp i) (h : Kept G1 G2 b mv mv') : ∀ i y, G i = some y → G2 i = some y := fun i y hy => by
  have hne : i ≠ b := by rintro rfl; rw [hb] at hy; cases hy
  refine h.2 i y ?_ hne (hm i)
  rw [he, setG_ne _ _ hne]; exact hy
theorem aawake_ok (G : Glob) : CallOk Try.prog TT 24 [] G (fun v G' => v = .bool true ∧ G' = G) := by
  have hp := adminput_ok ⟨1, 4, 3, zeroC⟩ G (by decide)
  have e1 : putO ⟨1, 4, 3, zeroC⟩ = (⟨#[1, 4, 3]⟩, 0) := by
    have h1 : putL 1 = [1] := by rw [putL]; rfl
    have h4 : putL 4 = [4] := by rw [putL]; rfl
    have h3 : putL 3 = [3] := by rw [putL]; rfl
    have hf : formB ⟨1, 4, 3, zeroC⟩ = true := by decide
    unfold putO
    rw [hf]
    unfold headL
    simp only [show (1 : Int).toNat = 1 from rfl, show (4 : Int).toNat = 4 from rfl, show (3 : Int).toNat = 3 from rfl, h1, h4, h3]
    rfl
  rw [e1] at hp
  have hk : chkB [] wakeO = 0 := by decide
  have hd : doB [] wakeO = [(3, ⟨⟨1040, 0, 0, 0, 0, 0, 0, 0, 0⟩, false⟩)] := by unfold doB; rw [hk]; rfl
  have hdo := fun G b h => ado_ok G b .nilm [] wakeO h
  rw [hk, hd] at hdo
  unfold Ord.av at hp hdo
  refine call_sem tt_ok Try.func24 rfl (by kernel_rfl) Try.ntmps24 Try.results24 ?_; conv => whnf
  repeat' (first | ((first | refine Sem.reg tt_ok ?_ | refine Sem.condS ?_ | refine Sem.regL tt_ok ?_ | refine Sem.skip tt_ok ?_ | refine Sem.exit tt_ok ?_ | refine Sem.ret tt_ok ?_ | refine BS_t (by assumption) ?_ | refine BS_f (by assumption) ?_ | refine atG (by repeat (first | assumption | exact setG_same _ _ _ | refine Eq.trans (setG_ne _ _ (by first | assumption | exact Ne.symm (by assumption))) ?_)) ?_ | refine (nthK_iff _ _).2 ⟨_, (by assumption), ?_⟩ | refine ⟨_, ⟨(by omega), (by assumption)⟩, ?_⟩ | refine And.intro (by first | decide | omega) ?_ | fail); conv => whnf) | refine Sem.seqS ?_ | refine Sem.block ?_ | fail)
  refine hp.on ?_; conv => whnf
  repeat' (first | ((first | refine Sem.reg tt_ok ?_ | refine Sem.condS ?_ | refine Sem.regL tt_ok ?_ | refine Sem.skip tt_ok ?_ | refine Sem.exit tt_ok ?_ | refine Sem.ret tt_ok ?_ | refine BS_t (by assumption) ?_ | refine BS_f (by assumption) ?_ | refine atG (by repeat (first | assumption | exact setG_same _ _ _ | refine Eq.trans (setG_ne _ _ (by first | assumption | exact Ne.symm (by assumption))) ?_)) ?_ | refine (nthK_iff _ _).2 ⟨_, (by assumption), ?_⟩ | refine ⟨_, ⟨(by omega), (by assumption)⟩, ?_⟩ | refine And.intro (by first | decide | omega) ?_ | fail); conv => whnf) | refine Sem.seqS ?_ | refine Sem.block ?_ | fail)
  refine (anew_ok _).mono fun v G1 hv => ?_; obtain ⟨b, hb, rfl, rfl⟩ := hv; conv => whnf
  repeat' (first | ((first | refine Sem.reg tt_ok ?_ | refine Sem.condS ?_ | refine Sem.regL tt_ok ?_ | refine Sem.skip tt_ok ?_ | refine Sem.exit tt_ok ?_ | refine Sem.ret tt_ok ?_ | refine BS_t (by assumption) ?_ | refine BS_f (by assumption) ?_ | refine atG (by repeat (first | assumption | exact setG_same _ _ _ | refine Eq.trans (setG_ne _ _ (by first | assumption | exact Ne.symm (by assumption))) ?_)) ?_ | refine (nthK_iff _ _).2 ⟨_, (by assumption), ?_⟩ | refine ⟨_, ⟨(by omega), (by assumption)⟩, ?_⟩ | refine And.intro (by first | decide | omega) ?_ | fail); conv => whnf) | refine Sem.seqS ?_ | refine Sem.block ?_ | fail)
  refine (hdo _ b ⟨setG_same _ _ _, .inl ⟨rfl, rfl⟩⟩).mono fun v G1 hv => ?_; obtain ⟨rfl, mv1, h1, k1⟩ := hv; conv => whnf
  repeat' (first | ((first | refine Sem.reg tt_ok ?_ | refine Sem.condS ?_ | refine Sem.regL tt_ok ?_ | refine Sem.skip tt_ok ?_ | refine Sem.exit tt_ok ?_ | refine Sem.ret tt_ok ?_ | refine BS_t (by assumption) ?_ | refine BS_f (by assumption) ?_ | refine atG (by repeat (first | assumption | exact setG_same _ _ _ | refine Eq.trans (setG_ne _ _ (by first | assumption | exact Ne.symm (by assumption))) ?_)) ?_ | refine (nthK_iff _ _).2 ⟨_, (by assumption), ?_⟩ | refine ⟨_, ⟨(by omega), (by assumption)⟩, ?_⟩ | refine And.intro (by first | decide | omega) ?_ | fail); conv => whnf) | refine Sem.seqS ?_ | refine Sem.block ?_ | fail)
  have ee : ((⟨#[1, 4, 3]⟩ : ByteArray).toList == (⟨#[1, 4, 3]⟩ : ByteArray).toList) = true := beq_self_eq_true _
  rw [ee]
  conv => whnf
  repeat' (first | ((first | refine Sem.reg tt_ok ?_ | refine Sem.condS ?_ | refine Sem.regL tt_ok ?_ | refine Sem.skip tt_ok ?_ | refine Sem.exit tt_ok ?_ | refine Sem.ret tt_ok ?_ | refine BS_t (by assumption) ?_ | refine BS_f (by assumption) ?_ | refine atG (by repeat (first | assumption | exact setG_same _ _ _ | refine Eq.trans (setG_ne _ _ (by first | assumption | exact Ne.symm (by assumption))) ?_)) ?_ | refine (nthK_iff _ _).2 ⟨_, (by assumption), ?_⟩ | refine ⟨_, ⟨(by omega), (by assumption)⟩, ?_⟩ | refine And.intro (by first | decide | omega) ?_ | fail); conv => whnf) | refine Sem.seqS ?_ | refine Sem.block ?_ | fail)
  refine (alives_ok _ b mv1 _ 3 h1).mono fun v G1 hv => ?_; obtain ⟨rfl, rfl⟩ := hv; conv => whnf
  repeat' (first | ((first | refine Sem.reg tt_ok ?_ | refine Sem.condS ?_ | refine Sem.regL tt_ok ?_ | refine Sem.skip tt_ok ?_ | refine Sem.exit tt_ok ?_ | refine Sem.ret tt_ok ?_ | refine BS_t (by assumption) ?_ | refine BS_f (by assumption) ?_ | refine atG (by repeat (first | assumption | exact setG_same _ _ _ | refine Eq.trans (setG_ne _ _ (by first | assumption | exact Ne.symm (by assumption))) ?_)) ?_ | refine (nthK_iff _ _).2 ⟨_, (by assumption), ?_⟩ | refine ⟨_, ⟨(by omega), (by assumption)⟩, ?_⟩ | refine And.intro (by first | decide | omega) ?_ | fail); conv => whnf) | refine Sem.seqS ?_ | refine Sem.block ?_ | fail)
  exact ⟨G, kept_new hb rfl (fun i h => by cases h) k1, rfl, rfl⟩
end Go.Proofs.Ytpnlhnhjedopgaa
