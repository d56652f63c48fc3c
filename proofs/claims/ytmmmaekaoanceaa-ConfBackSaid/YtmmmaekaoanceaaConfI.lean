/- Configurations as arguments of laws; chapter 37's example. -/
import Derived.Test.YtmmmaekaoanceaaOpen
import Derived.Test.YtmmmaekaoanceaaConfP
import Derived.Test.YtmmmaekaoanceaaFrame
set_option maxRecDepth 100000
set_option linter.unusedSimpArgs false
namespace Go.Proofs.Ytmmmaekaoanceaa
open Go Go.RowKit Go.ChangeShapes Go.WideShapes Go.ChangeAt Go.Deep Go.Proofs

theorem list9 {α : Type} {l : List α} (h : l.length = 9) : ∃ a b c d e f g i j, l = [a, b, c, d, e, f, g, i, j] := by match l, h with | [a, b, c, d, e, f, g, i, j], _ => exact ⟨a, b, c, d, e, f, g, i, j, rfl⟩
def Cnf.vals (c : Cnf) : List Value := [.int .i64 c.n0, .int .i64 c.n1, .int .i64 c.n2, .int .i64 c.n3, .int .i64 c.n4, .int .i64 c.n5, .int .i64 c.n6, .int .i64 c.n7, .int .i64 c.n8]
section
variable {H : Type} {enc : TypeId × Value → H} {w : World} {base : Nat} {spare : Nat → Bool} {held : Bool}
theorem cnf_cells {n : Nat} {cs : List Value} {y : DataW H × List MemPlace} (h : DataW.trod enc Try.prog w base spare held n 76 cs = some y) : ∃ c : Cnf, cs = c.vals := by
  obtain ⟨ys, m, h1, h2, h3, h4⟩ := struct_cells Try.underlying76 (by kernel_rfl) (by kernel_rfl) h
  obtain ⟨c0, c1, c2, c3, c4, c5, c6, c7, c8, rfl⟩ := list9 h1
  obtain ⟨y0, y1, y2, y3, y4, y5, y6, y7, y8, rfl⟩ := list9 h2
  obtain ⟨a0, rfl, _, _⟩ := int_field Try.underlying3 (h4 0 _ _ rfl rfl)
  obtain ⟨a1, rfl, _, _⟩ := int_field Try.underlying3 (h4 1 _ _ rfl rfl)
  obtain ⟨a2, rfl, _, _⟩ := int_field Try.underlying3 (h4 2 _ _ rfl rfl)
  obtain ⟨a3, rfl, _, _⟩ := int_field Try.underlying3 (h4 3 _ _ rfl rfl)
  obtain ⟨a4, rfl, _, _⟩ := int_field Try.underlying3 (h4 4 _ _ rfl rfl)
  obtain ⟨a5, rfl, _, _⟩ := int_field Try.underlying3 (h4 5 _ _ rfl rfl)
  obtain ⟨a6, rfl, _, _⟩ := int_field Try.underlying3 (h4 6 _ _ rfl rfl)
  obtain ⟨a7, rfl, _, _⟩ := int_field Try.underlying3 (h4 7 _ _ rfl rfl)
  obtain ⟨a8, rfl, _, _⟩ := int_field Try.underlying3 (h4 8 _ _ rfl rfl)
  exact ⟨⟨a0, a1, a2, a3, a4, a5, a6, a7, a8⟩, rfl⟩
theorem cnf_arg {r : Reach} {b0 : Nat} {v : Value} {d : DataW H} {p : List MemPlace} (hv : Value.okWide Try.prog w r b0 76 v) (h : DataW.Trod enc Try.prog w base spare held 76 v d p) : ∃ c : Cnf, v = .agg c.vals.toArray := by
  obtain ⟨cs, rfl, hsz⟩ := okWide_struct Try.underlying76 hv
  obtain ⟨fuel, hf⟩ := h
  obtain ⟨o, h1⟩ := cnf_cells (cs := cs.toList) (by simpa [Value.cells] using hf)
  exact ⟨o, by rw [← h1]⟩
end
theorem cnf_dz0 {w : World} (c : Cnf) : Dz TT gh0 w c.av (.agg c.vals.toArray) := by
  refine .agg _ _ rfl (fun u hu => ?_) fun i c' u hc hu => ?_
  · simp [Cnf.vals] at hu
    rcases hu with rfl | rfl | rfl | rfl | rfl | rfl | rfl | rfl | rfl <;> rfl
  · match i with
    | 0 | 1 | 2 | 3 | 4 | 5 | 6 | 7 | 8 => simp [Cnf.vals] at hc hu; subst hc hu; exact .int _ _
    | i + 9 => simp at hc
/-- the pair that Of gives, taken apart -/
theorem ofV_is (l : List Int) : ∃ (c : Cnf) (e : Int), ofV l = .tup [c.av, .int .i64 e] ∧ ((e = 0 ∧ goodL l = true ∧ c = cnfOf l) ∨ (e = 1 ∧ goodL l = false ∧ c = zeroC)) := by
  unfold ofV
  cases h : goodL l with
  | true => exact ⟨_, _, rfl, .inl ⟨rfl, rfl, rfl⟩⟩
  | false => exact ⟨_, _, rfl, .inr ⟨rfl, rfl, rfl⟩⟩
theorem cfV_is (x : Option Cnf) : ∃ (c : Cnf) (e : Int), cfV x = .tup [c.av, .int .i64 e] ∧ ((e = 0 ∧ x = some c) ∨ (e = 1 ∧ x = none ∧ c = zeroC)) := by
  cases x with
  | some c => exact ⟨_, _, rfl, .inl ⟨rfl, rfl⟩⟩
  | none => exact ⟨_, _, rfl, .inr ⟨rfl, rfl, rfl⟩⟩
theorem wake37_ok (G : Glob) : CallOk Try.prog TT 50 [] G (fun v G' => v = .bool true ∧ G' = G) := by
  have hp := confput_ok ⟨1040, 1048576, 1048576, 0, 0, 32, 2, 0, 0⟩ G
  have e1 : putC ⟨1040, 1048576, 1048576, 0, 0, 32, 2, 0, 0⟩ = (⟨#[144, 8, 128, 128, 64, 128, 128, 64, 0, 0, 32, 2, 0, 0]⟩, 0) := by
    have h0 : putL 0 = [0] := by rw [putL]; rfl
    have h2 : putL 2 = [2] := by rw [putL]; rfl
    have h32 : putL 32 = [32] := by rw [putL]; rfl
    have h8 : putL 8 = [8] := by rw [putL]; rfl
    have h1040 : putL 1040 = [144, 8] := by rw [putL]; rw [if_neg (by decide)]; rw [show 1040 / 128 = 8 from rfl, h8]; rfl
    have h64 : putL 64 = [64] := by rw [putL]; rfl
    have h8192 : putL 8192 = [128, 64] := by rw [putL]; rw [if_neg (by decide)]; rw [show 8192 / 128 = 64 from rfl, h64]; rfl
    have hM : putL 1048576 = [128, 128, 64] := by rw [putL]; rw [if_neg (by decide)]; rw [show 1048576 / 128 = 8192 from rfl, h8192]; rfl
    have hg : goodC ⟨1040, 1048576, 1048576, 0, 0, 32, 2, 0, 0⟩ = true := by decide
    unfold putC
    rw [hg]
    unfold Cnf.l putI
    simp only [List.flatMap_cons, List.flatMap_nil, show (1040 : Int).toNat = 1040 from rfl, show (1048576 : Int).toNat = 1048576 from rfl, show (0 : Int).toNat = 0 from rfl, show (32 : Int).toNat = 32 from rfl, show (2 : Int).toNat = 2 from rfl, h0, h2, h32, h1040, hM]
    rfl
  rw [e1] at hp
  have ha := confadmin_ok G
  have hr := refadmin_ok G
  unfold Cnf.av at hp ha hr
  have ee : ((⟨#[144, 8, 128, 128, 64, 128, 128, 64, 0, 0, 32, 2, 0, 0]⟩ : ByteArray).toList == (⟨#[144, 8, 128, 128, 64, 128, 128, 64, 0, 0, 32, 2, 0, 0]⟩ : ByteArray).toList) = true := beq_self_eq_true _
  refine call_sem tt_ok Try.func50 rfl (by kernel_rfl) Try.ntmps50 Try.results50 ?_; conv => whnf
  repeat' (first | ((first | refine Sem.reg tt_ok ?_ | refine Sem.condS ?_ | refine Sem.regL tt_ok ?_ | refine Sem.skip tt_ok ?_ | refine Sem.exit tt_ok ?_ | refine Sem.ret tt_ok ?_ | refine BS_t (by assumption) ?_ | refine BS_f (by assumption) ?_ | refine atG (by repeat (first | assumption | exact setG_same _ _ _ | refine Eq.trans (setG_ne _ _ (by first | assumption | exact Ne.symm (by assumption))) ?_)) ?_ | refine (nthK_iff _ _).2 ⟨_, (by assumption), ?_⟩ | refine ⟨_, ⟨(by omega), (by assumption)⟩, ?_⟩ | refine And.intro (by first | decide | omega) ?_ | fail); conv => whnf) | refine Sem.seqS ?_ | refine Sem.block ?_ | fail)
  refine ha.on ?_; conv => whnf
  repeat' (first | ((first | refine Sem.reg tt_ok ?_ | refine Sem.condS ?_ | refine Sem.regL tt_ok ?_ | refine Sem.skip tt_ok ?_ | refine Sem.exit tt_ok ?_ | refine Sem.ret tt_ok ?_ | refine BS_t (by assumption) ?_ | refine BS_f (by assumption) ?_ | refine atG (by repeat (first | assumption | exact setG_same _ _ _ | refine Eq.trans (setG_ne _ _ (by first | assumption | exact Ne.symm (by assumption))) ?_)) ?_ | refine (nthK_iff _ _).2 ⟨_, (by assumption), ?_⟩ | refine ⟨_, ⟨(by omega), (by assumption)⟩, ?_⟩ | refine And.intro (by first | decide | omega) ?_ | fail); conv => whnf) | refine Sem.seqS ?_ | refine Sem.block ?_ | fail)
  refine hp.on ?_; conv => whnf
  repeat' (first | ((first | refine Sem.reg tt_ok ?_ | refine Sem.condS ?_ | refine Sem.regL tt_ok ?_ | refine Sem.skip tt_ok ?_ | refine Sem.exit tt_ok ?_ | refine Sem.ret tt_ok ?_ | refine BS_t (by assumption) ?_ | refine BS_f (by assumption) ?_ | refine atG (by repeat (first | assumption | exact setG_same _ _ _ | refine Eq.trans (setG_ne _ _ (by first | assumption | exact Ne.symm (by assumption))) ?_)) ?_ | refine (nthK_iff _ _).2 ⟨_, (by assumption), ?_⟩ | refine ⟨_, ⟨(by omega), (by assumption)⟩, ?_⟩ | refine And.intro (by first | decide | omega) ?_ | fail); conv => whnf) | refine Sem.seqS ?_ | refine Sem.block ?_ | fail)
  refine ha.on ?_; conv => whnf
  repeat' (first | ((first | refine Sem.reg tt_ok ?_ | refine Sem.condS ?_ | refine Sem.regL tt_ok ?_ | refine Sem.skip tt_ok ?_ | refine Sem.exit tt_ok ?_ | refine Sem.ret tt_ok ?_ | refine BS_t (by assumption) ?_ | refine BS_f (by assumption) ?_ | refine atG (by repeat (first | assumption | exact setG_same _ _ _ | refine Eq.trans (setG_ne _ _ (by first | assumption | exact Ne.symm (by assumption))) ?_)) ?_ | refine (nthK_iff _ _).2 ⟨_, (by assumption), ?_⟩ | refine ⟨_, ⟨(by omega), (by assumption)⟩, ?_⟩ | refine And.intro (by first | decide | omega) ?_ | fail); conv => whnf) | refine Sem.seqS ?_ | refine Sem.block ?_ | fail)
  refine hr.on ?_; conv => whnf
  repeat' (first | ((first | refine Sem.reg tt_ok ?_ | refine Sem.condS ?_ | refine Sem.regL tt_ok ?_ | refine Sem.skip tt_ok ?_ | refine Sem.exit tt_ok ?_ | refine Sem.ret tt_ok ?_ | refine BS_t (by assumption) ?_ | refine BS_f (by assumption) ?_ | refine atG (by repeat (first | assumption | exact setG_same _ _ _ | refine Eq.trans (setG_ne _ _ (by first | assumption | exact Ne.symm (by assumption))) ?_)) ?_ | refine (nthK_iff _ _).2 ⟨_, (by assumption), ?_⟩ | refine ⟨_, ⟨(by omega), (by assumption)⟩, ?_⟩ | refine And.intro (by first | decide | omega) ?_ | fail); conv => whnf) | refine Sem.seqS ?_ | refine Sem.block ?_ | fail)
  exact ⟨_, fun _ _ h => h, rfl, rfl⟩
end Go.Proofs.Ytmmmaekaoanceaa
