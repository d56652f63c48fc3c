/- AdminBytes: which bodies any orders have, and which order any bytes are the body of: the law hands back true. Conditions: none. -/
import Derived.Test.YtpnlhnhjedopgaaFrame
import Derived.Test.YtpnlhnhjedopgaaAdmH
set_option maxRecDepth 100000
set_option linter.unusedSimpArgs false
namespace Go.Proofs.Ytpnlhnhjedopgaa
open Go Go.RowKit Go.ChangeShapes Go.WideShapes Go.ChangeAt Go.Proofs
open Go.ChangeMaps (open_string shut_string)

theorem adminBytes_ok (o : Ord) (b : ByteArray) (ho : o.In) (hb : b.size ≤ maxLen) : CallOk Try.prog TT 3 [.agg o.av, .str b] (fun _ => none) (fun v _ => v = .bool true) := by
  have h1 := fun G => ours_ok o G
  have h2 := fun G => adminput_ok o G ho.1
  have h3 := fun G => refput41_ok o G ho.1
  have h4 := fun G => admintake_ok b G hb
  have h5 := fun G => reftake41_ok b G hb
  have e1 : ((putO o).1.toList == (putO o).1.toList) = true := beq_self_eq_true _
  have e2 : ((putO o).2 == (putO o).2) = true := beq_self_eq_true _
  have h6 := fun o G => ours_ok o G
  generalize putO o = p at *
  obtain ⟨p1, p2⟩ := p
  unfold Ord.av at h1 h2 h3 ⊢
  obtain ⟨x, hx⟩ : ∃ x : Ord × Int, ordV (takeO b) = .tup [.agg x.1.av, .int .i64 x.2] := by
    cases takeO b with
    | none => exact ⟨(zeroO, 1), rfl⟩
    | some y => exact ⟨(y, 0), rfl⟩
  rw [hx] at h4 h5
  obtain ⟨y, z⟩ := x
  simp only at *
  clear hx
  have h6 := h6 y
  unfold Ord.av at h4 h5 h6
  obtain ⟨yi, yo, yw, ⟨n0, n1, n2, n3, n4, n5, n6, n7, n8⟩⟩ := y
  have e4 : (z == z) = true := beq_self_eq_true _
  simp only at *
  refine call_sem tt_ok Try.func3 rfl (by kernel_rfl) Try.ntmps3 Try.results3 ?_; conv => whnf
  repeat' (first | (refine Sem.reg tt_ok ?_; conv => whnf) | refine Sem.seqS ?_ | (refine Sem.condS ?_; conv => whnf) | refine Sem.block ?_ | (refine Sem.regL tt_ok ?_; conv => whnf) | (refine Sem.skip tt_ok ?_; conv => whnf) | (refine Sem.exit tt_ok ?_; conv => whnf) | (refine Sem.ret tt_ok ?_; conv => whnf) | (refine BS_t (by assumption) ?_; conv => whnf) | (refine BS_f (by assumption) ?_; conv => whnf) | (refine atG (by first | assumption | exact setG_same _ _ _ | (refine Eq.trans (setG_ne _ _ (by first | assumption | exact Ne.symm (by assumption))) ?_; first | assumption | exact setG_same _ _ _ | (refine Eq.trans (setG_ne _ _ (by first | assumption | exact Ne.symm (by assumption))) ?_; first | assumption | exact setG_same _ _ _ | (refine Eq.trans (setG_ne _ _ (by first | assumption | exact Ne.symm (by assumption))) ?_; first | assumption | exact setG_same _ _ _)))) ?_; conv => whnf) | (refine (nthK_iff _ _).2 ⟨_, (by assumption), ?_⟩; conv => whnf) | (refine Exists.intro _ (And.intro (And.intro (by omega) (by assumption)) ?_); conv => whnf) | (refine And.intro (by first | decide | omega) ?_; conv => whnf) | fail)
  refine (h1 _).on ?_; conv => whnf
  repeat' (first | (refine Sem.reg tt_ok ?_; conv => whnf) | refine Sem.seqS ?_ | (refine Sem.condS ?_; conv => whnf) | refine Sem.block ?_ | (refine Sem.regL tt_ok ?_; conv => whnf) | (refine Sem.skip tt_ok ?_; conv => whnf) | (refine Sem.exit tt_ok ?_; conv => whnf) | (refine Sem.ret tt_ok ?_; conv => whnf) | (refine BS_t (by assumption) ?_; conv => whnf) | (refine BS_f (by assumption) ?_; conv => whnf) | (refine atG (by first | assumption | exact setG_same _ _ _ | (refine Eq.trans (setG_ne _ _ (by first | assumption | exact Ne.symm (by assumption))) ?_; first | assumption | exact setG_same _ _ _ | (refine Eq.trans (setG_ne _ _ (by first | assumption | exact Ne.symm (by assumption))) ?_; first | assumption | exact setG_same _ _ _ | (refine Eq.trans (setG_ne _ _ (by first | assumption | exact Ne.symm (by assumption))) ?_; first | assumption | exact setG_same _ _ _)))) ?_; conv => whnf) | (refine (nthK_iff _ _).2 ⟨_, (by assumption), ?_⟩; conv => whnf) | (refine Exists.intro _ (And.intro (And.intro (by omega) (by assumption)) ?_); conv => whnf) | (refine And.intro (by first | decide | omega) ?_; conv => whnf) | fail)
  refine (h2 _).on ?_; conv => whnf
  repeat' (first | (refine Sem.reg tt_ok ?_; conv => whnf) | refine Sem.seqS ?_ | (refine Sem.condS ?_; conv => whnf) | refine Sem.block ?_ | (refine Sem.regL tt_ok ?_; conv => whnf) | (refine Sem.skip tt_ok ?_; conv => whnf) | (refine Sem.exit tt_ok ?_; conv => whnf) | (refine Sem.ret tt_ok ?_; conv => whnf) | (refine BS_t (by assumption) ?_; conv => whnf) | (refine BS_f (by assumption) ?_; conv => whnf) | (refine atG (by first | assumption | exact setG_same _ _ _ | (refine Eq.trans (setG_ne _ _ (by first | assumption | exact Ne.symm (by assumption))) ?_; first | assumption | exact setG_same _ _ _ | (refine Eq.trans (setG_ne _ _ (by first | assumption | exact Ne.symm (by assumption))) ?_; first | assumption | exact setG_same _ _ _ | (refine Eq.trans (setG_ne _ _ (by first | assumption | exact Ne.symm (by assumption))) ?_; first | assumption | exact setG_same _ _ _)))) ?_; conv => whnf) | (refine (nthK_iff _ _).2 ⟨_, (by assumption), ?_⟩; conv => whnf) | (refine Exists.intro _ (And.intro (And.intro (by omega) (by assumption)) ?_); conv => whnf) | (refine And.intro (by first | decide | omega) ?_; conv => whnf) | fail)
  refine (h3 _).on ?_; conv => whnf
  repeat' (first | (refine Sem.reg tt_ok ?_; conv => whnf) | refine Sem.seqS ?_ | (refine Sem.condS ?_; conv => whnf) | refine Sem.block ?_ | (refine Sem.regL tt_ok ?_; conv => whnf) | (refine Sem.skip tt_ok ?_; conv => whnf) | (refine Sem.exit tt_ok ?_; conv => whnf) | (refine Sem.ret tt_ok ?_; conv => whnf) | (refine BS_t (by assumption) ?_; conv => whnf) | (refine BS_f (by assumption) ?_; conv => whnf) | (refine atG (by first | assumption | exact setG_same _ _ _ | (refine Eq.trans (setG_ne _ _ (by first | assumption | exact Ne.symm (by assumption))) ?_; first | assumption | exact setG_same _ _ _ | (refine Eq.trans (setG_ne _ _ (by first | assumption | exact Ne.symm (by assumption))) ?_; first | assumption | exact setG_same _ _ _ | (refine Eq.trans (setG_ne _ _ (by first | assumption | exact Ne.symm (by assumption))) ?_; first | assumption | exact setG_same _ _ _)))) ?_; conv => whnf) | (refine (nthK_iff _ _).2 ⟨_, (by assumption), ?_⟩; conv => whnf) | (refine Exists.intro _ (And.intro (And.intro (by omega) (by assumption)) ?_); conv => whnf) | (refine And.intro (by first | decide | omega) ?_; conv => whnf) | fail)
  refine (h4 _).on ?_; conv => whnf
  repeat' (first | (refine Sem.reg tt_ok ?_; conv => whnf) | refine Sem.seqS ?_ | (refine Sem.condS ?_; conv => whnf) | refine Sem.block ?_ | (refine Sem.regL tt_ok ?_; conv => whnf) | (refine Sem.skip tt_ok ?_; conv => whnf) | (refine Sem.exit tt_ok ?_; conv => whnf) | (refine Sem.ret tt_ok ?_; conv => whnf) | (refine BS_t (by assumption) ?_; conv => whnf) | (refine BS_f (by assumption) ?_; conv => whnf) | (refine atG (by first | assumption | exact setG_same _ _ _ | (refine Eq.trans (setG_ne _ _ (by first | assumption | exact Ne.symm (by assumption))) ?_; first | assumption | exact setG_same _ _ _ | (refine Eq.trans (setG_ne _ _ (by first | assumption | exact Ne.symm (by assumption))) ?_; first | assumption | exact setG_same _ _ _ | (refine Eq.trans (setG_ne _ _ (by first | assumption | exact Ne.symm (by assumption))) ?_; first | assumption | exact setG_same _ _ _)))) ?_; conv => whnf) | (refine (nthK_iff _ _).2 ⟨_, (by assumption), ?_⟩; conv => whnf) | (refine Exists.intro _ (And.intro (And.intro (by omega) (by assumption)) ?_); conv => whnf) | (refine And.intro (by first | decide | omega) ?_; conv => whnf) | fail)
  refine (h5 _).on ?_; conv => whnf
  repeat' (first | (refine Sem.reg tt_ok ?_; conv => whnf) | refine Sem.seqS ?_ | (refine Sem.condS ?_; conv => whnf) | refine Sem.block ?_ | (refine Sem.regL tt_ok ?_; conv => whnf) | (refine Sem.skip tt_ok ?_; conv => whnf) | (refine Sem.exit tt_ok ?_; conv => whnf) | (refine Sem.ret tt_ok ?_; conv => whnf) | (refine BS_t (by assumption) ?_; conv => whnf) | (refine BS_f (by assumption) ?_; conv => whnf) | (refine atG (by first | assumption | exact setG_same _ _ _ | (refine Eq.trans (setG_ne _ _ (by first | assumption | exact Ne.symm (by assumption))) ?_; first | assumption | exact setG_same _ _ _ | (refine Eq.trans (setG_ne _ _ (by first | assumption | exact Ne.symm (by assumption))) ?_; first | assumption | exact setG_same _ _ _ | (refine Eq.trans (setG_ne _ _ (by first | assumption | exact Ne.symm (by assumption))) ?_; first | assumption | exact setG_same _ _ _)))) ?_; conv => whnf) | (refine (nthK_iff _ _).2 ⟨_, (by assumption), ?_⟩; conv => whnf) | (refine Exists.intro _ (And.intro (And.intro (by omega) (by assumption)) ?_); conv => whnf) | (refine And.intro (by first | decide | omega) ?_; conv => whnf) | fail)
  have ee : ((yi == yi) && ((yo == yo) && ((yw == yw) && (((n0 == n0) && ((n1 == n1) && ((n2 == n2) && ((n3 == n3) && ((n4 == n4) && ((n5 == n5) && ((n6 == n6) && ((n7 == n7) && ((n8 == n8) && true))))))))) && true)))) = true := by simp
  refine draw_sound (eff := []) tt_ok (by kernel_rfl) (by kernel_rfl) ?_; conv => whnf
  repeat' (first | (refine BS_t (by assumption) ?_; conv => whnf) | (refine BS_f (by assumption) ?_; conv => whnf) | (refine atG (by first | assumption | exact setG_same _ _ _ | (refine Eq.trans (setG_ne _ _ (by first | assumption | exact Ne.symm (by assumption))) ?_; first | assumption | exact setG_same _ _ _ | (refine Eq.trans (setG_ne _ _ (by first | assumption | exact Ne.symm (by assumption))) ?_; first | assumption | exact setG_same _ _ _ | (refine Eq.trans (setG_ne _ _ (by first | assumption | exact Ne.symm (by assumption))) ?_; first | assumption | exact setG_same _ _ _)))) ?_; conv => whnf) | (refine (nthK_iff _ _).2 ⟨_, (by assumption), ?_⟩; conv => whnf) | (refine Exists.intro _ (And.intro (And.intro (by omega) (by assumption)) ?_); conv => whnf) | (refine And.intro (by first | decide | omega) ?_; conv => whnf) | fail)
  refine ⟨_, _, (h6 _), ?_⟩; (conv => whnf); refine And.intro rfl ?_; conv => whnf
  repeat' (first | (refine BS_t (by assumption) ?_; conv => whnf) | (refine BS_f (by assumption) ?_; conv => whnf) | (refine atG (by first | assumption | exact setG_same _ _ _ | (refine Eq.trans (setG_ne _ _ (by first | assumption | exact Ne.symm (by assumption))) ?_; first | assumption | exact setG_same _ _ _ | (refine Eq.trans (setG_ne _ _ (by first | assumption | exact Ne.symm (by assumption))) ?_; first | assumption | exact setG_same _ _ _ | (refine Eq.trans (setG_ne _ _ (by first | assumption | exact Ne.symm (by assumption))) ?_; first | assumption | exact setG_same _ _ _)))) ?_; conv => whnf) | (refine (nthK_iff _ _).2 ⟨_, (by assumption), ?_⟩; conv => whnf) | (refine Exists.intro _ (And.intro (And.intro (by omega) (by assumption)) ?_); conv => whnf) | (refine And.intro (by first | decide | omega) ?_; conv => whnf) | fail)
  refine ⟨_, _, (aawake_ok _), ?_⟩; (conv => whnf); refine And.intro rfl ?_; conv => whnf
  repeat' (first | (refine BS_t (by assumption) ?_; conv => whnf) | (refine BS_f (by assumption) ?_; conv => whnf) | (refine atG (by first | assumption | exact setG_same _ _ _ | (refine Eq.trans (setG_ne _ _ (by first | assumption | exact Ne.symm (by assumption))) ?_; first | assumption | exact setG_same _ _ _ | (refine Eq.trans (setG_ne _ _ (by first | assumption | exact Ne.symm (by assumption))) ?_; first | assumption | exact setG_same _ _ _ | (refine Eq.trans (setG_ne _ _ (by first | assumption | exact Ne.symm (by assumption))) ?_; first | assumption | exact setG_same _ _ _)))) ?_; conv => whnf) | (refine (nthK_iff _ _).2 ⟨_, (by assumption), ?_⟩; conv => whnf) | (refine Exists.intro _ (And.intro (And.intro (by omega) (by assumption)) ?_); conv => whnf) | (refine And.intro (by first | decide | omega) ?_; conv => whnf) | fail)
  repeat' (first | (refine Sem.reg tt_ok ?_; conv => whnf) | refine Sem.seqS ?_ | (refine Sem.condS ?_; conv => whnf) | refine Sem.block ?_ | (refine Sem.regL tt_ok ?_; conv => whnf) | (refine Sem.skip tt_ok ?_; conv => whnf) | (refine Sem.exit tt_ok ?_; conv => whnf) | (refine Sem.ret tt_ok ?_; conv => whnf) | (refine BS_t (by assumption) ?_; conv => whnf) | (refine BS_f (by assumption) ?_; conv => whnf) | (refine atG (by first | assumption | exact setG_same _ _ _ | (refine Eq.trans (setG_ne _ _ (by first | assumption | exact Ne.symm (by assumption))) ?_; first | assumption | exact setG_same _ _ _ | (refine Eq.trans (setG_ne _ _ (by first | assumption | exact Ne.symm (by assumption))) ?_; first | assumption | exact setG_same _ _ _ | (refine Eq.trans (setG_ne _ _ (by first | assumption | exact Ne.symm (by assumption))) ?_; first | assumption | exact setG_same _ _ _)))) ?_; conv => whnf) | (refine (nthK_iff _ _).2 ⟨_, (by assumption), ?_⟩; conv => whnf) | (refine Exists.intro _ (And.intro (And.intro (by omega) (by assumption)) ?_); conv => whnf) | (refine And.intro (by first | decide | omega) ?_; conv => whnf) | fail)
  exact ⟨_, fun _ _ h => h, rfl⟩
theorem adminBytes_walk {H : Type} {enc : TypeId × Value → H} {w0 : World} {base : Nat} {spare : Nat → Bool} {held : Bool} {r : Reach} {b0 : Nat} {v : Value} {d : DataW H} {p : List MemPlace} (hv : Value.okWide Try.prog w0 r b0 26 v) (h : DataW.Trod enc Try.prog w0 base spare held 26 v d p) (b : ByteArray) (hb : b.size ≤ maxLen) (w : World) :
    Calls Try.prog 3 #[v, .string b] w (Gives w (.bool true)) := by
  obtain ⟨o, rfl, ho⟩ := ord_arg hv h
  refine law_of (adminBytes_ok o b ho hb) (fun v G h => h) rfl fun i a u ha hu => ?_
  match i with
  | 0 => simp at ha hu; subst ha hu; exact ord_dz o
  | 1 => simp at ha hu; subst ha hu; exact .str _
  | i + 2 => simp at ha

set_option linter.unusedVariables false in
set_option maxRecDepth 100000 in
theorem adminBytes_contract (H : Type) (enc : TypeId × Value → H) (W : World) (base : Nat) (args : Array Value) (ds gs : List (DataW H)) (before : List MemPlace)
    (hval : ∀ (j : Nat) t v, Try.f3.params[j]? = some t → args[j]? = some v → Value.okWide Try.prog W .any base t v)
    (hW : DataW.Whole enc Try.prog Try.f3.params.toList Rows.adminBytesSpec.vars false W args.toList ds gs before)
    (hsz : (DataW.weightsEach Try.prog (Try.f3.params.toList ++ (Rows.adminBytesSpec).plain.varTypes Try.prog) (ds ++ gs)).all (· ≤ reachBytes) = true) :
    Calls Try.prog 3 args W fun e W' => ∃ v, e = .returned v ∧ Rows.adminBytesSpec.post enc Try.prog Try.f3 false true false false W args v W' := by
  have hW' := hW
  obtain ⟨p, q, hA0, hV, rfl, hfz, hnd⟩ := hW
  have hA : DataW.TrodAll enc Try.prog W 0 (fun _ => true) true Try.f3.params.toList args.toList ds p := hA0
  rw [Try.params3] at hA hval hsz
  obtain ⟨v0, vs0, d0, ds0, p0, q0, hargs, rfl, rfl, h0, r0⟩ := trodAll_cons hA
  obtain ⟨v1, vs1, d1, ds1, p1, q1, rfl, rfl, rfl, h1, r1⟩ := trodAll_cons r0
  obtain ⟨rfl, rfl, rfl⟩ := trodAll_nil r1
  obtain rfl : args = #[v0, v1] := by cases args; simp_all
  obtain ⟨rfl, rfl⟩ := trodVars_none hV
  clear hA0
  have g0 := hval 0 26 v0 rfl rfl
  obtain ⟨a1, rfl, rfl, rfl, w1⟩ := open_string Try.underlying9 (hval 1 9 v1 rfl rfl) h1
  refine (adminBytes_walk g0 h0 a1 w1 W).mono fun e W' ⟨he, hu⟩ => ?_
  subst he
  exact ⟨_, rfl, post_true laidOut (by kernel_rfl) Try.underlying4 rfl rfl hW' rfl hu⟩

theorem adminBytes_closed : joinedFacts Try.prog 3 Try.f3 Rows.adminBytesSpec Rows.adminBytesRow = true := by
  unfold joinedFacts
  rw [fact_mayEnter, fact_lifted, fact_make]
  kernel_rfl

set_option maxRecDepth 100000 in
theorem adminBytes_lifted (os : Os) (started : os.Started) (H : Type) (enc : TypeId × Value → H) :
    ReturnsInHanded {} Try.checked os 3 .any (Rows.adminBytesSpec.pre6 enc Try.prog Try.f3 Rows.adminBytesRow.domain false) (Rows.adminBytesSpec.post enc Try.prog Try.f3 false true false false) := by
  refine returnsInHanded_of_change_sized (C := Try.checked) own started (by kernel_rfl) Try.func3
    (ChangeSpec.witness6 (enc := enc) (C := Try.checked) false ⟨#[], #[.agg #[.int .u64 0, .int .i64 0, .int .i64 0, .int .i64 0, .int .i64 0, .int .i64 0, .int .i64 0, .int .i64 0, .int .i64 0, .int .i64 0, .int .i64 0, .int .i64 0], .string ⟨#[]⟩], []⟩ 8 (by kernel_rfl) (by kernel_rfl) (by kernel_rfl) (by kernel_rfl)) ?_
  intro W base args ds gs before hval hW _ hsz _
  exact adminBytes_contract H enc W base args ds gs before hval hW hsz

theorem adminBytes_holds : Rows.AdminBytesSaid :=
  OpenClaim.holds_of_wide 3 Try.f3 rfl rfl rfl rfl rfl rfl rfl ⟨rfl, rfl, rfl, rfl, rfl⟩ rfl rfl rfl rfl rfl (by kernel_rfl) Try.func3 adminBytes_closed
    (of_decide_eq_true (by kernel_rfl)) (by unfold Func.isWrapper; rw [if_neg (by decide +kernel)]; exact ⟨rfl, rfl⟩)
    (fun os started H enc _ => adminBytes_lifted os started H enc)
end Go.Proofs.Ytpnlhnhjedopgaa
