/- admin.Put and the document's, in the abstract run. -/
import Derived.Test.YtpnlhnhjedopgaaAdmA
set_option maxRecDepth 100000
set_option linter.unusedSimpArgs false
namespace Go.Proofs.Ytpnlhnhjedopgaa
open Go Go.RowKit Go.Proofs

def headL (o : Ord) : List UInt8 := putL o.id.toNat ++ putL o.op.toNat ++ putL o.owner.toNat
def putO (o : Ord) : ByteArray × Int := if formB o then (S (headL o ++ if cfgB o.op then putI o.c.l else []), 0) else (⟨#[]⟩, 1)
theorem formB_in {o : Ord} (h : formB o = true) : inB o := by
  unfold formB at h
  simp only [Bool.and_eq_true, decide_eq_true_eq] at h
  exact h.1
theorem formB_good {o : Ord} (h : formB o = true) (hc : cfgB o.op = true) : goodC o.c = true := by
  unfold formB at h
  rw [hc] at h
  simp only [Bool.and_eq_true, decide_eq_true_eq, Bool.not_true, Bool.false_or] at h
  exact h.2
theorem adminput_ok (o : Ord) (G : Glob) (hid : 0 ≤ o.id ∧ o.id ≤ 18446744073709551615) : CallOk Try.prog TT 19 [.agg o.av] G (fun v G' => v = .tup [.str (putO o).1, .int .i64 (putO o).2] ∧ G' = G) := by
  have h1 := form_ok o G
  have h2 := cfg_ok o.op G
  have h3 := confput_ok o.c G
  cases hf : formB o with
  | false =>
    have hp : putO o = (⟨#[]⟩, 1) := by unfold putO; rw [hf]; rfl
    rw [hp]
    rw [hf, if_neg (by simp)] at h1
    unfold Ord.av at h1 ⊢
    refine call_sem tt_ok Try.func19 rfl (by kernel_rfl) Try.ntmps19 Try.results19 ?_; conv => whnf
    repeat' (first | ((first | refine Sem.reg tt_ok ?_ | refine Sem.condS ?_ | refine Sem.regL tt_ok ?_ | refine Sem.skip tt_ok ?_ | refine Sem.exit tt_ok ?_ | refine Sem.ret tt_ok ?_ | refine BS_t (by assumption) ?_ | refine BS_f (by assumption) ?_ | refine (nthK_iff _ _).2 ⟨_, (by assumption), ?_⟩ | refine ⟨_, ⟨(by omega), (by assumption)⟩, ?_⟩ | refine And.intro (by first | decide | omega) ?_ | fail); conv => whnf) | refine Sem.seqS ?_ | refine Sem.block ?_ | fail)
    refine h1.on ?_; conv => whnf
    repeat' (first | ((first | refine Sem.reg tt_ok ?_ | refine Sem.condS ?_ | refine Sem.regL tt_ok ?_ | refine Sem.skip tt_ok ?_ | refine Sem.exit tt_ok ?_ | refine Sem.ret tt_ok ?_ | refine BS_t (by assumption) ?_ | refine BS_f (by assumption) ?_ | refine (nthK_iff _ _).2 ⟨_, (by assumption), ?_⟩ | refine ⟨_, ⟨(by omega), (by assumption)⟩, ?_⟩ | refine And.intro (by first | decide | omega) ?_ | fail); conv => whnf) | refine Sem.seqS ?_ | refine Sem.block ?_ | fail)
    exact ⟨_, fun _ _ h => h, rfl, rfl⟩
  | true =>
    rw [hf, if_pos rfl] at h1
    have hin := formB_in hf
    have a1 := q_varput o.id G hid.1 hid.2
    have a2 := q_varput o.op G (by unfold inB at hin; omega) (by unfold inB at hin; omega)
    have a3 := q_varput o.owner G (by unfold inB at hin; omega) (by unfold inB at hin; omega)
    have w2 : IntKind.u64.wrap o.op = o.op := by unfold inB at hin; rw [IntKind.wrap_u64]; omega
    have w3 : IntKind.u64.wrap o.owner = o.owner := by unfold inB at hin; rw [IntKind.wrap_u64]; omega
    have b1 := putL_ten (n := o.id.toNat) (by omega)
    have b2 := putL_ten (n := o.op.toNat) (by unfold inB at hin; omega)
    have b3 := putL_ten (n := o.owner.toNat) (by unfold inB at hin; omega)
    have s12 : S (putL o.id.toNat) ++ S (putL o.op.toNat) ++ S (putL o.owner.toNat) = S (headL o) := by rw [S_append, S_append]; rfl
    have n12 : (S (putL o.id.toNat) ++ S (putL o.op.toNat)).size = (putL o.id.toNat).length + (putL o.op.toNat).length := by rw [S_append, S_size, List.length_append]
    have hl : (headL o).length ≤ 30 := by unfold headL; simp only [List.length_append]; omega
    cases hc : cfgB o.op with
    | false =>
      have hp : putO o = (S (headL o), 0) := by unfold putO; rw [hf, hc]; simp
      rw [hp]
      rw [hc] at h2
      unfold Ord.av at h1 ⊢
      obtain ⟨id, op, owner, ⟨n0, n1, n2, n3, n4, n5, n6, n7, n8⟩⟩ := o
      simp only at *
      refine call_sem tt_ok Try.func19 rfl (by kernel_rfl) Try.ntmps19 Try.results19 ?_; conv => whnf
      repeat' (first | ((first | refine Sem.reg tt_ok ?_ | refine Sem.condS ?_ | refine Sem.regL tt_ok ?_ | refine Sem.skip tt_ok ?_ | refine Sem.exit tt_ok ?_ | refine Sem.ret tt_ok ?_ | refine BS_t (by assumption) ?_ | refine BS_f (by assumption) ?_ | refine (nthK_iff _ _).2 ⟨_, (by assumption), ?_⟩ | refine ⟨_, ⟨(by omega), (by assumption)⟩, ?_⟩ | refine And.intro (by first | decide | omega) ?_ | fail); conv => whnf) | refine Sem.seqS ?_ | refine Sem.block ?_ | fail)
      refine h1.on ?_; conv => whnf
      repeat' (first | ((first | refine Sem.reg tt_ok ?_ | refine Sem.condS ?_ | refine Sem.regL tt_ok ?_ | refine Sem.skip tt_ok ?_ | refine Sem.exit tt_ok ?_ | refine Sem.ret tt_ok ?_ | refine BS_t (by assumption) ?_ | refine BS_f (by assumption) ?_ | refine (nthK_iff _ _).2 ⟨_, (by assumption), ?_⟩ | refine ⟨_, ⟨(by omega), (by assumption)⟩, ?_⟩ | refine And.intro (by first | decide | omega) ?_ | fail); conv => whnf) | refine Sem.seqS ?_ | refine Sem.block ?_ | fail)
      refine draw_sound (eff := []) tt_ok (by kernel_rfl) (by kernel_rfl) ?_; conv => whnf
      repeat' (first | ((first | refine BS_t (by assumption) ?_ | refine BS_f (by assumption) ?_ | refine atG (by repeat (first | assumption | exact setG_same _ _ _ | refine Eq.trans (setG_ne _ _ (by first | assumption | exact Ne.symm (by assumption))) ?_)) ?_ | refine (nthK_iff _ _).2 ⟨_, (by assumption), ?_⟩ | refine ⟨_, ⟨(by omega), (by assumption)⟩, ?_⟩ | refine And.intro (by first | decide | omega) ?_ | fail); conv => whnf) | fail)
      refine ⟨_, _, a1, ?_⟩; (conv => whnf); refine And.intro rfl ?_; conv => whnf
      repeat' (first | ((first | refine BS_t (by assumption) ?_ | refine BS_f (by assumption) ?_ | refine atG (by repeat (first | assumption | exact setG_same _ _ _ | refine Eq.trans (setG_ne _ _ (by first | assumption | exact Ne.symm (by assumption))) ?_)) ?_ | refine (nthK_iff _ _).2 ⟨_, (by assumption), ?_⟩ | refine ⟨_, ⟨(by omega), (by assumption)⟩, ?_⟩ | refine And.intro (by first | decide | omega) ?_ | fail); conv => whnf) | fail)
      rw [w2]
      refine ⟨_, _, a2, ?_⟩; (conv => whnf); refine And.intro rfl ?_; conv => whnf
      repeat' (first | ((first | refine BS_t (by assumption) ?_ | refine BS_f (by assumption) ?_ | refine atG (by repeat (first | assumption | exact setG_same _ _ _ | refine Eq.trans (setG_ne _ _ (by first | assumption | exact Ne.symm (by assumption))) ?_)) ?_ | refine (nthK_iff _ _).2 ⟨_, (by assumption), ?_⟩ | refine ⟨_, ⟨(by omega), (by assumption)⟩, ?_⟩ | refine And.intro (by first | decide | omega) ?_ | fail); conv => whnf) | fail)
      refine And.intro (cat_le (Nat.le_trans (Nat.add_le_add (Nat.le_of_eq (S_size _)) (Nat.le_of_eq (S_size _))) (by omega))) ?_; conv => whnf
      repeat' (first | ((first | refine BS_t (by assumption) ?_ | refine BS_f (by assumption) ?_ | refine atG (by repeat (first | assumption | exact setG_same _ _ _ | refine Eq.trans (setG_ne _ _ (by first | assumption | exact Ne.symm (by assumption))) ?_)) ?_ | refine (nthK_iff _ _).2 ⟨_, (by assumption), ?_⟩ | refine ⟨_, ⟨(by omega), (by assumption)⟩, ?_⟩ | refine And.intro (by first | decide | omega) ?_ | fail); conv => whnf) | fail)
      rw [w3]
      refine ⟨_, _, a3, ?_⟩; (conv => whnf); refine And.intro rfl ?_; conv => whnf
      repeat' (first | ((first | refine BS_t (by assumption) ?_ | refine BS_f (by assumption) ?_ | refine atG (by repeat (first | assumption | exact setG_same _ _ _ | refine Eq.trans (setG_ne _ _ (by first | assumption | exact Ne.symm (by assumption))) ?_)) ?_ | refine (nthK_iff _ _).2 ⟨_, (by assumption), ?_⟩ | refine ⟨_, ⟨(by omega), (by assumption)⟩, ?_⟩ | refine And.intro (by first | decide | omega) ?_ | fail); conv => whnf) | fail)
      refine And.intro (cat_le (Nat.le_trans (Nat.add_le_add (Nat.le_of_eq n12) (Nat.le_of_eq (S_size _))) (by omega))) ?_; conv => whnf
      repeat' (first | ((first | refine Sem.reg tt_ok ?_ | refine Sem.condS ?_ | refine Sem.regL tt_ok ?_ | refine Sem.skip tt_ok ?_ | refine Sem.exit tt_ok ?_ | refine Sem.ret tt_ok ?_ | refine BS_t (by assumption) ?_ | refine BS_f (by assumption) ?_ | refine (nthK_iff _ _).2 ⟨_, (by assumption), ?_⟩ | refine ⟨_, ⟨(by omega), (by assumption)⟩, ?_⟩ | refine And.intro (by first | decide | omega) ?_ | fail); conv => whnf) | refine Sem.seqS ?_ | refine Sem.block ?_ | fail)
      refine h2.on ?_; conv => whnf
      repeat' (first | ((first | refine Sem.reg tt_ok ?_ | refine Sem.condS ?_ | refine Sem.regL tt_ok ?_ | refine Sem.skip tt_ok ?_ | refine Sem.exit tt_ok ?_ | refine Sem.ret tt_ok ?_ | refine BS_t (by assumption) ?_ | refine BS_f (by assumption) ?_ | refine (nthK_iff _ _).2 ⟨_, (by assumption), ?_⟩ | refine ⟨_, ⟨(by omega), (by assumption)⟩, ?_⟩ | refine And.intro (by first | decide | omega) ?_ | fail); conv => whnf) | refine Sem.seqS ?_ | refine Sem.block ?_ | fail)
      refine ⟨_, fun _ _ h => h, ?_, rfl⟩
      rw [s12]
    | true =>
      have hg := formB_good hf hc
      have hp : putO o = (S (headL o ++ putI o.c.l), 0) := by unfold putO; rw [hf, hc]; simp
      rw [hp]
      rw [hc] at h2
      have hbd := good_bd hg
      have hsz := putI_size hbd
      have hl9 : o.c.l.length = 9 := rfl
      unfold putC at h3
      rw [hg, if_pos rfl] at h3
      have s3 : S (headL o) ++ S (putI o.c.l) = S (headL o ++ putI o.c.l) := by rw [S_append]
      generalize putI o.c.l = pl at *
      unfold Ord.av at h1 ⊢
      unfold Cnf.av at h3
      clear hbd
      obtain ⟨id, op, owner, ⟨n0, n1, n2, n3, n4, n5, n6, n7, n8⟩⟩ := o
      simp only at *
      refine call_sem tt_ok Try.func19 rfl (by kernel_rfl) Try.ntmps19 Try.results19 ?_; conv => whnf
      repeat' (first | ((first | refine Sem.reg tt_ok ?_ | refine Sem.condS ?_ | refine Sem.regL tt_ok ?_ | refine Sem.skip tt_ok ?_ | refine Sem.exit tt_ok ?_ | refine Sem.ret tt_ok ?_ | refine BS_t (by assumption) ?_ | refine BS_f (by assumption) ?_ | refine (nthK_iff _ _).2 ⟨_, (by assumption), ?_⟩ | refine ⟨_, ⟨(by omega), (by assumption)⟩, ?_⟩ | refine And.intro (by first | decide | omega) ?_ | fail); conv => whnf) | refine Sem.seqS ?_ | refine Sem.block ?_ | fail)
      refine h1.on ?_; conv => whnf
      repeat' (first | ((first | refine Sem.reg tt_ok ?_ | refine Sem.condS ?_ | refine Sem.regL tt_ok ?_ | refine Sem.skip tt_ok ?_ | refine Sem.exit tt_ok ?_ | refine Sem.ret tt_ok ?_ | refine BS_t (by assumption) ?_ | refine BS_f (by assumption) ?_ | refine (nthK_iff _ _).2 ⟨_, (by assumption), ?_⟩ | refine ⟨_, ⟨(by omega), (by assumption)⟩, ?_⟩ | refine And.intro (by first | decide | omega) ?_ | fail); conv => whnf) | refine Sem.seqS ?_ | refine Sem.block ?_ | fail)
      refine draw_sound (eff := []) tt_ok (by kernel_rfl) (by kernel_rfl) ?_; conv => whnf
      repeat' (first | ((first | refine BS_t (by assumption) ?_ | refine BS_f (by assumption) ?_ | refine atG (by repeat (first | assumption | exact setG_same _ _ _ | refine Eq.trans (setG_ne _ _ (by first | assumption | exact Ne.symm (by assumption))) ?_)) ?_ | refine (nthK_iff _ _).2 ⟨_, (by assumption), ?_⟩ | refine ⟨_, ⟨(by omega), (by assumption)⟩, ?_⟩ | refine And.intro (by first | decide | omega) ?_ | fail); conv => whnf) | fail)
      refine ⟨_, _, a1, ?_⟩; (conv => whnf); refine And.intro rfl ?_; conv => whnf
      repeat' (first | ((first | refine BS_t (by assumption) ?_ | refine BS_f (by assumption) ?_ | refine atG (by repeat (first | assumption | exact setG_same _ _ _ | refine Eq.trans (setG_ne _ _ (by first | assumption | exact Ne.symm (by assumption))) ?_)) ?_ | refine (nthK_iff _ _).2 ⟨_, (by assumption), ?_⟩ | refine ⟨_, ⟨(by omega), (by assumption)⟩, ?_⟩ | refine And.intro (by first | decide | omega) ?_ | fail); conv => whnf) | fail)
      rw [w2]
      refine ⟨_, _, a2, ?_⟩; (conv => whnf); refine And.intro rfl ?_; conv => whnf
      repeat' (first | ((first | refine BS_t (by assumption) ?_ | refine BS_f (by assumption) ?_ | refine atG (by repeat (first | assumption | exact setG_same _ _ _ | refine Eq.trans (setG_ne _ _ (by first | assumption | exact Ne.symm (by assumption))) ?_)) ?_ | refine (nthK_iff _ _).2 ⟨_, (by assumption), ?_⟩ | refine ⟨_, ⟨(by omega), (by assumption)⟩, ?_⟩ | refine And.intro (by first | decide | omega) ?_ | fail); conv => whnf) | fail)
      refine And.intro (cat_le (Nat.le_trans (Nat.add_le_add (Nat.le_of_eq (S_size _)) (Nat.le_of_eq (S_size _))) (by omega))) ?_; conv => whnf
      repeat' (first | ((first | refine BS_t (by assumption) ?_ | refine BS_f (by assumption) ?_ | refine atG (by repeat (first | assumption | exact setG_same _ _ _ | refine Eq.trans (setG_ne _ _ (by first | assumption | exact Ne.symm (by assumption))) ?_)) ?_ | refine (nthK_iff _ _).2 ⟨_, (by assumption), ?_⟩ | refine ⟨_, ⟨(by omega), (by assumption)⟩, ?_⟩ | refine And.intro (by first | decide | omega) ?_ | fail); conv => whnf) | fail)
      rw [w3]
      refine ⟨_, _, a3, ?_⟩; (conv => whnf); refine And.intro rfl ?_; conv => whnf
      repeat' (first | ((first | refine BS_t (by assumption) ?_ | refine BS_f (by assumption) ?_ | refine atG (by repeat (first | assumption | exact setG_same _ _ _ | refine Eq.trans (setG_ne _ _ (by first | assumption | exact Ne.symm (by assumption))) ?_)) ?_ | refine (nthK_iff _ _).2 ⟨_, (by assumption), ?_⟩ | refine ⟨_, ⟨(by omega), (by assumption)⟩, ?_⟩ | refine And.intro (by first | decide | omega) ?_ | fail); conv => whnf) | fail)
      refine And.intro (cat_le (Nat.le_trans (Nat.add_le_add (Nat.le_of_eq n12) (Nat.le_of_eq (S_size _))) (by omega))) ?_; conv => whnf
      repeat' (first | ((first | refine Sem.reg tt_ok ?_ | refine Sem.condS ?_ | refine Sem.regL tt_ok ?_ | refine Sem.skip tt_ok ?_ | refine Sem.exit tt_ok ?_ | refine Sem.ret tt_ok ?_ | refine BS_t (by assumption) ?_ | refine BS_f (by assumption) ?_ | refine (nthK_iff _ _).2 ⟨_, (by assumption), ?_⟩ | refine ⟨_, ⟨(by omega), (by assumption)⟩, ?_⟩ | refine And.intro (by first | decide | omega) ?_ | fail); conv => whnf) | refine Sem.seqS ?_ | refine Sem.block ?_ | fail)
      refine h2.on ?_; conv => whnf
      repeat' (first | ((first | refine Sem.reg tt_ok ?_ | refine Sem.condS ?_ | refine Sem.regL tt_ok ?_ | refine Sem.skip tt_ok ?_ | refine Sem.exit tt_ok ?_ | refine Sem.ret tt_ok ?_ | refine BS_t (by assumption) ?_ | refine BS_f (by assumption) ?_ | refine (nthK_iff _ _).2 ⟨_, (by assumption), ?_⟩ | refine ⟨_, ⟨(by omega), (by assumption)⟩, ?_⟩ | refine And.intro (by first | decide | omega) ?_ | fail); conv => whnf) | refine Sem.seqS ?_ | refine Sem.block ?_ | fail)
      refine h3.on ?_; conv => whnf
      repeat' (first | ((first | refine Sem.reg tt_ok ?_ | refine Sem.condS ?_ | refine Sem.regL tt_ok ?_ | refine Sem.skip tt_ok ?_ | refine Sem.exit tt_ok ?_ | refine Sem.ret tt_ok ?_ | refine BS_t (by assumption) ?_ | refine BS_f (by assumption) ?_ | refine (nthK_iff _ _).2 ⟨_, (by assumption), ?_⟩ | refine ⟨_, ⟨(by omega), (by assumption)⟩, ?_⟩ | refine And.intro (by first | decide | omega) ?_ | fail); conv => whnf) | refine Sem.seqS ?_ | refine Sem.block ?_ | fail)
      rw [s12]
      refine And.intro (cat_le (Nat.le_trans (Nat.add_le_add (Nat.le_of_eq (S_size _)) (Nat.le_of_eq (S_size _))) (by omega))) ?_; conv => whnf
      repeat' (first | ((first | refine Sem.reg tt_ok ?_ | refine Sem.condS ?_ | refine Sem.regL tt_ok ?_ | refine Sem.skip tt_ok ?_ | refine Sem.exit tt_ok ?_ | refine Sem.ret tt_ok ?_ | refine BS_t (by assumption) ?_ | refine BS_f (by assumption) ?_ | refine (nthK_iff _ _).2 ⟨_, (by assumption), ?_⟩ | refine ⟨_, ⟨(by omega), (by assumption)⟩, ?_⟩ | refine And.intro (by first | decide | omega) ?_ | fail); conv => whnf) | refine Sem.seqS ?_ | refine Sem.block ?_ | fail)
      refine ⟨_, fun _ _ h => h, ?_, rfl⟩
      rw [s3]
theorem refput41_ok (o : Ord) (G : Glob) (hid : 0 ≤ o.id ∧ o.id ≤ 18446744073709551615) : CallOk Try.prog TT 21 [.agg o.av] G (fun v G' => v = .tup [.str (putO o).1, .int .i64 (putO o).2] ∧ G' = G) := by
  have h1 := refform_ok o G
  have h3 := refput37_ok o.c G
  cases hf : formB o with
  | false =>
    have hp : putO o = (⟨#[]⟩, 1) := by unfold putO; rw [hf]; rfl
    rw [hp]
    rw [hf] at h1
    unfold Ord.av at h1 ⊢
    refine call_sem tt_ok Try.func21 rfl (by kernel_rfl) Try.ntmps21 Try.results21 ?_; conv => whnf
    repeat' (first | ((first | refine Sem.reg tt_ok ?_ | refine Sem.condS ?_ | refine Sem.regL tt_ok ?_ | refine Sem.skip tt_ok ?_ | refine Sem.exit tt_ok ?_ | refine Sem.ret tt_ok ?_ | refine BS_t (by assumption) ?_ | refine BS_f (by assumption) ?_ | refine (nthK_iff _ _).2 ⟨_, (by assumption), ?_⟩ | refine ⟨_, ⟨(by omega), (by assumption)⟩, ?_⟩ | refine And.intro (by first | decide | omega) ?_ | fail); conv => whnf) | refine Sem.seqS ?_ | refine Sem.block ?_ | fail)
    refine h1.on ?_; conv => whnf
    repeat' (first | ((first | refine Sem.reg tt_ok ?_ | refine Sem.condS ?_ | refine Sem.regL tt_ok ?_ | refine Sem.skip tt_ok ?_ | refine Sem.exit tt_ok ?_ | refine Sem.ret tt_ok ?_ | refine BS_t (by assumption) ?_ | refine BS_f (by assumption) ?_ | refine (nthK_iff _ _).2 ⟨_, (by assumption), ?_⟩ | refine ⟨_, ⟨(by omega), (by assumption)⟩, ?_⟩ | refine And.intro (by first | decide | omega) ?_ | fail); conv => whnf) | refine Sem.seqS ?_ | refine Sem.block ?_ | fail)
    exact ⟨_, fun _ _ h => h, rfl, rfl⟩
  | true =>
    rw [hf] at h1
    have hin := formB_in hf
    have a1 := q_refput o.id G hid.1 hid.2
    have a2 := q_refput o.op G (by unfold inB at hin; omega) (by unfold inB at hin; omega)
    have a3 := q_refput o.owner G (by unfold inB at hin; omega) (by unfold inB at hin; omega)
    have w2 : IntKind.u64.wrap o.op = o.op := by unfold inB at hin; rw [IntKind.wrap_u64]; omega
    have w3 : IntKind.u64.wrap o.owner = o.owner := by unfold inB at hin; rw [IntKind.wrap_u64]; omega
    have b1 := putL_ten (n := o.id.toNat) (by omega)
    have b2 := putL_ten (n := o.op.toNat) (by unfold inB at hin; omega)
    have b3 := putL_ten (n := o.owner.toNat) (by unfold inB at hin; omega)
    have s12 : S (putL o.id.toNat) ++ S (putL o.op.toNat) ++ S (putL o.owner.toNat) = S (headL o) := by rw [S_append, S_append]; rfl
    have n12 : (S (putL o.id.toNat) ++ S (putL o.op.toNat)).size = (putL o.id.toNat).length + (putL o.op.toNat).length := by rw [S_append, S_size, List.length_append]
    have hl : (headL o).length ≤ 30 := by unfold headL; simp only [List.length_append]; omega
    cases hc : cfgB o.op with
    | false =>
      have c5 : (o.op == 1) = false := by unfold cfgB at hc; simp at hc; simpa using hc.1
      have c6 : (o.op == 6) = false := by unfold cfgB at hc; simp at hc; simpa using hc.2
      have hp : putO o = (S (headL o), 0) := by unfold putO; rw [hf, hc]; simp
      rw [hp]
      unfold Ord.av at h1 ⊢
      obtain ⟨id, op, owner, ⟨n0, n1, n2, n3, n4, n5, n6, n7, n8⟩⟩ := o
      simp only at *
      refine call_sem tt_ok Try.func21 rfl (by kernel_rfl) Try.ntmps21 Try.results21 ?_; conv => whnf
      repeat' (first | ((first | refine Sem.reg tt_ok ?_ | refine Sem.condS ?_ | refine Sem.regL tt_ok ?_ | refine Sem.skip tt_ok ?_ | refine Sem.exit tt_ok ?_ | refine Sem.ret tt_ok ?_ | refine BS_t (by assumption) ?_ | refine BS_f (by assumption) ?_ | refine (nthK_iff _ _).2 ⟨_, (by assumption), ?_⟩ | refine ⟨_, ⟨(by omega), (by assumption)⟩, ?_⟩ | refine And.intro (by first | decide | omega) ?_ | fail); conv => whnf) | refine Sem.seqS ?_ | refine Sem.block ?_ | fail)
      refine h1.on ?_; conv => whnf
      repeat' (first | ((first | refine Sem.reg tt_ok ?_ | refine Sem.condS ?_ | refine Sem.regL tt_ok ?_ | refine Sem.skip tt_ok ?_ | refine Sem.exit tt_ok ?_ | refine Sem.ret tt_ok ?_ | refine BS_t (by assumption) ?_ | refine BS_f (by assumption) ?_ | refine (nthK_iff _ _).2 ⟨_, (by assumption), ?_⟩ | refine ⟨_, ⟨(by omega), (by assumption)⟩, ?_⟩ | refine And.intro (by first | decide | omega) ?_ | fail); conv => whnf) | refine Sem.seqS ?_ | refine Sem.block ?_ | fail)
      refine draw_sound (eff := []) tt_ok (by kernel_rfl) (by kernel_rfl) ?_; conv => whnf
      repeat' (first | ((first | refine BS_t (by assumption) ?_ | refine BS_f (by assumption) ?_ | refine atG (by repeat (first | assumption | exact setG_same _ _ _ | refine Eq.trans (setG_ne _ _ (by first | assumption | exact Ne.symm (by assumption))) ?_)) ?_ | refine (nthK_iff _ _).2 ⟨_, (by assumption), ?_⟩ | refine ⟨_, ⟨(by omega), (by assumption)⟩, ?_⟩ | refine And.intro (by first | decide | omega) ?_ | fail); conv => whnf) | fail)
      refine ⟨_, _, a1, ?_⟩; (conv => whnf); refine And.intro rfl ?_; conv => whnf
      repeat' (first | ((first | refine BS_t (by assumption) ?_ | refine BS_f (by assumption) ?_ | refine atG (by repeat (first | assumption | exact setG_same _ _ _ | refine Eq.trans (setG_ne _ _ (by first | assumption | exact Ne.symm (by assumption))) ?_)) ?_ | refine (nthK_iff _ _).2 ⟨_, (by assumption), ?_⟩ | refine ⟨_, ⟨(by omega), (by assumption)⟩, ?_⟩ | refine And.intro (by first | decide | omega) ?_ | fail); conv => whnf) | fail)
      rw [w2]
      refine ⟨_, _, a2, ?_⟩; (conv => whnf); refine And.intro rfl ?_; conv => whnf
      repeat' (first | ((first | refine BS_t (by assumption) ?_ | refine BS_f (by assumption) ?_ | refine atG (by repeat (first | assumption | exact setG_same _ _ _ | refine Eq.trans (setG_ne _ _ (by first | assumption | exact Ne.symm (by assumption))) ?_)) ?_ | refine (nthK_iff _ _).2 ⟨_, (by assumption), ?_⟩ | refine ⟨_, ⟨(by omega), (by assumption)⟩, ?_⟩ | refine And.intro (by first | decide | omega) ?_ | fail); conv => whnf) | fail)
      refine And.intro (cat_le (Nat.le_trans (Nat.add_le_add (Nat.le_of_eq (S_size _)) (Nat.le_of_eq (S_size _))) (by omega))) ?_; conv => whnf
      repeat' (first | ((first | refine BS_t (by assumption) ?_ | refine BS_f (by assumption) ?_ | refine atG (by repeat (first | assumption | exact setG_same _ _ _ | refine Eq.trans (setG_ne _ _ (by first | assumption | exact Ne.symm (by assumption))) ?_)) ?_ | refine (nthK_iff _ _).2 ⟨_, (by assumption), ?_⟩ | refine ⟨_, ⟨(by omega), (by assumption)⟩, ?_⟩ | refine And.intro (by first | decide | omega) ?_ | fail); conv => whnf) | fail)
      rw [w3]
      refine ⟨_, _, a3, ?_⟩; (conv => whnf); refine And.intro rfl ?_; conv => whnf
      repeat' (first | ((first | refine BS_t (by assumption) ?_ | refine BS_f (by assumption) ?_ | refine atG (by repeat (first | assumption | exact setG_same _ _ _ | refine Eq.trans (setG_ne _ _ (by first | assumption | exact Ne.symm (by assumption))) ?_)) ?_ | refine (nthK_iff _ _).2 ⟨_, (by assumption), ?_⟩ | refine ⟨_, ⟨(by omega), (by assumption)⟩, ?_⟩ | refine And.intro (by first | decide | omega) ?_ | fail); conv => whnf) | fail)
      refine And.intro (cat_le (Nat.le_trans (Nat.add_le_add (Nat.le_of_eq n12) (Nat.le_of_eq (S_size _))) (by omega))) ?_; conv => whnf
      repeat' (first | ((first | refine Sem.reg tt_ok ?_ | refine Sem.condS ?_ | refine Sem.regL tt_ok ?_ | refine Sem.skip tt_ok ?_ | refine Sem.exit tt_ok ?_ | refine Sem.ret tt_ok ?_ | refine BS_t (by assumption) ?_ | refine BS_f (by assumption) ?_ | refine (nthK_iff _ _).2 ⟨_, (by assumption), ?_⟩ | refine ⟨_, ⟨(by omega), (by assumption)⟩, ?_⟩ | refine And.intro (by first | decide | omega) ?_ | fail); conv => whnf) | refine Sem.seqS ?_ | refine Sem.block ?_ | fail)
      refine ⟨_, fun _ _ h => h, ?_, rfl⟩
      rw [s12]
    | true =>
      have hg := formB_good hf hc
      have hp : putO o = (S (headL o ++ putI o.c.l), 0) := by unfold putO; rw [hf, hc]; simp
      rw [hp]
      have hbd := good_bd hg
      have hsz := putI_size hbd
      have hl9 : o.c.l.length = 9 := rfl
      unfold putC at h3
      rw [hg, if_pos rfl] at h3
      have s3 : S (headL o) ++ S (putI o.c.l) = S (headL o ++ putI o.c.l) := by rw [S_append]
      generalize putI o.c.l = pl at *
      unfold Ord.av at h1 ⊢
      unfold Cnf.av at h3
      clear hbd
      obtain ⟨id, op, owner, ⟨n0, n1, n2, n3, n4, n5, n6, n7, n8⟩⟩ := o
      simp only at *
      have hcc : (op == 1) = true ∨ (op == 1) = false ∧ (op == 6) = true := by
        unfold cfgB at hc; simp at hc
        by_cases h : op = 1
        · left; simpa using h
        · right; rcases hc with hc | hc
          · exact absurd hc h
          · exact ⟨by simpa using h, by simpa using hc⟩
      rcases hcc with c5 | ⟨c5, c6⟩
      · skip
        refine call_sem tt_ok Try.func21 rfl (by kernel_rfl) Try.ntmps21 Try.results21 ?_; conv => whnf
        repeat' (first | ((first | refine Sem.reg tt_ok ?_ | refine Sem.condS ?_ | refine Sem.regL tt_ok ?_ | refine Sem.skip tt_ok ?_ | refine Sem.exit tt_ok ?_ | refine Sem.ret tt_ok ?_ | refine BS_t (by assumption) ?_ | refine BS_f (by assumption) ?_ | refine (nthK_iff _ _).2 ⟨_, (by assumption), ?_⟩ | refine ⟨_, ⟨(by omega), (by assumption)⟩, ?_⟩ | refine And.intro (by first | decide | omega) ?_ | fail); conv => whnf) | refine Sem.seqS ?_ | refine Sem.block ?_ | fail)
        refine h1.on ?_; conv => whnf
        repeat' (first | ((first | refine Sem.reg tt_ok ?_ | refine Sem.condS ?_ | refine Sem.regL tt_ok ?_ | refine Sem.skip tt_ok ?_ | refine Sem.exit tt_ok ?_ | refine Sem.ret tt_ok ?_ | refine BS_t (by assumption) ?_ | refine BS_f (by assumption) ?_ | refine (nthK_iff _ _).2 ⟨_, (by assumption), ?_⟩ | refine ⟨_, ⟨(by omega), (by assumption)⟩, ?_⟩ | refine And.intro (by first | decide | omega) ?_ | fail); conv => whnf) | refine Sem.seqS ?_ | refine Sem.block ?_ | fail)
        refine draw_sound (eff := []) tt_ok (by kernel_rfl) (by kernel_rfl) ?_; conv => whnf
        repeat' (first | ((first | refine BS_t (by assumption) ?_ | refine BS_f (by assumption) ?_ | refine atG (by repeat (first | assumption | exact setG_same _ _ _ | refine Eq.trans (setG_ne _ _ (by first | assumption | exact Ne.symm (by assumption))) ?_)) ?_ | refine (nthK_iff _ _).2 ⟨_, (by assumption), ?_⟩ | refine ⟨_, ⟨(by omega), (by assumption)⟩, ?_⟩ | refine And.intro (by first | decide | omega) ?_ | fail); conv => whnf) | fail)
        refine ⟨_, _, a1, ?_⟩; (conv => whnf); refine And.intro rfl ?_; conv => whnf
        repeat' (first | ((first | refine BS_t (by assumption) ?_ | refine BS_f (by assumption) ?_ | refine atG (by repeat (first | assumption | exact setG_same _ _ _ | refine Eq.trans (setG_ne _ _ (by first | assumption | exact Ne.symm (by assumption))) ?_)) ?_ | refine (nthK_iff _ _).2 ⟨_, (by assumption), ?_⟩ | refine ⟨_, ⟨(by omega), (by assumption)⟩, ?_⟩ | refine And.intro (by first | decide | omega) ?_ | fail); conv => whnf) | fail)
        rw [w2]
        refine ⟨_, _, a2, ?_⟩; (conv => whnf); refine And.intro rfl ?_; conv => whnf
        repeat' (first | ((first | refine BS_t (by assumption) ?_ | refine BS_f (by assumption) ?_ | refine atG (by repeat (first | assumption | exact setG_same _ _ _ | refine Eq.trans (setG_ne _ _ (by first | assumption | exact Ne.symm (by assumption))) ?_)) ?_ | refine (nthK_iff _ _).2 ⟨_, (by assumption), ?_⟩ | refine ⟨_, ⟨(by omega), (by assumption)⟩, ?_⟩ | refine And.intro (by first | decide | omega) ?_ | fail); conv => whnf) | fail)
        refine And.intro (cat_le (Nat.le_trans (Nat.add_le_add (Nat.le_of_eq (S_size _)) (Nat.le_of_eq (S_size _))) (by omega))) ?_; conv => whnf
        repeat' (first | ((first | refine BS_t (by assumption) ?_ | refine BS_f (by assumption) ?_ | refine atG (by repeat (first | assumption | exact setG_same _ _ _ | refine Eq.trans (setG_ne _ _ (by first | assumption | exact Ne.symm (by assumption))) ?_)) ?_ | refine (nthK_iff _ _).2 ⟨_, (by assumption), ?_⟩ | refine ⟨_, ⟨(by omega), (by assumption)⟩, ?_⟩ | refine And.intro (by first | decide | omega) ?_ | fail); conv => whnf) | fail)
        rw [w3]
        refine ⟨_, _, a3, ?_⟩; (conv => whnf); refine And.intro rfl ?_; conv => whnf
        repeat' (first | ((first | refine BS_t (by assumption) ?_ | refine BS_f (by assumption) ?_ | refine atG (by repeat (first | assumption | exact setG_same _ _ _ | refine Eq.trans (setG_ne _ _ (by first | assumption | exact Ne.symm (by assumption))) ?_)) ?_ | refine (nthK_iff _ _).2 ⟨_, (by assumption), ?_⟩ | refine ⟨_, ⟨(by omega), (by assumption)⟩, ?_⟩ | refine And.intro (by first | decide | omega) ?_ | fail); conv => whnf) | fail)
        refine And.intro (cat_le (Nat.le_trans (Nat.add_le_add (Nat.le_of_eq n12) (Nat.le_of_eq (S_size _))) (by omega))) ?_; conv => whnf
        repeat' (first | ((first | refine Sem.reg tt_ok ?_ | refine Sem.condS ?_ | refine Sem.regL tt_ok ?_ | refine Sem.skip tt_ok ?_ | refine Sem.exit tt_ok ?_ | refine Sem.ret tt_ok ?_ | refine BS_t (by assumption) ?_ | refine BS_f (by assumption) ?_ | refine (nthK_iff _ _).2 ⟨_, (by assumption), ?_⟩ | refine ⟨_, ⟨(by omega), (by assumption)⟩, ?_⟩ | refine And.intro (by first | decide | omega) ?_ | fail); conv => whnf) | refine Sem.seqS ?_ | refine Sem.block ?_ | fail)
        refine h3.on ?_; conv => whnf
        repeat' (first | ((first | refine Sem.reg tt_ok ?_ | refine Sem.condS ?_ | refine Sem.regL tt_ok ?_ | refine Sem.skip tt_ok ?_ | refine Sem.exit tt_ok ?_ | refine Sem.ret tt_ok ?_ | refine BS_t (by assumption) ?_ | refine BS_f (by assumption) ?_ | refine (nthK_iff _ _).2 ⟨_, (by assumption), ?_⟩ | refine ⟨_, ⟨(by omega), (by assumption)⟩, ?_⟩ | refine And.intro (by first | decide | omega) ?_ | fail); conv => whnf) | refine Sem.seqS ?_ | refine Sem.block ?_ | fail)
        rw [s12]
        refine And.intro (cat_le (Nat.le_trans (Nat.add_le_add (Nat.le_of_eq (S_size _)) (Nat.le_of_eq (S_size _))) (by omega))) ?_; conv => whnf
        repeat' (first | ((first | refine Sem.reg tt_ok ?_ | refine Sem.condS ?_ | refine Sem.regL tt_ok ?_ | refine Sem.skip tt_ok ?_ | refine Sem.exit tt_ok ?_ | refine Sem.ret tt_ok ?_ | refine BS_t (by assumption) ?_ | refine BS_f (by assumption) ?_ | refine (nthK_iff _ _).2 ⟨_, (by assumption), ?_⟩ | refine ⟨_, ⟨(by omega), (by assumption)⟩, ?_⟩ | refine And.intro (by first | decide | omega) ?_ | fail); conv => whnf) | refine Sem.seqS ?_ | refine Sem.block ?_ | fail)
        refine ⟨_, fun _ _ h => h, ?_, rfl⟩
        rw [s3]
      · skip
        refine call_sem tt_ok Try.func21 rfl (by kernel_rfl) Try.ntmps21 Try.results21 ?_; conv => whnf
        repeat' (first | ((first | refine Sem.reg tt_ok ?_ | refine Sem.condS ?_ | refine Sem.regL tt_ok ?_ | refine Sem.skip tt_ok ?_ | refine Sem.exit tt_ok ?_ | refine Sem.ret tt_ok ?_ | refine BS_t (by assumption) ?_ | refine BS_f (by assumption) ?_ | refine (nthK_iff _ _).2 ⟨_, (by assumption), ?_⟩ | refine ⟨_, ⟨(by omega), (by assumption)⟩, ?_⟩ | refine And.intro (by first | decide | omega) ?_ | fail); conv => whnf) | refine Sem.seqS ?_ | refine Sem.block ?_ | fail)
        refine h1.on ?_; conv => whnf
        repeat' (first | ((first | refine Sem.reg tt_ok ?_ | refine Sem.condS ?_ | refine Sem.regL tt_ok ?_ | refine Sem.skip tt_ok ?_ | refine Sem.exit tt_ok ?_ | refine Sem.ret tt_ok ?_ | refine BS_t (by assumption) ?_ | refine BS_f (by assumption) ?_ | refine (nthK_iff _ _).2 ⟨_, (by assumption), ?_⟩ | refine ⟨_, ⟨(by omega), (by assumption)⟩, ?_⟩ | refine And.intro (by first | decide | omega) ?_ | fail); conv => whnf) | refine Sem.seqS ?_ | refine Sem.block ?_ | fail)
        refine draw_sound (eff := []) tt_ok (by kernel_rfl) (by kernel_rfl) ?_; conv => whnf
        repeat' (first | ((first | refine BS_t (by assumption) ?_ | refine BS_f (by assumption) ?_ | refine atG (by repeat (first | assumption | exact setG_same _ _ _ | refine Eq.trans (setG_ne _ _ (by first | assumption | exact Ne.symm (by assumption))) ?_)) ?_ | refine (nthK_iff _ _).2 ⟨_, (by assumption), ?_⟩ | refine ⟨_, ⟨(by omega), (by assumption)⟩, ?_⟩ | refine And.intro (by first | decide | omega) ?_ | fail); conv => whnf) | fail)
        refine ⟨_, _, a1, ?_⟩; (conv => whnf); refine And.intro rfl ?_; conv => whnf
        repeat' (first | ((first | refine BS_t (by assumption) ?_ | refine BS_f (by assumption) ?_ | refine atG (by repeat (first | assumption | exact setG_same _ _ _ | refine Eq.trans (setG_ne _ _ (by first | assumption | exact Ne.symm (by assumption))) ?_)) ?_ | refine (nthK_iff _ _).2 ⟨_, (by assumption), ?_⟩ | refine ⟨_, ⟨(by omega), (by assumption)⟩, ?_⟩ | refine And.intro (by first | decide | omega) ?_ | fail); conv => whnf) | fail)
        rw [w2]
        refine ⟨_, _, a2, ?_⟩; (conv => whnf); refine And.intro rfl ?_; conv => whnf
        repeat' (first | ((first | refine BS_t (by assumption) ?_ | refine BS_f (by assumption) ?_ | refine atG (by repeat (first | assumption | exact setG_same _ _ _ | refine Eq.trans (setG_ne _ _ (by first | assumption | exact Ne.symm (by assumption))) ?_)) ?_ | refine (nthK_iff _ _).2 ⟨_, (by assumption), ?_⟩ | refine ⟨_, ⟨(by omega), (by assumption)⟩, ?_⟩ | refine And.intro (by first | decide | omega) ?_ | fail); conv => whnf) | fail)
        refine And.intro (cat_le (Nat.le_trans (Nat.add_le_add (Nat.le_of_eq (S_size _)) (Nat.le_of_eq (S_size _))) (by omega))) ?_; conv => whnf
        repeat' (first | ((first | refine BS_t (by assumption) ?_ | refine BS_f (by assumption) ?_ | refine atG (by repeat (first | assumption | exact setG_same _ _ _ | refine Eq.trans (setG_ne _ _ (by first | assumption | exact Ne.symm (by assumption))) ?_)) ?_ | refine (nthK_iff _ _).2 ⟨_, (by assumption), ?_⟩ | refine ⟨_, ⟨(by omega), (by assumption)⟩, ?_⟩ | refine And.intro (by first | decide | omega) ?_ | fail); conv => whnf) | fail)
        rw [w3]
        refine ⟨_, _, a3, ?_⟩; (conv => whnf); refine And.intro rfl ?_; conv => whnf
        repeat' (first | ((first | refine BS_t (by assumption) ?_ | refine BS_f (by assumption) ?_ | refine atG (by repeat (first | assumption | exact setG_same _ _ _ | refine Eq.trans (setG_ne _ _ (by first | assumption | exact Ne.symm (by assumption))) ?_)) ?_ | refine (nthK_iff _ _).2 ⟨_, (by assumption), ?_⟩ | refine ⟨_, ⟨(by omega), (by assumption)⟩, ?_⟩ | refine And.intro (by first | decide | omega) ?_ | fail); conv => whnf) | fail)
        refine And.intro (cat_le (Nat.le_trans (Nat.add_le_add (Nat.le_of_eq n12) (Nat.le_of_eq (S_size _))) (by omega))) ?_; conv => whnf
        repeat' (first | ((first | refine Sem.reg tt_ok ?_ | refine Sem.condS ?_ | refine Sem.regL tt_ok ?_ | refine Sem.skip tt_ok ?_ | refine Sem.exit tt_ok ?_ | refine Sem.ret tt_ok ?_ | refine BS_t (by assumption) ?_ | refine BS_f (by assumption) ?_ | refine (nthK_iff _ _).2 ⟨_, (by assumption), ?_⟩ | refine ⟨_, ⟨(by omega), (by assumption)⟩, ?_⟩ | refine And.intro (by first | decide | omega) ?_ | fail); conv => whnf) | refine Sem.seqS ?_ | refine Sem.block ?_ | fail)
        refine h3.on ?_; conv => whnf
        repeat' (first | ((first | refine Sem.reg tt_ok ?_ | refine Sem.condS ?_ | refine Sem.regL tt_ok ?_ | refine Sem.skip tt_ok ?_ | refine Sem.exit tt_ok ?_ | refine Sem.ret tt_ok ?_ | refine BS_t (by assumption) ?_ | refine BS_f (by assumption) ?_ | refine (nthK_iff _ _).2 ⟨_, (by assumption), ?_⟩ | refine ⟨_, ⟨(by omega), (by assumption)⟩, ?_⟩ | refine And.intro (by first | decide | omega) ?_ | fail); conv => whnf) | refine Sem.seqS ?_ | refine Sem.block ?_ | fail)
        rw [s12]
        refine And.intro (cat_le (Nat.le_trans (Nat.add_le_add (Nat.le_of_eq (S_size _)) (Nat.le_of_eq (S_size _))) (by omega))) ?_; conv => whnf
        repeat' (first | ((first | refine Sem.reg tt_ok ?_ | refine Sem.condS ?_ | refine Sem.regL tt_ok ?_ | refine Sem.skip tt_ok ?_ | refine Sem.exit tt_ok ?_ | refine Sem.ret tt_ok ?_ | refine BS_t (by assumption) ?_ | refine BS_f (by assumption) ?_ | refine (nthK_iff _ _).2 ⟨_, (by assumption), ?_⟩ | refine ⟨_, ⟨(by omega), (by assumption)⟩, ?_⟩ | refine And.intro (by first | decide | omega) ?_ | fail); conv => whnf) | refine Sem.seqS ?_ | refine Sem.block ?_ | fail)
        refine ⟨_, fun _ _ h => h, ?_, rfl⟩
        rw [s3]
end Go.Proofs.Ytpnlhnhjedopgaa
