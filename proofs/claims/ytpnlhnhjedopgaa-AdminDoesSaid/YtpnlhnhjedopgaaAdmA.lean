/- admin: orders' form and bytes, and the document's, in the abstract run. -/
import Derived.Test.YtpnlhnhjedopgaaConfH
set_option maxRecDepth 100000
set_option linter.unusedSimpArgs false
namespace Go.Proofs.Ytpnlhnhjedopgaa
open Go Go.RowKit Go.Proofs

structure Ord where
  id : Int
  op : Int
  owner : Int
  c : Cnf
def Ord.av (o : Ord) : List AV := [.int .u64 o.id, .int .i64 o.op, .int .i64 o.owner, .int .i64 o.c.n0, .int .i64 o.c.n1, .int .i64 o.c.n2, .int .i64 o.c.n3, .int .i64 o.c.n4, .int .i64 o.c.n5, .int .i64 o.c.n6, .int .i64 o.c.n7, .int .i64 o.c.n8]
def cfgB (op : Int) : Bool := decide (op = 1) || decide (op = 6)
def inB (o : Ord) : Prop := (1 ≤ o.op ∧ o.op ≤ 6) ∧ 1 ≤ o.owner ∧ o.owner ≤ 8
instance (o : Ord) : Decidable (inB o) := inferInstanceAs (Decidable (_ ∧ _))
def formB (o : Ord) : Bool := decide (inB o) && (!cfgB o.op || goodC o.c)
theorem cfg_ok (op : Int) (G : Glob) : CallOk Try.prog TT 92 [.int .i64 op] G (fun v G' => v = .bool (cfgB op) ∧ G' = G) := by
  by_cases h1 : op = 1
  · have c1 : (op == 1) = true := by simpa using h1
    have e : cfgB op = true := by simp [cfgB, h1]
    rw [e]
    refine call_sem tt_ok Try.func92 rfl (by kernel_rfl) Try.ntmps92 Try.results92 ?_; conv => whnf
    repeat' (first | ((first | refine Sem.reg tt_ok ?_ | refine Sem.condS ?_ | refine Sem.regL tt_ok ?_ | refine Sem.skip tt_ok ?_ | refine Sem.exit tt_ok ?_ | refine Sem.ret tt_ok ?_ | refine BS_t (by assumption) ?_ | refine BS_f (by assumption) ?_ | refine (nthK_iff _ _).2 ⟨_, (by assumption), ?_⟩ | refine ⟨_, ⟨(by omega), (by assumption)⟩, ?_⟩ | refine And.intro (by first | decide | omega) ?_ | fail); conv => whnf) | refine Sem.seqS ?_ | refine Sem.block ?_ | fail)
    exact ⟨_, fun _ _ h => h, rfl, rfl⟩
  · have c1 : (op == 1) = false := by simpa using h1
    by_cases h6 : op = 6
    · have c2 : (op == 6) = true := by simpa using h6
      have e : cfgB op = true := by simp [cfgB, h6]
      rw [e]
      refine call_sem tt_ok Try.func92 rfl (by kernel_rfl) Try.ntmps92 Try.results92 ?_; conv => whnf
      repeat' (first | ((first | refine Sem.reg tt_ok ?_ | refine Sem.condS ?_ | refine Sem.regL tt_ok ?_ | refine Sem.skip tt_ok ?_ | refine Sem.exit tt_ok ?_ | refine Sem.ret tt_ok ?_ | refine BS_t (by assumption) ?_ | refine BS_f (by assumption) ?_ | refine (nthK_iff _ _).2 ⟨_, (by assumption), ?_⟩ | refine ⟨_, ⟨(by omega), (by assumption)⟩, ?_⟩ | refine And.intro (by first | decide | omega) ?_ | fail); conv => whnf) | refine Sem.seqS ?_ | refine Sem.block ?_ | fail)
      refine ⟨_, fun _ _ h => h, ?_, rfl⟩
      rw [c2]
    · have c2 : (op == 6) = false := by simpa using h6
      have e : cfgB op = false := by simp [cfgB, h1, h6]
      rw [e]
      refine call_sem tt_ok Try.func92 rfl (by kernel_rfl) Try.ntmps92 Try.results92 ?_; conv => whnf
      repeat' (first | ((first | refine Sem.reg tt_ok ?_ | refine Sem.condS ?_ | refine Sem.regL tt_ok ?_ | refine Sem.skip tt_ok ?_ | refine Sem.exit tt_ok ?_ | refine Sem.ret tt_ok ?_ | refine BS_t (by assumption) ?_ | refine BS_f (by assumption) ?_ | refine (nthK_iff _ _).2 ⟨_, (by assumption), ?_⟩ | refine ⟨_, ⟨(by omega), (by assumption)⟩, ?_⟩ | refine And.intro (by first | decide | omega) ?_ | fail); conv => whnf) | refine Sem.seqS ?_ | refine Sem.block ?_ | fail)
      refine ⟨_, fun _ _ h => h, ?_, rfl⟩
      rw [c2]
/-- the ways in which an order's numbers may stand -/
inductive InW (o : Ord) : Prop
  | a (h : o.op < 1)
  | b (h0 : ¬ o.op < 1) (h : o.op > 6)
  | c (h0 : ¬ o.op < 1) (h1 : ¬ o.op > 6) (h : o.owner < 1)
  | d (h0 : ¬ o.op < 1) (h1 : ¬ o.op > 6) (h2 : ¬ o.owner < 1) (h : o.owner > 8)
  | e (h0 : ¬ o.op < 1) (h1 : ¬ o.op > 6) (h2 : ¬ o.owner < 1) (h3 : ¬ o.owner > 8)
theorem inW (o : Ord) : InW o := by
  by_cases h0 : o.op < 1
  · exact .a h0
  · by_cases h1 : o.op > 6
    · exact .b h0 h1
    · by_cases h2 : o.owner < 1
      · exact .c h0 h1 h2
      · by_cases h3 : o.owner > 8
        · exact .d h0 h1 h2 h3
        · exact .e h0 h1 h2 h3
theorem form_no {o : Ord} (h : ¬ inB o) : formB o = false := by unfold formB; rw [decide_eq_false h]; rfl
theorem form_ok (o : Ord) (G : Glob) : CallOk Try.prog TT 90 [.agg o.av] G (fun v G' => v = .int .i64 (if formB o then 0 else 1) ∧ G' = G) := by
  have hw := inW o
  have h1 := check_ok o.c G
  have h2 := cfg_ok o.op G
  obtain ⟨id, op, owner, ⟨n0, n1, n2, n3, n4, n5, n6, n7, n8⟩⟩ := o
  unfold Ord.av
  unfold Cnf.av at h1
  simp only at h1 h2
  cases hw with
  | a h =>
    have c1 : decide (op < 1) = true := by simpa using h
    rw [form_no (by unfold inB; simp only at h ⊢; omega)]
    refine call_sem tt_ok Try.func90 rfl (by kernel_rfl) Try.ntmps90 Try.results90 ?_; conv => whnf
    repeat' (first | ((first | refine Sem.reg tt_ok ?_ | refine Sem.condS ?_ | refine Sem.regL tt_ok ?_ | refine Sem.skip tt_ok ?_ | refine Sem.exit tt_ok ?_ | refine Sem.ret tt_ok ?_ | refine BS_t (by assumption) ?_ | refine BS_f (by assumption) ?_ | refine (nthK_iff _ _).2 ⟨_, (by assumption), ?_⟩ | refine ⟨_, ⟨(by omega), (by assumption)⟩, ?_⟩ | refine And.intro (by first | decide | omega) ?_ | fail); conv => whnf) | refine Sem.seqS ?_ | refine Sem.block ?_ | fail)
    exact ⟨_, fun _ _ h => h, rfl, rfl⟩
  | b h0 h =>
    have c1 : decide (op < 1) = false := by simpa using h0
    have c2 : decide (op > 6) = true := by simpa using h
    rw [form_no (by unfold inB; simp only at h ⊢; omega)]
    refine call_sem tt_ok Try.func90 rfl (by kernel_rfl) Try.ntmps90 Try.results90 ?_; conv => whnf
    repeat' (first | ((first | refine Sem.reg tt_ok ?_ | refine Sem.condS ?_ | refine Sem.regL tt_ok ?_ | refine Sem.skip tt_ok ?_ | refine Sem.exit tt_ok ?_ | refine Sem.ret tt_ok ?_ | refine BS_t (by assumption) ?_ | refine BS_f (by assumption) ?_ | refine (nthK_iff _ _).2 ⟨_, (by assumption), ?_⟩ | refine ⟨_, ⟨(by omega), (by assumption)⟩, ?_⟩ | refine And.intro (by first | decide | omega) ?_ | fail); conv => whnf) | refine Sem.seqS ?_ | refine Sem.block ?_ | fail)
    exact ⟨_, fun _ _ h => h, rfl, rfl⟩
  | c h0 h1' h =>
    have c1 : decide (op < 1) = false := by simpa using h0
    have c2 : decide (op > 6) = false := by simpa using h1'
    have c3 : decide (owner < 1) = true := by simpa using h
    rw [form_no (by unfold inB; simp only at h ⊢; omega)]
    refine call_sem tt_ok Try.func90 rfl (by kernel_rfl) Try.ntmps90 Try.results90 ?_; conv => whnf
    repeat' (first | ((first | refine Sem.reg tt_ok ?_ | refine Sem.condS ?_ | refine Sem.regL tt_ok ?_ | refine Sem.skip tt_ok ?_ | refine Sem.exit tt_ok ?_ | refine Sem.ret tt_ok ?_ | refine BS_t (by assumption) ?_ | refine BS_f (by assumption) ?_ | refine (nthK_iff _ _).2 ⟨_, (by assumption), ?_⟩ | refine ⟨_, ⟨(by omega), (by assumption)⟩, ?_⟩ | refine And.intro (by first | decide | omega) ?_ | fail); conv => whnf) | refine Sem.seqS ?_ | refine Sem.block ?_ | fail)
    exact ⟨_, fun _ _ h => h, rfl, rfl⟩
  | d h0 h1' h2' h =>
    have c1 : decide (op < 1) = false := by simpa using h0
    have c2 : decide (op > 6) = false := by simpa using h1'
    have c3 : decide (owner < 1) = false := by simpa using h2'
    have c4 : decide (owner > 8) = true := by simpa using h
    rw [form_no (by unfold inB; simp only at h ⊢; omega)]
    refine call_sem tt_ok Try.func90 rfl (by kernel_rfl) Try.ntmps90 Try.results90 ?_; conv => whnf
    repeat' (first | ((first | refine Sem.reg tt_ok ?_ | refine Sem.condS ?_ | refine Sem.regL tt_ok ?_ | refine Sem.skip tt_ok ?_ | refine Sem.exit tt_ok ?_ | refine Sem.ret tt_ok ?_ | refine BS_t (by assumption) ?_ | refine BS_f (by assumption) ?_ | refine (nthK_iff _ _).2 ⟨_, (by assumption), ?_⟩ | refine ⟨_, ⟨(by omega), (by assumption)⟩, ?_⟩ | refine And.intro (by first | decide | omega) ?_ | fail); conv => whnf) | refine Sem.seqS ?_ | refine Sem.block ?_ | fail)
    exact ⟨_, fun _ _ h => h, rfl, rfl⟩
  | e h0 h1' h2' h3 =>
    have c1 : decide (op < 1) = false := by simpa using h0
    have c2 : decide (op > 6) = false := by simpa using h1'
    have c3 : decide (owner < 1) = false := by simpa using h2'
    have c4 : decide (owner > 8) = false := by simpa using h3
    have hin : inB ⟨id, op, owner, ⟨n0, n1, n2, n3, n4, n5, n6, n7, n8⟩⟩ := by unfold inB; simp only at h0 h1' h2' h3 ⊢; omega
    have hf : formB ⟨id, op, owner, ⟨n0, n1, n2, n3, n4, n5, n6, n7, n8⟩⟩ = (!cfgB op || goodC ⟨n0, n1, n2, n3, n4, n5, n6, n7, n8⟩) := by unfold formB; rw [decide_eq_true hin]; rfl
    rw [hf]
    cases hc : cfgB op with
    | false =>
      rw [hc] at h2
      refine call_sem tt_ok Try.func90 rfl (by kernel_rfl) Try.ntmps90 Try.results90 ?_; conv => whnf
      repeat' (first | ((first | refine Sem.reg tt_ok ?_ | refine Sem.condS ?_ | refine Sem.regL tt_ok ?_ | refine Sem.skip tt_ok ?_ | refine Sem.exit tt_ok ?_ | refine Sem.ret tt_ok ?_ | refine BS_t (by assumption) ?_ | refine BS_f (by assumption) ?_ | refine (nthK_iff _ _).2 ⟨_, (by assumption), ?_⟩ | refine ⟨_, ⟨(by omega), (by assumption)⟩, ?_⟩ | refine And.intro (by first | decide | omega) ?_ | fail); conv => whnf) | refine Sem.seqS ?_ | refine Sem.block ?_ | fail)
      refine h2.on ?_; conv => whnf
      repeat' (first | ((first | refine Sem.reg tt_ok ?_ | refine Sem.condS ?_ | refine Sem.regL tt_ok ?_ | refine Sem.skip tt_ok ?_ | refine Sem.exit tt_ok ?_ | refine Sem.ret tt_ok ?_ | refine BS_t (by assumption) ?_ | refine BS_f (by assumption) ?_ | refine (nthK_iff _ _).2 ⟨_, (by assumption), ?_⟩ | refine ⟨_, ⟨(by omega), (by assumption)⟩, ?_⟩ | refine And.intro (by first | decide | omega) ?_ | fail); conv => whnf) | refine Sem.seqS ?_ | refine Sem.block ?_ | fail)
      exact ⟨_, fun _ _ h => h, rfl, rfl⟩
    | true =>
      rw [hc] at h2
      refine call_sem tt_ok Try.func90 rfl (by kernel_rfl) Try.ntmps90 Try.results90 ?_; conv => whnf
      repeat' (first | ((first | refine Sem.reg tt_ok ?_ | refine Sem.condS ?_ | refine Sem.regL tt_ok ?_ | refine Sem.skip tt_ok ?_ | refine Sem.exit tt_ok ?_ | refine Sem.ret tt_ok ?_ | refine BS_t (by assumption) ?_ | refine BS_f (by assumption) ?_ | refine (nthK_iff _ _).2 ⟨_, (by assumption), ?_⟩ | refine ⟨_, ⟨(by omega), (by assumption)⟩, ?_⟩ | refine And.intro (by first | decide | omega) ?_ | fail); conv => whnf) | refine Sem.seqS ?_ | refine Sem.block ?_ | fail)
      refine h2.on ?_; conv => whnf
      repeat' (first | ((first | refine Sem.reg tt_ok ?_ | refine Sem.condS ?_ | refine Sem.regL tt_ok ?_ | refine Sem.skip tt_ok ?_ | refine Sem.exit tt_ok ?_ | refine Sem.ret tt_ok ?_ | refine BS_t (by assumption) ?_ | refine BS_f (by assumption) ?_ | refine (nthK_iff _ _).2 ⟨_, (by assumption), ?_⟩ | refine ⟨_, ⟨(by omega), (by assumption)⟩, ?_⟩ | refine And.intro (by first | decide | omega) ?_ | fail); conv => whnf) | refine Sem.seqS ?_ | refine Sem.block ?_ | fail)
      refine h1.on ?_; conv => whnf
      repeat' (first | ((first | refine Sem.reg tt_ok ?_ | refine Sem.condS ?_ | refine Sem.regL tt_ok ?_ | refine Sem.skip tt_ok ?_ | refine Sem.exit tt_ok ?_ | refine Sem.ret tt_ok ?_ | refine BS_t (by assumption) ?_ | refine BS_f (by assumption) ?_ | refine (nthK_iff _ _).2 ⟨_, (by assumption), ?_⟩ | refine ⟨_, ⟨(by omega), (by assumption)⟩, ?_⟩ | refine And.intro (by first | decide | omega) ?_ | fail); conv => whnf) | refine Sem.seqS ?_ | refine Sem.block ?_ | fail)
      exact ⟨_, fun _ _ h => h, rfl, rfl⟩
theorem refform_ok (o : Ord) (G : Glob) : CallOk Try.prog TT 94 [.agg o.av] G (fun v G' => v = .bool (formB o) ∧ G' = G) := by
  have hw := inW o
  have h1 := refcheck_ok o.c G
  obtain ⟨id, op, owner, ⟨n0, n1, n2, n3, n4, n5, n6, n7, n8⟩⟩ := o
  unfold Ord.av
  unfold Cnf.av at h1
  simp only at h1
  cases hw with
  | a h =>
    have c1 : decide (op < 1) = true := by simpa using h
    rw [form_no (by unfold inB; simp only at h ⊢; omega)]
    refine call_sem tt_ok Try.func94 rfl (by kernel_rfl) Try.ntmps94 Try.results94 ?_; conv => whnf
    repeat' (first | ((first | refine Sem.reg tt_ok ?_ | refine Sem.condS ?_ | refine Sem.regL tt_ok ?_ | refine Sem.skip tt_ok ?_ | refine Sem.exit tt_ok ?_ | refine Sem.ret tt_ok ?_ | refine BS_t (by assumption) ?_ | refine BS_f (by assumption) ?_ | refine (nthK_iff _ _).2 ⟨_, (by assumption), ?_⟩ | refine ⟨_, ⟨(by omega), (by assumption)⟩, ?_⟩ | refine And.intro (by first | decide | omega) ?_ | fail); conv => whnf) | refine Sem.seqS ?_ | refine Sem.block ?_ | fail)
    exact ⟨_, fun _ _ h => h, rfl, rfl⟩
  | b h0 h =>
    have c1 : decide (op < 1) = false := by simpa using h0
    have c2 : decide (op > 6) = true := by simpa using h
    rw [form_no (by unfold inB; simp only at h ⊢; omega)]
    refine call_sem tt_ok Try.func94 rfl (by kernel_rfl) Try.ntmps94 Try.results94 ?_; conv => whnf
    repeat' (first | ((first | refine Sem.reg tt_ok ?_ | refine Sem.condS ?_ | refine Sem.regL tt_ok ?_ | refine Sem.skip tt_ok ?_ | refine Sem.exit tt_ok ?_ | refine Sem.ret tt_ok ?_ | refine BS_t (by assumption) ?_ | refine BS_f (by assumption) ?_ | refine (nthK_iff _ _).2 ⟨_, (by assumption), ?_⟩ | refine ⟨_, ⟨(by omega), (by assumption)⟩, ?_⟩ | refine And.intro (by first | decide | omega) ?_ | fail); conv => whnf) | refine Sem.seqS ?_ | refine Sem.block ?_ | fail)
    exact ⟨_, fun _ _ h => h, rfl, rfl⟩
  | c h0 h1' h =>
    have c1 : decide (op < 1) = false := by simpa using h0
    have c2 : decide (op > 6) = false := by simpa using h1'
    have c3 : decide (owner < 1) = true := by simpa using h
    rw [form_no (by unfold inB; simp only at h ⊢; omega)]
    refine call_sem tt_ok Try.func94 rfl (by kernel_rfl) Try.ntmps94 Try.results94 ?_; conv => whnf
    repeat' (first | ((first | refine Sem.reg tt_ok ?_ | refine Sem.condS ?_ | refine Sem.regL tt_ok ?_ | refine Sem.skip tt_ok ?_ | refine Sem.exit tt_ok ?_ | refine Sem.ret tt_ok ?_ | refine BS_t (by assumption) ?_ | refine BS_f (by assumption) ?_ | refine (nthK_iff _ _).2 ⟨_, (by assumption), ?_⟩ | refine ⟨_, ⟨(by omega), (by assumption)⟩, ?_⟩ | refine And.intro (by first | decide | omega) ?_ | fail); conv => whnf) | refine Sem.seqS ?_ | refine Sem.block ?_ | fail)
    exact ⟨_, fun _ _ h => h, rfl, rfl⟩
  | d h0 h1' h2' h =>
    have c1 : decide (op < 1) = false := by simpa using h0
    have c2 : decide (op > 6) = false := by simpa using h1'
    have c3 : decide (owner < 1) = false := by simpa using h2'
    have c4 : decide (owner > 8) = true := by simpa using h
    rw [form_no (by unfold inB; simp only at h ⊢; omega)]
    refine call_sem tt_ok Try.func94 rfl (by kernel_rfl) Try.ntmps94 Try.results94 ?_; conv => whnf
    repeat' (first | ((first | refine Sem.reg tt_ok ?_ | refine Sem.condS ?_ | refine Sem.regL tt_ok ?_ | refine Sem.skip tt_ok ?_ | refine Sem.exit tt_ok ?_ | refine Sem.ret tt_ok ?_ | refine BS_t (by assumption) ?_ | refine BS_f (by assumption) ?_ | refine (nthK_iff _ _).2 ⟨_, (by assumption), ?_⟩ | refine ⟨_, ⟨(by omega), (by assumption)⟩, ?_⟩ | refine And.intro (by first | decide | omega) ?_ | fail); conv => whnf) | refine Sem.seqS ?_ | refine Sem.block ?_ | fail)
    exact ⟨_, fun _ _ h => h, rfl, rfl⟩
  | e h0 h1' h2' h3 =>
    have c1 : decide (op < 1) = false := by simpa using h0
    have c2 : decide (op > 6) = false := by simpa using h1'
    have c3 : decide (owner < 1) = false := by simpa using h2'
    have c4 : decide (owner > 8) = false := by simpa using h3
    have hin : inB ⟨id, op, owner, ⟨n0, n1, n2, n3, n4, n5, n6, n7, n8⟩⟩ := by unfold inB; simp only at h0 h1' h2' h3 ⊢; omega
    have hf : formB ⟨id, op, owner, ⟨n0, n1, n2, n3, n4, n5, n6, n7, n8⟩⟩ = (!cfgB op || goodC ⟨n0, n1, n2, n3, n4, n5, n6, n7, n8⟩) := by unfold formB; rw [decide_eq_true hin]; rfl
    rw [hf]
    by_cases ha : op = 1
    · have c5 : (op != 1) = false := by simpa using ha
      have hc : cfgB op = true := by simp [cfgB, ha]
      rw [hc]
      refine call_sem tt_ok Try.func94 rfl (by kernel_rfl) Try.ntmps94 Try.results94 ?_; conv => whnf
      repeat' (first | ((first | refine Sem.reg tt_ok ?_ | refine Sem.condS ?_ | refine Sem.regL tt_ok ?_ | refine Sem.skip tt_ok ?_ | refine Sem.exit tt_ok ?_ | refine Sem.ret tt_ok ?_ | refine BS_t (by assumption) ?_ | refine BS_f (by assumption) ?_ | refine (nthK_iff _ _).2 ⟨_, (by assumption), ?_⟩ | refine ⟨_, ⟨(by omega), (by assumption)⟩, ?_⟩ | refine And.intro (by first | decide | omega) ?_ | fail); conv => whnf) | refine Sem.seqS ?_ | refine Sem.block ?_ | fail)
      refine h1.on ?_; conv => whnf
      repeat' (first | ((first | refine Sem.reg tt_ok ?_ | refine Sem.condS ?_ | refine Sem.regL tt_ok ?_ | refine Sem.skip tt_ok ?_ | refine Sem.exit tt_ok ?_ | refine Sem.ret tt_ok ?_ | refine BS_t (by assumption) ?_ | refine BS_f (by assumption) ?_ | refine (nthK_iff _ _).2 ⟨_, (by assumption), ?_⟩ | refine ⟨_, ⟨(by omega), (by assumption)⟩, ?_⟩ | refine And.intro (by first | decide | omega) ?_ | fail); conv => whnf) | refine Sem.seqS ?_ | refine Sem.block ?_ | fail)
      refine ⟨_, fun _ _ h => h, ?_, rfl⟩
      cases goodC ⟨n0, n1, n2, n3, n4, n5, n6, n7, n8⟩ <;> rfl
    · have c5 : (op != 1) = true := by simpa using ha
      by_cases hb : op = 6
      · have c6 : (op != 6) = false := by simpa using hb
        have hc : cfgB op = true := by simp [cfgB, hb]
        rw [hc]
        refine call_sem tt_ok Try.func94 rfl (by kernel_rfl) Try.ntmps94 Try.results94 ?_; conv => whnf
        repeat' (first | ((first | refine Sem.reg tt_ok ?_ | refine Sem.condS ?_ | refine Sem.regL tt_ok ?_ | refine Sem.skip tt_ok ?_ | refine Sem.exit tt_ok ?_ | refine Sem.ret tt_ok ?_ | refine BS_t (by assumption) ?_ | refine BS_f (by assumption) ?_ | refine (nthK_iff _ _).2 ⟨_, (by assumption), ?_⟩ | refine ⟨_, ⟨(by omega), (by assumption)⟩, ?_⟩ | refine And.intro (by first | decide | omega) ?_ | fail); conv => whnf) | refine Sem.seqS ?_ | refine Sem.block ?_ | fail)
        refine h1.on ?_; conv => whnf
        repeat' (first | ((first | refine Sem.reg tt_ok ?_ | refine Sem.condS ?_ | refine Sem.regL tt_ok ?_ | refine Sem.skip tt_ok ?_ | refine Sem.exit tt_ok ?_ | refine Sem.ret tt_ok ?_ | refine BS_t (by assumption) ?_ | refine BS_f (by assumption) ?_ | refine (nthK_iff _ _).2 ⟨_, (by assumption), ?_⟩ | refine ⟨_, ⟨(by omega), (by assumption)⟩, ?_⟩ | refine And.intro (by first | decide | omega) ?_ | fail); conv => whnf) | refine Sem.seqS ?_ | refine Sem.block ?_ | fail)
        refine ⟨_, fun _ _ h => h, ?_, rfl⟩
        cases goodC ⟨n0, n1, n2, n3, n4, n5, n6, n7, n8⟩ <;> rfl
      · have c6 : (op != 6) = true := by simpa using hb
        have hc : cfgB op = false := by simp [cfgB, ha, hb]
        rw [hc]
        refine call_sem tt_ok Try.func94 rfl (by kernel_rfl) Try.ntmps94 Try.results94 ?_; conv => whnf
        repeat' (first | ((first | refine Sem.reg tt_ok ?_ | refine Sem.condS ?_ | refine Sem.regL tt_ok ?_ | refine Sem.skip tt_ok ?_ | refine Sem.exit tt_ok ?_ | refine Sem.ret tt_ok ?_ | refine BS_t (by assumption) ?_ | refine BS_f (by assumption) ?_ | refine (nthK_iff _ _).2 ⟨_, (by assumption), ?_⟩ | refine ⟨_, ⟨(by omega), (by assumption)⟩, ?_⟩ | refine And.intro (by first | decide | omega) ?_ | fail); conv => whnf) | refine Sem.seqS ?_ | refine Sem.block ?_ | fail)
        exact ⟨_, fun _ _ h => h, rfl, rfl⟩
end Go.Proofs.Ytpnlhnhjedopgaa
