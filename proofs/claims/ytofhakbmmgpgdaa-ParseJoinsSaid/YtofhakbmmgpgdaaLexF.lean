/- All tokens of a text, by the lexer. -/
import Derived.Test.YtofhakbmmgpgdaaLexE
set_option maxRecDepth 100000
set_option linter.unusedSimpArgs false
namespace Go.Proofs.Ytofhakbmmgpgdaa
open Go Go.RowKit Go.Proofs Go.Shelf

def toksV (r : List Tok × Nat × Nat) : AV := .tup [.slc 50 (r.1.map Tok.av), .agg [.int .i64 (r.2.1 : Nat), .int .i64 (r.2.2 : Nat)]]
theorem toks_weak {f : FuncId} {args : List AV} {G : Glob} {r : List Tok × Nat × Nat} (h : CallOk Try.prog TT f args G (fun v G' => (v = toksV r ∨ v = .tup [.nils, .agg [.int .i64 (r.2.1 : Nat), .int .i64 (r.2.2 : Nat)]] ∧ r.1 = []) ∧ G' = G)) : CallOk Try.prog TT f args G (fun v G' => v = toksV r ∧ G' = G) :=
  h.weak fun v G' hv => by
    obtain ⟨hv, rfl⟩ := hv
    rcases hv with rfl | ⟨rfl, hr⟩
    · exact ⟨_, ⟨rfl, rfl⟩, fun _ _ _ h => h⟩
    · refine ⟨_, ⟨rfl, rfl⟩, fun g w u h => ?_⟩
      unfold toksV
      rw [hr]
      exact tup2_to (fun x hx => nils_dz _ hx) h
structure TkI (s : List UInt8) where
  a : Nat
  out : List Tok
  ha : a ≤ s.length
  hl : out.length ≤ a
  h : lexN s 0 = comb out (lexN s a)
theorem comb_nil (s : List UInt8) (a : Nat) : comb [] (lexN s a) = lexN s a := by
  unfold comb
  by_cases h : (lexN s a).2.1 = 0
  · rw [if_pos h]; rfl
  · rw [if_neg h, ← (lex_fault s a h).1]
theorem tokens_ok (s : List UInt8) (G : Glob) : CallOk Try.prog TT 11 [.str (S s)] G (fun v G' => v = toksV (tokT s) ∧ G' = G) := by
  refine toks_weak ?_
  have hsz := S_size s
  refine call_sem tt_ok Try.func11 rfl (by kernel_rfl) Try.ntmps11 Try.results11 ?_; conv => whnf
  repeat' (first | ((first | refine Sem.reg tt_ok ?_ | refine Sem.condS ?_ | refine Sem.regL tt_ok ?_ | refine Sem.skip tt_ok ?_ | refine Sem.exit tt_ok ?_ | refine Sem.ret tt_ok ?_ | refine BS_t (by assumption) ?_ | refine BS_f (by assumption) ?_ | refine atG (by repeat (first | assumption | exact setG_same _ _ _ | refine Eq.trans (setG_ne _ _ (by first | assumption | exact Ne.symm (by assumption))) ?_)) ?_ | refine (nthK_iff _ _).2 ⟨_, (by assumption), ?_⟩ | refine ⟨_, ⟨(by omega), (by assumption)⟩, ?_⟩ | refine And.intro (by first | decide | omega) ?_ | fail); conv => whnf) | refine Sem.seqS ?_ | refine Sem.block ?_ | fail)
  by_cases hlong : 1024 < s.length
  · have t0 : decide (((S s).size : Int) > 1024) = true := by simp; omega
    have e : tokT s = ([], 3, 0) := if_pos hlong
    rw [e]
    repeat' (first | ((first | refine Sem.reg tt_ok ?_ | refine Sem.condS ?_ | refine Sem.regL tt_ok ?_ | refine Sem.skip tt_ok ?_ | refine Sem.exit tt_ok ?_ | refine Sem.ret tt_ok ?_ | refine BS_t (by assumption) ?_ | refine BS_f (by assumption) ?_ | refine atG (by repeat (first | assumption | exact setG_same _ _ _ | refine Eq.trans (setG_ne _ _ (by first | assumption | exact Ne.symm (by assumption))) ?_)) ?_ | refine (nthK_iff _ _).2 ⟨_, (by assumption), ?_⟩ | refine ⟨_, ⟨(by omega), (by assumption)⟩, ?_⟩ | refine And.intro (by first | decide | omega) ?_ | fail); conv => whnf) | refine Sem.seqS ?_ | refine Sem.block ?_ | fail)
    exact ⟨_, fun _ _ h => h, .inr ⟨rfl, rfl⟩, rfl⟩
  have t0 : decide (((S s).size : Int) > 1024) = false := by simp; omega
  have e : tokT s = lexN s 0 := if_neg hlong
  rw [e]
  repeat' (first | ((first | refine Sem.reg tt_ok ?_ | refine Sem.condS ?_ | refine Sem.regL tt_ok ?_ | refine Sem.skip tt_ok ?_ | refine Sem.exit tt_ok ?_ | refine Sem.ret tt_ok ?_ | refine BS_t (by assumption) ?_ | refine BS_f (by assumption) ?_ | refine atG (by repeat (first | assumption | exact setG_same _ _ _ | refine Eq.trans (setG_ne _ _ (by first | assumption | exact Ne.symm (by assumption))) ?_)) ?_ | refine (nthK_iff _ _).2 ⟨_, (by assumption), ?_⟩ | refine ⟨_, ⟨(by omega), (by assumption)⟩, ?_⟩ | refine And.intro (by first | decide | omega) ?_ | fail); conv => whnf) | refine Sem.seqS ?_ | refine Sem.block ?_ | fail)
  refine Sem.lend 1 ?_
  conv => whnf
  intro b hb
  conv => whnf
  refine Sem.rowbox b (setG_same _ _ _) ?_
  rw [setG_twice]
  refine Sem.loop (ι := TkI s) (fun x => ⟨(.str (S s) :: .top :: .nils :: .lptr 0 0 :: .lptr 1 0 :: .top :: .top :: .top :: .top :: .top :: .top :: .top :: .top :: .top :: .top :: .top :: .top :: .top :: .top :: .top :: .top :: .top :: .top :: .top :: .top :: .top :: .top :: .top :: .top :: .top :: .top :: .top :: .top :: .top :: .top :: .top :: .top :: .top :: .top :: .top :: .top :: []), [.live none [.int .i64 0, .int .i64 0], .away b], 2, 0, setG G b (lexB (S s) (x.a : Nat) (x.out.map Tok.av))⟩) (fun x => s.length - x.a) ⟨0, [], Nat.zero_le _, Nat.le_refl _, (comb_nil s 0).symm⟩ ?_ (fun x => ?_)
  · refine weak_by [] ?_; (conv => whnf); repeat (first | (refine And.intro rfl ?_; conv => whnf) | fail)
    exact ⟨fun i y hy => hy, rfl, Nat.le_refl _, rfl, rfl⟩
  have hx := x.h
  have hxl := x.hl
  have hxa := x.ha
  generalize x.a = a at hx hxl hxa ⊢
  generalize x.out = out at hx hxl ⊢
  have hG1 : setG G b (lexB (S s) (a : Nat) (out.map Tok.av)) b = some (.box [.str (S s), .int .i64 (a : Nat), .slc 50 (out.map Tok.av)] [(2, 50, out.map Tok.av)]) := setG_same _ _ _
  have sub : ∀ z i y, G i = some y → setG G b z i = some y := fun z i y hi => by rw [setG_ne _ _ (fun e => by rw [e, hb] at hi; cases hi)]; exact hi
  repeat' (first | ((first | refine Sem.reg tt_ok ?_ | refine Sem.condS ?_ | refine Sem.regL tt_ok ?_ | refine Sem.skip tt_ok ?_ | refine Sem.exit tt_ok ?_ | refine Sem.ret tt_ok ?_ | refine BS_t (by assumption) ?_ | refine BS_f (by assumption) ?_ | refine atG (by repeat (first | assumption | exact setG_same _ _ _ | refine Eq.trans (setG_ne _ _ (by first | assumption | exact Ne.symm (by assumption))) ?_)) ?_ | refine (nthK_iff _ _).2 ⟨_, (by assumption), ?_⟩ | refine ⟨_, ⟨(by omega), (by assumption)⟩, ?_⟩ | refine And.intro (by first | decide | omega) ?_ | fail); conv => whnf) | refine Sem.seqS ?_ | refine Sem.block ?_ | fail)
  by_cases hlt : a < s.length
  · have t1 : decide (((a : Nat) : Int) < ((S s).size : Nat)) = true := by simp; omega
    repeat' (first | ((first | refine Sem.reg tt_ok ?_ | refine Sem.condS ?_ | refine Sem.regL tt_ok ?_ | refine Sem.skip tt_ok ?_ | refine Sem.exit tt_ok ?_ | refine Sem.ret tt_ok ?_ | refine BS_t (by assumption) ?_ | refine BS_f (by assumption) ?_ | refine atG (by repeat (first | assumption | exact setG_same _ _ _ | refine Eq.trans (setG_ne _ _ (by first | assumption | exact Ne.symm (by assumption))) ?_)) ?_ | refine (nthK_iff _ _).2 ⟨_, (by assumption), ?_⟩ | refine ⟨_, ⟨(by omega), (by assumption)⟩, ?_⟩ | refine And.intro (by first | decide | omega) ?_ | fail); conv => whnf) | refine Sem.seqS ?_ | refine Sem.block ?_ | fail)
    refine (one_ok s a (out.map Tok.av) b _ (setG_same _ _ _) (by omega) (by simp; omega) hlt).mono fun v G1 hv => ?_
    obtain ⟨rfl, a', rfl, ha'⟩ := hv
    rw [setG_twice]
    conv => whnf
    by_cases he : (oneL s a).2.2 = 0
    · have t2 : ((((oneL s a).2.2 : Nat) : Int) != 0) = false := by simp [he]
      have hm := oneL_moves hlt he
      repeat' (first | ((first | refine Sem.reg tt_ok ?_ | refine Sem.condS ?_ | refine Sem.regL tt_ok ?_ | refine Sem.skip tt_ok ?_ | refine Sem.exit tt_ok ?_ | refine Sem.ret tt_ok ?_ | refine BS_t (by assumption) ?_ | refine BS_f (by assumption) ?_ | refine atG (by repeat (first | assumption | exact setG_same _ _ _ | refine Eq.trans (setG_ne _ _ (by first | assumption | exact Ne.symm (by assumption))) ?_)) ?_ | refine (nthK_iff _ _).2 ⟨_, (by assumption), ?_⟩ | refine ⟨_, ⟨(by omega), (by assumption)⟩, ?_⟩ | refine And.intro (by first | decide | omega) ?_ | fail); conv => whnf) | refine Sem.seqS ?_ | refine Sem.block ?_ | fail)
      refine ⟨⟨(oneL s a).2.1, out ++ (oneL s a).1.toList, hm.2, ?_, ?_⟩, by show s.length - (oneL s a).2.1 < s.length - a; omega, ?_⟩
      · have : (oneL s a).1.toList.length ≤ 1 := by cases (oneL s a).1 <;> simp
        rw [List.length_append]; omega
      · rw [hx, lex_next hlt he, comb_comb]
      refine weak_by [] ?_; (conv => whnf); repeat (first | (refine And.intro rfl ?_; conv => whnf) | fail)
      refine ⟨fun i y hy => ?_, rfl, Nat.le_refl _, rfl, rfl⟩
      rw [ha' he, ← List.map_append]; exact hy
    · have t2 : ((((oneL s a).2.2 : Nat) : Int) != 0) = true := by simpa using he
      rw [hx, lex_bad hlt he]
      repeat' (first | ((first | refine Sem.reg tt_ok ?_ | refine Sem.condS ?_ | refine Sem.regL tt_ok ?_ | refine Sem.skip tt_ok ?_ | refine Sem.exit tt_ok ?_ | refine Sem.ret tt_ok ?_ | refine BS_t (by assumption) ?_ | refine BS_f (by assumption) ?_ | refine atG (by repeat (first | assumption | exact setG_same _ _ _ | refine Eq.trans (setG_ne _ _ (by first | assumption | exact Ne.symm (by assumption))) ?_)) ?_ | refine (nthK_iff _ _).2 ⟨_, (by assumption), ?_⟩ | refine ⟨_, ⟨(by omega), (by assumption)⟩, ?_⟩ | refine And.intro (by first | decide | omega) ?_ | fail); conv => whnf) | refine Sem.seqS ?_ | refine Sem.block ?_ | fail)
      refine ⟨G, sub _, .inr ?_, rfl⟩
      rw [show comb out ([], (oneL s a).2.2, a) = ([], (oneL s a).2.2, a) from by unfold comb; exact if_neg he]
      exact ⟨rfl, rfl⟩
  · have t1 : decide (((a : Nat) : Int) < ((S s).size : Nat)) = false := by simp; omega
    have ha : a = s.length := by omega
    repeat' (first | ((first | refine Sem.reg tt_ok ?_ | refine Sem.condS ?_ | refine Sem.regL tt_ok ?_ | refine Sem.skip tt_ok ?_ | refine Sem.exit tt_ok ?_ | refine Sem.ret tt_ok ?_ | refine BS_t (by assumption) ?_ | refine BS_f (by assumption) ?_ | refine atG (by repeat (first | assumption | exact setG_same _ _ _ | refine Eq.trans (setG_ne _ _ (by first | assumption | exact Ne.symm (by assumption))) ?_)) ?_ | refine (nthK_iff _ _).2 ⟨_, (by assumption), ?_⟩ | refine ⟨_, ⟨(by omega), (by assumption)⟩, ?_⟩ | refine And.intro (by first | decide | omega) ?_ | fail); conv => whnf) | refine Sem.seqS ?_ | refine Sem.block ?_ | fail)
    refine (lexput_ok _ b (S s) (a : Nat) (out.map Tok.av) 4 0 ((S s).size : Nat) ⟨#[]⟩ (setG_same _ _ _) (by simp; omega)).on ?_; conv => whnf
    repeat' (first | ((first | refine Sem.reg tt_ok ?_ | refine Sem.condS ?_ | refine Sem.regL tt_ok ?_ | refine Sem.skip tt_ok ?_ | refine Sem.exit tt_ok ?_ | refine Sem.ret tt_ok ?_ | refine BS_t (by assumption) ?_ | refine BS_f (by assumption) ?_ | refine atG (by repeat (first | assumption | exact setG_same _ _ _ | refine Eq.trans (setG_ne _ _ (by first | assumption | exact Ne.symm (by assumption))) ?_)) ?_ | refine (nthK_iff _ _).2 ⟨_, (by assumption), ?_⟩ | refine ⟨_, ⟨(by omega), (by assumption)⟩, ?_⟩ | refine And.intro (by first | decide | omega) ?_ | fail); conv => whnf) | refine Sem.seqS ?_ | refine Sem.block ?_ | fail)
    refine ⟨G, fun i y hi => ?_, .inl ?_, rfl⟩
    · rw [setG_twice]; exact sub _ i y hi
    · rw [hx, lex_end hlt]
      unfold comb toksV
      simp only [if_true, List.map_append, List.map_cons, List.map_nil]
      rw [hsz]
      rfl
end Go.Proofs.Ytofhakbmmgpgdaa
