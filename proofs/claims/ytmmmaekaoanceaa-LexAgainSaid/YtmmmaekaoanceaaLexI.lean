/- The document's lexer: one token. -/
import Derived.Test.YtmmmaekaoanceaaLexH
set_option maxRecDepth 100000
set_option linter.unusedSimpArgs false
namespace Go.Proofs.Ytmmmaekaoanceaa
open Go Go.RowKit Go.Proofs Go.Shelf

def refQ (s : List UInt8) (a : Nat) (G : Glob) (v : AV) (G' : Glob) : Prop :=
  G' = G ∧ ∃ (k : Int) (t : ByteArray) (n p : Int) (to : Int), v = .tup [.agg [.int .i64 k, .str t, .int .i64 n, .int .i64 p], .int .i64 to, .int .i64 ((oneL s a).2.2 : Nat)] ∧ ((oneL s a).2.2 = 0 → to = ((oneL s a).2.1 : Nat) ∧ match (oneL s a).1 with
    | some t' => k = (t'.kind : Nat) ∧ t = S t'.text ∧ n = (t'.num : Nat) ∧ p = (t'.at_ : Nat) ∧ 0 < t'.kind
    | none => k = 0)
theorem cls_1 (c : UInt8) : isLet c = true → clsN c = 1 := fun h => if_pos h
theorem refone_ok (s : List UInt8) (a : Nat) (G : Glob) (ha : a < s.length) (hs : s.length ≤ 1048576) : CallOk Try.prog TT 86 [.str (S s), .int .i64 (a : Nat)] G (refQ s a G) := by
  have hc : s[a]? = some s[a] := List.getElem?_eq_getElem ha
  generalize s[a] = c at hc
  have hb := byteAt_S (j := (a : Int)) hc rfl
  have hsz := S_size s
  have e1 := oneL_of hc
  unfold oneC at e1
  have hcl : clsN c = if isLet c = true then 1 else if isDig c = true then 2 else if c.toNat = 95 then 3 else if isSgn c = true then 4 else if isBl c = true then 5 else 0 := rfl
  have hend1 := end_ok s a 1 2 3 G (Nat.le_of_lt ha) hs
  rw [run_congr cls_in] at hend1
  have hend2 := end_ok s a 2 2 2 G (Nat.le_of_lt ha) hs
  rw [run_congr cls_dig] at hend2
  unfold refQ
  refine call_sem tt_ok Try.func86 rfl (by kernel_rfl) Try.ntmps86 Try.results86 ?_; conv => whnf
  repeat' (first | ((first | refine Sem.reg tt_ok ?_ | refine Sem.condS ?_ | refine Sem.regL tt_ok ?_ | refine Sem.skip tt_ok ?_ | refine Sem.exit tt_ok ?_ | refine Sem.ret tt_ok ?_ | refine BS_t (by assumption) ?_ | refine BS_f (by assumption) ?_ | refine atG (by repeat (first | assumption | exact setG_same _ _ _ | refine Eq.trans (setG_ne _ _ (by first | assumption | exact Ne.symm (by assumption))) ?_)) ?_ | refine (nthK_iff _ _).2 ⟨_, (by assumption), ?_⟩ | refine ⟨_, ⟨(by omega), (by assumption)⟩, ?_⟩ | refine And.intro (by first | decide | omega) ?_ | fail); conv => whnf) | refine Sem.seqS ?_ | refine Sem.block ?_ | fail)
  refine (class_ok c hb G).on ?_; conv => whnf
  by_cases hl : isLet c = true
  · rw [if_pos hl] at e1 hcl
    rw [hcl]
    have hle := runL_le isIn s (Nat.le_of_lt ha)
    have hex : (S s).extract ((a : Nat) : Int).toNat (((a + (runL isIn s a).length : Nat) : Int)).toNat = S (runL isIn s a) := by
      rw [S_extract, Int.toNat_natCast, Int.toNat_natCast, show a + (runL isIn s a).length - a = (runL isIn s a).length by omega, run_take]
    have hw : IntKind.i64.wrap (((a + (runL isIn s a).length : Nat) : Int) - (a : Nat)) = ((runL isIn s a).length : Nat) := by rw [IntWalk.i64_in _ (by omega)]; omega
    repeat' (first | ((first | refine Sem.reg tt_ok ?_ | refine Sem.condS ?_ | refine Sem.regL tt_ok ?_ | refine Sem.skip tt_ok ?_ | refine Sem.exit tt_ok ?_ | refine Sem.ret tt_ok ?_ | refine BS_t (by assumption) ?_ | refine BS_f (by assumption) ?_ | refine atG (by repeat (first | assumption | exact setG_same _ _ _ | refine Eq.trans (setG_ne _ _ (by first | assumption | exact Ne.symm (by assumption))) ?_)) ?_ | refine (nthK_iff _ _).2 ⟨_, (by assumption), ?_⟩ | refine ⟨_, ⟨(by omega), (by assumption)⟩, ?_⟩ | refine And.intro (by first | decide | omega) ?_ | fail); conv => whnf) | refine Sem.seqS ?_ | refine Sem.block ?_ | fail)
    refine hend1.on ?_; conv => whnf
    by_cases h2 : 16 < (runL isIn s a).length
    · have t1 : decide (IntKind.i64.wrap (((a + (runL isIn s a).length : Nat) : Int) - (a : Nat)) > 16) = true := by rw [hw]; exact decide_eq_true (by omega)
      rw [if_pos h2] at e1
      repeat' (first | ((first | refine Sem.reg tt_ok ?_ | refine Sem.condS ?_ | refine Sem.regL tt_ok ?_ | refine Sem.skip tt_ok ?_ | refine Sem.exit tt_ok ?_ | refine Sem.ret tt_ok ?_ | refine BS_t (by assumption) ?_ | refine BS_f (by assumption) ?_ | refine atG (by repeat (first | assumption | exact setG_same _ _ _ | refine Eq.trans (setG_ne _ _ (by first | assumption | exact Ne.symm (by assumption))) ?_)) ?_ | refine (nthK_iff _ _).2 ⟨_, (by assumption), ?_⟩ | refine ⟨_, ⟨(by omega), (by assumption)⟩, ?_⟩ | refine And.intro (by first | decide | omega) ?_ | fail); conv => whnf) | refine Sem.seqS ?_ | refine Sem.block ?_ | fail)
      exact ⟨_, fun _ _ h => h, rfl, _, _, _, _, _, by rw [e1]; rfl, fun h => by rw [e1] at h; cases h⟩
    · have t1 : decide (IntKind.i64.wrap (((a + (runL isIn s a).length : Nat) : Int) - (a : Nat)) > 16) = false := by rw [hw]; exact decide_eq_false (by omega)
      rw [if_neg h2] at e1
      repeat' (first | ((first | refine Sem.reg tt_ok ?_ | refine Sem.condS ?_ | refine Sem.regL tt_ok ?_ | refine Sem.skip tt_ok ?_ | refine Sem.exit tt_ok ?_ | refine Sem.ret tt_ok ?_ | refine BS_t (by assumption) ?_ | refine BS_f (by assumption) ?_ | refine atG (by repeat (first | assumption | exact setG_same _ _ _ | refine Eq.trans (setG_ne _ _ (by first | assumption | exact Ne.symm (by assumption))) ?_)) ?_ | refine (nthK_iff _ _).2 ⟨_, (by assumption), ?_⟩ | refine ⟨_, ⟨(by omega), (by assumption)⟩, ?_⟩ | refine And.intro (by first | decide | omega) ?_ | fail); conv => whnf) | refine Sem.seqS ?_ | refine Sem.block ?_ | fail)
      rw [hex]
      repeat' (first | ((first | refine Sem.reg tt_ok ?_ | refine Sem.condS ?_ | refine Sem.regL tt_ok ?_ | refine Sem.skip tt_ok ?_ | refine Sem.exit tt_ok ?_ | refine Sem.ret tt_ok ?_ | refine BS_t (by assumption) ?_ | refine BS_f (by assumption) ?_ | refine atG (by repeat (first | assumption | exact setG_same _ _ _ | refine Eq.trans (setG_ne _ _ (by first | assumption | exact Ne.symm (by assumption))) ?_)) ?_ | refine (nthK_iff _ _).2 ⟨_, (by assumption), ?_⟩ | refine ⟨_, ⟨(by omega), (by assumption)⟩, ?_⟩ | refine And.intro (by first | decide | omega) ?_ | fail); conv => whnf) | refine Sem.seqS ?_ | refine Sem.block ?_ | fail)
      exact ⟨_, fun _ _ h => h, rfl, _, _, _, _, _, by rw [e1]; rfl, fun h => by rw [e1]; exact ⟨rfl, rfl, rfl, rfl, rfl, Nat.succ_pos _⟩⟩
  rw [if_neg hl] at e1 hcl
  by_cases hd : isDig c = true
  · rw [if_pos hd] at e1 hcl
    rw [hcl]
    have hle := runL_le isDig s (Nat.le_of_lt ha)
    have hex : (S s).extract ((a : Nat) : Int).toNat (((a + (runL isDig s a).length : Nat) : Int)).toNat = S (runL isDig s a) := by
      rw [S_extract, Int.toNat_natCast, Int.toNat_natCast, show a + (runL isDig s a).length - a = (runL isDig s a).length by omega, run_take]
    obtain ⟨r', hr'⟩ := run_cons hc hd
    have hnum := refnum_ok (runL isDig s a) c (by rw [hr']; rfl) mem_run (by omega) G
    repeat' (first | ((first | refine Sem.reg tt_ok ?_ | refine Sem.condS ?_ | refine Sem.regL tt_ok ?_ | refine Sem.skip tt_ok ?_ | refine Sem.exit tt_ok ?_ | refine Sem.ret tt_ok ?_ | refine BS_t (by assumption) ?_ | refine BS_f (by assumption) ?_ | refine atG (by repeat (first | assumption | exact setG_same _ _ _ | refine Eq.trans (setG_ne _ _ (by first | assumption | exact Ne.symm (by assumption))) ?_)) ?_ | refine (nthK_iff _ _).2 ⟨_, (by assumption), ?_⟩ | refine ⟨_, ⟨(by omega), (by assumption)⟩, ?_⟩ | refine And.intro (by first | decide | omega) ?_ | fail); conv => whnf) | refine Sem.seqS ?_ | refine Sem.block ?_ | fail)
    refine hend2.on ?_; conv => whnf
    repeat' (first | ((first | refine Sem.reg tt_ok ?_ | refine Sem.condS ?_ | refine Sem.regL tt_ok ?_ | refine Sem.skip tt_ok ?_ | refine Sem.exit tt_ok ?_ | refine Sem.ret tt_ok ?_ | refine BS_t (by assumption) ?_ | refine BS_f (by assumption) ?_ | refine atG (by repeat (first | assumption | exact setG_same _ _ _ | refine Eq.trans (setG_ne _ _ (by first | assumption | exact Ne.symm (by assumption))) ?_)) ?_ | refine (nthK_iff _ _).2 ⟨_, (by assumption), ?_⟩ | refine ⟨_, ⟨(by omega), (by assumption)⟩, ?_⟩ | refine And.intro (by first | decide | omega) ?_ | fail); conv => whnf) | refine Sem.seqS ?_ | refine Sem.block ?_ | fail)
    rw [hex]
    refine hnum.on ?_; conv => whnf
    repeat' (first | ((first | refine Sem.reg tt_ok ?_ | refine Sem.condS ?_ | refine Sem.regL tt_ok ?_ | refine Sem.skip tt_ok ?_ | refine Sem.exit tt_ok ?_ | refine Sem.ret tt_ok ?_ | refine BS_t (by assumption) ?_ | refine BS_f (by assumption) ?_ | refine atG (by repeat (first | assumption | exact setG_same _ _ _ | refine Eq.trans (setG_ne _ _ (by first | assumption | exact Ne.symm (by assumption))) ?_)) ?_ | refine (nthK_iff _ _).2 ⟨_, (by assumption), ?_⟩ | refine ⟨_, ⟨(by omega), (by assumption)⟩, ?_⟩ | refine And.intro (by first | decide | omega) ?_ | fail); conv => whnf) | refine Sem.seqS ?_ | refine Sem.block ?_ | fail)
    rw [hex]
    repeat' (first | ((first | refine Sem.reg tt_ok ?_ | refine Sem.condS ?_ | refine Sem.regL tt_ok ?_ | refine Sem.skip tt_ok ?_ | refine Sem.exit tt_ok ?_ | refine Sem.ret tt_ok ?_ | refine BS_t (by assumption) ?_ | refine BS_f (by assumption) ?_ | refine atG (by repeat (first | assumption | exact setG_same _ _ _ | refine Eq.trans (setG_ne _ _ (by first | assumption | exact Ne.symm (by assumption))) ?_)) ?_ | refine (nthK_iff _ _).2 ⟨_, (by assumption), ?_⟩ | refine ⟨_, ⟨(by omega), (by assumption)⟩, ?_⟩ | refine And.intro (by first | decide | omega) ?_ | fail); conv => whnf) | refine Sem.seqS ?_ | refine Sem.block ?_ | fail)
    have hE : (refNum (runL isDig s a) c).2 = (oneL s a).2.2 := by rw [e1]; unfold refNum; split <;> (try split) <;> rfl
    refine ⟨_, fun _ _ h => h, rfl, _, _, _, _, _, by rw [hE], fun h => ?_⟩
    rw [e1] at h ⊢
    unfold refNum
    by_cases h3 : 1 < (runL isDig s a).length ∧ c.toNat = 48
    · rw [if_pos h3] at h; cases h
    · rw [if_neg h3] at h ⊢
      by_cases h4 : 4 < (runL isDig s a).length
      · rw [if_pos h4] at h; cases h
      · rw [if_neg h4, if_neg h3, if_neg h4]
        exact ⟨rfl, rfl, rfl, rfl, rfl, Nat.succ_pos _⟩
  rw [if_neg hd] at e1 hcl
  have hw1 : IntKind.i64.wrap ((a : Int) + 1) = ((a + 1 : Nat) : Int) := by rw [IntWalk.i64_in _ (by omega)]; omega
  by_cases hsg : isSgn c = true
  · have h95 : ¬ c.toNat = 95 := by unfold isSgn at hsg; simp only [decide_eq_true_eq] at hsg; omega
    have h47 : ¬ c.toNat = 47 := by unfold isSgn at hsg; simp only [decide_eq_true_eq] at hsg; omega
    have hbl : ¬ isBl c = true := by unfold isSgn at hsg; unfold isBl; simp only [decide_eq_true_eq] at *; omega
    rw [if_neg h95, if_pos hsg] at hcl
    rw [if_neg h47, if_neg hbl, if_pos hsg] at e1
    rw [hcl]
    have hex : (S s).extract ((a : Nat) : Int).toNat (((a + 1 : Nat) : Int)).toNat = S [c] := by
      rw [S_extract, Int.toNat_natCast, Int.toNat_natCast, drop_at hc, show a + 1 - a = 1 by omega]; rfl
    repeat' (first | ((first | refine Sem.reg tt_ok ?_ | refine Sem.condS ?_ | refine Sem.regL tt_ok ?_ | refine Sem.skip tt_ok ?_ | refine Sem.exit tt_ok ?_ | refine Sem.ret tt_ok ?_ | refine BS_t (by assumption) ?_ | refine BS_f (by assumption) ?_ | refine atG (by repeat (first | assumption | exact setG_same _ _ _ | refine Eq.trans (setG_ne _ _ (by first | assumption | exact Ne.symm (by assumption))) ?_)) ?_ | refine (nthK_iff _ _).2 ⟨_, (by assumption), ?_⟩ | refine ⟨_, ⟨(by omega), (by assumption)⟩, ?_⟩ | refine And.intro (by first | decide | omega) ?_ | fail); conv => whnf) | refine Sem.seqS ?_ | refine Sem.block ?_ | fail)
    rw [hw1]
    repeat' (first | ((first | refine Sem.reg tt_ok ?_ | refine Sem.condS ?_ | refine Sem.regL tt_ok ?_ | refine Sem.skip tt_ok ?_ | refine Sem.exit tt_ok ?_ | refine Sem.ret tt_ok ?_ | refine BS_t (by assumption) ?_ | refine BS_f (by assumption) ?_ | refine atG (by repeat (first | assumption | exact setG_same _ _ _ | refine Eq.trans (setG_ne _ _ (by first | assumption | exact Ne.symm (by assumption))) ?_)) ?_ | refine (nthK_iff _ _).2 ⟨_, (by assumption), ?_⟩ | refine ⟨_, ⟨(by omega), (by assumption)⟩, ?_⟩ | refine And.intro (by first | decide | omega) ?_ | fail); conv => whnf) | refine Sem.seqS ?_ | refine Sem.block ?_ | fail)
    rw [hex]
    repeat' (first | ((first | refine Sem.reg tt_ok ?_ | refine Sem.condS ?_ | refine Sem.regL tt_ok ?_ | refine Sem.skip tt_ok ?_ | refine Sem.exit tt_ok ?_ | refine Sem.ret tt_ok ?_ | refine BS_t (by assumption) ?_ | refine BS_f (by assumption) ?_ | refine atG (by repeat (first | assumption | exact setG_same _ _ _ | refine Eq.trans (setG_ne _ _ (by first | assumption | exact Ne.symm (by assumption))) ?_)) ?_ | refine (nthK_iff _ _).2 ⟨_, (by assumption), ?_⟩ | refine ⟨_, ⟨(by omega), (by assumption)⟩, ?_⟩ | refine And.intro (by first | decide | omega) ?_ | fail); conv => whnf) | refine Sem.seqS ?_ | refine Sem.block ?_ | fail)
    exact ⟨_, fun _ _ h => h, rfl, _, _, _, _, _, by rw [e1]; rfl, fun h => by rw [e1]; exact ⟨rfl, rfl, rfl, rfl, rfl, Nat.succ_pos _⟩⟩
  by_cases hbl : isBl c = true
  · have h95 : ¬ c.toNat = 95 := by unfold isBl at hbl; simp only [decide_eq_true_eq] at hbl; omega
    have h47 : ¬ c.toNat = 47 := by unfold isBl at hbl; simp only [decide_eq_true_eq] at hbl; omega
    rw [if_neg h95, if_neg hsg, if_pos hbl] at hcl
    rw [if_neg h47, if_pos hbl] at e1
    rw [hcl]
    repeat' (first | ((first | refine Sem.reg tt_ok ?_ | refine Sem.condS ?_ | refine Sem.regL tt_ok ?_ | refine Sem.skip tt_ok ?_ | refine Sem.exit tt_ok ?_ | refine Sem.ret tt_ok ?_ | refine BS_t (by assumption) ?_ | refine BS_f (by assumption) ?_ | refine atG (by repeat (first | assumption | exact setG_same _ _ _ | refine Eq.trans (setG_ne _ _ (by first | assumption | exact Ne.symm (by assumption))) ?_)) ?_ | refine (nthK_iff _ _).2 ⟨_, (by assumption), ?_⟩ | refine ⟨_, ⟨(by omega), (by assumption)⟩, ?_⟩ | refine And.intro (by first | decide | omega) ?_ | fail); conv => whnf) | refine Sem.seqS ?_ | refine Sem.block ?_ | fail)
    rw [hw1]
    exact ⟨_, fun _ _ h => h, rfl, _, _, _, _, _, by rw [e1]; rfl, fun h => by rw [e1]; exact ⟨rfl, rfl⟩⟩
  have hcl5 : clsN c = 3 ∨ clsN c = 0 := by
    rw [hcl]
    by_cases h : c.toNat = 95
    · rw [if_pos h]; exact .inl rfl
    · rw [if_neg h, if_neg hsg, if_neg hbl]; exact .inr rfl
  have d1 : (((clsN c : Nat) : Int) == 1) = false := by rw [beq_eq_false_iff_ne]; omega
  have d2 : (((clsN c : Nat) : Int) == 2) = false := by rw [beq_eq_false_iff_ne]; omega
  have d4 : (((clsN c : Nat) : Int) == 4) = false := by rw [beq_eq_false_iff_ne]; omega
  have d5 : (((clsN c : Nat) : Int) == 5) = false := by rw [beq_eq_false_iff_ne]; omega
  clear hcl
  repeat' (first | ((first | refine Sem.reg tt_ok ?_ | refine Sem.condS ?_ | refine Sem.regL tt_ok ?_ | refine Sem.skip tt_ok ?_ | refine Sem.exit tt_ok ?_ | refine Sem.ret tt_ok ?_ | refine BS_t (by assumption) ?_ | refine BS_f (by assumption) ?_ | refine atG (by repeat (first | assumption | exact setG_same _ _ _ | refine Eq.trans (setG_ne _ _ (by first | assumption | exact Ne.symm (by assumption))) ?_)) ?_ | refine (nthK_iff _ _).2 ⟨_, (by assumption), ?_⟩ | refine ⟨_, ⟨(by omega), (by assumption)⟩, ?_⟩ | refine And.intro (by first | decide | omega) ?_ | fail); conv => whnf) | refine Sem.seqS ?_ | refine Sem.block ?_ | fail)
  by_cases h47 : c.toNat = 47
  · have f1 : (byteAt (S s) (a : Int).toNat != 47) = false := by rw [hb]; simp; omega
    rw [if_pos h47] at e1
    repeat' (first | ((first | refine Sem.reg tt_ok ?_ | refine Sem.condS ?_ | refine Sem.regL tt_ok ?_ | refine Sem.skip tt_ok ?_ | refine Sem.exit tt_ok ?_ | refine Sem.ret tt_ok ?_ | refine BS_t (by assumption) ?_ | refine BS_f (by assumption) ?_ | refine atG (by repeat (first | assumption | exact setG_same _ _ _ | refine Eq.trans (setG_ne _ _ (by first | assumption | exact Ne.symm (by assumption))) ?_)) ?_ | refine (nthK_iff _ _).2 ⟨_, (by assumption), ?_⟩ | refine ⟨_, ⟨(by omega), (by assumption)⟩, ?_⟩ | refine And.intro (by first | decide | omega) ?_ | fail); conv => whnf) | refine Sem.seqS ?_ | refine Sem.block ?_ | fail)
    by_cases hend : a + 1 = s.length
    · have f2 : (IntKind.i64.wrap ((a : Int) + 1) == ((S s).size : Nat)) = true := by rw [hw1]; simp; omega
      have hno : ¬ s[a + 1]? = some 47 := by rw [List.getElem?_eq_none (by omega)]; simp
      rw [if_neg hno] at e1
      repeat' (first | ((first | refine Sem.reg tt_ok ?_ | refine Sem.condS ?_ | refine Sem.regL tt_ok ?_ | refine Sem.skip tt_ok ?_ | refine Sem.exit tt_ok ?_ | refine Sem.ret tt_ok ?_ | refine BS_t (by assumption) ?_ | refine BS_f (by assumption) ?_ | refine atG (by repeat (first | assumption | exact setG_same _ _ _ | refine Eq.trans (setG_ne _ _ (by first | assumption | exact Ne.symm (by assumption))) ?_)) ?_ | refine (nthK_iff _ _).2 ⟨_, (by assumption), ?_⟩ | refine ⟨_, ⟨(by omega), (by assumption)⟩, ?_⟩ | refine And.intro (by first | decide | omega) ?_ | fail); conv => whnf) | refine Sem.seqS ?_ | refine Sem.block ?_ | fail)
      exact ⟨_, fun _ _ h => h, rfl, _, _, _, _, _, by rw [e1]; rfl, fun h => by rw [e1] at h; cases h⟩
    have f2 : (IntKind.i64.wrap ((a : Int) + 1) == ((S s).size : Nat)) = false := by rw [hw1, beq_eq_false_iff_ne]; omega
    have hd1 : s[a + 1]? = some (s[a + 1]'(by omega)) := List.getElem?_eq_getElem (by omega)
    generalize s[a + 1]'(by omega) = d at hd1
    have hb1 := byteAt_S (j := IntKind.i64.wrap ((a : Int) + 1)) hd1 hw1
    have i1 : 0 ≤ IntKind.i64.wrap ((a : Int) + 1) ∧ IntKind.i64.wrap ((a : Int) + 1) < ((S s).size : Nat) := by rw [hw1]; omega
    repeat' (first | ((first | refine Sem.reg tt_ok ?_ | refine Sem.condS ?_ | refine Sem.regL tt_ok ?_ | refine Sem.skip tt_ok ?_ | refine Sem.exit tt_ok ?_ | refine Sem.ret tt_ok ?_ | refine BS_t (by assumption) ?_ | refine BS_f (by assumption) ?_ | refine atG (by repeat (first | assumption | exact setG_same _ _ _ | refine Eq.trans (setG_ne _ _ (by first | assumption | exact Ne.symm (by assumption))) ?_)) ?_ | refine (nthK_iff _ _).2 ⟨_, (by assumption), ?_⟩ | refine ⟨_, ⟨(by omega), (by assumption)⟩, ?_⟩ | refine And.intro (by first | decide | omega) ?_ | fail); conv => whnf) | refine Sem.seqS ?_ | refine Sem.block ?_ | fail)
    by_cases hd47 : d.toNat = 47
    · have f3 : (byteAt (S s) (IntKind.i64.wrap ((a : Int) + 1)).toNat != 47) = false := by rw [hb1]; simp; omega
      have hdd : d = 47 := UInt8.toNat_inj.1 hd47
      rw [if_pos (by rw [hd1, hdd])] at e1
      have hle := runL_le noNl s (Nat.le_of_lt ha)
      repeat' (first | ((first | refine Sem.reg tt_ok ?_ | refine Sem.condS ?_ | refine Sem.regL tt_ok ?_ | refine Sem.skip tt_ok ?_ | refine Sem.exit tt_ok ?_ | refine Sem.ret tt_ok ?_ | refine BS_t (by assumption) ?_ | refine BS_f (by assumption) ?_ | refine atG (by repeat (first | assumption | exact setG_same _ _ _ | refine Eq.trans (setG_ne _ _ (by first | assumption | exact Ne.symm (by assumption))) ?_)) ?_ | refine (nthK_iff _ _).2 ⟨_, (by assumption), ?_⟩ | refine ⟨_, ⟨(by omega), (by assumption)⟩, ?_⟩ | refine And.intro (by first | decide | omega) ?_ | fail); conv => whnf) | refine Sem.seqS ?_ | refine Sem.block ?_ | fail)
      refine Sem.loop (ι := WI noNl s a) (fun x => ⟨(.str (S s) :: .int .i64 (a : Nat) :: .top :: .top :: .lptr 0 0 :: .int .i64 0 :: .int .i64 0 :: .lptr 1 0 :: .top :: .top :: .top :: .top :: .int .i64 ((a + x.k : Nat) : Int) :: .top :: .top :: .top :: .top :: .top :: .top :: .top :: .top :: .top :: .top :: .top :: .top :: .top :: .top :: .top :: .top :: .top :: .top :: .top :: .top :: .top :: .top :: .top :: .top :: .top :: .top :: .top :: .top :: .top :: .top :: .top :: .top :: .top :: .top :: .top :: .top :: .top :: .top :: .top :: .top :: .top :: .top :: .top :: .top :: .top :: .top :: .top :: .top :: .top :: .top :: .top :: .top :: .top :: .top :: .top :: .top :: .top :: .top :: .top :: .top :: .top :: .top :: .top :: .top :: .top :: .top :: .top :: .top :: .top :: .top :: .top :: .top :: .top :: .top :: .top :: .top :: .top :: .top :: .top :: .top :: .top :: .top :: .top :: .top :: .top :: .top :: .top :: .top :: .top :: .top :: .top :: .top :: .top :: .top :: .top :: .top :: .top :: .top :: .top :: .top :: .top :: []), [.live none [.int .i64 0, .str ⟨#[]⟩, .int .i64 0, .int .i64 0], .live none [.int .i64 0, .str ⟨#[]⟩, .int .i64 0, .int .i64 (a : Nat)]], 2, 0, G⟩) (fun x => (runL noNl s a).length - x.k) ⟨0, Nat.zero_le _⟩ ?_ (fun x => ?_)
      · refine weak_by [] ?_; (conv => whnf); repeat (first | (refine And.intro rfl ?_; conv => whnf) | fail)
        exact ⟨fun i y hy => hy, rfl, Nat.le_refl _, rfl, rfl⟩
      have hk := x.hk
      generalize x.k = k at hk ⊢
      repeat' (first | ((first | refine Sem.reg tt_ok ?_ | refine Sem.condS ?_ | refine Sem.regL tt_ok ?_ | refine Sem.skip tt_ok ?_ | refine Sem.exit tt_ok ?_ | refine Sem.ret tt_ok ?_ | refine BS_t (by assumption) ?_ | refine BS_f (by assumption) ?_ | refine atG (by repeat (first | assumption | exact setG_same _ _ _ | refine Eq.trans (setG_ne _ _ (by first | assumption | exact Ne.symm (by assumption))) ?_)) ?_ | refine (nthK_iff _ _).2 ⟨_, (by assumption), ?_⟩ | refine ⟨_, ⟨(by omega), (by assumption)⟩, ?_⟩ | refine And.intro (by first | decide | omega) ?_ | fail); conv => whnf) | refine Sem.seqS ?_ | refine Sem.block ?_ | fail)
      by_cases hlt : a + k < s.length
      · have c0 : decide (((a + k : Nat) : Int) < ((S s).size : Nat)) = true := by simp; omega
        have hck : s[a + k]? = some s[a + k] := List.getElem?_eq_getElem hlt
        have hm := run_more hk hck
        generalize s[a + k] = q at hck hm
        have hbq := byteAt_S (j := ((a + k : Nat) : Int)) hck rfl
        by_cases hq : q.toNat = 10
        · have c1 : (byteAt (S s) (((a + k : Nat) : Int)).toNat != 10) = false := by rw [hbq]; simp; omega
          have hp : noNl q = false := by unfold noNl; simp [hq]
          have hk2 : k = (runL noNl s a).length := by
            rcases Nat.lt_or_ge k (runL noNl s a).length with h | h
            · have := hm.2 h; rw [hp] at this; cases this
            · omega
          repeat' (first | ((first | refine Sem.reg tt_ok ?_ | refine Sem.condS ?_ | refine Sem.regL tt_ok ?_ | refine Sem.skip tt_ok ?_ | refine Sem.exit tt_ok ?_ | refine Sem.ret tt_ok ?_ | refine BS_t (by assumption) ?_ | refine BS_f (by assumption) ?_ | refine atG (by repeat (first | assumption | exact setG_same _ _ _ | refine Eq.trans (setG_ne _ _ (by first | assumption | exact Ne.symm (by assumption))) ?_)) ?_ | refine (nthK_iff _ _).2 ⟨_, (by assumption), ?_⟩ | refine ⟨_, ⟨(by omega), (by assumption)⟩, ?_⟩ | refine And.intro (by first | decide | omega) ?_ | fail); conv => whnf) | refine Sem.seqS ?_ | refine Sem.block ?_ | fail)
          exact ⟨_, fun _ _ h => h, rfl, _, _, _, _, _, by rw [e1]; rfl, fun h => by rw [e1, ← hk2]; exact ⟨rfl, rfl⟩⟩
        · have c1 : (byteAt (S s) (((a + k : Nat) : Int)).toNat != 10) = true := by rw [hbq]; simp; omega
          have hp : noNl q = true := by unfold noNl; simp [hq]
          have hk2 := hm.1 hp
          repeat' (first | ((first | refine Sem.reg tt_ok ?_ | refine Sem.condS ?_ | refine Sem.regL tt_ok ?_ | refine Sem.skip tt_ok ?_ | refine Sem.exit tt_ok ?_ | refine Sem.ret tt_ok ?_ | refine BS_t (by assumption) ?_ | refine BS_f (by assumption) ?_ | refine atG (by repeat (first | assumption | exact setG_same _ _ _ | refine Eq.trans (setG_ne _ _ (by first | assumption | exact Ne.symm (by assumption))) ?_)) ?_ | refine (nthK_iff _ _).2 ⟨_, (by assumption), ?_⟩ | refine ⟨_, ⟨(by omega), (by assumption)⟩, ?_⟩ | refine And.intro (by first | decide | omega) ?_ | fail); conv => whnf) | refine Sem.seqS ?_ | refine Sem.block ?_ | fail)
          refine ⟨⟨k + 1, hk2⟩, by show (runL noNl s a).length - (k + 1) < (runL noNl s a).length - k; omega, ?_⟩
          refine weak_by [] ?_; (conv => whnf); repeat (first | (refine And.intro rfl ?_; conv => whnf) | fail)
          refine And.intro (show _ = (((a + (k + 1) : Nat)) : Int) from by rw [IntWalk.i64_in _ (by omega)]; omega) ?_
          (conv => whnf); repeat (first | (refine And.intro rfl ?_; conv => whnf) | fail)
          exact ⟨fun i y hy => hy, rfl, Nat.le_refl _, rfl, rfl⟩
      · have c0 : decide (((a + k : Nat) : Int) < ((S s).size : Nat)) = false := by simp; omega
        have hk2 := run_end hk hlt (Nat.le_of_lt ha)
        repeat' (first | ((first | refine Sem.reg tt_ok ?_ | refine Sem.condS ?_ | refine Sem.regL tt_ok ?_ | refine Sem.skip tt_ok ?_ | refine Sem.exit tt_ok ?_ | refine Sem.ret tt_ok ?_ | refine BS_t (by assumption) ?_ | refine BS_f (by assumption) ?_ | refine atG (by repeat (first | assumption | exact setG_same _ _ _ | refine Eq.trans (setG_ne _ _ (by first | assumption | exact Ne.symm (by assumption))) ?_)) ?_ | refine (nthK_iff _ _).2 ⟨_, (by assumption), ?_⟩ | refine ⟨_, ⟨(by omega), (by assumption)⟩, ?_⟩ | refine And.intro (by first | decide | omega) ?_ | fail); conv => whnf) | refine Sem.seqS ?_ | refine Sem.block ?_ | fail)
        exact ⟨_, fun _ _ h => h, rfl, _, _, _, _, _, by rw [e1]; rfl, fun h => by rw [e1, ← hk2]; exact ⟨rfl, rfl⟩⟩
    · have f3 : (byteAt (S s) (IntKind.i64.wrap ((a : Int) + 1)).toNat != 47) = true := by rw [hb1]; simp; omega
      rw [if_neg (by rw [hd1]; intro h; simp only [Option.some.injEq] at h; rw [h] at hd47; exact hd47 rfl)] at e1
      repeat' (first | ((first | refine Sem.reg tt_ok ?_ | refine Sem.condS ?_ | refine Sem.regL tt_ok ?_ | refine Sem.skip tt_ok ?_ | refine Sem.exit tt_ok ?_ | refine Sem.ret tt_ok ?_ | refine BS_t (by assumption) ?_ | refine BS_f (by assumption) ?_ | refine atG (by repeat (first | assumption | exact setG_same _ _ _ | refine Eq.trans (setG_ne _ _ (by first | assumption | exact Ne.symm (by assumption))) ?_)) ?_ | refine (nthK_iff _ _).2 ⟨_, (by assumption), ?_⟩ | refine ⟨_, ⟨(by omega), (by assumption)⟩, ?_⟩ | refine And.intro (by first | decide | omega) ?_ | fail); conv => whnf) | refine Sem.seqS ?_ | refine Sem.block ?_ | fail)
      exact ⟨_, fun _ _ h => h, rfl, _, _, _, _, _, by rw [e1]; rfl, fun h => by rw [e1] at h; cases h⟩
  · have f1 : (byteAt (S s) (a : Int).toNat != 47) = true := by rw [hb]; simp; omega
    rw [if_neg h47, if_neg hbl, if_neg hsg] at e1
    repeat' (first | ((first | refine Sem.reg tt_ok ?_ | refine Sem.condS ?_ | refine Sem.regL tt_ok ?_ | refine Sem.skip tt_ok ?_ | refine Sem.exit tt_ok ?_ | refine Sem.ret tt_ok ?_ | refine BS_t (by assumption) ?_ | refine BS_f (by assumption) ?_ | refine atG (by repeat (first | assumption | exact setG_same _ _ _ | refine Eq.trans (setG_ne _ _ (by first | assumption | exact Ne.symm (by assumption))) ?_)) ?_ | refine (nthK_iff _ _).2 ⟨_, (by assumption), ?_⟩ | refine ⟨_, ⟨(by omega), (by assumption)⟩, ?_⟩ | refine And.intro (by first | decide | omega) ?_ | fail); conv => whnf) | refine Sem.seqS ?_ | refine Sem.block ?_ | fail)
    exact ⟨_, fun _ _ h => h, rfl, _, _, _, _, _, by rw [e1]; rfl, fun h => by rw [e1] at h; cases h⟩
end Go.Proofs.Ytmmmaekaoanceaa
