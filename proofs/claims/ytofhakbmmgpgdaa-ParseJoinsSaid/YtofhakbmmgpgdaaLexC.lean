/- The lexer's small functions, and its run over bytes; the document's classes. -/
import Derived.Test.YtofhakbmmgpgdaaLexB
set_option maxRecDepth 100000
set_option linter.unusedSimpArgs false
namespace Go.Proofs.Ytofhakbmmgpgdaa
open Go Go.RowKit Go.Proofs

theorem byteAt_S {s : List UInt8} {i : Nat} {j : Int} {c : UInt8} (h : s[i]? = some c) (hj : j = (i : Int)) : byteAt (S s) j.toNat = (c.toNat : Int) := by
  subst hj
  unfold byteAt
  rw [S_list, Int.toNat_natCast, List.getD_eq_getElem?_getD, h]; rfl
theorem letter_ok (c : UInt8) {n : Int} (hn : n = (c.toNat : Int)) (G : Glob) : CallOk Try.prog TT 32 [.int .u8 n] G (fun v G' => v = .bool (isLet c) ∧ G' = G) := by
  refine call_body tt_ok Try.func32 rfl (by kernel_rfl) Try.ntmps32 Try.results32 ?_; conv => whnf
  repeat' (first | (refine BS_t (by assumption) ?_; conv => whnf) | (refine BS_f (by assumption) ?_; conv => whnf) | (refine BS_intro (fun _ => ?_) (fun _ => ?_) <;> conv => whnf))
  all_goals (refine ⟨_, fun _ _ h => h, congrArg AV.bool ?_, rfl⟩; subst hn; unfold isLet; rw [Bool.eq_iff_iff]; simp only [decide_eq_true_eq, decide_eq_false_iff_not, Bool.true_eq_false, Bool.false_eq_true, false_iff, true_iff] at *; omega)
theorem digit_ok (c : UInt8) {n : Int} (hn : n = (c.toNat : Int)) (G : Glob) : CallOk Try.prog TT 34 [.int .u8 n] G (fun v G' => v = .bool (isDig c) ∧ G' = G) := by
  refine call_body tt_ok Try.func34 rfl (by kernel_rfl) Try.ntmps34 Try.results34 ?_; conv => whnf
  repeat' (first | (refine BS_t (by assumption) ?_; conv => whnf) | (refine BS_f (by assumption) ?_; conv => whnf) | (refine BS_intro (fun _ => ?_) (fun _ => ?_) <;> conv => whnf))
  all_goals (refine ⟨_, fun _ _ h => h, congrArg AV.bool ?_, rfl⟩; subst hn; unfold isDig; rw [Bool.eq_iff_iff]; simp only [decide_eq_true_eq, decide_eq_false_iff_not, Bool.true_eq_false, Bool.false_eq_true, false_iff, true_iff] at *; omega)
theorem isIn_of (c : UInt8) : isIn c = (isLet c || (isDig c || ((c.toNat : Int) == 95))) := by
  unfold isIn isLet isDig
  rw [Bool.eq_iff_iff]
  simp only [decide_eq_true_eq, Bool.or_eq_true, beq_iff_eq]
  omega
theorem inner_ok (c : UInt8) {n : Int} (hn : n = (c.toNat : Int)) (G : Glob) : CallOk Try.prog TT 44 [.int .u8 n] G (fun v G' => v = .bool (isIn c) ∧ G' = G) := by
  have e := isIn_of c
  refine call_body tt_ok Try.func44 rfl (by kernel_rfl) Try.ntmps44 Try.results44 ?_; conv => whnf
  refine (letter_ok c hn G).on ?_; conv => whnf
  cases h1 : isLet c with
  | true =>
    rw [h1] at e
    conv => whnf
    repeat' (first | ((first | refine BS_t (by assumption) ?_ | refine BS_f (by assumption) ?_ | refine atG (by repeat (first | assumption | exact setG_same _ _ _ | refine Eq.trans (setG_ne _ _ (by first | assumption | exact Ne.symm (by assumption))) ?_)) ?_ | refine (nthK_iff _ _).2 ⟨_, (by assumption), ?_⟩ | refine ⟨_, ⟨(by omega), (by assumption)⟩, ?_⟩ | refine And.intro (by first | decide | omega) ?_ | fail); conv => whnf) | fail)
    exact ⟨_, fun _ _ h => h, by rw [e]; rfl, rfl⟩
  | false =>
    rw [h1] at e
    conv => whnf
    refine (digit_ok c hn G).on ?_; conv => whnf
    cases h2 : isDig c with
    | true =>
      rw [h2] at e
      conv => whnf
      repeat' (first | ((first | refine BS_t (by assumption) ?_ | refine BS_f (by assumption) ?_ | refine atG (by repeat (first | assumption | exact setG_same _ _ _ | refine Eq.trans (setG_ne _ _ (by first | assumption | exact Ne.symm (by assumption))) ?_)) ?_ | refine (nthK_iff _ _).2 ⟨_, (by assumption), ?_⟩ | refine ⟨_, ⟨(by omega), (by assumption)⟩, ?_⟩ | refine And.intro (by first | decide | omega) ?_ | fail); conv => whnf) | fail)
      exact ⟨_, fun _ _ h => h, by rw [e]; rfl, rfl⟩
    | false =>
      rw [h2] at e
      conv => whnf
      repeat' (first | ((first | refine BS_t (by assumption) ?_ | refine BS_f (by assumption) ?_ | refine atG (by repeat (first | assumption | exact setG_same _ _ _ | refine Eq.trans (setG_ne _ _ (by first | assumption | exact Ne.symm (by assumption))) ?_)) ?_ | refine (nthK_iff _ _).2 ⟨_, (by assumption), ?_⟩ | refine ⟨_, ⟨(by omega), (by assumption)⟩, ?_⟩ | refine And.intro (by first | decide | omega) ?_ | fail); conv => whnf) | fail)
      exact ⟨_, fun _ _ h => h, by rw [e, hn]; rfl, rfl⟩
theorem note1_ok (c : UInt8) {n : Int} (hn : n = (c.toNat : Int)) (G : Glob) : CallOk Try.prog TT 46 [.int .u8 n] G (fun v G' => v = .bool (noNl c) ∧ G' = G) := by
  refine call_body tt_ok Try.func46 rfl (by kernel_rfl) Try.ntmps46 Try.results46 ?_; conv => whnf
  repeat' (first | ((first | refine BS_t (by assumption) ?_ | refine BS_f (by assumption) ?_ | refine atG (by repeat (first | assumption | exact setG_same _ _ _ | refine Eq.trans (setG_ne _ _ (by first | assumption | exact Ne.symm (by assumption))) ?_)) ?_ | refine (nthK_iff _ _).2 ⟨_, (by assumption), ?_⟩ | refine ⟨_, ⟨(by omega), (by assumption)⟩, ?_⟩ | refine And.intro (by first | decide | omega) ?_ | fail); conv => whnf) | fail)
  refine ⟨_, fun _ _ h => h, congrArg AV.bool ?_, rfl⟩
  subst hn; unfold noNl; rw [Bool.eq_iff_iff]; simp only [decide_eq_true_eq, bne_iff_ne]; omega
/-- a test of bytes, as a function that is handed on -/
def TestOk (f : FuncId) (p : UInt8 → Bool) : Prop := ∀ (c : UInt8) (n : Int) (_ : n = (c.toNat : Int)) (G : Glob), CallOk Try.prog TT f [.int .u8 n] G (fun v G' => v = .bool (p c) ∧ G' = G)
theorem run_more {p : UInt8 → Bool} {s : List UInt8} {a k : Nat} {c : UInt8} (hk : k ≤ (runL p s a).length) (hc : s[a + k]? = some c) : (p c = true ↔ k < (runL p s a).length) := by
  unfold runL at *
  have hc' : (s.drop a)[k]? = some c := by rw [List.getElem?_drop]; exact hc
  generalize s.drop a = l at *
  clear hc
  induction l generalizing k with
  | nil => simp at hc'
  | cons x r ih =>
    rw [List.takeWhile_cons] at *
    cases k with
    | zero =>
      simp only [List.getElem?_cons_zero, Option.some.injEq] at hc'
      subst hc'
      split
      · rename_i h; simp [h]
      · rename_i h; simp [h]
    | succ k =>
      split at hk
      · rename_i h
        rw [if_pos h]
        simp only [List.length_cons, Nat.add_le_add_iff_right, Nat.add_lt_add_iff_right, List.getElem?_cons_succ] at *
        exact ih hk hc'
      · simp at hk
theorem run_end {p : UInt8 → Bool} {s : List UInt8} {a k : Nat} (hk : k ≤ (runL p s a).length) (h : ¬ a + k < s.length) (ha : a ≤ s.length) : k = (runL p s a).length := by
  have := runL_le p s ha
  omega
structure WI (p : UInt8 → Bool) (s : List UInt8) (a : Nat) where
  k : Nat
  hk : k ≤ (runL p s a).length
theorem lexB_at (s : ByteArray) (a : Int) (els : List (List AV)) : lexB s a els = .box [.str s, .int .i64 a, .slc 50 els] [(2, 50, els)] := rfl
theorem while_ok {f : FuncId} {p : UInt8 → Bool} (ht : TestOk f p) (s : List UInt8) (a : Nat) (els : List (List AV)) (b : Nat) (G : Glob) (hG : G b = some (lexB (S s) (a : Nat) els)) (ha : a ≤ s.length) (hs : s.length ≤ 1048576) :
    CallOk Try.prog TT 43 [.gptr b 0, .fn (.func f) [] []] G (fun v G' => v = .str (S (runL p s a)) ∧ G' = setG G b (lexB (S s) ((a + (runL p s a).length : Nat) : Int) els)) := by
  rw [lexB_at] at hG
  refine call_sem tt_ok Try.func43 rfl (by kernel_rfl) Try.ntmps43 Try.results43 ?_; conv => whnf
  repeat' (first | ((first | refine Sem.reg tt_ok ?_ | refine Sem.condS ?_ | refine Sem.regL tt_ok ?_ | refine Sem.skip tt_ok ?_ | refine Sem.exit tt_ok ?_ | refine Sem.ret tt_ok ?_ | refine BS_t (by assumption) ?_ | refine BS_f (by assumption) ?_ | refine atG (by repeat (first | assumption | exact setG_same _ _ _ | refine Eq.trans (setG_ne _ _ (by first | assumption | exact Ne.symm (by assumption))) ?_)) ?_ | refine (nthK_iff _ _).2 ⟨_, (by assumption), ?_⟩ | refine ⟨_, ⟨(by omega), (by assumption)⟩, ?_⟩ | refine And.intro (by first | decide | omega) ?_ | fail); conv => whnf) | refine Sem.seqS ?_ | refine Sem.block ?_ | fail)
  refine Sem.loop (ι := WI p s a) (fun x => ⟨(.gptr b 0 :: .fn (.func f) [] [] :: .top :: .top :: .str ⟨#[]⟩ :: .int .i64 (a : Nat) :: .top :: .top :: .top :: .top :: .top :: .top :: .top :: .top :: .top :: .top :: .top :: .top :: .top :: .top :: .top :: .top :: .top :: .top :: .top :: .top :: .top :: .top :: .top :: .top :: .top :: .top :: .top :: .top :: .top :: .top :: .top :: .top :: .top :: .top :: .top :: .top :: .top :: .top :: .top :: .top :: .top :: .top :: .top :: .top :: []), [], 0, 0, setG G b (lexB (S s) ((a + x.k : Nat) : Int) els)⟩) (fun x => (runL p s a).length - x.k) ⟨0, Nat.zero_le _⟩ ?_ (fun x => ?_)
  · refine weak_by [] ?_; (conv => whnf); repeat (first | (refine And.intro rfl ?_; conv => whnf) | fail)
    exact ⟨fun i y hy => by rw [show setG G b (lexB (S s) ((a + 0 : Nat) : Int) els) = G from setG_back hG] at hy; exact hy, rfl, Nat.le_refl _, rfl, rfl⟩
  have hk := x.hk
  generalize x.k = k at hk ⊢
  have hsz := S_size s
  have stop : k = (runL p s a).length → AV.str ((S s).extract ((a : Nat) : Int).toNat (((a + k : Nat) : Int)).toNat) = .str (S (runL p s a)) := fun e => by
    rw [S_extract, Int.toNat_natCast, Int.toNat_natCast, show a + k - a = k by omega, e, run_take]
  have hle := runL_le p s ha
  repeat' (first | ((first | refine Sem.reg tt_ok ?_ | refine Sem.condS ?_ | refine Sem.regL tt_ok ?_ | refine Sem.skip tt_ok ?_ | refine Sem.exit tt_ok ?_ | refine Sem.ret tt_ok ?_ | refine BS_t (by assumption) ?_ | refine BS_f (by assumption) ?_ | refine atG (by repeat (first | assumption | exact setG_same _ _ _ | refine Eq.trans (setG_ne _ _ (by first | assumption | exact Ne.symm (by assumption))) ?_)) ?_ | refine (nthK_iff _ _).2 ⟨_, (by assumption), ?_⟩ | refine ⟨_, ⟨(by omega), (by assumption)⟩, ?_⟩ | refine And.intro (by first | decide | omega) ?_ | fail); conv => whnf) | refine Sem.seqS ?_ | refine Sem.block ?_ | fail)
  refine draw_sound (eff := []) tt_ok (by kernel_rfl) (by kernel_rfl) ?_; conv => whnf
  repeat' (first | ((first | refine BS_t (by assumption) ?_ | refine BS_f (by assumption) ?_ | refine atG (by repeat (first | assumption | exact setG_same _ _ _ | refine Eq.trans (setG_ne _ _ (by first | assumption | exact Ne.symm (by assumption))) ?_)) ?_ | refine (nthK_iff _ _).2 ⟨_, (by assumption), ?_⟩ | refine ⟨_, ⟨(by omega), (by assumption)⟩, ?_⟩ | refine And.intro (by first | decide | omega) ?_ | fail); conv => whnf) | fail)
  by_cases hlt : a + k < s.length
  · have c0 : decide (((a + k : Nat) : Int) < ((S s).size : Nat)) = true := by simp; omega
    have hc : s[a + k]? = some s[a + k] := List.getElem?_eq_getElem hlt
    have hm := run_more hk hc
    generalize s[a + k] = c at hc hm
    repeat' (first | ((first | refine BS_t (by assumption) ?_ | refine BS_f (by assumption) ?_ | refine atG (by repeat (first | assumption | exact setG_same _ _ _ | refine Eq.trans (setG_ne _ _ (by first | assumption | exact Ne.symm (by assumption))) ?_)) ?_ | refine (nthK_iff _ _).2 ⟨_, (by assumption), ?_⟩ | refine ⟨_, ⟨(by omega), (by assumption)⟩, ?_⟩ | refine And.intro (by first | decide | omega) ?_ | fail); conv => whnf) | fail)
    refine ⟨_, _, ht c _ (byteAt_S hc rfl) _, ?_⟩; (conv => whnf); refine And.intro rfl ?_; conv => whnf
    cases hp : p c with
    | true =>
      have hk2 := hm.1 hp
      repeat' (first | ((first | refine BS_t (by assumption) ?_ | refine BS_f (by assumption) ?_ | refine atG (by repeat (first | assumption | exact setG_same _ _ _ | refine Eq.trans (setG_ne _ _ (by first | assumption | exact Ne.symm (by assumption))) ?_)) ?_ | refine (nthK_iff _ _).2 ⟨_, (by assumption), ?_⟩ | refine ⟨_, ⟨(by omega), (by assumption)⟩, ?_⟩ | refine And.intro (by first | decide | omega) ?_ | fail); conv => whnf) | fail)
      repeat' (first | ((first | refine Sem.reg tt_ok ?_ | refine Sem.condS ?_ | refine Sem.regL tt_ok ?_ | refine Sem.skip tt_ok ?_ | refine Sem.exit tt_ok ?_ | refine Sem.ret tt_ok ?_ | refine BS_t (by assumption) ?_ | refine BS_f (by assumption) ?_ | refine atG (by repeat (first | assumption | exact setG_same _ _ _ | refine Eq.trans (setG_ne _ _ (by first | assumption | exact Ne.symm (by assumption))) ?_)) ?_ | refine (nthK_iff _ _).2 ⟨_, (by assumption), ?_⟩ | refine ⟨_, ⟨(by omega), (by assumption)⟩, ?_⟩ | refine And.intro (by first | decide | omega) ?_ | fail); conv => whnf) | refine Sem.seqS ?_ | refine Sem.block ?_ | fail)
      have hw : IntKind.i64.wrap (((a + k : Nat) : Int) + 1) = ((a + (k + 1) : Nat) : Int) := by rw [IntWalk.i64_in _ (by omega)]; omega
      refine ⟨⟨k + 1, hk2⟩, by show (runL p s a).length - (k + 1) < (runL p s a).length - k; omega, ?_⟩
      refine weak_by [] ?_; (conv => whnf); repeat (first | (refine And.intro rfl ?_; conv => whnf) | fail)
      exact ⟨fun i y hy => by rw [setG_twice, hw]; exact hy, rfl, Nat.le_refl _, rfl, rfl⟩
    | false =>
      have hk2 : k = (runL p s a).length := by
        rcases Nat.lt_or_ge k (runL p s a).length with h | h
        · have := hm.2 h; rw [hp] at this; cases this
        · omega
      repeat' (first | ((first | refine BS_t (by assumption) ?_ | refine BS_f (by assumption) ?_ | refine atG (by repeat (first | assumption | exact setG_same _ _ _ | refine Eq.trans (setG_ne _ _ (by first | assumption | exact Ne.symm (by assumption))) ?_)) ?_ | refine (nthK_iff _ _).2 ⟨_, (by assumption), ?_⟩ | refine ⟨_, ⟨(by omega), (by assumption)⟩, ?_⟩ | refine And.intro (by first | decide | omega) ?_ | fail); conv => whnf) | fail)
      repeat' (first | ((first | refine Sem.reg tt_ok ?_ | refine Sem.condS ?_ | refine Sem.regL tt_ok ?_ | refine Sem.skip tt_ok ?_ | refine Sem.exit tt_ok ?_ | refine Sem.ret tt_ok ?_ | refine BS_t (by assumption) ?_ | refine BS_f (by assumption) ?_ | refine atG (by repeat (first | assumption | exact setG_same _ _ _ | refine Eq.trans (setG_ne _ _ (by first | assumption | exact Ne.symm (by assumption))) ?_)) ?_ | refine (nthK_iff _ _).2 ⟨_, (by assumption), ?_⟩ | refine ⟨_, ⟨(by omega), (by assumption)⟩, ?_⟩ | refine And.intro (by first | decide | omega) ?_ | fail); conv => whnf) | refine Sem.seqS ?_ | refine Sem.block ?_ | fail)
      refine draw_sound (eff := []) tt_ok (by kernel_rfl) (by kernel_rfl) ?_; conv => whnf
      repeat' (first | ((first | refine BS_t (by assumption) ?_ | refine BS_f (by assumption) ?_ | refine atG (by repeat (first | assumption | exact setG_same _ _ _ | refine Eq.trans (setG_ne _ _ (by first | assumption | exact Ne.symm (by assumption))) ?_)) ?_ | refine (nthK_iff _ _).2 ⟨_, (by assumption), ?_⟩ | refine ⟨_, ⟨(by omega), (by assumption)⟩, ?_⟩ | refine And.intro (by first | decide | omega) ?_ | fail); conv => whnf) | fail)
      repeat' (first | ((first | refine Sem.reg tt_ok ?_ | refine Sem.condS ?_ | refine Sem.regL tt_ok ?_ | refine Sem.skip tt_ok ?_ | refine Sem.exit tt_ok ?_ | refine Sem.ret tt_ok ?_ | refine BS_t (by assumption) ?_ | refine BS_f (by assumption) ?_ | refine atG (by repeat (first | assumption | exact setG_same _ _ _ | refine Eq.trans (setG_ne _ _ (by first | assumption | exact Ne.symm (by assumption))) ?_)) ?_ | refine (nthK_iff _ _).2 ⟨_, (by assumption), ?_⟩ | refine ⟨_, ⟨(by omega), (by assumption)⟩, ?_⟩ | refine And.intro (by first | decide | omega) ?_ | fail); conv => whnf) | refine Sem.seqS ?_ | refine Sem.block ?_ | fail)
      refine ⟨_, fun _ _ h => h, stop hk2, ?_⟩
      rw [← hk2]
  · have c0 : decide (((a + k : Nat) : Int) < ((S s).size : Nat)) = false := by simp; omega
    have hk2 := run_end hk hlt ha
    repeat' (first | ((first | refine BS_t (by assumption) ?_ | refine BS_f (by assumption) ?_ | refine atG (by repeat (first | assumption | exact setG_same _ _ _ | refine Eq.trans (setG_ne _ _ (by first | assumption | exact Ne.symm (by assumption))) ?_)) ?_ | refine (nthK_iff _ _).2 ⟨_, (by assumption), ?_⟩ | refine ⟨_, ⟨(by omega), (by assumption)⟩, ?_⟩ | refine And.intro (by first | decide | omega) ?_ | fail); conv => whnf) | fail)
    repeat' (first | ((first | refine Sem.reg tt_ok ?_ | refine Sem.condS ?_ | refine Sem.regL tt_ok ?_ | refine Sem.skip tt_ok ?_ | refine Sem.exit tt_ok ?_ | refine Sem.ret tt_ok ?_ | refine BS_t (by assumption) ?_ | refine BS_f (by assumption) ?_ | refine atG (by repeat (first | assumption | exact setG_same _ _ _ | refine Eq.trans (setG_ne _ _ (by first | assumption | exact Ne.symm (by assumption))) ?_)) ?_ | refine (nthK_iff _ _).2 ⟨_, (by assumption), ?_⟩ | refine ⟨_, ⟨(by omega), (by assumption)⟩, ?_⟩ | refine And.intro (by first | decide | omega) ?_ | fail); conv => whnf) | refine Sem.seqS ?_ | refine Sem.block ?_ | fail)
    refine draw_sound (eff := []) tt_ok (by kernel_rfl) (by kernel_rfl) ?_; conv => whnf
    repeat' (first | ((first | refine BS_t (by assumption) ?_ | refine BS_f (by assumption) ?_ | refine atG (by repeat (first | assumption | exact setG_same _ _ _ | refine Eq.trans (setG_ne _ _ (by first | assumption | exact Ne.symm (by assumption))) ?_)) ?_ | refine (nthK_iff _ _).2 ⟨_, (by assumption), ?_⟩ | refine ⟨_, ⟨(by omega), (by assumption)⟩, ?_⟩ | refine And.intro (by first | decide | omega) ?_ | fail); conv => whnf) | fail)
    repeat' (first | ((first | refine Sem.reg tt_ok ?_ | refine Sem.condS ?_ | refine Sem.regL tt_ok ?_ | refine Sem.skip tt_ok ?_ | refine Sem.exit tt_ok ?_ | refine Sem.ret tt_ok ?_ | refine BS_t (by assumption) ?_ | refine BS_f (by assumption) ?_ | refine atG (by repeat (first | assumption | exact setG_same _ _ _ | refine Eq.trans (setG_ne _ _ (by first | assumption | exact Ne.symm (by assumption))) ?_)) ?_ | refine (nthK_iff _ _).2 ⟨_, (by assumption), ?_⟩ | refine ⟨_, ⟨(by omega), (by assumption)⟩, ?_⟩ | refine And.intro (by first | decide | omega) ?_ | fail); conv => whnf) | refine Sem.seqS ?_ | refine Sem.block ?_ | fail)
    refine ⟨_, fun _ _ h => h, stop hk2, ?_⟩
    rw [← hk2]
end Go.Proofs.Ytofhakbmmgpgdaa
