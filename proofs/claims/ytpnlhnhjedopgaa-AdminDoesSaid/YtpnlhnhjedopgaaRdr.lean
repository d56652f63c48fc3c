/- span.Reader's methods in the abstract run. Written by a small program of mine (genrdr.py). -/
import Derived.Test.YtpnlhnhjedopgaaMapA
set_option maxRecDepth 100000
set_option linter.unusedSimpArgs false
namespace Go.Proofs.Ytpnlhnhjedopgaa
open Go Go.RowKit Go.Proofs

def rdG (b : ByteArray) (a : Nat) (e : Int) : GB := .cells [.str b, .int .i64 (a : Nat), .int .i64 e]
theorem rread_ok (b : ByteArray) (G : Glob) : CallOk Try.prog TT 97 [.str b] G (fun v G' => ∃ r, G r = none ∧ v = .gptr r 0 ∧ G' = setG G r (rdG b 0 0)) := by
  refine call_body tt_ok Try.func97 rfl (by kernel_rfl) Try.ntmps97 Try.results97 ?_; conv => whnf
  repeat' (first | ((first | refine BS_t (by assumption) ?_ | refine BS_f (by assumption) ?_ | refine atG (by repeat (first | assumption | exact setG_same _ _ _ | refine Eq.trans (setG_ne _ _ (by first | assumption | exact Ne.symm (by assumption))) ?_)) ?_ | refine (nthK_iff _ _).2 ⟨_, (by assumption), ?_⟩ | refine ⟨_, ⟨(by omega), (by assumption)⟩, ?_⟩ | refine And.intro (by first | decide | omega) ?_ | fail); conv => whnf) | fail)
  intro r hr
  conv => whnf
  exact ⟨_, fun _ _ h => h, r, hr, rfl, rfl⟩
theorem rest_ext (b : ByteArray) (a : Nat) : b.extract a b.size = rest b a := rfl

theorem rtakei_bad (f : FuncId) (m : Nat) (G : Glob) (r : Nat) (b : ByteArray) (a : Nat) (e : Int) (he : e ≠ 0) (hG : G r = some (rdG b a e)) :
    CallOk Try.prog TT 129 [.gptr r 0, .fn (.func f) [] [.gptr m 0]] G (fun v G' => v = .int .i64 0 ∧ G' = G) := by
  have c0 : (e != 0) = true := by simpa using he
  unfold rdG at hG
  refine call_sem tt_ok Try.func129 rfl (by kernel_rfl) Try.ntmps129 Try.results129 ?_; conv => whnf
  repeat' (first | ((first | refine Sem.reg tt_ok ?_ | refine Sem.condS ?_ | refine Sem.regL tt_ok ?_ | refine Sem.skip tt_ok ?_ | refine Sem.exit tt_ok ?_ | refine Sem.ret tt_ok ?_ | refine BS_t (by assumption) ?_ | refine BS_f (by assumption) ?_ | refine atG (by repeat (first | assumption | exact setG_same _ _ _ | refine Eq.trans (setG_ne _ _ (by first | assumption | exact Ne.symm (by assumption))) ?_)) ?_ | refine (nthK_iff _ _).2 ⟨_, (by assumption), ?_⟩ | refine ⟨_, ⟨(by omega), (by assumption)⟩, ?_⟩ | refine And.intro (by first | decide | omega) ?_ | fail); conv => whnf) | refine Sem.seqS ?_ | refine Sem.block ?_ | fail)
  exact ⟨_, fun _ _ h => h, rfl, rfl⟩
theorem rtakei_ok (f : FuncId) (m : Nat) (G : Glob) (r : Nat) (b : ByteArray) (a : Nat) (x : Int) (k : Nat) (e : Int) (ha : a ≤ b.size) (hb : b.size ≤ maxLen) (hk : k ≤ b.size - a) (hG : G r = some (rdG b a 0))
    (hby : CallOk Try.prog TT f ([.str (rest b a)] ++ [.gptr m 0]) G (fun v G' => v = .tup [.int .i64 x, .int .i64 (k : Nat), .int .i64 e] ∧ G' = G)) :
    CallOk Try.prog TT 129 [.gptr r 0, .fn (.func f) [] [.gptr m 0]] G (fun v G' => v = .int .i64 (if e = 0 then x else 0) ∧ G' = setG G r (rdG b (if e = 0 then a + k else a) e)) := by
  have hw : IntKind.i64.wrap ((a : Int) + k) = ((a + k : Nat) : Int) := by unfold maxLen at hb; rw [IntWalk.i64_in _ (by omega)]; omega
  unfold rdG at hG ⊢
  by_cases he : e = 0
  · subst he
    simp only [if_true]
    refine call_sem tt_ok Try.func129 rfl (by kernel_rfl) Try.ntmps129 Try.results129 ?_; conv => whnf
    repeat' (first | ((first | refine Sem.reg tt_ok ?_ | refine Sem.condS ?_ | refine Sem.regL tt_ok ?_ | refine Sem.skip tt_ok ?_ | refine Sem.exit tt_ok ?_ | refine Sem.ret tt_ok ?_ | refine BS_t (by assumption) ?_ | refine BS_f (by assumption) ?_ | refine atG (by repeat (first | assumption | exact setG_same _ _ _ | refine Eq.trans (setG_ne _ _ (by first | assumption | exact Ne.symm (by assumption))) ?_)) ?_ | refine (nthK_iff _ _).2 ⟨_, (by assumption), ?_⟩ | refine ⟨_, ⟨(by omega), (by assumption)⟩, ?_⟩ | refine And.intro (by first | decide | omega) ?_ | fail); conv => whnf) | refine Sem.seqS ?_ | refine Sem.block ?_ | fail)
    refine draw_sound (eff := []) tt_ok (by kernel_rfl) (by kernel_rfl) ?_; conv => whnf
    repeat' (first | ((first | refine BS_t (by assumption) ?_ | refine BS_f (by assumption) ?_ | refine atG (by repeat (first | assumption | exact setG_same _ _ _ | refine Eq.trans (setG_ne _ _ (by first | assumption | exact Ne.symm (by assumption))) ?_)) ?_ | refine (nthK_iff _ _).2 ⟨_, (by assumption), ?_⟩ | refine ⟨_, ⟨(by omega), (by assumption)⟩, ?_⟩ | refine And.intro (by first | decide | omega) ?_ | fail); conv => whnf) | fail)
    refine ⟨_, _, hby, ?_⟩; (conv => whnf); refine And.intro rfl ?_; conv => whnf
    repeat' (first | ((first | refine BS_t (by assumption) ?_ | refine BS_f (by assumption) ?_ | refine atG (by repeat (first | assumption | exact setG_same _ _ _ | refine Eq.trans (setG_ne _ _ (by first | assumption | exact Ne.symm (by assumption))) ?_)) ?_ | refine (nthK_iff _ _).2 ⟨_, (by assumption), ?_⟩ | refine ⟨_, ⟨(by omega), (by assumption)⟩, ?_⟩ | refine And.intro (by first | decide | omega) ?_ | fail); conv => whnf) | fail)
    repeat' (first | ((first | refine Sem.reg tt_ok ?_ | refine Sem.condS ?_ | refine Sem.regL tt_ok ?_ | refine Sem.skip tt_ok ?_ | refine Sem.exit tt_ok ?_ | refine Sem.ret tt_ok ?_ | refine BS_t (by assumption) ?_ | refine BS_f (by assumption) ?_ | refine atG (by repeat (first | assumption | exact setG_same _ _ _ | refine Eq.trans (setG_ne _ _ (by first | assumption | exact Ne.symm (by assumption))) ?_)) ?_ | refine (nthK_iff _ _).2 ⟨_, (by assumption), ?_⟩ | refine ⟨_, ⟨(by omega), (by assumption)⟩, ?_⟩ | refine And.intro (by first | decide | omega) ?_ | fail); conv => whnf) | refine Sem.seqS ?_ | refine Sem.block ?_ | fail)
    rw [hw]
    exact ⟨_, fun _ _ h => h, rfl, rfl⟩
  · have c1 : (e != 0) = true := by simpa using he
    simp only [if_neg he]
    refine call_sem tt_ok Try.func129 rfl (by kernel_rfl) Try.ntmps129 Try.results129 ?_; conv => whnf
    repeat' (first | ((first | refine Sem.reg tt_ok ?_ | refine Sem.condS ?_ | refine Sem.regL tt_ok ?_ | refine Sem.skip tt_ok ?_ | refine Sem.exit tt_ok ?_ | refine Sem.ret tt_ok ?_ | refine BS_t (by assumption) ?_ | refine BS_f (by assumption) ?_ | refine atG (by repeat (first | assumption | exact setG_same _ _ _ | refine Eq.trans (setG_ne _ _ (by first | assumption | exact Ne.symm (by assumption))) ?_)) ?_ | refine (nthK_iff _ _).2 ⟨_, (by assumption), ?_⟩ | refine ⟨_, ⟨(by omega), (by assumption)⟩, ?_⟩ | refine And.intro (by first | decide | omega) ?_ | fail); conv => whnf) | refine Sem.seqS ?_ | refine Sem.block ?_ | fail)
    refine draw_sound (eff := []) tt_ok (by kernel_rfl) (by kernel_rfl) ?_; conv => whnf
    repeat' (first | ((first | refine BS_t (by assumption) ?_ | refine BS_f (by assumption) ?_ | refine atG (by repeat (first | assumption | exact setG_same _ _ _ | refine Eq.trans (setG_ne _ _ (by first | assumption | exact Ne.symm (by assumption))) ?_)) ?_ | refine (nthK_iff _ _).2 ⟨_, (by assumption), ?_⟩ | refine ⟨_, ⟨(by omega), (by assumption)⟩, ?_⟩ | refine And.intro (by first | decide | omega) ?_ | fail); conv => whnf) | fail)
    refine ⟨_, _, hby, ?_⟩; (conv => whnf); refine And.intro rfl ?_; conv => whnf
    repeat' (first | ((first | refine BS_t (by assumption) ?_ | refine BS_f (by assumption) ?_ | refine atG (by repeat (first | assumption | exact setG_same _ _ _ | refine Eq.trans (setG_ne _ _ (by first | assumption | exact Ne.symm (by assumption))) ?_)) ?_ | refine (nthK_iff _ _).2 ⟨_, (by assumption), ?_⟩ | refine ⟨_, ⟨(by omega), (by assumption)⟩, ?_⟩ | refine And.intro (by first | decide | omega) ?_ | fail); conv => whnf) | fail)
    repeat' (first | ((first | refine Sem.reg tt_ok ?_ | refine Sem.condS ?_ | refine Sem.regL tt_ok ?_ | refine Sem.skip tt_ok ?_ | refine Sem.exit tt_ok ?_ | refine Sem.ret tt_ok ?_ | refine BS_t (by assumption) ?_ | refine BS_f (by assumption) ?_ | refine atG (by repeat (first | assumption | exact setG_same _ _ _ | refine Eq.trans (setG_ne _ _ (by first | assumption | exact Ne.symm (by assumption))) ?_)) ?_ | refine (nthK_iff _ _).2 ⟨_, (by assumption), ?_⟩ | refine ⟨_, ⟨(by omega), (by assumption)⟩, ?_⟩ | refine And.intro (by first | decide | omega) ?_ | fail); conv => whnf) | refine Sem.seqS ?_ | refine Sem.block ?_ | fail)
    exact ⟨_, fun _ _ h => h, rfl, rfl⟩

theorem rtakeu_bad (f : FuncId) (G : Glob) (r : Nat) (b : ByteArray) (a : Nat) (e : Int) (he : e ≠ 0) (hG : G r = some (rdG b a e)) :
    CallOk Try.prog TT 127 [.gptr r 0, .fn (.func f) [] []] G (fun v G' => v = .int .u64 0 ∧ G' = G) := by
  have c0 : (e != 0) = true := by simpa using he
  unfold rdG at hG
  refine call_sem tt_ok Try.func127 rfl (by kernel_rfl) Try.ntmps127 Try.results127 ?_; conv => whnf
  repeat' (first | ((first | refine Sem.reg tt_ok ?_ | refine Sem.condS ?_ | refine Sem.regL tt_ok ?_ | refine Sem.skip tt_ok ?_ | refine Sem.exit tt_ok ?_ | refine Sem.ret tt_ok ?_ | refine BS_t (by assumption) ?_ | refine BS_f (by assumption) ?_ | refine atG (by repeat (first | assumption | exact setG_same _ _ _ | refine Eq.trans (setG_ne _ _ (by first | assumption | exact Ne.symm (by assumption))) ?_)) ?_ | refine (nthK_iff _ _).2 ⟨_, (by assumption), ?_⟩ | refine ⟨_, ⟨(by omega), (by assumption)⟩, ?_⟩ | refine And.intro (by first | decide | omega) ?_ | fail); conv => whnf) | refine Sem.seqS ?_ | refine Sem.block ?_ | fail)
  exact ⟨_, fun _ _ h => h, rfl, rfl⟩
theorem rtakeu_ok (f : FuncId) (G : Glob) (r : Nat) (b : ByteArray) (a : Nat) (x : Int) (k : Nat) (e : Int) (ha : a ≤ b.size) (hb : b.size ≤ maxLen) (hk : k ≤ b.size - a) (hG : G r = some (rdG b a 0))
    (hby : CallOk Try.prog TT f ([.str (rest b a)] ++ []) G (fun v G' => v = .tup [.int .u64 x, .int .i64 (k : Nat), .int .i64 e] ∧ G' = G)) :
    CallOk Try.prog TT 127 [.gptr r 0, .fn (.func f) [] []] G (fun v G' => v = .int .u64 (if e = 0 then x else 0) ∧ G' = setG G r (rdG b (if e = 0 then a + k else a) e)) := by
  have hw : IntKind.i64.wrap ((a : Int) + k) = ((a + k : Nat) : Int) := by unfold maxLen at hb; rw [IntWalk.i64_in _ (by omega)]; omega
  unfold rdG at hG ⊢
  by_cases he : e = 0
  · subst he
    simp only [if_true]
    refine call_sem tt_ok Try.func127 rfl (by kernel_rfl) Try.ntmps127 Try.results127 ?_; conv => whnf
    repeat' (first | ((first | refine Sem.reg tt_ok ?_ | refine Sem.condS ?_ | refine Sem.regL tt_ok ?_ | refine Sem.skip tt_ok ?_ | refine Sem.exit tt_ok ?_ | refine Sem.ret tt_ok ?_ | refine BS_t (by assumption) ?_ | refine BS_f (by assumption) ?_ | refine atG (by repeat (first | assumption | exact setG_same _ _ _ | refine Eq.trans (setG_ne _ _ (by first | assumption | exact Ne.symm (by assumption))) ?_)) ?_ | refine (nthK_iff _ _).2 ⟨_, (by assumption), ?_⟩ | refine ⟨_, ⟨(by omega), (by assumption)⟩, ?_⟩ | refine And.intro (by first | decide | omega) ?_ | fail); conv => whnf) | refine Sem.seqS ?_ | refine Sem.block ?_ | fail)
    refine draw_sound (eff := []) tt_ok (by kernel_rfl) (by kernel_rfl) ?_; conv => whnf
    repeat' (first | ((first | refine BS_t (by assumption) ?_ | refine BS_f (by assumption) ?_ | refine atG (by repeat (first | assumption | exact setG_same _ _ _ | refine Eq.trans (setG_ne _ _ (by first | assumption | exact Ne.symm (by assumption))) ?_)) ?_ | refine (nthK_iff _ _).2 ⟨_, (by assumption), ?_⟩ | refine ⟨_, ⟨(by omega), (by assumption)⟩, ?_⟩ | refine And.intro (by first | decide | omega) ?_ | fail); conv => whnf) | fail)
    refine ⟨_, _, hby, ?_⟩; (conv => whnf); refine And.intro rfl ?_; conv => whnf
    repeat' (first | ((first | refine BS_t (by assumption) ?_ | refine BS_f (by assumption) ?_ | refine atG (by repeat (first | assumption | exact setG_same _ _ _ | refine Eq.trans (setG_ne _ _ (by first | assumption | exact Ne.symm (by assumption))) ?_)) ?_ | refine (nthK_iff _ _).2 ⟨_, (by assumption), ?_⟩ | refine ⟨_, ⟨(by omega), (by assumption)⟩, ?_⟩ | refine And.intro (by first | decide | omega) ?_ | fail); conv => whnf) | fail)
    repeat' (first | ((first | refine Sem.reg tt_ok ?_ | refine Sem.condS ?_ | refine Sem.regL tt_ok ?_ | refine Sem.skip tt_ok ?_ | refine Sem.exit tt_ok ?_ | refine Sem.ret tt_ok ?_ | refine BS_t (by assumption) ?_ | refine BS_f (by assumption) ?_ | refine atG (by repeat (first | assumption | exact setG_same _ _ _ | refine Eq.trans (setG_ne _ _ (by first | assumption | exact Ne.symm (by assumption))) ?_)) ?_ | refine (nthK_iff _ _).2 ⟨_, (by assumption), ?_⟩ | refine ⟨_, ⟨(by omega), (by assumption)⟩, ?_⟩ | refine And.intro (by first | decide | omega) ?_ | fail); conv => whnf) | refine Sem.seqS ?_ | refine Sem.block ?_ | fail)
    rw [hw]
    exact ⟨_, fun _ _ h => h, rfl, rfl⟩
  · have c1 : (e != 0) = true := by simpa using he
    simp only [if_neg he]
    refine call_sem tt_ok Try.func127 rfl (by kernel_rfl) Try.ntmps127 Try.results127 ?_; conv => whnf
    repeat' (first | ((first | refine Sem.reg tt_ok ?_ | refine Sem.condS ?_ | refine Sem.regL tt_ok ?_ | refine Sem.skip tt_ok ?_ | refine Sem.exit tt_ok ?_ | refine Sem.ret tt_ok ?_ | refine BS_t (by assumption) ?_ | refine BS_f (by assumption) ?_ | refine atG (by repeat (first | assumption | exact setG_same _ _ _ | refine Eq.trans (setG_ne _ _ (by first | assumption | exact Ne.symm (by assumption))) ?_)) ?_ | refine (nthK_iff _ _).2 ⟨_, (by assumption), ?_⟩ | refine ⟨_, ⟨(by omega), (by assumption)⟩, ?_⟩ | refine And.intro (by first | decide | omega) ?_ | fail); conv => whnf) | refine Sem.seqS ?_ | refine Sem.block ?_ | fail)
    refine draw_sound (eff := []) tt_ok (by kernel_rfl) (by kernel_rfl) ?_; conv => whnf
    repeat' (first | ((first | refine BS_t (by assumption) ?_ | refine BS_f (by assumption) ?_ | refine atG (by repeat (first | assumption | exact setG_same _ _ _ | refine Eq.trans (setG_ne _ _ (by first | assumption | exact Ne.symm (by assumption))) ?_)) ?_ | refine (nthK_iff _ _).2 ⟨_, (by assumption), ?_⟩ | refine ⟨_, ⟨(by omega), (by assumption)⟩, ?_⟩ | refine And.intro (by first | decide | omega) ?_ | fail); conv => whnf) | fail)
    refine ⟨_, _, hby, ?_⟩; (conv => whnf); refine And.intro rfl ?_; conv => whnf
    repeat' (first | ((first | refine BS_t (by assumption) ?_ | refine BS_f (by assumption) ?_ | refine atG (by repeat (first | assumption | exact setG_same _ _ _ | refine Eq.trans (setG_ne _ _ (by first | assumption | exact Ne.symm (by assumption))) ?_)) ?_ | refine (nthK_iff _ _).2 ⟨_, (by assumption), ?_⟩ | refine ⟨_, ⟨(by omega), (by assumption)⟩, ?_⟩ | refine And.intro (by first | decide | omega) ?_ | fail); conv => whnf) | fail)
    repeat' (first | ((first | refine Sem.reg tt_ok ?_ | refine Sem.condS ?_ | refine Sem.regL tt_ok ?_ | refine Sem.skip tt_ok ?_ | refine Sem.exit tt_ok ?_ | refine Sem.ret tt_ok ?_ | refine BS_t (by assumption) ?_ | refine BS_f (by assumption) ?_ | refine atG (by repeat (first | assumption | exact setG_same _ _ _ | refine Eq.trans (setG_ne _ _ (by first | assumption | exact Ne.symm (by assumption))) ?_)) ?_ | refine (nthK_iff _ _).2 ⟨_, (by assumption), ?_⟩ | refine ⟨_, ⟨(by omega), (by assumption)⟩, ?_⟩ | refine And.intro (by first | decide | omega) ?_ | fail); conv => whnf) | refine Sem.seqS ?_ | refine Sem.block ?_ | fail)
    exact ⟨_, fun _ _ h => h, rfl, rfl⟩

theorem rtakes_bad (f : FuncId) (G : Glob) (r : Nat) (b : ByteArray) (a : Nat) (e : Int) (he : e ≠ 0) (hG : G r = some (rdG b a e)) :
    CallOk Try.prog TT 131 [.gptr r 0, .fn (.func f) [] []] G (fun v G' => v = .str ⟨#[]⟩ ∧ G' = G) := by
  have c0 : (e != 0) = true := by simpa using he
  unfold rdG at hG
  refine call_sem tt_ok Try.func131 rfl (by kernel_rfl) Try.ntmps131 Try.results131 ?_; conv => whnf
  repeat' (first | ((first | refine Sem.reg tt_ok ?_ | refine Sem.condS ?_ | refine Sem.regL tt_ok ?_ | refine Sem.skip tt_ok ?_ | refine Sem.exit tt_ok ?_ | refine Sem.ret tt_ok ?_ | refine BS_t (by assumption) ?_ | refine BS_f (by assumption) ?_ | refine atG (by repeat (first | assumption | exact setG_same _ _ _ | refine Eq.trans (setG_ne _ _ (by first | assumption | exact Ne.symm (by assumption))) ?_)) ?_ | refine (nthK_iff _ _).2 ⟨_, (by assumption), ?_⟩ | refine ⟨_, ⟨(by omega), (by assumption)⟩, ?_⟩ | refine And.intro (by first | decide | omega) ?_ | fail); conv => whnf) | refine Sem.seqS ?_ | refine Sem.block ?_ | fail)
  exact ⟨_, fun _ _ h => h, rfl, rfl⟩
theorem rtakes_ok (f : FuncId) (G : Glob) (r : Nat) (b : ByteArray) (a : Nat) (x : ByteArray) (k : Nat) (e : Int) (ha : a ≤ b.size) (hb : b.size ≤ maxLen) (hk : k ≤ b.size - a) (hG : G r = some (rdG b a 0))
    (hby : CallOk Try.prog TT f ([.str (rest b a)] ++ []) G (fun v G' => v = .tup [.str x, .int .i64 (k : Nat), .int .i64 e] ∧ G' = G)) :
    CallOk Try.prog TT 131 [.gptr r 0, .fn (.func f) [] []] G (fun v G' => v = .str (if e = 0 then x else ⟨#[]⟩) ∧ G' = setG G r (rdG b (if e = 0 then a + k else a) e)) := by
  have hw : IntKind.i64.wrap ((a : Int) + k) = ((a + k : Nat) : Int) := by unfold maxLen at hb; rw [IntWalk.i64_in _ (by omega)]; omega
  unfold rdG at hG ⊢
  by_cases he : e = 0
  · subst he
    simp only [if_true]
    refine call_sem tt_ok Try.func131 rfl (by kernel_rfl) Try.ntmps131 Try.results131 ?_; conv => whnf
    repeat' (first | ((first | refine Sem.reg tt_ok ?_ | refine Sem.condS ?_ | refine Sem.regL tt_ok ?_ | refine Sem.skip tt_ok ?_ | refine Sem.exit tt_ok ?_ | refine Sem.ret tt_ok ?_ | refine BS_t (by assumption) ?_ | refine BS_f (by assumption) ?_ | refine atG (by repeat (first | assumption | exact setG_same _ _ _ | refine Eq.trans (setG_ne _ _ (by first | assumption | exact Ne.symm (by assumption))) ?_)) ?_ | refine (nthK_iff _ _).2 ⟨_, (by assumption), ?_⟩ | refine ⟨_, ⟨(by omega), (by assumption)⟩, ?_⟩ | refine And.intro (by first | decide | omega) ?_ | fail); conv => whnf) | refine Sem.seqS ?_ | refine Sem.block ?_ | fail)
    refine draw_sound (eff := []) tt_ok (by kernel_rfl) (by kernel_rfl) ?_; conv => whnf
    repeat' (first | ((first | refine BS_t (by assumption) ?_ | refine BS_f (by assumption) ?_ | refine atG (by repeat (first | assumption | exact setG_same _ _ _ | refine Eq.trans (setG_ne _ _ (by first | assumption | exact Ne.symm (by assumption))) ?_)) ?_ | refine (nthK_iff _ _).2 ⟨_, (by assumption), ?_⟩ | refine ⟨_, ⟨(by omega), (by assumption)⟩, ?_⟩ | refine And.intro (by first | decide | omega) ?_ | fail); conv => whnf) | fail)
    refine ⟨_, _, hby, ?_⟩; (conv => whnf); refine And.intro rfl ?_; conv => whnf
    repeat' (first | ((first | refine BS_t (by assumption) ?_ | refine BS_f (by assumption) ?_ | refine atG (by repeat (first | assumption | exact setG_same _ _ _ | refine Eq.trans (setG_ne _ _ (by first | assumption | exact Ne.symm (by assumption))) ?_)) ?_ | refine (nthK_iff _ _).2 ⟨_, (by assumption), ?_⟩ | refine ⟨_, ⟨(by omega), (by assumption)⟩, ?_⟩ | refine And.intro (by first | decide | omega) ?_ | fail); conv => whnf) | fail)
    repeat' (first | ((first | refine Sem.reg tt_ok ?_ | refine Sem.condS ?_ | refine Sem.regL tt_ok ?_ | refine Sem.skip tt_ok ?_ | refine Sem.exit tt_ok ?_ | refine Sem.ret tt_ok ?_ | refine BS_t (by assumption) ?_ | refine BS_f (by assumption) ?_ | refine atG (by repeat (first | assumption | exact setG_same _ _ _ | refine Eq.trans (setG_ne _ _ (by first | assumption | exact Ne.symm (by assumption))) ?_)) ?_ | refine (nthK_iff _ _).2 ⟨_, (by assumption), ?_⟩ | refine ⟨_, ⟨(by omega), (by assumption)⟩, ?_⟩ | refine And.intro (by first | decide | omega) ?_ | fail); conv => whnf) | refine Sem.seqS ?_ | refine Sem.block ?_ | fail)
    rw [hw]
    exact ⟨_, fun _ _ h => h, rfl, rfl⟩
  · have c1 : (e != 0) = true := by simpa using he
    simp only [if_neg he]
    refine call_sem tt_ok Try.func131 rfl (by kernel_rfl) Try.ntmps131 Try.results131 ?_; conv => whnf
    repeat' (first | ((first | refine Sem.reg tt_ok ?_ | refine Sem.condS ?_ | refine Sem.regL tt_ok ?_ | refine Sem.skip tt_ok ?_ | refine Sem.exit tt_ok ?_ | refine Sem.ret tt_ok ?_ | refine BS_t (by assumption) ?_ | refine BS_f (by assumption) ?_ | refine atG (by repeat (first | assumption | exact setG_same _ _ _ | refine Eq.trans (setG_ne _ _ (by first | assumption | exact Ne.symm (by assumption))) ?_)) ?_ | refine (nthK_iff _ _).2 ⟨_, (by assumption), ?_⟩ | refine ⟨_, ⟨(by omega), (by assumption)⟩, ?_⟩ | refine And.intro (by first | decide | omega) ?_ | fail); conv => whnf) | refine Sem.seqS ?_ | refine Sem.block ?_ | fail)
    refine draw_sound (eff := []) tt_ok (by kernel_rfl) (by kernel_rfl) ?_; conv => whnf
    repeat' (first | ((first | refine BS_t (by assumption) ?_ | refine BS_f (by assumption) ?_ | refine atG (by repeat (first | assumption | exact setG_same _ _ _ | refine Eq.trans (setG_ne _ _ (by first | assumption | exact Ne.symm (by assumption))) ?_)) ?_ | refine (nthK_iff _ _).2 ⟨_, (by assumption), ?_⟩ | refine ⟨_, ⟨(by omega), (by assumption)⟩, ?_⟩ | refine And.intro (by first | decide | omega) ?_ | fail); conv => whnf) | fail)
    refine ⟨_, _, hby, ?_⟩; (conv => whnf); refine And.intro rfl ?_; conv => whnf
    repeat' (first | ((first | refine BS_t (by assumption) ?_ | refine BS_f (by assumption) ?_ | refine atG (by repeat (first | assumption | exact setG_same _ _ _ | refine Eq.trans (setG_ne _ _ (by first | assumption | exact Ne.symm (by assumption))) ?_)) ?_ | refine (nthK_iff _ _).2 ⟨_, (by assumption), ?_⟩ | refine ⟨_, ⟨(by omega), (by assumption)⟩, ?_⟩ | refine And.intro (by first | decide | omega) ?_ | fail); conv => whnf) | fail)
    repeat' (first | ((first | refine Sem.reg tt_ok ?_ | refine Sem.condS ?_ | refine Sem.regL tt_ok ?_ | refine Sem.skip tt_ok ?_ | refine Sem.exit tt_ok ?_ | refine Sem.ret tt_ok ?_ | refine BS_t (by assumption) ?_ | refine BS_f (by assumption) ?_ | refine atG (by repeat (first | assumption | exact setG_same _ _ _ | refine Eq.trans (setG_ne _ _ (by first | assumption | exact Ne.symm (by assumption))) ?_)) ?_ | refine (nthK_iff _ _).2 ⟨_, (by assumption), ?_⟩ | refine ⟨_, ⟨(by omega), (by assumption)⟩, ?_⟩ | refine And.intro (by first | decide | omega) ?_ | fail); conv => whnf) | refine Sem.seqS ?_ | refine Sem.block ?_ | fail)
    exact ⟨_, fun _ _ h => h, rfl, rfl⟩

theorem rint1_ok (s : ByteArray) (most : Int) (m : Nat) (G : Glob) (hs : s.size ≤ maxLen) (m0 : 0 ≤ most) (m1 : most ≤ 9223372036854775807) (hG : G m = some (.cells [.int .i64 most])) :
    ∃ x : Int, ((intT s most).2.2 = 0 → x = (intT s most).1) ∧ CallOk Try.prog TT 130 [.str s, .gptr m 0] G (fun v G' => v = .tup [.int .i64 x, .int .i64 ((takeL s.data.toList).2.1 : Nat), .int .i64 (intT s most).2.2] ∧ G' = G) := by
  have hv := q_vartake s G hs
  have hsm := takeL_small s.data.toList
  have hbd := takeL_bd s.data.toList
  unfold takeAV at hv
  have hmx : max most 0 = most := by omega
  unfold intT
  rw [hmx]
  generalize takeL s.data.toList = t at *
  obtain ⟨n, k, e⟩ := t
  simp only at hv hsm hbd ⊢
  have hcv : IntKind.u64.wrap ((fun (a b : Int) => if b > a then b else a) most 0) = most := by
    show IntKind.u64.wrap (if (0 : Int) > most then 0 else most) = most
    rw [if_neg (by omega), IntKind.wrap_u64]; omega
  refine ⟨IntKind.i64.wrap (n : Nat), ?_, ?_⟩
  · intro h
    split at h
    · rename_i he; exact absurd h he
    · split at h
      · cases h
      · rename_i h1 h2
        rw [if_neg h1, if_neg h2, IntWalk.i64_in _ (by omega)]
  · by_cases he : e = 0
    · subst he
      by_cases hn : most < (n : Int)
      · have c1 : decide (((n : Nat) : Int) > IntKind.u64.wrap ((fun (a b : Int) => if b > a then b else a) most 0)) = true := by rw [hcv]; simpa using hn
        rw [if_neg (by simp), if_pos hn]
        refine call_sem tt_ok Try.func130 rfl (by kernel_rfl) Try.ntmps130 Try.results130 ?_; conv => whnf
        repeat' (first | ((first | refine Sem.reg tt_ok ?_ | refine Sem.condS ?_ | refine Sem.regL tt_ok ?_ | refine Sem.skip tt_ok ?_ | refine Sem.exit tt_ok ?_ | refine Sem.ret tt_ok ?_ | refine BS_t (by assumption) ?_ | refine BS_f (by assumption) ?_ | refine atG (by repeat (first | assumption | exact setG_same _ _ _ | refine Eq.trans (setG_ne _ _ (by first | assumption | exact Ne.symm (by assumption))) ?_)) ?_ | refine (nthK_iff _ _).2 ⟨_, (by assumption), ?_⟩ | refine ⟨_, ⟨(by omega), (by assumption)⟩, ?_⟩ | refine And.intro (by first | decide | omega) ?_ | fail); conv => whnf) | refine Sem.seqS ?_ | refine Sem.block ?_ | fail)
        refine hv.on ?_; conv => whnf
        repeat' (first | ((first | refine Sem.reg tt_ok ?_ | refine Sem.condS ?_ | refine Sem.regL tt_ok ?_ | refine Sem.skip tt_ok ?_ | refine Sem.exit tt_ok ?_ | refine Sem.ret tt_ok ?_ | refine BS_t (by assumption) ?_ | refine BS_f (by assumption) ?_ | refine atG (by repeat (first | assumption | exact setG_same _ _ _ | refine Eq.trans (setG_ne _ _ (by first | assumption | exact Ne.symm (by assumption))) ?_)) ?_ | refine (nthK_iff _ _).2 ⟨_, (by assumption), ?_⟩ | refine ⟨_, ⟨(by omega), (by assumption)⟩, ?_⟩ | refine And.intro (by first | decide | omega) ?_ | fail); conv => whnf) | refine Sem.seqS ?_ | refine Sem.block ?_ | fail)
        exact ⟨_, fun _ _ h => h, rfl, rfl⟩
      · have c1 : decide (((n : Nat) : Int) > IntKind.u64.wrap ((fun (a b : Int) => if b > a then b else a) most 0)) = false := by rw [hcv]; simpa using hn
        rw [if_neg (by simp), if_neg hn]
        refine call_sem tt_ok Try.func130 rfl (by kernel_rfl) Try.ntmps130 Try.results130 ?_; conv => whnf
        repeat' (first | ((first | refine Sem.reg tt_ok ?_ | refine Sem.condS ?_ | refine Sem.regL tt_ok ?_ | refine Sem.skip tt_ok ?_ | refine Sem.exit tt_ok ?_ | refine Sem.ret tt_ok ?_ | refine BS_t (by assumption) ?_ | refine BS_f (by assumption) ?_ | refine atG (by repeat (first | assumption | exact setG_same _ _ _ | refine Eq.trans (setG_ne _ _ (by first | assumption | exact Ne.symm (by assumption))) ?_)) ?_ | refine (nthK_iff _ _).2 ⟨_, (by assumption), ?_⟩ | refine ⟨_, ⟨(by omega), (by assumption)⟩, ?_⟩ | refine And.intro (by first | decide | omega) ?_ | fail); conv => whnf) | refine Sem.seqS ?_ | refine Sem.block ?_ | fail)
        refine hv.on ?_; conv => whnf
        repeat' (first | ((first | refine Sem.reg tt_ok ?_ | refine Sem.condS ?_ | refine Sem.regL tt_ok ?_ | refine Sem.skip tt_ok ?_ | refine Sem.exit tt_ok ?_ | refine Sem.ret tt_ok ?_ | refine BS_t (by assumption) ?_ | refine BS_f (by assumption) ?_ | refine atG (by repeat (first | assumption | exact setG_same _ _ _ | refine Eq.trans (setG_ne _ _ (by first | assumption | exact Ne.symm (by assumption))) ?_)) ?_ | refine (nthK_iff _ _).2 ⟨_, (by assumption), ?_⟩ | refine ⟨_, ⟨(by omega), (by assumption)⟩, ?_⟩ | refine And.intro (by first | decide | omega) ?_ | fail); conv => whnf) | refine Sem.seqS ?_ | refine Sem.block ?_ | fail)
        exact ⟨_, fun _ _ h => h, rfl, rfl⟩
    · have c1 : (e == 0) = false := by simpa using he
      rw [if_pos he]
      refine call_sem tt_ok Try.func130 rfl (by kernel_rfl) Try.ntmps130 Try.results130 ?_; conv => whnf
      repeat' (first | ((first | refine Sem.reg tt_ok ?_ | refine Sem.condS ?_ | refine Sem.regL tt_ok ?_ | refine Sem.skip tt_ok ?_ | refine Sem.exit tt_ok ?_ | refine Sem.ret tt_ok ?_ | refine BS_t (by assumption) ?_ | refine BS_f (by assumption) ?_ | refine atG (by repeat (first | assumption | exact setG_same _ _ _ | refine Eq.trans (setG_ne _ _ (by first | assumption | exact Ne.symm (by assumption))) ?_)) ?_ | refine (nthK_iff _ _).2 ⟨_, (by assumption), ?_⟩ | refine ⟨_, ⟨(by omega), (by assumption)⟩, ?_⟩ | refine And.intro (by first | decide | omega) ?_ | fail); conv => whnf) | refine Sem.seqS ?_ | refine Sem.block ?_ | fail)
      refine hv.on ?_; conv => whnf
      repeat' (first | ((first | refine Sem.reg tt_ok ?_ | refine Sem.condS ?_ | refine Sem.regL tt_ok ?_ | refine Sem.skip tt_ok ?_ | refine Sem.exit tt_ok ?_ | refine Sem.ret tt_ok ?_ | refine BS_t (by assumption) ?_ | refine BS_f (by assumption) ?_ | refine atG (by repeat (first | assumption | exact setG_same _ _ _ | refine Eq.trans (setG_ne _ _ (by first | assumption | exact Ne.symm (by assumption))) ?_)) ?_ | refine (nthK_iff _ _).2 ⟨_, (by assumption), ?_⟩ | refine ⟨_, ⟨(by omega), (by assumption)⟩, ?_⟩ | refine And.intro (by first | decide | omega) ?_ | fail); conv => whnf) | refine Sem.seqS ?_ | refine Sem.block ?_ | fail)
      exact ⟨_, fun _ _ h => h, rfl, rfl⟩
theorem rint_ok (G : Glob) (r : Nat) (b : ByteArray) (a : Nat) (e most : Int) (ha : a ≤ b.size) (hb : b.size ≤ maxLen) (m0 : 0 ≤ most) (m1 : most ≤ 9223372036854775807) (hG : G r = some (rdG b a e)) :
    CallOk Try.prog TT 99 [.gptr r 0, .int .i64 most] G (fun v G' => v = .int .i64 ((intS b a e most).1 : Nat) ∧ G' = setG G r (rdG b (intS b a e most).2.1 (intS b a e most).2.2)) := by
  by_cases he : e = 0
  · subst he
    have hbd := takeL_bd (rest b a).data.toList
    rw [rest_list] at hbd
    have hit : (intT (rest b a) most).2.2 = 0 → (intT (rest b a) most).2.1 = (takeL (rest b a).data.toList).2.1 := by
      intro h
      unfold intT at h ⊢
      split at h
      · rename_i h1; exact absurd h h1
      · split at h
        · cases h
        · rename_i h1 h2; rw [if_neg h1, if_neg h2]
    have hin : (intT (rest b a) most).2.2 ≠ 0 → (intT (rest b a) most).1 = 0 ∧ (intT (rest b a) most).2.1 = 0 := by
      intro h
      unfold intT at h ⊢
      split at h
      · rename_i h1; rw [if_pos h1]; exact ⟨rfl, rfl⟩
      · split at h
        · rename_i h1 h2; rw [if_neg h1, if_pos h2]; exact ⟨rfl, rfl⟩
        · rename_i h1 h2; exact absurd h (by simpa using h1)
    refine call_sem tt_ok Try.func99 rfl (by kernel_rfl) Try.ntmps99 Try.results99 ?_; conv => whnf
    repeat' (first | ((first | refine Sem.reg tt_ok ?_ | refine Sem.condS ?_ | refine Sem.regL tt_ok ?_ | refine Sem.skip tt_ok ?_ | refine Sem.exit tt_ok ?_ | refine Sem.ret tt_ok ?_ | refine BS_t (by assumption) ?_ | refine BS_f (by assumption) ?_ | refine atG (by repeat (first | assumption | exact setG_same _ _ _ | refine Eq.trans (setG_ne _ _ (by first | assumption | exact Ne.symm (by assumption))) ?_)) ?_ | refine (nthK_iff _ _).2 ⟨_, (by assumption), ?_⟩ | refine ⟨_, ⟨(by omega), (by assumption)⟩, ?_⟩ | refine And.intro (by first | decide | omega) ?_ | fail); conv => whnf) | refine Sem.seqS ?_ | refine Sem.block ?_ | fail)
    intro m hm
    conv => whnf
    have hne : r ≠ m := by rintro rfl; rw [hG] at hm; cases hm
    obtain ⟨x, hx, hby⟩ := rint1_ok (rest b a) most m (setG G m (.cells [.int .i64 most])) (by rw [rest_size]; omega) m0 m1 (setG_same _ _ _)
    have ht := rtakei_ok 130 m (setG G m (.cells [.int .i64 most])) r b a x _ _ ha hb (by omega) ((setG_ne _ _ hne).trans hG) hby
    refine ht.on ?_; conv => whnf
    repeat' (first | ((first | refine Sem.reg tt_ok ?_ | refine Sem.condS ?_ | refine Sem.regL tt_ok ?_ | refine Sem.skip tt_ok ?_ | refine Sem.exit tt_ok ?_ | refine Sem.ret tt_ok ?_ | refine BS_t (by assumption) ?_ | refine BS_f (by assumption) ?_ | refine atG (by repeat (first | assumption | exact setG_same _ _ _ | refine Eq.trans (setG_ne _ _ (by first | assumption | exact Ne.symm (by assumption))) ?_)) ?_ | refine (nthK_iff _ _).2 ⟨_, (by assumption), ?_⟩ | refine ⟨_, ⟨(by omega), (by assumption)⟩, ?_⟩ | refine And.intro (by first | decide | omega) ?_ | fail); conv => whnf) | refine Sem.seqS ?_ | refine Sem.block ?_ | fail)
    have hs : intS b a 0 most = ((intT (rest b a) most).1, a + (intT (rest b a) most).2.1, (intT (rest b a) most).2.2) := by unfold intS; rw [if_neg (by simp)]
    rw [hs]
    refine ⟨setG G r (rdG b (a + (intT (rest b a) most).2.1) (intT (rest b a) most).2.2), fun i y hi => ?_, ?_, rfl⟩
    · dsimp only
      by_cases hir : i = r
      · subst hir
        rw [setG_same] at hi ⊢
        rw [← hi]
        by_cases h0 : (intT (rest b a) most).2.2 = 0
        · rw [if_pos h0, hit h0]
        · rw [if_neg h0, (hin h0).2]; rfl
      · rw [setG_ne _ _ hir] at hi ⊢
        have him : i ≠ m := by rintro rfl; rw [hm] at hi; cases hi
        rw [setG_ne _ _ him]
        exact hi
    · by_cases h0 : (intT (rest b a) most).2.2 = 0
      · rw [if_pos h0, hx h0]
      · rw [if_neg h0, (hin h0).1]; rfl
  · have h1 : intS b a e most = (0, a, e) := by unfold intS; rw [if_pos he]
    rw [h1]
    refine call_sem tt_ok Try.func99 rfl (by kernel_rfl) Try.ntmps99 Try.results99 ?_; conv => whnf
    repeat' (first | ((first | refine Sem.reg tt_ok ?_ | refine Sem.condS ?_ | refine Sem.regL tt_ok ?_ | refine Sem.skip tt_ok ?_ | refine Sem.exit tt_ok ?_ | refine Sem.ret tt_ok ?_ | refine BS_t (by assumption) ?_ | refine BS_f (by assumption) ?_ | refine atG (by repeat (first | assumption | exact setG_same _ _ _ | refine Eq.trans (setG_ne _ _ (by first | assumption | exact Ne.symm (by assumption))) ?_)) ?_ | refine (nthK_iff _ _).2 ⟨_, (by assumption), ?_⟩ | refine ⟨_, ⟨(by omega), (by assumption)⟩, ?_⟩ | refine And.intro (by first | decide | omega) ?_ | fail); conv => whnf) | refine Sem.seqS ?_ | refine Sem.block ?_ | fail)
    intro m hm
    conv => whnf
    have hne : r ≠ m := by rintro rfl; rw [hG] at hm; cases hm
    have ht := rtakei_bad 130 m (setG G m (.cells [.int .i64 most])) r b a e he ((setG_ne _ _ hne).trans hG)
    refine ht.on ?_; conv => whnf
    repeat' (first | ((first | refine Sem.reg tt_ok ?_ | refine Sem.condS ?_ | refine Sem.regL tt_ok ?_ | refine Sem.skip tt_ok ?_ | refine Sem.exit tt_ok ?_ | refine Sem.ret tt_ok ?_ | refine BS_t (by assumption) ?_ | refine BS_f (by assumption) ?_ | refine atG (by repeat (first | assumption | exact setG_same _ _ _ | refine Eq.trans (setG_ne _ _ (by first | assumption | exact Ne.symm (by assumption))) ?_)) ?_ | refine (nthK_iff _ _).2 ⟨_, (by assumption), ?_⟩ | refine ⟨_, ⟨(by omega), (by assumption)⟩, ?_⟩ | refine And.intro (by first | decide | omega) ?_ | fail); conv => whnf) | refine Sem.seqS ?_ | refine Sem.block ?_ | fail)
    refine ⟨setG G r (rdG b a e), fun i y hi => ?_, rfl, rfl⟩
    rw [setG_back hG] at hi
    have him : i ≠ m := by rintro rfl; rw [hm] at hi; cases hi
    show setG G m _ i = some y
    rw [setG_ne _ _ him]
    exact hi
theorem rnum_ok (G : Glob) (r : Nat) (b : ByteArray) (a : Nat) (e : Int) (ha : a ≤ b.size) (hb : b.size ≤ maxLen) (hG : G r = some (rdG b a e)) :
    CallOk Try.prog TT 98 [.gptr r 0] G (fun v G' => v = .int .u64 ((numS b a e).1 : Nat) ∧ G' = setG G r (rdG b (numS b a e).2.1 (numS b a e).2.2)) := by
  by_cases he : e = 0
  · subst he
    have hv := q_vartake (rest b a) G (by rw [rest_size]; omega)
    unfold takeAV at hv
    have hbd := takeL_bd (rest b a).data.toList
    have hz := takeL_zero (rest b a).data.toList
    rw [rest_list] at hbd
    unfold numS
    rw [if_neg (by simp)]
    generalize takeL (rest b a).data.toList = t at *
    obtain ⟨n, k, e⟩ := t
    simp only at hv hbd hz ⊢
    have ht := rtakeu_ok 128 G r b a (n : Nat) k e ha hb (by omega) hG hv
    refine call_sem tt_ok Try.func98 rfl (by kernel_rfl) Try.ntmps98 Try.results98 ?_; conv => whnf
    repeat' (first | ((first | refine Sem.reg tt_ok ?_ | refine Sem.condS ?_ | refine Sem.regL tt_ok ?_ | refine Sem.skip tt_ok ?_ | refine Sem.exit tt_ok ?_ | refine Sem.ret tt_ok ?_ | refine BS_t (by assumption) ?_ | refine BS_f (by assumption) ?_ | refine atG (by repeat (first | assumption | exact setG_same _ _ _ | refine Eq.trans (setG_ne _ _ (by first | assumption | exact Ne.symm (by assumption))) ?_)) ?_ | refine (nthK_iff _ _).2 ⟨_, (by assumption), ?_⟩ | refine ⟨_, ⟨(by omega), (by assumption)⟩, ?_⟩ | refine And.intro (by first | decide | omega) ?_ | fail); conv => whnf) | refine Sem.seqS ?_ | refine Sem.block ?_ | fail)
    refine ht.on ?_; conv => whnf
    repeat' (first | ((first | refine Sem.reg tt_ok ?_ | refine Sem.condS ?_ | refine Sem.regL tt_ok ?_ | refine Sem.skip tt_ok ?_ | refine Sem.exit tt_ok ?_ | refine Sem.ret tt_ok ?_ | refine BS_t (by assumption) ?_ | refine BS_f (by assumption) ?_ | refine atG (by repeat (first | assumption | exact setG_same _ _ _ | refine Eq.trans (setG_ne _ _ (by first | assumption | exact Ne.symm (by assumption))) ?_)) ?_ | refine (nthK_iff _ _).2 ⟨_, (by assumption), ?_⟩ | refine ⟨_, ⟨(by omega), (by assumption)⟩, ?_⟩ | refine And.intro (by first | decide | omega) ?_ | fail); conv => whnf) | refine Sem.seqS ?_ | refine Sem.block ?_ | fail)
    refine ⟨_, fun _ _ h => h, ?_, ?_⟩
    · by_cases h0 : e = 0
      · rw [if_pos h0]
      · rw [if_neg h0, (hz h0).1]; rfl
    · dsimp only
      by_cases h0 : e = 0
      · rw [if_pos h0]
      · rw [if_neg h0, (hz h0).2]; rfl
  · have h1 : numS b a e = (0, a, e) := by unfold numS; rw [if_pos he]
    rw [h1]
    have ht := rtakeu_bad 128 G r b a e he hG
    refine call_sem tt_ok Try.func98 rfl (by kernel_rfl) Try.ntmps98 Try.results98 ?_; conv => whnf
    repeat' (first | ((first | refine Sem.reg tt_ok ?_ | refine Sem.condS ?_ | refine Sem.regL tt_ok ?_ | refine Sem.skip tt_ok ?_ | refine Sem.exit tt_ok ?_ | refine Sem.ret tt_ok ?_ | refine BS_t (by assumption) ?_ | refine BS_f (by assumption) ?_ | refine atG (by repeat (first | assumption | exact setG_same _ _ _ | refine Eq.trans (setG_ne _ _ (by first | assumption | exact Ne.symm (by assumption))) ?_)) ?_ | refine (nthK_iff _ _).2 ⟨_, (by assumption), ?_⟩ | refine ⟨_, ⟨(by omega), (by assumption)⟩, ?_⟩ | refine And.intro (by first | decide | omega) ?_ | fail); conv => whnf) | refine Sem.seqS ?_ | refine Sem.block ?_ | fail)
    refine ht.on ?_; conv => whnf
    repeat' (first | ((first | refine Sem.reg tt_ok ?_ | refine Sem.condS ?_ | refine Sem.regL tt_ok ?_ | refine Sem.skip tt_ok ?_ | refine Sem.exit tt_ok ?_ | refine Sem.ret tt_ok ?_ | refine BS_t (by assumption) ?_ | refine BS_f (by assumption) ?_ | refine atG (by repeat (first | assumption | exact setG_same _ _ _ | refine Eq.trans (setG_ne _ _ (by first | assumption | exact Ne.symm (by assumption))) ?_)) ?_ | refine (nthK_iff _ _).2 ⟨_, (by assumption), ?_⟩ | refine ⟨_, ⟨(by omega), (by assumption)⟩, ?_⟩ | refine And.intro (by first | decide | omega) ?_ | fail); conv => whnf) | refine Sem.seqS ?_ | refine Sem.block ?_ | fail)
    exact ⟨_, fun _ _ h => h, rfl, (setG_back hG).symm⟩
theorem rrest1_ok (s : ByteArray) (G : Glob) : CallOk Try.prog TT 132 [.str s] G (fun v G' => v = .tup [.str s, .int .i64 (s.size : Nat), .int .i64 0] ∧ G' = G) := by
  refine call_sem tt_ok Try.func132 rfl (by kernel_rfl) Try.ntmps132 Try.results132 ?_; conv => whnf
  repeat' (first | ((first | refine Sem.reg tt_ok ?_ | refine Sem.condS ?_ | refine Sem.regL tt_ok ?_ | refine Sem.skip tt_ok ?_ | refine Sem.exit tt_ok ?_ | refine Sem.ret tt_ok ?_ | refine BS_t (by assumption) ?_ | refine BS_f (by assumption) ?_ | refine atG (by repeat (first | assumption | exact setG_same _ _ _ | refine Eq.trans (setG_ne _ _ (by first | assumption | exact Ne.symm (by assumption))) ?_)) ?_ | refine (nthK_iff _ _).2 ⟨_, (by assumption), ?_⟩ | refine ⟨_, ⟨(by omega), (by assumption)⟩, ?_⟩ | refine And.intro (by first | decide | omega) ?_ | fail); conv => whnf) | refine Sem.seqS ?_ | refine Sem.block ?_ | fail)
  exact ⟨_, fun _ _ h => h, rfl, rfl⟩
theorem rrest_ok (G : Glob) (r : Nat) (b : ByteArray) (a : Nat) (e : Int) (ha : a ≤ b.size) (hb : b.size ≤ maxLen) (hG : G r = some (rdG b a e)) :
    CallOk Try.prog TT 100 [.gptr r 0] G (fun v G' => v = .str (restS b a e).1 ∧ G' = setG G r (rdG b (restS b a e).2.1 (restS b a e).2.2)) := by
  by_cases he : e = 0
  · subst he
    have ht := rtakes_ok 132 G r b a (rest b a) (rest b a).size 0 ha hb (by rw [rest_size]; omega) hG (rrest1_ok _ G)
    unfold restS
    rw [if_neg (by simp)]
    refine call_sem tt_ok Try.func100 rfl (by kernel_rfl) Try.ntmps100 Try.results100 ?_; conv => whnf
    repeat' (first | ((first | refine Sem.reg tt_ok ?_ | refine Sem.condS ?_ | refine Sem.regL tt_ok ?_ | refine Sem.skip tt_ok ?_ | refine Sem.exit tt_ok ?_ | refine Sem.ret tt_ok ?_ | refine BS_t (by assumption) ?_ | refine BS_f (by assumption) ?_ | refine atG (by repeat (first | assumption | exact setG_same _ _ _ | refine Eq.trans (setG_ne _ _ (by first | assumption | exact Ne.symm (by assumption))) ?_)) ?_ | refine (nthK_iff _ _).2 ⟨_, (by assumption), ?_⟩ | refine ⟨_, ⟨(by omega), (by assumption)⟩, ?_⟩ | refine And.intro (by first | decide | omega) ?_ | fail); conv => whnf) | refine Sem.seqS ?_ | refine Sem.block ?_ | fail)
    refine ht.on ?_; conv => whnf
    repeat' (first | ((first | refine Sem.reg tt_ok ?_ | refine Sem.condS ?_ | refine Sem.regL tt_ok ?_ | refine Sem.skip tt_ok ?_ | refine Sem.exit tt_ok ?_ | refine Sem.ret tt_ok ?_ | refine BS_t (by assumption) ?_ | refine BS_f (by assumption) ?_ | refine atG (by repeat (first | assumption | exact setG_same _ _ _ | refine Eq.trans (setG_ne _ _ (by first | assumption | exact Ne.symm (by assumption))) ?_)) ?_ | refine (nthK_iff _ _).2 ⟨_, (by assumption), ?_⟩ | refine ⟨_, ⟨(by omega), (by assumption)⟩, ?_⟩ | refine And.intro (by first | decide | omega) ?_ | fail); conv => whnf) | refine Sem.seqS ?_ | refine Sem.block ?_ | fail)
    exact ⟨_, fun _ _ h => h, rfl, rfl⟩
  · have h1 : restS b a e = (⟨#[]⟩, a, e) := by unfold restS; rw [if_pos he]
    rw [h1]
    have ht := rtakes_bad 132 G r b a e he hG
    refine call_sem tt_ok Try.func100 rfl (by kernel_rfl) Try.ntmps100 Try.results100 ?_; conv => whnf
    repeat' (first | ((first | refine Sem.reg tt_ok ?_ | refine Sem.condS ?_ | refine Sem.regL tt_ok ?_ | refine Sem.skip tt_ok ?_ | refine Sem.exit tt_ok ?_ | refine Sem.ret tt_ok ?_ | refine BS_t (by assumption) ?_ | refine BS_f (by assumption) ?_ | refine atG (by repeat (first | assumption | exact setG_same _ _ _ | refine Eq.trans (setG_ne _ _ (by first | assumption | exact Ne.symm (by assumption))) ?_)) ?_ | refine (nthK_iff _ _).2 ⟨_, (by assumption), ?_⟩ | refine ⟨_, ⟨(by omega), (by assumption)⟩, ?_⟩ | refine And.intro (by first | decide | omega) ?_ | fail); conv => whnf) | refine Sem.seqS ?_ | refine Sem.block ?_ | fail)
    refine ht.on ?_; conv => whnf
    repeat' (first | ((first | refine Sem.reg tt_ok ?_ | refine Sem.condS ?_ | refine Sem.regL tt_ok ?_ | refine Sem.skip tt_ok ?_ | refine Sem.exit tt_ok ?_ | refine Sem.ret tt_ok ?_ | refine BS_t (by assumption) ?_ | refine BS_f (by assumption) ?_ | refine atG (by repeat (first | assumption | exact setG_same _ _ _ | refine Eq.trans (setG_ne _ _ (by first | assumption | exact Ne.symm (by assumption))) ?_)) ?_ | refine (nthK_iff _ _).2 ⟨_, (by assumption), ?_⟩ | refine ⟨_, ⟨(by omega), (by assumption)⟩, ?_⟩ | refine And.intro (by first | decide | omega) ?_ | fail); conv => whnf) | refine Sem.seqS ?_ | refine Sem.block ?_ | fail)
    exact ⟨_, fun _ _ h => h, rfl, (setG_back hG).symm⟩
theorem rdone_ok (G : Glob) (r : Nat) (b : ByteArray) (a : Nat) (e : Int) (hG : G r = some (rdG b a e)) :
    CallOk Try.prog TT 101 [.gptr r 0] G (fun v G' => v = .int .i64 (if e ≠ 0 then e else if a < b.size then 1 else 0) ∧ G' = G) := by
  unfold rdG at hG
  by_cases he : e = 0
  · subst he
    by_cases hl : a < b.size
    · have c0 : decide (((a : Nat) : Int) < ((b.size : Nat) : Int)) = true := by simp; omega
      rw [if_neg (by simp), if_pos hl]
      refine call_sem tt_ok Try.func101 rfl (by kernel_rfl) Try.ntmps101 Try.results101 ?_; conv => whnf
      repeat' (first | ((first | refine Sem.reg tt_ok ?_ | refine Sem.condS ?_ | refine Sem.regL tt_ok ?_ | refine Sem.skip tt_ok ?_ | refine Sem.exit tt_ok ?_ | refine Sem.ret tt_ok ?_ | refine BS_t (by assumption) ?_ | refine BS_f (by assumption) ?_ | refine atG (by repeat (first | assumption | exact setG_same _ _ _ | refine Eq.trans (setG_ne _ _ (by first | assumption | exact Ne.symm (by assumption))) ?_)) ?_ | refine (nthK_iff _ _).2 ⟨_, (by assumption), ?_⟩ | refine ⟨_, ⟨(by omega), (by assumption)⟩, ?_⟩ | refine And.intro (by first | decide | omega) ?_ | fail); conv => whnf) | refine Sem.seqS ?_ | refine Sem.block ?_ | fail)
      refine draw_sound (eff := []) tt_ok (by kernel_rfl) (by kernel_rfl) ?_; conv => whnf
      repeat' (first | ((first | refine BS_t (by assumption) ?_ | refine BS_f (by assumption) ?_ | refine atG (by repeat (first | assumption | exact setG_same _ _ _ | refine Eq.trans (setG_ne _ _ (by first | assumption | exact Ne.symm (by assumption))) ?_)) ?_ | refine (nthK_iff _ _).2 ⟨_, (by assumption), ?_⟩ | refine ⟨_, ⟨(by omega), (by assumption)⟩, ?_⟩ | refine And.intro (by first | decide | omega) ?_ | fail); conv => whnf) | fail)
      repeat' (first | ((first | refine Sem.reg tt_ok ?_ | refine Sem.condS ?_ | refine Sem.regL tt_ok ?_ | refine Sem.skip tt_ok ?_ | refine Sem.exit tt_ok ?_ | refine Sem.ret tt_ok ?_ | refine BS_t (by assumption) ?_ | refine BS_f (by assumption) ?_ | refine atG (by repeat (first | assumption | exact setG_same _ _ _ | refine Eq.trans (setG_ne _ _ (by first | assumption | exact Ne.symm (by assumption))) ?_)) ?_ | refine (nthK_iff _ _).2 ⟨_, (by assumption), ?_⟩ | refine ⟨_, ⟨(by omega), (by assumption)⟩, ?_⟩ | refine And.intro (by first | decide | omega) ?_ | fail); conv => whnf) | refine Sem.seqS ?_ | refine Sem.block ?_ | fail)
      exact ⟨_, fun _ _ h => h, rfl, rfl⟩
    · have c0 : decide (((a : Nat) : Int) < ((b.size : Nat) : Int)) = false := by simp; omega
      rw [if_neg (by simp), if_neg hl]
      refine call_sem tt_ok Try.func101 rfl (by kernel_rfl) Try.ntmps101 Try.results101 ?_; conv => whnf
      repeat' (first | ((first | refine Sem.reg tt_ok ?_ | refine Sem.condS ?_ | refine Sem.regL tt_ok ?_ | refine Sem.skip tt_ok ?_ | refine Sem.exit tt_ok ?_ | refine Sem.ret tt_ok ?_ | refine BS_t (by assumption) ?_ | refine BS_f (by assumption) ?_ | refine atG (by repeat (first | assumption | exact setG_same _ _ _ | refine Eq.trans (setG_ne _ _ (by first | assumption | exact Ne.symm (by assumption))) ?_)) ?_ | refine (nthK_iff _ _).2 ⟨_, (by assumption), ?_⟩ | refine ⟨_, ⟨(by omega), (by assumption)⟩, ?_⟩ | refine And.intro (by first | decide | omega) ?_ | fail); conv => whnf) | refine Sem.seqS ?_ | refine Sem.block ?_ | fail)
      refine draw_sound (eff := []) tt_ok (by kernel_rfl) (by kernel_rfl) ?_; conv => whnf
      repeat' (first | ((first | refine BS_t (by assumption) ?_ | refine BS_f (by assumption) ?_ | refine atG (by repeat (first | assumption | exact setG_same _ _ _ | refine Eq.trans (setG_ne _ _ (by first | assumption | exact Ne.symm (by assumption))) ?_)) ?_ | refine (nthK_iff _ _).2 ⟨_, (by assumption), ?_⟩ | refine ⟨_, ⟨(by omega), (by assumption)⟩, ?_⟩ | refine And.intro (by first | decide | omega) ?_ | fail); conv => whnf) | fail)
      repeat' (first | ((first | refine Sem.reg tt_ok ?_ | refine Sem.condS ?_ | refine Sem.regL tt_ok ?_ | refine Sem.skip tt_ok ?_ | refine Sem.exit tt_ok ?_ | refine Sem.ret tt_ok ?_ | refine BS_t (by assumption) ?_ | refine BS_f (by assumption) ?_ | refine atG (by repeat (first | assumption | exact setG_same _ _ _ | refine Eq.trans (setG_ne _ _ (by first | assumption | exact Ne.symm (by assumption))) ?_)) ?_ | refine (nthK_iff _ _).2 ⟨_, (by assumption), ?_⟩ | refine ⟨_, ⟨(by omega), (by assumption)⟩, ?_⟩ | refine And.intro (by first | decide | omega) ?_ | fail); conv => whnf) | refine Sem.seqS ?_ | refine Sem.block ?_ | fail)
      exact ⟨_, fun _ _ h => h, rfl, rfl⟩
  · have c1 : (e != 0) = true := by simpa using he
    rw [if_pos he]
    refine call_sem tt_ok Try.func101 rfl (by kernel_rfl) Try.ntmps101 Try.results101 ?_; conv => whnf
    repeat' (first | ((first | refine Sem.reg tt_ok ?_ | refine Sem.condS ?_ | refine Sem.regL tt_ok ?_ | refine Sem.skip tt_ok ?_ | refine Sem.exit tt_ok ?_ | refine Sem.ret tt_ok ?_ | refine BS_t (by assumption) ?_ | refine BS_f (by assumption) ?_ | refine atG (by repeat (first | assumption | exact setG_same _ _ _ | refine Eq.trans (setG_ne _ _ (by first | assumption | exact Ne.symm (by assumption))) ?_)) ?_ | refine (nthK_iff _ _).2 ⟨_, (by assumption), ?_⟩ | refine ⟨_, ⟨(by omega), (by assumption)⟩, ?_⟩ | refine And.intro (by first | decide | omega) ?_ | fail); conv => whnf) | refine Sem.seqS ?_ | refine Sem.block ?_ | fail)
    exact ⟨_, fun _ _ h => h, rfl, rfl⟩
end Go.Proofs.Ytpnlhnhjedopgaa
