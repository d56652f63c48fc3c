/- One text out of several: PrsA, Wrd, PrsB, PrsC, PrsD, PrsE, PrsF, PrsG, PrsH. -/
import Derived.Test.YtofhakbmmgpgdaaDoorGi
import Derived.Test.YtofhakbmmgpgdaaDoorGg
import Derived.Test.YtofhakbmmgpgdaaDoorOwn
import Derived.Shelf.Strings.Search3
import Derived.Lib.IndexAny
import Derived.Test.YtofhakbmmgpgdaaDoorPin
import Derived.Shelf.Vars

section
/- The parser's small functions in the abstract run. -/
set_option maxRecDepth 100000
set_option linter.unusedSimpArgs false
namespace Go.Proofs.YtofhakbmmgpgdaaDoor
open Go Go.RowKit Go.Proofs

def tTk : TypeId := 101
/-- the parser's box -/
def pB (L : List Tok) (p : PS) : GB := .cells [.slc 101 (L.map Tok.av), .int .i64 (p.at_ : Nat), .int .i64 (p.err : Nat), .int .i64 (p.eat : Nat)]
theorem pB_at (L : List Tok) (p : PS) : pB L p = .cells [.slc 101 (L.map Tok.av), .int .i64 (p.at_ : Nat), .int .i64 (p.err : Nat), .int .i64 (p.eat : Nat)] := rfl
theorem seq_S (a b : List UInt8) : ((S a).toList == (S b).toList) = decide (a = b) := by
  rw [S_toList, S_toList, Bool.eq_iff_iff]; simp
theorem now_ok {L : List Tok} {p : PS} {pb : Nat} {G : Glob} (hG : G pb = some (pB L p)) (hp : p.at_ < L.length) : CallOk Tryd.prog TT 58 [.gptr pb 0] G (fun v G' => v = .agg (cur L p).av ∧ G' = G) := by
  have hidx : (L.map Tok.av)[((p.at_ : Nat) : Int).toNat]? = some (cur L p).av := by rw [Int.toNat_natCast, List.getElem?_map, cur_at hp]; rfl
  have h0 : (0 : Int) ≤ ((p.at_ : Nat) : Int) := by omega
  rw [pB_at] at hG
  refine call_sem tt_ok Tryd.func58 rfl (by kernel_rfl) Tryd.ntmps58 Tryd.results58 ?_; conv => whnf
  repeat' (first | ((first | refine Sem.reg tt_ok ?_ | refine Sem.condS ?_ | refine Sem.regL tt_ok ?_ | refine Sem.skip tt_ok ?_ | refine Sem.exit tt_ok ?_ | refine Sem.ret tt_ok ?_ | refine BS_t (by assumption) ?_ | refine BS_f (by assumption) ?_ | refine atG (by repeat (first | assumption | exact setG_same _ _ _ | refine Eq.trans (setG_ne _ _ (by first | assumption | exact Ne.symm (by assumption))) ?_)) ?_ | refine (nthK_iff _ _).2 ⟨_, (by assumption), ?_⟩ | refine ⟨_, ⟨(by omega), (by assumption)⟩, ?_⟩ | refine And.intro (by first | decide | omega) ?_ | fail); conv => whnf) | refine Sem.seqS ?_ | refine Sem.block ?_ | fail)
  refine draw_sound (eff := []) tt_ok (by kernel_rfl) (by kernel_rfl) ?_; conv => whnf
  repeat' (first | ((first | refine BS_t (by assumption) ?_ | refine BS_f (by assumption) ?_ | refine atG (by repeat (first | assumption | exact setG_same _ _ _ | refine Eq.trans (setG_ne _ _ (by first | assumption | exact Ne.symm (by assumption))) ?_)) ?_ | refine (nthK_iff _ _).2 ⟨_, (by assumption), ?_⟩ | refine ⟨_, ⟨(by omega), (by assumption)⟩, ?_⟩ | refine And.intro (by first | decide | omega) ?_ | fail); conv => whnf) | fail)
  repeat' (first | ((first | refine Sem.reg tt_ok ?_ | refine Sem.condS ?_ | refine Sem.regL tt_ok ?_ | refine Sem.skip tt_ok ?_ | refine Sem.exit tt_ok ?_ | refine Sem.ret tt_ok ?_ | refine BS_t (by assumption) ?_ | refine BS_f (by assumption) ?_ | refine atG (by repeat (first | assumption | exact setG_same _ _ _ | refine Eq.trans (setG_ne _ _ (by first | assumption | exact Ne.symm (by assumption))) ?_)) ?_ | refine (nthK_iff _ _).2 ⟨_, (by assumption), ?_⟩ | refine ⟨_, ⟨(by omega), (by assumption)⟩, ?_⟩ | refine And.intro (by first | decide | omega) ?_ | fail); conv => whnf) | refine Sem.seqS ?_ | refine Sem.block ?_ | fail)
  exact ⟨_, fun _ _ h => h, rfl, rfl⟩
theorem well_ok {L : List Tok} {p : PS} {pb : Nat} {G : Glob} (hG : G pb = some (pB L p)) {b : Bool} (hb : decide (p.err = 0) = b) : CallOk Tryd.prog TT 57 [.gptr pb 0] G (fun v G' => v = .bool b ∧ G' = G) := by
  rw [pB_at] at hG
  refine call_sem tt_ok Tryd.func57 rfl (by kernel_rfl) Tryd.ntmps57 Tryd.results57 ?_; conv => whnf
  repeat' (first | ((first | refine Sem.reg tt_ok ?_ | refine Sem.condS ?_ | refine Sem.regL tt_ok ?_ | refine Sem.skip tt_ok ?_ | refine Sem.exit tt_ok ?_ | refine Sem.ret tt_ok ?_ | refine BS_t (by assumption) ?_ | refine BS_f (by assumption) ?_ | refine atG (by repeat (first | assumption | exact setG_same _ _ _ | refine Eq.trans (setG_ne _ _ (by first | assumption | exact Ne.symm (by assumption))) ?_)) ?_ | refine (nthK_iff _ _).2 ⟨_, (by assumption), ?_⟩ | refine ⟨_, ⟨(by omega), (by assumption)⟩, ?_⟩ | refine And.intro (by first | decide | omega) ?_ | fail); conv => whnf) | refine Sem.seqS ?_ | refine Sem.block ?_ | fail)
  refine ⟨_, fun _ _ h => h, congrArg AV.bool ?_, rfl⟩
  rw [← hb, Bool.eq_iff_iff]; simp
theorem fail_ok {L : List Tok} {p : PS} {pb : Nat} {G : Glob} (hG : G pb = some (pB L p)) (hp : p.at_ < L.length) (e : Nat) : CallOk Tryd.prog TT 59 [.gptr pb 0, .int .i64 (e : Nat)] G (fun v G' => v = .tup [] ∧ G' = setG G pb (pB L (failP L p e))) := by
  have hnow := now_ok hG hp
  unfold Tok.av tokC at hnow
  by_cases h0 : p.err = 0
  · have hw := well_ok hG (b := true) (by simp [h0])
    unfold failP
    rw [if_pos h0]
    rw [pB_at] at hG
    refine call_sem tt_ok Tryd.func59 rfl (by kernel_rfl) Tryd.ntmps59 Tryd.results59 ?_; conv => whnf
    repeat' (first | ((first | refine Sem.reg tt_ok ?_ | refine Sem.condS ?_ | refine Sem.regL tt_ok ?_ | refine Sem.skip tt_ok ?_ | refine Sem.exit tt_ok ?_ | refine Sem.ret tt_ok ?_ | refine BS_t (by assumption) ?_ | refine BS_f (by assumption) ?_ | refine atG (by repeat (first | assumption | exact setG_same _ _ _ | refine Eq.trans (setG_ne _ _ (by first | assumption | exact Ne.symm (by assumption))) ?_)) ?_ | refine (nthK_iff _ _).2 ⟨_, (by assumption), ?_⟩ | refine ⟨_, ⟨(by omega), (by assumption)⟩, ?_⟩ | refine And.intro (by first | decide | omega) ?_ | fail); conv => whnf) | refine Sem.seqS ?_ | refine Sem.block ?_ | fail)
    refine hw.on ?_; conv => whnf
    repeat' (first | ((first | refine Sem.reg tt_ok ?_ | refine Sem.condS ?_ | refine Sem.regL tt_ok ?_ | refine Sem.skip tt_ok ?_ | refine Sem.exit tt_ok ?_ | refine Sem.ret tt_ok ?_ | refine BS_t (by assumption) ?_ | refine BS_f (by assumption) ?_ | refine atG (by repeat (first | assumption | exact setG_same _ _ _ | refine Eq.trans (setG_ne _ _ (by first | assumption | exact Ne.symm (by assumption))) ?_)) ?_ | refine (nthK_iff _ _).2 ⟨_, (by assumption), ?_⟩ | refine ⟨_, ⟨(by omega), (by assumption)⟩, ?_⟩ | refine And.intro (by first | decide | omega) ?_ | fail); conv => whnf) | refine Sem.seqS ?_ | refine Sem.block ?_ | fail)
    refine hnow.on ?_; conv => whnf
    repeat' (first | ((first | refine Sem.reg tt_ok ?_ | refine Sem.condS ?_ | refine Sem.regL tt_ok ?_ | refine Sem.skip tt_ok ?_ | refine Sem.exit tt_ok ?_ | refine Sem.ret tt_ok ?_ | refine BS_t (by assumption) ?_ | refine BS_f (by assumption) ?_ | refine atG (by repeat (first | assumption | exact setG_same _ _ _ | refine Eq.trans (setG_ne _ _ (by first | assumption | exact Ne.symm (by assumption))) ?_)) ?_ | refine (nthK_iff _ _).2 ⟨_, (by assumption), ?_⟩ | refine ⟨_, ⟨(by omega), (by assumption)⟩, ?_⟩ | refine And.intro (by first | decide | omega) ?_ | fail); conv => whnf) | refine Sem.seqS ?_ | refine Sem.block ?_ | fail)
    exact ⟨_, fun _ _ h => h, rfl, rfl⟩
  · have hw := well_ok hG (b := false) (by simp [h0])
    rw [fail_no h0, setG_back hG]
    refine call_sem tt_ok Tryd.func59 rfl (by kernel_rfl) Tryd.ntmps59 Tryd.results59 ?_; conv => whnf
    repeat' (first | ((first | refine Sem.reg tt_ok ?_ | refine Sem.condS ?_ | refine Sem.regL tt_ok ?_ | refine Sem.skip tt_ok ?_ | refine Sem.exit tt_ok ?_ | refine Sem.ret tt_ok ?_ | refine BS_t (by assumption) ?_ | refine BS_f (by assumption) ?_ | refine atG (by repeat (first | assumption | exact setG_same _ _ _ | refine Eq.trans (setG_ne _ _ (by first | assumption | exact Ne.symm (by assumption))) ?_)) ?_ | refine (nthK_iff _ _).2 ⟨_, (by assumption), ?_⟩ | refine ⟨_, ⟨(by omega), (by assumption)⟩, ?_⟩ | refine And.intro (by first | decide | omega) ?_ | fail); conv => whnf) | refine Sem.seqS ?_ | refine Sem.block ?_ | fail)
    refine hw.on ?_; conv => whnf
    repeat' (first | ((first | refine Sem.reg tt_ok ?_ | refine Sem.condS ?_ | refine Sem.regL tt_ok ?_ | refine Sem.skip tt_ok ?_ | refine Sem.exit tt_ok ?_ | refine Sem.ret tt_ok ?_ | refine BS_t (by assumption) ?_ | refine BS_f (by assumption) ?_ | refine atG (by repeat (first | assumption | exact setG_same _ _ _ | refine Eq.trans (setG_ne _ _ (by first | assumption | exact Ne.symm (by assumption))) ?_)) ?_ | refine (nthK_iff _ _).2 ⟨_, (by assumption), ?_⟩ | refine ⟨_, ⟨(by omega), (by assumption)⟩, ?_⟩ | refine And.intro (by first | decide | omega) ?_ | fail); conv => whnf) | refine Sem.seqS ?_ | refine Sem.block ?_ | fail)
    exact ⟨_, fun _ _ h => h, rfl, rfl⟩
theorem may_ok {L : List Tok} (hL : TL L) {p : PS} {pb : Nat} {G : Glob} (hG : G pb = some (pB L p)) (hp : p.at_ < L.length) (s : List UInt8) {b : Bool} (hb : mayB L p s = b) : CallOk Tryd.prog TT 90 [.gptr pb 0, .str (S s)] G (fun v G' => v = .bool b ∧ G' = setG G pb (pB L (mayP L p s))) := by
  have hnow := now_ok hG hp
  unfold Tok.av tokC at hnow
  have e1 := seq_S (cur L p).text s
  have e2 := seq_S s []
  have hlen := hL.len
  have hb' := hb
  unfold mayB at hb
  by_cases h0 : p.err = 0
  · have hw := well_ok hG (b := true) (by simp [h0])
    by_cases h1 : (cur L p).text = s
    · have t1 : (!((S (cur L p).text).toList == (S s).toList)) = false := by rw [e1]; simp [h1]
      by_cases h2 : s = []
      · have t2 : ((S s).toList == (ByteArray.mk #[]).toList) = true := by rw [show ByteArray.mk #[] = S [] from rfl, e2]; simp [h2]
        have hb2 : b = false := by rw [← hb]; simp [h2]
        subst hb2
        unfold mayP
        rw [hb', if_neg (by decide), setG_back hG]
        rw [pB_at] at hG
        refine call_sem tt_ok Tryd.func90 rfl (by kernel_rfl) Tryd.ntmps90 Tryd.results90 ?_; conv => whnf
        repeat' (first | ((first | refine Sem.reg tt_ok ?_ | refine Sem.condS ?_ | refine Sem.regL tt_ok ?_ | refine Sem.skip tt_ok ?_ | refine Sem.exit tt_ok ?_ | refine Sem.ret tt_ok ?_ | refine BS_t (by assumption) ?_ | refine BS_f (by assumption) ?_ | refine atG (by repeat (first | assumption | exact setG_same _ _ _ | refine Eq.trans (setG_ne _ _ (by first | assumption | exact Ne.symm (by assumption))) ?_)) ?_ | refine (nthK_iff _ _).2 ⟨_, (by assumption), ?_⟩ | refine ⟨_, ⟨(by omega), (by assumption)⟩, ?_⟩ | refine And.intro (by first | decide | omega) ?_ | fail); conv => whnf) | refine Sem.seqS ?_ | refine Sem.block ?_ | fail)
        refine hw.on ?_; conv => whnf
        repeat' (first | ((first | refine Sem.reg tt_ok ?_ | refine Sem.condS ?_ | refine Sem.regL tt_ok ?_ | refine Sem.skip tt_ok ?_ | refine Sem.exit tt_ok ?_ | refine Sem.ret tt_ok ?_ | refine BS_t (by assumption) ?_ | refine BS_f (by assumption) ?_ | refine atG (by repeat (first | assumption | exact setG_same _ _ _ | refine Eq.trans (setG_ne _ _ (by first | assumption | exact Ne.symm (by assumption))) ?_)) ?_ | refine (nthK_iff _ _).2 ⟨_, (by assumption), ?_⟩ | refine ⟨_, ⟨(by omega), (by assumption)⟩, ?_⟩ | refine And.intro (by first | decide | omega) ?_ | fail); conv => whnf) | refine Sem.seqS ?_ | refine Sem.block ?_ | fail)
        refine hnow.on ?_; conv => whnf
        repeat' (first | ((first | refine Sem.reg tt_ok ?_ | refine Sem.condS ?_ | refine Sem.regL tt_ok ?_ | refine Sem.skip tt_ok ?_ | refine Sem.exit tt_ok ?_ | refine Sem.ret tt_ok ?_ | refine BS_t (by assumption) ?_ | refine BS_f (by assumption) ?_ | refine atG (by repeat (first | assumption | exact setG_same _ _ _ | refine Eq.trans (setG_ne _ _ (by first | assumption | exact Ne.symm (by assumption))) ?_)) ?_ | refine (nthK_iff _ _).2 ⟨_, (by assumption), ?_⟩ | refine ⟨_, ⟨(by omega), (by assumption)⟩, ?_⟩ | refine And.intro (by first | decide | omega) ?_ | fail); conv => whnf) | refine Sem.seqS ?_ | refine Sem.block ?_ | fail)
        exact ⟨_, fun _ _ h => h, rfl, rfl⟩
      · have t2 : ((S s).toList == (ByteArray.mk #[]).toList) = false := by rw [show ByteArray.mk #[] = S [] from rfl, e2]; simp [h2]
        have hb2 : b = true := by rw [← hb]; simp [h0, h1, h2]
        subst hb2
        have hlt := may_lt hL hp hb'
        have hw1 : IntKind.i64.wrap (((p.at_ : Nat) : Int) + 1) = ((p.at_ + 1 : Nat) : Int) := by rw [IntWalk.i64_in _ (by omega)]; omega
        unfold mayP
        rw [hb', if_pos rfl, pB_at L { p with at_ := p.at_ + 1 }]
        simp only
        rw [← hw1]
        rw [pB_at] at hG
        refine call_sem tt_ok Tryd.func90 rfl (by kernel_rfl) Tryd.ntmps90 Tryd.results90 ?_; conv => whnf
        repeat' (first | ((first | refine Sem.reg tt_ok ?_ | refine Sem.condS ?_ | refine Sem.regL tt_ok ?_ | refine Sem.skip tt_ok ?_ | refine Sem.exit tt_ok ?_ | refine Sem.ret tt_ok ?_ | refine BS_t (by assumption) ?_ | refine BS_f (by assumption) ?_ | refine atG (by repeat (first | assumption | exact setG_same _ _ _ | refine Eq.trans (setG_ne _ _ (by first | assumption | exact Ne.symm (by assumption))) ?_)) ?_ | refine (nthK_iff _ _).2 ⟨_, (by assumption), ?_⟩ | refine ⟨_, ⟨(by omega), (by assumption)⟩, ?_⟩ | refine And.intro (by first | decide | omega) ?_ | fail); conv => whnf) | refine Sem.seqS ?_ | refine Sem.block ?_ | fail)
        refine hw.on ?_; conv => whnf
        repeat' (first | ((first | refine Sem.reg tt_ok ?_ | refine Sem.condS ?_ | refine Sem.regL tt_ok ?_ | refine Sem.skip tt_ok ?_ | refine Sem.exit tt_ok ?_ | refine Sem.ret tt_ok ?_ | refine BS_t (by assumption) ?_ | refine BS_f (by assumption) ?_ | refine atG (by repeat (first | assumption | exact setG_same _ _ _ | refine Eq.trans (setG_ne _ _ (by first | assumption | exact Ne.symm (by assumption))) ?_)) ?_ | refine (nthK_iff _ _).2 ⟨_, (by assumption), ?_⟩ | refine ⟨_, ⟨(by omega), (by assumption)⟩, ?_⟩ | refine And.intro (by first | decide | omega) ?_ | fail); conv => whnf) | refine Sem.seqS ?_ | refine Sem.block ?_ | fail)
        refine hnow.on ?_; conv => whnf
        repeat' (first | ((first | refine Sem.reg tt_ok ?_ | refine Sem.condS ?_ | refine Sem.regL tt_ok ?_ | refine Sem.skip tt_ok ?_ | refine Sem.exit tt_ok ?_ | refine Sem.ret tt_ok ?_ | refine BS_t (by assumption) ?_ | refine BS_f (by assumption) ?_ | refine atG (by repeat (first | assumption | exact setG_same _ _ _ | refine Eq.trans (setG_ne _ _ (by first | assumption | exact Ne.symm (by assumption))) ?_)) ?_ | refine (nthK_iff _ _).2 ⟨_, (by assumption), ?_⟩ | refine ⟨_, ⟨(by omega), (by assumption)⟩, ?_⟩ | refine And.intro (by first | decide | omega) ?_ | fail); conv => whnf) | refine Sem.seqS ?_ | refine Sem.block ?_ | fail)
        exact ⟨_, fun _ _ h => h, rfl, rfl⟩
    · have t1 : (!((S (cur L p).text).toList == (S s).toList)) = true := by rw [e1]; simp [h1]
      have hb2 : b = false := by rw [← hb]; simp [h1]
      subst hb2
      unfold mayP
      rw [hb', if_neg (by decide), setG_back hG]
      rw [pB_at] at hG
      refine call_sem tt_ok Tryd.func90 rfl (by kernel_rfl) Tryd.ntmps90 Tryd.results90 ?_; conv => whnf
      repeat' (first | ((first | refine Sem.reg tt_ok ?_ | refine Sem.condS ?_ | refine Sem.regL tt_ok ?_ | refine Sem.skip tt_ok ?_ | refine Sem.exit tt_ok ?_ | refine Sem.ret tt_ok ?_ | refine BS_t (by assumption) ?_ | refine BS_f (by assumption) ?_ | refine atG (by repeat (first | assumption | exact setG_same _ _ _ | refine Eq.trans (setG_ne _ _ (by first | assumption | exact Ne.symm (by assumption))) ?_)) ?_ | refine (nthK_iff _ _).2 ⟨_, (by assumption), ?_⟩ | refine ⟨_, ⟨(by omega), (by assumption)⟩, ?_⟩ | refine And.intro (by first | decide | omega) ?_ | fail); conv => whnf) | refine Sem.seqS ?_ | refine Sem.block ?_ | fail)
      refine hw.on ?_; conv => whnf
      repeat' (first | ((first | refine Sem.reg tt_ok ?_ | refine Sem.condS ?_ | refine Sem.regL tt_ok ?_ | refine Sem.skip tt_ok ?_ | refine Sem.exit tt_ok ?_ | refine Sem.ret tt_ok ?_ | refine BS_t (by assumption) ?_ | refine BS_f (by assumption) ?_ | refine atG (by repeat (first | assumption | exact setG_same _ _ _ | refine Eq.trans (setG_ne _ _ (by first | assumption | exact Ne.symm (by assumption))) ?_)) ?_ | refine (nthK_iff _ _).2 ⟨_, (by assumption), ?_⟩ | refine ⟨_, ⟨(by omega), (by assumption)⟩, ?_⟩ | refine And.intro (by first | decide | omega) ?_ | fail); conv => whnf) | refine Sem.seqS ?_ | refine Sem.block ?_ | fail)
      refine hnow.on ?_; conv => whnf
      repeat' (first | ((first | refine Sem.reg tt_ok ?_ | refine Sem.condS ?_ | refine Sem.regL tt_ok ?_ | refine Sem.skip tt_ok ?_ | refine Sem.exit tt_ok ?_ | refine Sem.ret tt_ok ?_ | refine BS_t (by assumption) ?_ | refine BS_f (by assumption) ?_ | refine atG (by repeat (first | assumption | exact setG_same _ _ _ | refine Eq.trans (setG_ne _ _ (by first | assumption | exact Ne.symm (by assumption))) ?_)) ?_ | refine (nthK_iff _ _).2 ⟨_, (by assumption), ?_⟩ | refine ⟨_, ⟨(by omega), (by assumption)⟩, ?_⟩ | refine And.intro (by first | decide | omega) ?_ | fail); conv => whnf) | refine Sem.seqS ?_ | refine Sem.block ?_ | fail)
      exact ⟨_, fun _ _ h => h, rfl, rfl⟩
  · have hw := well_ok hG (b := false) (by simp [h0])
    have hb2 : b = false := by rw [← hb]; simp [h0]
    subst hb2
    unfold mayP
    rw [hb', if_neg (by decide), setG_back hG]
    refine call_sem tt_ok Tryd.func90 rfl (by kernel_rfl) Tryd.ntmps90 Tryd.results90 ?_; conv => whnf
    repeat' (first | ((first | refine Sem.reg tt_ok ?_ | refine Sem.condS ?_ | refine Sem.regL tt_ok ?_ | refine Sem.skip tt_ok ?_ | refine Sem.exit tt_ok ?_ | refine Sem.ret tt_ok ?_ | refine BS_t (by assumption) ?_ | refine BS_f (by assumption) ?_ | refine atG (by repeat (first | assumption | exact setG_same _ _ _ | refine Eq.trans (setG_ne _ _ (by first | assumption | exact Ne.symm (by assumption))) ?_)) ?_ | refine (nthK_iff _ _).2 ⟨_, (by assumption), ?_⟩ | refine ⟨_, ⟨(by omega), (by assumption)⟩, ?_⟩ | refine And.intro (by first | decide | omega) ?_ | fail); conv => whnf) | refine Sem.seqS ?_ | refine Sem.block ?_ | fail)
    refine hw.on ?_; conv => whnf
    repeat' (first | ((first | refine Sem.reg tt_ok ?_ | refine Sem.condS ?_ | refine Sem.regL tt_ok ?_ | refine Sem.skip tt_ok ?_ | refine Sem.exit tt_ok ?_ | refine Sem.ret tt_ok ?_ | refine BS_t (by assumption) ?_ | refine BS_f (by assumption) ?_ | refine atG (by repeat (first | assumption | exact setG_same _ _ _ | refine Eq.trans (setG_ne _ _ (by first | assumption | exact Ne.symm (by assumption))) ?_)) ?_ | refine (nthK_iff _ _).2 ⟨_, (by assumption), ?_⟩ | refine ⟨_, ⟨(by omega), (by assumption)⟩, ?_⟩ | refine And.intro (by first | decide | omega) ?_ | fail); conv => whnf) | refine Sem.seqS ?_ | refine Sem.block ?_ | fail)
    exact ⟨_, fun _ _ h => h, rfl, rfl⟩
theorem need_ok {L : List Tok} (hL : TL L) {p : PS} {pb : Nat} {G : Glob} (hG : G pb = some (pB L p)) (hp : p.at_ < L.length) (s : List UInt8) : CallOk Tryd.prog TT 88 [.gptr pb 0, .str (S s)] G (fun v G' => v = .tup [] ∧ G' = setG G pb (pB L (needP L p s))) := by
  cases hb : mayB L p s with
  | true =>
    have hm := may_ok hL hG hp s hb
    unfold mayP at hm
    unfold needP
    rw [hb, if_pos rfl] at *
    refine call_sem tt_ok Tryd.func88 rfl (by kernel_rfl) Tryd.ntmps88 Tryd.results88 ?_; conv => whnf
    repeat' (first | ((first | refine Sem.reg tt_ok ?_ | refine Sem.condS ?_ | refine Sem.regL tt_ok ?_ | refine Sem.skip tt_ok ?_ | refine Sem.exit tt_ok ?_ | refine Sem.ret tt_ok ?_ | refine BS_t (by assumption) ?_ | refine BS_f (by assumption) ?_ | refine atG (by repeat (first | assumption | exact setG_same _ _ _ | refine Eq.trans (setG_ne _ _ (by first | assumption | exact Ne.symm (by assumption))) ?_)) ?_ | refine (nthK_iff _ _).2 ⟨_, (by assumption), ?_⟩ | refine ⟨_, ⟨(by omega), (by assumption)⟩, ?_⟩ | refine And.intro (by first | decide | omega) ?_ | fail); conv => whnf) | refine Sem.seqS ?_ | refine Sem.block ?_ | fail)
    refine hm.on ?_; conv => whnf
    repeat' (first | ((first | refine Sem.reg tt_ok ?_ | refine Sem.condS ?_ | refine Sem.regL tt_ok ?_ | refine Sem.skip tt_ok ?_ | refine Sem.exit tt_ok ?_ | refine Sem.ret tt_ok ?_ | refine BS_t (by assumption) ?_ | refine BS_f (by assumption) ?_ | refine atG (by repeat (first | assumption | exact setG_same _ _ _ | refine Eq.trans (setG_ne _ _ (by first | assumption | exact Ne.symm (by assumption))) ?_)) ?_ | refine (nthK_iff _ _).2 ⟨_, (by assumption), ?_⟩ | refine ⟨_, ⟨(by omega), (by assumption)⟩, ?_⟩ | refine And.intro (by first | decide | omega) ?_ | fail); conv => whnf) | refine Sem.seqS ?_ | refine Sem.block ?_ | fail)
    exact ⟨_, fun _ _ h => h, rfl, rfl⟩
  | false =>
    have hm := may_ok hL hG hp s hb
    unfold mayP at hm
    rw [hb, if_neg (by decide), setG_back hG] at hm
    have hf := fail_ok hG hp 5
    unfold needP
    rw [hb, if_neg (by decide)]
    refine call_sem tt_ok Tryd.func88 rfl (by kernel_rfl) Tryd.ntmps88 Tryd.results88 ?_; conv => whnf
    repeat' (first | ((first | refine Sem.reg tt_ok ?_ | refine Sem.condS ?_ | refine Sem.regL tt_ok ?_ | refine Sem.skip tt_ok ?_ | refine Sem.exit tt_ok ?_ | refine Sem.ret tt_ok ?_ | refine BS_t (by assumption) ?_ | refine BS_f (by assumption) ?_ | refine atG (by repeat (first | assumption | exact setG_same _ _ _ | refine Eq.trans (setG_ne _ _ (by first | assumption | exact Ne.symm (by assumption))) ?_)) ?_ | refine (nthK_iff _ _).2 ⟨_, (by assumption), ?_⟩ | refine ⟨_, ⟨(by omega), (by assumption)⟩, ?_⟩ | refine And.intro (by first | decide | omega) ?_ | fail); conv => whnf) | refine Sem.seqS ?_ | refine Sem.block ?_ | fail)
    refine hm.on ?_; conv => whnf
    repeat' (first | ((first | refine Sem.reg tt_ok ?_ | refine Sem.condS ?_ | refine Sem.regL tt_ok ?_ | refine Sem.skip tt_ok ?_ | refine Sem.exit tt_ok ?_ | refine Sem.ret tt_ok ?_ | refine BS_t (by assumption) ?_ | refine BS_f (by assumption) ?_ | refine atG (by repeat (first | assumption | exact setG_same _ _ _ | refine Eq.trans (setG_ne _ _ (by first | assumption | exact Ne.symm (by assumption))) ?_)) ?_ | refine (nthK_iff _ _).2 ⟨_, (by assumption), ?_⟩ | refine ⟨_, ⟨(by omega), (by assumption)⟩, ?_⟩ | refine And.intro (by first | decide | omega) ?_ | fail); conv => whnf) | refine Sem.seqS ?_ | refine Sem.block ?_ | fail)
    refine hf.on ?_; conv => whnf
    repeat' (first | ((first | refine Sem.reg tt_ok ?_ | refine Sem.condS ?_ | refine Sem.regL tt_ok ?_ | refine Sem.skip tt_ok ?_ | refine Sem.exit tt_ok ?_ | refine Sem.ret tt_ok ?_ | refine BS_t (by assumption) ?_ | refine BS_f (by assumption) ?_ | refine atG (by repeat (first | assumption | exact setG_same _ _ _ | refine Eq.trans (setG_ne _ _ (by first | assumption | exact Ne.symm (by assumption))) ?_)) ?_ | refine (nthK_iff _ _).2 ⟨_, (by assumption), ?_⟩ | refine ⟨_, ⟨(by omega), (by assumption)⟩, ?_⟩ | refine And.intro (by first | decide | omega) ?_ | fail); conv => whnf) | refine Sem.seqS ?_ | refine Sem.block ?_ | fail)
    exact ⟨_, fun _ _ h => h, rfl, rfl⟩
end Go.Proofs.YtofhakbmmgpgdaaDoor
end

section
/- The words of the language: strings.Contains, parse.Word. -/
set_option maxRecDepth 100000
set_option linter.unusedSimpArgs false
namespace Go.Proofs.YtofhakbmmgpgdaaDoor
open Go Go.RowKit Go.Proofs Go.Shelf

def lays144_ren : Go.Shelf.Ren := ⟨fun | 143 => 138 | 144 => 126 | 217 => 133 | 219 => 141 | 224 => 143 | 225 => 142 | 266 => 140 | 267 => 144 | 314 => 145 | n => n, fun | 3 => 3 | 4 => 4 | 5 => 5 | 9 => 9 | 46 => 108 | 51 => 152 | 72 => 88 | 146 => 166 | n => n, fun | 1 => 0 | n => n⟩
theorem lays144 : Go.Proofs.Lays.n144 Tryd.prog lays144_ren := {
  mixed := by kernel_rfl
  f143 := Tryd.func138.trans (congrArg some (by kernel_rfl))
  f144 := Tryd.func126.trans (congrArg some (by kernel_rfl))
  f217 := Tryd.func133.trans (congrArg some (by kernel_rfl))
  f219 := Tryd.func141.trans (congrArg some (by kernel_rfl))
  f224 := Tryd.func143.trans (congrArg some (by kernel_rfl))
  f225 := Tryd.func142.trans (congrArg some (by kernel_rfl))
  f266 := Tryd.func140.trans (congrArg some (by kernel_rfl))
  f267 := Tryd.func144.trans (congrArg some (by kernel_rfl))
  f314 := Tryd.func145.trans (congrArg some (by kernel_rfl))
  t3 := Tryd.underlying3
  a3 := Tryd.isAgg3
  z3 := Tryd.sizeOf3
  v3 := Tryd.zeroValue3
  t4 := Tryd.underlying4
  a4 := Tryd.isAgg4
  z4 := Tryd.sizeOf4
  v4 := Tryd.zeroValue4
  t5 := Tryd.underlying5
  a5 := Tryd.isAgg5
  z5 := Tryd.sizeOf5
  v5 := Tryd.zeroValue5
  t9 := Tryd.underlying9
  a9 := Tryd.isAgg9
  z9 := Tryd.sizeOf9
  v9 := Tryd.zeroValue9
  t46 := Tryd.underlying108
  a46 := Tryd.isAgg108
  z46 := Tryd.sizeOf108
  v46 := Tryd.zeroValue108
  t51 := Tryd.underlying152
  a51 := Tryd.isAgg152
  z51 := Tryd.sizeOf152
  v51 := Tryd.zeroValue152
  t146 := Tryd.underlying166
  a146 := Tryd.isAgg166
  z146 := Tryd.sizeOf166
  v146 := Tryd.zeroValue166
  g1 := by kernel_rfl
}
/-- the library's variable is there -/
def MaxOk (G : Glob) : Prop := ∃ b o m, G b = some (.pin (lays144_ren.g 1) o) ∧ ∀ w : World, w.heap[lays144_ren.g 1]? = some o → w.cell? ⟨lays144_ren.g 1, 0, none⟩ = some (.int .i64 m)
theorem MaxOk.set {G : Glob} (h : MaxOk G) {b : Nat} {x : GB} (hb : G b = some x) (hx : ∀ k o, x ≠ .pin k o) (y : GB) : MaxOk (setG G b y) := by
  obtain ⟨c, o, m, h1, h2⟩ := h
  refine ⟨c, o, m, ?_, h2⟩
  rw [setG_ne _ _ (by rintro rfl; rw [hb, Option.some.injEq] at h1; exact hx _ _ h1)]
  exact h1
theorem MaxOk.rm {G : Glob} (h : MaxOk G) {b : Nat} {x : GB} (hb : G b = some x) (hx : ∀ k o, x ≠ .pin k o) : MaxOk (rmG G b) := by
  obtain ⟨c, o, m, h1, h2⟩ := h
  refine ⟨c, o, m, ?_, h2⟩
  rw [rmG_ne _ (by rintro rfl; rw [hb, Option.some.injEq] at h1; exact hx _ _ h1)]
  exact h1
theorem MaxOk.new {G : Glob} (h : MaxOk G) {b : Nat} (hb : G b = none) (y : GB) : MaxOk (setG G b y) := by
  obtain ⟨c, o, m, h1, h2⟩ := h
  refine ⟨c, o, m, ?_, h2⟩
  rw [setG_ne _ _ (by rintro rfl; rw [hb] at h1; cases h1)]
  exact h1
theorem contains_ok (s sub : ByteArray) (hs : s.size < 4294967281) {G : Glob} (hG : MaxOk G) : CallOk Tryd.prog TT 126 [.str s, .str sub] G (fun v G' => v = .bool (Lib.contains s.data.toList sub.data.toList) ∧ G' = G) := by
  refine ⟨⟨_, Tryd.func126, by decide, rfl⟩, fun g us w hr hl hd => ?_⟩
  obtain ⟨b, o, m, h1, h2⟩ := hG
  obtain ⟨us⟩ := us
  match us, hl with
  | [u0, u1], _ =>
    cases hd 0 _ u0 rfl rfl
    cases hd 1 _ u1 rfl rfl
    obtain ⟨_, _, h3, h4⟩ := hr b _ h1
    refine (Any.strings_Contains lays144 s sub m w hs (h2 w h4)).mono fun e w' hh => ?_
    obtain ⟨rfl, rfl⟩ := hh
    exact ⟨_, g, G, _, rfl, ⟨rfl, rfl⟩, hr, Ext.refl _ _, .bool _⟩
theorem sindexbyte_ok (s : ByteArray) (c : Int) (G : Glob) : CallOk Tryd.prog TT 133 [.str s, .int .u8 c] G (fun v G' => v = .int .i64 (Lib.indexByte s.data.toList c.toNat.toUInt8) ∧ G' = G) := by
  refine .still ⟨_, Tryd.func133, by decide, rfl⟩ fun g us w hl hd => ?_
  obtain ⟨us⟩ := us
  match us, hl with
  | [u0, u1], _ =>
    cases hd 0 _ u0 rfl rfl
    cases hd 1 _ u1 rfl rfl
    exact ⟨_, .int _ _, Any.stringslite_IndexByte { lays144 with } s c w⟩
theorem sindex1_ok (s : List UInt8) (G : Glob) : CallOk Tryd.prog TT 141 [.str (S s), .str (S [32])] G (fun v G' => (∃ n, v = .int .i64 n ∧ decide (n ≥ 0) = decide (32 ∈ s)) ∧ G' = G) := by
  have hc : decide (Lib.indexByte s 32 ≥ 0) = decide (32 ∈ s) := by
    have := Lib.contains_iff_indexByte s 32
    rw [show decide (Lib.indexByte s 32 ≥ 0) = decide (0 ≤ Lib.indexByte s 32) from rfl, ← this, Bool.eq_iff_iff]; simp
  have hix := sindexbyte_ok (S s) 32 G
  rw [S_list] at hix
  have e1 := seq_S [32] s
  refine call_sem tt_ok Tryd.func141 rfl (by kernel_rfl) Tryd.ntmps141 Tryd.results141 ?_; conv => whnf
  repeat' (first | ((first | refine Sem.reg tt_ok ?_ | refine Sem.condS ?_ | refine Sem.regL tt_ok ?_ | refine Sem.skip tt_ok ?_ | refine Sem.exit tt_ok ?_ | refine Sem.ret tt_ok ?_ | refine BS_t (by assumption) ?_ | refine BS_f (by assumption) ?_ | refine atG (by repeat (first | assumption | exact setG_same _ _ _ | refine Eq.trans (setG_ne _ _ (by first | assumption | exact Ne.symm (by assumption))) ?_)) ?_ | refine (nthK_iff _ _).2 ⟨_, (by assumption), ?_⟩ | refine ⟨_, ⟨(by omega), (by assumption)⟩, ?_⟩ | refine And.intro (by first | decide | omega) ?_ | fail); conv => whnf) | refine Sem.seqS ?_ | refine Sem.block ?_ | fail)
  by_cases h : s = [32]
  · have t1 : ((S [32]).toList == (S s).toList) = true := by rw [e1]; simp [h]
    repeat' (first | ((first | refine Sem.reg tt_ok ?_ | refine Sem.condS ?_ | refine Sem.regL tt_ok ?_ | refine Sem.skip tt_ok ?_ | refine Sem.exit tt_ok ?_ | refine Sem.ret tt_ok ?_ | refine BS_t (by assumption) ?_ | refine BS_f (by assumption) ?_ | refine atG (by repeat (first | assumption | exact setG_same _ _ _ | refine Eq.trans (setG_ne _ _ (by first | assumption | exact Ne.symm (by assumption))) ?_)) ?_ | refine (nthK_iff _ _).2 ⟨_, (by assumption), ?_⟩ | refine ⟨_, ⟨(by omega), (by assumption)⟩, ?_⟩ | refine And.intro (by first | decide | omega) ?_ | fail); conv => whnf) | refine Sem.seqS ?_ | refine Sem.block ?_ | fail)
    exact ⟨_, fun _ _ h => h, ⟨_, rfl, by simp [h]⟩, rfl⟩
  · have t1 : ((S [32]).toList == (S s).toList) = false := by rw [e1]; simp [Ne.symm h]
    repeat' (first | ((first | refine Sem.reg tt_ok ?_ | refine Sem.condS ?_ | refine Sem.regL tt_ok ?_ | refine Sem.skip tt_ok ?_ | refine Sem.exit tt_ok ?_ | refine Sem.ret tt_ok ?_ | refine BS_t (by assumption) ?_ | refine BS_f (by assumption) ?_ | refine atG (by repeat (first | assumption | exact setG_same _ _ _ | refine Eq.trans (setG_ne _ _ (by first | assumption | exact Ne.symm (by assumption))) ?_)) ?_ | refine (nthK_iff _ _).2 ⟨_, (by assumption), ?_⟩ | refine ⟨_, ⟨(by omega), (by assumption)⟩, ?_⟩ | refine And.intro (by first | decide | omega) ?_ | fail); conv => whnf) | refine Sem.seqS ?_ | refine Sem.block ?_ | fail)
    refine hix.on ?_; conv => whnf
    repeat' (first | ((first | refine Sem.reg tt_ok ?_ | refine Sem.condS ?_ | refine Sem.regL tt_ok ?_ | refine Sem.skip tt_ok ?_ | refine Sem.exit tt_ok ?_ | refine Sem.ret tt_ok ?_ | refine BS_t (by assumption) ?_ | refine BS_f (by assumption) ?_ | refine atG (by repeat (first | assumption | exact setG_same _ _ _ | refine Eq.trans (setG_ne _ _ (by first | assumption | exact Ne.symm (by assumption))) ?_)) ?_ | refine (nthK_iff _ _).2 ⟨_, (by assumption), ?_⟩ | refine ⟨_, ⟨(by omega), (by assumption)⟩, ?_⟩ | refine And.intro (by first | decide | omega) ?_ | fail); conv => whnf) | refine Sem.seqS ?_ | refine Sem.block ?_ | fail)
    exact ⟨_, fun _ _ h => h, ⟨_, rfl, hc⟩, rfl⟩
theorem index1_ok (s : List UInt8) (G : Glob) : CallOk Tryd.prog TT 138 [.str (S s), .str (S [32])] G (fun v G' => (∃ n, v = .int .i64 n ∧ decide (n ≥ 0) = decide (32 ∈ s)) ∧ G' = G) := by
  refine call_sem tt_ok Tryd.func138 rfl (by kernel_rfl) Tryd.ntmps138 Tryd.results138 ?_; conv => whnf
  repeat' (first | ((first | refine Sem.reg tt_ok ?_ | refine Sem.condS ?_ | refine Sem.regL tt_ok ?_ | refine Sem.skip tt_ok ?_ | refine Sem.exit tt_ok ?_ | refine Sem.ret tt_ok ?_ | refine BS_t (by assumption) ?_ | refine BS_f (by assumption) ?_ | refine atG (by repeat (first | assumption | exact setG_same _ _ _ | refine Eq.trans (setG_ne _ _ (by first | assumption | exact Ne.symm (by assumption))) ?_)) ?_ | refine (nthK_iff _ _).2 ⟨_, (by assumption), ?_⟩ | refine ⟨_, ⟨(by omega), (by assumption)⟩, ?_⟩ | refine And.intro (by first | decide | omega) ?_ | fail); conv => whnf) | refine Sem.seqS ?_ | refine Sem.block ?_ | fail)
  refine (sindex1_ok s G).mono fun v G1 hv => ?_
  obtain ⟨⟨n, rfl, hn⟩, rfl⟩ := hv
  conv => whnf
  repeat' (first | ((first | refine Sem.reg tt_ok ?_ | refine Sem.condS ?_ | refine Sem.regL tt_ok ?_ | refine Sem.skip tt_ok ?_ | refine Sem.exit tt_ok ?_ | refine Sem.ret tt_ok ?_ | refine BS_t (by assumption) ?_ | refine BS_f (by assumption) ?_ | refine atG (by repeat (first | assumption | exact setG_same _ _ _ | refine Eq.trans (setG_ne _ _ (by first | assumption | exact Ne.symm (by assumption))) ?_)) ?_ | refine (nthK_iff _ _).2 ⟨_, (by assumption), ?_⟩ | refine ⟨_, ⟨(by omega), (by assumption)⟩, ?_⟩ | refine And.intro (by first | decide | omega) ?_ | fail); conv => whnf) | refine Sem.seqS ?_ | refine Sem.block ?_ | fail)
  exact ⟨_, fun _ _ h => h, ⟨_, rfl, hn⟩, rfl⟩
theorem contains1_ok (s : List UInt8) (G : Glob) : CallOk Tryd.prog TT 126 [.str (S s), .str (S [32])] G (fun v G' => v = .bool (decide (32 ∈ s)) ∧ G' = G) := by
  refine call_sem tt_ok Tryd.func126 rfl (by kernel_rfl) Tryd.ntmps126 Tryd.results126 ?_; conv => whnf
  repeat' (first | ((first | refine Sem.reg tt_ok ?_ | refine Sem.condS ?_ | refine Sem.regL tt_ok ?_ | refine Sem.skip tt_ok ?_ | refine Sem.exit tt_ok ?_ | refine Sem.ret tt_ok ?_ | refine BS_t (by assumption) ?_ | refine BS_f (by assumption) ?_ | refine atG (by repeat (first | assumption | exact setG_same _ _ _ | refine Eq.trans (setG_ne _ _ (by first | assumption | exact Ne.symm (by assumption))) ?_)) ?_ | refine (nthK_iff _ _).2 ⟨_, (by assumption), ?_⟩ | refine ⟨_, ⟨(by omega), (by assumption)⟩, ?_⟩ | refine And.intro (by first | decide | omega) ?_ | fail); conv => whnf) | refine Sem.seqS ?_ | refine Sem.block ?_ | fail)
  refine (index1_ok s G).mono fun v G1 hv => ?_
  obtain ⟨⟨n, rfl, hn⟩, rfl⟩ := hv
  conv => whnf
  repeat' (first | ((first | refine Sem.reg tt_ok ?_ | refine Sem.condS ?_ | refine Sem.regL tt_ok ?_ | refine Sem.skip tt_ok ?_ | refine Sem.exit tt_ok ?_ | refine Sem.ret tt_ok ?_ | refine BS_t (by assumption) ?_ | refine BS_f (by assumption) ?_ | refine atG (by repeat (first | assumption | exact setG_same _ _ _ | refine Eq.trans (setG_ne _ _ (by first | assumption | exact Ne.symm (by assumption))) ?_)) ?_ | refine (nthK_iff _ _).2 ⟨_, (by assumption), ?_⟩ | refine ⟨_, ⟨(by omega), (by assumption)⟩, ?_⟩ | refine And.intro (by first | decide | omega) ?_ | fail); conv => whnf) | refine Sem.seqS ?_ | refine Sem.block ?_ | fail)
  exact ⟨_, fun _ _ h => h, by rw [hn], rfl⟩
/-- words between blanks -/
def textW (ws : List (List UInt8)) : List UInt8 := 32 :: ws.flatMap fun w => w ++ [32]
theorem pre_word : ∀ (s w rest : List UInt8), 32 ∉ s → 32 ∉ w → (s ++ [32]).isPrefixOf (w ++ 32 :: rest) = decide (s = w)
  | [], [], rest, _, _ => by simp
  | [], x :: w, rest, _, h => by
    have : ¬ (32 : UInt8) = x := fun e => h (by simp [e])
    rw [List.nil_append, List.cons_append, List.isPrefixOf_cons_cons, beq_false_of_ne this]
    simp
  | x :: s, [], rest, h, _ => by
    have : ¬ x = (32 : UInt8) := fun e => h (by simp [e])
    rw [List.nil_append, List.cons_append, List.isPrefixOf_cons_cons, beq_false_of_ne this]
    simp
  | x :: s, y :: w, rest, h1, h2 => by
    have ih := pre_word s w rest (fun h => h1 (by simp [h])) (fun h => h2 (by simp [h]))
    rw [List.cons_append, List.cons_append, List.isPrefixOf_cons_cons, ih, Bool.eq_iff_iff]
    simp
theorem contains_cons (b : UInt8) (l sub : List UInt8) : Lib.contains (b :: l) sub = (sub.isPrefixOf (b :: l) || Lib.contains l sub) := by
  have hge := Lib.index_ge l sub
  unfold Lib.contains
  rw [Lib.index]
  cases hp : sub.isPrefixOf (b :: l) with
  | true => simp
  | false =>
    simp only [Bool.false_eq_true, if_false, Bool.false_or]
    by_cases h : Lib.index l sub = -1
    · simp [h]
    · have h' : (Lib.index l sub == -1) = false := by simpa using h
      rw [h', if_neg (by decide), Bool.eq_iff_iff]
      simp only [decide_eq_true_eq]
      omega
theorem contains_skip : ∀ (w l t : List UInt8), 32 ∉ w → Lib.contains (w ++ l) (32 :: t) = Lib.contains l (32 :: t)
  | [], l, t, _ => rfl
  | x :: w, l, t, h => by
    have hx : ¬ (32 : UInt8) = x := fun e => h (by simp [e])
    rw [List.cons_append, contains_cons, contains_skip w l t (fun h' => h (by simp [h']))]
    simp [hx]
theorem contains_words (s : List UInt8) (h : 32 ∉ s) : ∀ (ws : List (List UInt8)), (∀ w ∈ ws, 32 ∉ w) → Lib.contains (textW ws) (32 :: (s ++ [32])) = decide (s ∈ ws)
  | [], _ => by
    have : textW [] = [32] := rfl
    rw [this, contains_cons]
    have e : Lib.contains [] (32 :: (s ++ [32])) = false := rfl
    rw [e]
    cases s <;> simp
  | w :: ws, hw => by
    have e : textW (w :: ws) = 32 :: (w ++ textW ws) := by simp [textW]
    have e2 : textW ws = 32 :: ws.flatMap fun w => w ++ [32] := rfl
    have h1 := hw w (by simp)
    rw [e, contains_cons, contains_skip w _ _ h1, contains_words s h ws (fun x hx => hw x (by simp [hx])), List.isPrefixOf_cons_cons, e2, pre_word s w _ h h1, Bool.eq_iff_iff]
    simp
theorem words_no : ∀ w ∈ wordsL, (32 : UInt8) ∉ w := by decide
theorem pword_ok (s : List UInt8) (hs : s.length ≤ 1000000000000000) {G : Glob} (hG : MaxOk G) : CallOk Tryd.prog TT 107 [.str (S s)] G (fun v G' => v = .bool (wordB s) ∧ G' = G) := by
  have hsz := S_size s
  have e1 := seq_S s []
  have hc1 := contains1_ok s G
  by_cases h0 : s = []
  · have t1 : (!((S s).toList == (ByteArray.mk #[]).toList)) = false := by rw [show ByteArray.mk #[] = S [] from rfl, e1]; simp [h0]
    have hw : wordB s = false := by rw [h0]; decide
    rw [hw]
    refine call_sem tt_ok Tryd.func107 rfl (by kernel_rfl) Tryd.ntmps107 Tryd.results107 ?_; conv => whnf
    repeat' (first | ((first | refine Sem.reg tt_ok ?_ | refine Sem.condS ?_ | refine Sem.regL tt_ok ?_ | refine Sem.skip tt_ok ?_ | refine Sem.exit tt_ok ?_ | refine Sem.ret tt_ok ?_ | refine BS_t (by assumption) ?_ | refine BS_f (by assumption) ?_ | refine atG (by repeat (first | assumption | exact setG_same _ _ _ | refine Eq.trans (setG_ne _ _ (by first | assumption | exact Ne.symm (by assumption))) ?_)) ?_ | refine (nthK_iff _ _).2 ⟨_, (by assumption), ?_⟩ | refine ⟨_, ⟨(by omega), (by assumption)⟩, ?_⟩ | refine And.intro (by first | decide | omega) ?_ | fail); conv => whnf) | refine Sem.seqS ?_ | refine Sem.block ?_ | fail)
    exact ⟨_, fun _ _ h => h, rfl, rfl⟩
  · have t1 : (!((S s).toList == (ByteArray.mk #[]).toList)) = true := by rw [show ByteArray.mk #[] = S [] from rfl, e1]; simp [h0]
    by_cases h1 : 32 ∈ s
    · have hw : wordB s = false := by
        unfold wordB
        rw [decide_eq_false_iff_not]
        exact fun h => words_no s h h1
      rw [hw]
      rw [show decide (32 ∈ s) = true by simpa using h1] at hc1
      refine call_sem tt_ok Tryd.func107 rfl (by kernel_rfl) Tryd.ntmps107 Tryd.results107 ?_; conv => whnf
      repeat' (first | ((first | refine Sem.reg tt_ok ?_ | refine Sem.condS ?_ | refine Sem.regL tt_ok ?_ | refine Sem.skip tt_ok ?_ | refine Sem.exit tt_ok ?_ | refine Sem.ret tt_ok ?_ | refine BS_t (by assumption) ?_ | refine BS_f (by assumption) ?_ | refine atG (by repeat (first | assumption | exact setG_same _ _ _ | refine Eq.trans (setG_ne _ _ (by first | assumption | exact Ne.symm (by assumption))) ?_)) ?_ | refine (nthK_iff _ _).2 ⟨_, (by assumption), ?_⟩ | refine ⟨_, ⟨(by omega), (by assumption)⟩, ?_⟩ | refine And.intro (by first | decide | omega) ?_ | fail); conv => whnf) | refine Sem.seqS ?_ | refine Sem.block ?_ | fail)
      refine hc1.on ?_; conv => whnf
      repeat' (first | ((first | refine Sem.reg tt_ok ?_ | refine Sem.condS ?_ | refine Sem.regL tt_ok ?_ | refine Sem.skip tt_ok ?_ | refine Sem.exit tt_ok ?_ | refine Sem.ret tt_ok ?_ | refine BS_t (by assumption) ?_ | refine BS_f (by assumption) ?_ | refine atG (by repeat (first | assumption | exact setG_same _ _ _ | refine Eq.trans (setG_ne _ _ (by first | assumption | exact Ne.symm (by assumption))) ?_)) ?_ | refine (nthK_iff _ _).2 ⟨_, (by assumption), ?_⟩ | refine ⟨_, ⟨(by omega), (by assumption)⟩, ?_⟩ | refine And.intro (by first | decide | omega) ?_ | fail); conv => whnf) | refine Sem.seqS ?_ | refine Sem.block ?_ | fail)
      exact ⟨_, fun _ _ h => h, rfl, rfl⟩
    · rw [show decide (32 ∈ s) = false by simpa using h1] at hc1
      have e2 : (S [32]).size = 1 := rfl
      have hc2 := contains_ok (S (textW wordsL)) (S [32] ++ S s ++ S [32]) (by decide) hG
      have e3 : Lib.contains (S (textW wordsL)).data.toList (S [32] ++ S s ++ S [32]).data.toList = decide (s ∈ wordsL) := by
        rw [S_append, S_append, S_list, S_list, show [32] ++ s ++ [32] = 32 :: (s ++ [32]) by simp, contains_words s h1 _ words_no]
      rw [e3] at hc2
      unfold wordB
      refine call_sem tt_ok Tryd.func107 rfl (by kernel_rfl) Tryd.ntmps107 Tryd.results107 ?_; conv => whnf
      repeat' (first | ((first | refine Sem.reg tt_ok ?_ | refine Sem.condS ?_ | refine Sem.regL tt_ok ?_ | refine Sem.skip tt_ok ?_ | refine Sem.exit tt_ok ?_ | refine Sem.ret tt_ok ?_ | refine BS_t (by assumption) ?_ | refine BS_f (by assumption) ?_ | refine atG (by repeat (first | assumption | exact setG_same _ _ _ | refine Eq.trans (setG_ne _ _ (by first | assumption | exact Ne.symm (by assumption))) ?_)) ?_ | refine (nthK_iff _ _).2 ⟨_, (by assumption), ?_⟩ | refine ⟨_, ⟨(by omega), (by assumption)⟩, ?_⟩ | refine And.intro (by first | decide | omega) ?_ | fail); conv => whnf) | refine Sem.seqS ?_ | refine Sem.block ?_ | fail)
      refine hc1.on ?_; conv => whnf
      repeat' (first | ((first | refine Sem.reg tt_ok ?_ | refine Sem.condS ?_ | refine Sem.regL tt_ok ?_ | refine Sem.skip tt_ok ?_ | refine Sem.exit tt_ok ?_ | refine Sem.ret tt_ok ?_ | refine BS_t (by assumption) ?_ | refine BS_f (by assumption) ?_ | refine atG (by repeat (first | assumption | exact setG_same _ _ _ | refine Eq.trans (setG_ne _ _ (by first | assumption | exact Ne.symm (by assumption))) ?_)) ?_ | refine (nthK_iff _ _).2 ⟨_, (by assumption), ?_⟩ | refine ⟨_, ⟨(by omega), (by assumption)⟩, ?_⟩ | refine And.intro (by first | decide | omega) ?_ | fail); conv => whnf) | refine Sem.seqS ?_ | refine Sem.block ?_ | fail)
      refine And.intro (by rw [show ByteArray.mk #[32] = S [32] from rfl]; show ((1 + (S s).size : Nat) : Int) ≤ IntKind.i64.max; have : IntKind.i64.max = 9223372036854775807 := rfl; omega) ?_
      conv => whnf
      refine And.intro (by rw [show ByteArray.mk #[32] = S [32] from rfl, ByteArray.size_append, e2]; have : IntKind.i64.max = 9223372036854775807 := rfl; omega) ?_
      conv => whnf
      refine hc2.on ?_; conv => whnf
      repeat' (first | ((first | refine Sem.reg tt_ok ?_ | refine Sem.condS ?_ | refine Sem.regL tt_ok ?_ | refine Sem.skip tt_ok ?_ | refine Sem.exit tt_ok ?_ | refine Sem.ret tt_ok ?_ | refine BS_t (by assumption) ?_ | refine BS_f (by assumption) ?_ | refine atG (by repeat (first | assumption | exact setG_same _ _ _ | refine Eq.trans (setG_ne _ _ (by first | assumption | exact Ne.symm (by assumption))) ?_)) ?_ | refine (nthK_iff _ _).2 ⟨_, (by assumption), ?_⟩ | refine ⟨_, ⟨(by omega), (by assumption)⟩, ?_⟩ | refine And.intro (by first | decide | omega) ?_ | fail); conv => whnf) | refine Sem.seqS ?_ | refine Sem.block ?_ | fail)
      exact ⟨_, fun _ _ h => h, rfl, rfl⟩
end Go.Proofs.YtofhakbmmgpgdaaDoor
end

section
/- The parser in the abstract run: names, numbers, types. -/
set_option maxRecDepth 100000
set_option linter.unusedSimpArgs false
namespace Go.Proofs.YtofhakbmmgpgdaaDoor
open Go Go.RowKit Go.Proofs Go.Shelf

theorem pB_np (L : List Tok) (p : PS) : ∀ k o, pB L p ≠ .pin k o := fun k o h => by cases h
theorem setG_pB {G : Glob} {pb : Nat} {L : List Tok} {p : PS} (hG : G pb = some (pB L p)) (hM : MaxOk G) (q : PS) : setG G pb (pB L q) pb = some (pB L q) ∧ MaxOk (setG G pb (pB L q)) := ⟨setG_same _ _ _, hM.set hG (pB_np L p) _⟩
theorem pname_ok {L : List Tok} (hL : TL L) {p : PS} {pb : Nat} {G : Glob} (hG : G pb = some (pB L p)) (hp : p.at_ < L.length) (hM : MaxOk G) : CallOk Tryd.prog TT 87 [.gptr pb 0] G (fun v G' => v = .str (S (nameV L p)) ∧ G' = setG G pb (pB L (nameP L p))) := by
  have hnow := now_ok hG hp
  unfold Tok.av tokC at hnow
  have hbd := hL.num _ (cur_mem hp)
  have hlen := hL.len
  have hword := pword_ok (cur L p).text (by omega) hM
  have hfail := fail_ok hG hp 5
  have hG1 := setG_pB hG hM (failP L p 5)
  have hfe : (failP L p 5).err ≠ 0 := fail_err (by decide)
  have hw1 := well_ok hG1.1 (b := false) (by simp [hfe])
  by_cases hk : (cur L p).kind = 1
  · have t1 : (!((((cur L p).kind : Nat) : Int) == 1)) = false := by rw [hk]; rfl
    cases hwd : wordB (cur L p).text with
    | true =>
      rw [hwd] at hword
      have hb : nameB L p = false := by unfold nameB; rw [hwd]; simp
      have e1 : nameV L p = [] := by unfold nameV; rw [hb, if_neg (by decide)]
      have e2 : nameP L p = failP L p 5 := by unfold nameP; rw [hb, if_neg (by decide)]
      rw [e1, e2]
      refine call_sem tt_ok Tryd.func87 rfl (by kernel_rfl) Tryd.ntmps87 Tryd.results87 ?_; conv => whnf
      repeat' (first | ((first | refine Sem.reg tt_ok ?_ | refine Sem.condS ?_ | refine Sem.regL tt_ok ?_ | refine Sem.skip tt_ok ?_ | refine Sem.exit tt_ok ?_ | refine Sem.ret tt_ok ?_ | refine BS_t (by assumption) ?_ | refine BS_f (by assumption) ?_ | refine atG (by first | assumption | exact setG_same _ _ _) ?_ | refine (nthK_iff _ _).2 ⟨_, (by assumption), ?_⟩ | refine ⟨_, ⟨(by omega), (by assumption)⟩, ?_⟩ | refine And.intro (by first | decide | omega) ?_ | fail); conv => whnf) | refine Sem.seqS ?_ | refine Sem.block ?_ | fail)
      refine hnow.on ?_; conv => whnf
      repeat' (first | ((first | refine Sem.reg tt_ok ?_ | refine Sem.condS ?_ | refine Sem.regL tt_ok ?_ | refine Sem.skip tt_ok ?_ | refine Sem.exit tt_ok ?_ | refine Sem.ret tt_ok ?_ | refine BS_t (by assumption) ?_ | refine BS_f (by assumption) ?_ | refine atG (by first | assumption | exact setG_same _ _ _) ?_ | refine (nthK_iff _ _).2 ⟨_, (by assumption), ?_⟩ | refine ⟨_, ⟨(by omega), (by assumption)⟩, ?_⟩ | refine And.intro (by first | decide | omega) ?_ | fail); conv => whnf) | refine Sem.seqS ?_ | refine Sem.block ?_ | fail)
      refine hword.on ?_; conv => whnf
      repeat' (first | ((first | refine Sem.reg tt_ok ?_ | refine Sem.condS ?_ | refine Sem.regL tt_ok ?_ | refine Sem.skip tt_ok ?_ | refine Sem.exit tt_ok ?_ | refine Sem.ret tt_ok ?_ | refine BS_t (by assumption) ?_ | refine BS_f (by assumption) ?_ | refine atG (by first | assumption | exact setG_same _ _ _) ?_ | refine (nthK_iff _ _).2 ⟨_, (by assumption), ?_⟩ | refine ⟨_, ⟨(by omega), (by assumption)⟩, ?_⟩ | refine And.intro (by first | decide | omega) ?_ | fail); conv => whnf) | refine Sem.seqS ?_ | refine Sem.block ?_ | fail)
      refine hfail.on ?_; conv => whnf
      repeat' (first | ((first | refine Sem.reg tt_ok ?_ | refine Sem.condS ?_ | refine Sem.regL tt_ok ?_ | refine Sem.skip tt_ok ?_ | refine Sem.exit tt_ok ?_ | refine Sem.ret tt_ok ?_ | refine BS_t (by assumption) ?_ | refine BS_f (by assumption) ?_ | refine atG (by first | assumption | exact setG_same _ _ _) ?_ | refine (nthK_iff _ _).2 ⟨_, (by assumption), ?_⟩ | refine ⟨_, ⟨(by omega), (by assumption)⟩, ?_⟩ | refine And.intro (by first | decide | omega) ?_ | fail); conv => whnf) | refine Sem.seqS ?_ | refine Sem.block ?_ | fail)
      refine hw1.on ?_; conv => whnf
      repeat' (first | ((first | refine Sem.reg tt_ok ?_ | refine Sem.condS ?_ | refine Sem.regL tt_ok ?_ | refine Sem.skip tt_ok ?_ | refine Sem.exit tt_ok ?_ | refine Sem.ret tt_ok ?_ | refine BS_t (by assumption) ?_ | refine BS_f (by assumption) ?_ | refine atG (by first | assumption | exact setG_same _ _ _) ?_ | refine (nthK_iff _ _).2 ⟨_, (by assumption), ?_⟩ | refine ⟨_, ⟨(by omega), (by assumption)⟩, ?_⟩ | refine And.intro (by first | decide | omega) ?_ | fail); conv => whnf) | refine Sem.seqS ?_ | refine Sem.block ?_ | fail)
      exact ⟨_, fun _ _ h => h, rfl, rfl⟩
    | false =>
      rw [hwd] at hword
      by_cases h0 : p.err = 0
      · have hw := well_ok hG (b := true) (by simp [h0])
        have hb : nameB L p = true := by unfold nameB; rw [hwd, h0, hk]; rfl
        have e1 : nameV L p = (cur L p).text := by unfold nameV; rw [hb, if_pos rfl]
        have e2 : nameP L p = { p with at_ := p.at_ + 1 } := by unfold nameP; rw [hb, if_pos rfl]
        have hw1 : IntKind.i64.wrap (((p.at_ : Nat) : Int) + 1) = ((p.at_ + 1 : Nat) : Int) := by rw [IntWalk.i64_in _ (by omega)]; omega
        rw [e1, e2, pB_at L { p with at_ := p.at_ + 1 }]
        simp only
        rw [← hw1]
        rw [pB_at] at hG
        refine call_sem tt_ok Tryd.func87 rfl (by kernel_rfl) Tryd.ntmps87 Tryd.results87 ?_; conv => whnf
        repeat' (first | ((first | refine Sem.reg tt_ok ?_ | refine Sem.condS ?_ | refine Sem.regL tt_ok ?_ | refine Sem.skip tt_ok ?_ | refine Sem.exit tt_ok ?_ | refine Sem.ret tt_ok ?_ | refine BS_t (by assumption) ?_ | refine BS_f (by assumption) ?_ | refine atG (by first | assumption | exact setG_same _ _ _) ?_ | refine (nthK_iff _ _).2 ⟨_, (by assumption), ?_⟩ | refine ⟨_, ⟨(by omega), (by assumption)⟩, ?_⟩ | refine And.intro (by first | decide | omega) ?_ | fail); conv => whnf) | refine Sem.seqS ?_ | refine Sem.block ?_ | fail)
        refine hnow.on ?_; conv => whnf
        repeat' (first | ((first | refine Sem.reg tt_ok ?_ | refine Sem.condS ?_ | refine Sem.regL tt_ok ?_ | refine Sem.skip tt_ok ?_ | refine Sem.exit tt_ok ?_ | refine Sem.ret tt_ok ?_ | refine BS_t (by assumption) ?_ | refine BS_f (by assumption) ?_ | refine atG (by first | assumption | exact setG_same _ _ _) ?_ | refine (nthK_iff _ _).2 ⟨_, (by assumption), ?_⟩ | refine ⟨_, ⟨(by omega), (by assumption)⟩, ?_⟩ | refine And.intro (by first | decide | omega) ?_ | fail); conv => whnf) | refine Sem.seqS ?_ | refine Sem.block ?_ | fail)
        refine hword.on ?_; conv => whnf
        repeat' (first | ((first | refine Sem.reg tt_ok ?_ | refine Sem.condS ?_ | refine Sem.regL tt_ok ?_ | refine Sem.skip tt_ok ?_ | refine Sem.exit tt_ok ?_ | refine Sem.ret tt_ok ?_ | refine BS_t (by assumption) ?_ | refine BS_f (by assumption) ?_ | refine atG (by first | assumption | exact setG_same _ _ _) ?_ | refine (nthK_iff _ _).2 ⟨_, (by assumption), ?_⟩ | refine ⟨_, ⟨(by omega), (by assumption)⟩, ?_⟩ | refine And.intro (by first | decide | omega) ?_ | fail); conv => whnf) | refine Sem.seqS ?_ | refine Sem.block ?_ | fail)
        refine hw.on ?_; conv => whnf
        repeat' (first | ((first | refine Sem.reg tt_ok ?_ | refine Sem.condS ?_ | refine Sem.regL tt_ok ?_ | refine Sem.skip tt_ok ?_ | refine Sem.exit tt_ok ?_ | refine Sem.ret tt_ok ?_ | refine BS_t (by assumption) ?_ | refine BS_f (by assumption) ?_ | refine atG (by first | assumption | exact setG_same _ _ _) ?_ | refine (nthK_iff _ _).2 ⟨_, (by assumption), ?_⟩ | refine ⟨_, ⟨(by omega), (by assumption)⟩, ?_⟩ | refine And.intro (by first | decide | omega) ?_ | fail); conv => whnf) | refine Sem.seqS ?_ | refine Sem.block ?_ | fail)
        exact ⟨_, fun _ _ h => h, rfl, rfl⟩
      · have hw := well_ok hG (b := false) (by simp [h0])
        have hb : nameB L p = false := by unfold nameB; simp [h0]
        have e1 : nameV L p = [] := by unfold nameV; rw [hb, if_neg (by decide)]
        have e2 : nameP L p = p := name_no h0
        rw [e1, e2, setG_back hG]
        refine call_sem tt_ok Tryd.func87 rfl (by kernel_rfl) Tryd.ntmps87 Tryd.results87 ?_; conv => whnf
        repeat' (first | ((first | refine Sem.reg tt_ok ?_ | refine Sem.condS ?_ | refine Sem.regL tt_ok ?_ | refine Sem.skip tt_ok ?_ | refine Sem.exit tt_ok ?_ | refine Sem.ret tt_ok ?_ | refine BS_t (by assumption) ?_ | refine BS_f (by assumption) ?_ | refine atG (by first | assumption | exact setG_same _ _ _) ?_ | refine (nthK_iff _ _).2 ⟨_, (by assumption), ?_⟩ | refine ⟨_, ⟨(by omega), (by assumption)⟩, ?_⟩ | refine And.intro (by first | decide | omega) ?_ | fail); conv => whnf) | refine Sem.seqS ?_ | refine Sem.block ?_ | fail)
        refine hnow.on ?_; conv => whnf
        repeat' (first | ((first | refine Sem.reg tt_ok ?_ | refine Sem.condS ?_ | refine Sem.regL tt_ok ?_ | refine Sem.skip tt_ok ?_ | refine Sem.exit tt_ok ?_ | refine Sem.ret tt_ok ?_ | refine BS_t (by assumption) ?_ | refine BS_f (by assumption) ?_ | refine atG (by first | assumption | exact setG_same _ _ _) ?_ | refine (nthK_iff _ _).2 ⟨_, (by assumption), ?_⟩ | refine ⟨_, ⟨(by omega), (by assumption)⟩, ?_⟩ | refine And.intro (by first | decide | omega) ?_ | fail); conv => whnf) | refine Sem.seqS ?_ | refine Sem.block ?_ | fail)
        refine hword.on ?_; conv => whnf
        repeat' (first | ((first | refine Sem.reg tt_ok ?_ | refine Sem.condS ?_ | refine Sem.regL tt_ok ?_ | refine Sem.skip tt_ok ?_ | refine Sem.exit tt_ok ?_ | refine Sem.ret tt_ok ?_ | refine BS_t (by assumption) ?_ | refine BS_f (by assumption) ?_ | refine atG (by first | assumption | exact setG_same _ _ _) ?_ | refine (nthK_iff _ _).2 ⟨_, (by assumption), ?_⟩ | refine ⟨_, ⟨(by omega), (by assumption)⟩, ?_⟩ | refine And.intro (by first | decide | omega) ?_ | fail); conv => whnf) | refine Sem.seqS ?_ | refine Sem.block ?_ | fail)
        refine hw.on ?_; conv => whnf
        repeat' (first | ((first | refine Sem.reg tt_ok ?_ | refine Sem.condS ?_ | refine Sem.regL tt_ok ?_ | refine Sem.skip tt_ok ?_ | refine Sem.exit tt_ok ?_ | refine Sem.ret tt_ok ?_ | refine BS_t (by assumption) ?_ | refine BS_f (by assumption) ?_ | refine atG (by first | assumption | exact setG_same _ _ _) ?_ | refine (nthK_iff _ _).2 ⟨_, (by assumption), ?_⟩ | refine ⟨_, ⟨(by omega), (by assumption)⟩, ?_⟩ | refine And.intro (by first | decide | omega) ?_ | fail); conv => whnf) | refine Sem.seqS ?_ | refine Sem.block ?_ | fail)
        exact ⟨_, fun _ _ h => h, rfl, rfl⟩
  · have t1 : (!((((cur L p).kind : Nat) : Int) == 1)) = true := by
      have : ((((cur L p).kind : Nat) : Int) == 1) = false := by simp; omega
      rw [this]; rfl
    have hb : nameB L p = false := by unfold nameB; simp [hk]
    have e1 : nameV L p = [] := by unfold nameV; rw [hb, if_neg (by decide)]
    have e2 : nameP L p = failP L p 5 := by unfold nameP; rw [hb, if_neg (by decide)]
    rw [e1, e2]
    refine call_sem tt_ok Tryd.func87 rfl (by kernel_rfl) Tryd.ntmps87 Tryd.results87 ?_; conv => whnf
    repeat' (first | ((first | refine Sem.reg tt_ok ?_ | refine Sem.condS ?_ | refine Sem.regL tt_ok ?_ | refine Sem.skip tt_ok ?_ | refine Sem.exit tt_ok ?_ | refine Sem.ret tt_ok ?_ | refine BS_t (by assumption) ?_ | refine BS_f (by assumption) ?_ | refine atG (by first | assumption | exact setG_same _ _ _) ?_ | refine (nthK_iff _ _).2 ⟨_, (by assumption), ?_⟩ | refine ⟨_, ⟨(by omega), (by assumption)⟩, ?_⟩ | refine And.intro (by first | decide | omega) ?_ | fail); conv => whnf) | refine Sem.seqS ?_ | refine Sem.block ?_ | fail)
    refine hnow.on ?_; conv => whnf
    repeat' (first | ((first | refine Sem.reg tt_ok ?_ | refine Sem.condS ?_ | refine Sem.regL tt_ok ?_ | refine Sem.skip tt_ok ?_ | refine Sem.exit tt_ok ?_ | refine Sem.ret tt_ok ?_ | refine BS_t (by assumption) ?_ | refine BS_f (by assumption) ?_ | refine atG (by first | assumption | exact setG_same _ _ _) ?_ | refine (nthK_iff _ _).2 ⟨_, (by assumption), ?_⟩ | refine ⟨_, ⟨(by omega), (by assumption)⟩, ?_⟩ | refine And.intro (by first | decide | omega) ?_ | fail); conv => whnf) | refine Sem.seqS ?_ | refine Sem.block ?_ | fail)
    refine hfail.on ?_; conv => whnf
    repeat' (first | ((first | refine Sem.reg tt_ok ?_ | refine Sem.condS ?_ | refine Sem.regL tt_ok ?_ | refine Sem.skip tt_ok ?_ | refine Sem.exit tt_ok ?_ | refine Sem.ret tt_ok ?_ | refine BS_t (by assumption) ?_ | refine BS_f (by assumption) ?_ | refine atG (by first | assumption | exact setG_same _ _ _) ?_ | refine (nthK_iff _ _).2 ⟨_, (by assumption), ?_⟩ | refine ⟨_, ⟨(by omega), (by assumption)⟩, ?_⟩ | refine And.intro (by first | decide | omega) ?_ | fail); conv => whnf) | refine Sem.seqS ?_ | refine Sem.block ?_ | fail)
    refine hw1.on ?_; conv => whnf
    repeat' (first | ((first | refine Sem.reg tt_ok ?_ | refine Sem.condS ?_ | refine Sem.regL tt_ok ?_ | refine Sem.skip tt_ok ?_ | refine Sem.exit tt_ok ?_ | refine Sem.ret tt_ok ?_ | refine BS_t (by assumption) ?_ | refine BS_f (by assumption) ?_ | refine atG (by first | assumption | exact setG_same _ _ _) ?_ | refine (nthK_iff _ _).2 ⟨_, (by assumption), ?_⟩ | refine ⟨_, ⟨(by omega), (by assumption)⟩, ?_⟩ | refine And.intro (by first | decide | omega) ?_ | fail); conv => whnf) | refine Sem.seqS ?_ | refine Sem.block ?_ | fail)
    exact ⟨_, fun _ _ h => h, rfl, rfl⟩
theorem pnum_ok {L : List Tok} (hL : TL L) {p : PS} {pb : Nat} {G : Glob} (hG : G pb = some (pB L p)) (hp : p.at_ < L.length) : CallOk Tryd.prog TT 86 [.gptr pb 0] G (fun v G' => v = .int .i64 (numV L p : Nat) ∧ G' = setG G pb (pB L (numP L p))) := by
  have hnow := now_ok hG hp
  unfold Tok.av tokC at hnow
  have hlen := hL.len
  have hfail := fail_ok hG hp 5
  have hfe : (failP L p 5).err ≠ 0 := fail_err (by decide)
  have hw1 := well_ok (setG_same G pb (pB L (failP L p 5))) (b := false) (by simp [hfe])
  by_cases hk : (cur L p).kind = 2
  · have t1 : (!((((cur L p).kind : Nat) : Int) == 2)) = false := by rw [hk]; rfl
    by_cases h0 : p.err = 0
    · have hw := well_ok hG (b := true) (by simp [h0])
      have hb : numB L p = true := by unfold numB; rw [h0, hk]; rfl
      have e1 : numV L p = (cur L p).num := by unfold numV; rw [hb, if_pos rfl]
      have e2 : numP L p = { p with at_ := p.at_ + 1 } := by unfold numP; rw [hb, if_pos rfl]
      have hw1 : IntKind.i64.wrap (((p.at_ : Nat) : Int) + 1) = ((p.at_ + 1 : Nat) : Int) := by rw [IntWalk.i64_in _ (by omega)]; omega
      rw [e1, e2, pB_at L { p with at_ := p.at_ + 1 }]
      simp only
      rw [← hw1]
      rw [pB_at] at hG
      refine call_sem tt_ok Tryd.func86 rfl (by kernel_rfl) Tryd.ntmps86 Tryd.results86 ?_; conv => whnf
      repeat' (first | ((first | refine Sem.reg tt_ok ?_ | refine Sem.condS ?_ | refine Sem.regL tt_ok ?_ | refine Sem.skip tt_ok ?_ | refine Sem.exit tt_ok ?_ | refine Sem.ret tt_ok ?_ | refine BS_t (by assumption) ?_ | refine BS_f (by assumption) ?_ | refine atG (by first | assumption | exact setG_same _ _ _) ?_ | refine (nthK_iff _ _).2 ⟨_, (by assumption), ?_⟩ | refine ⟨_, ⟨(by omega), (by assumption)⟩, ?_⟩ | refine And.intro (by first | decide | omega) ?_ | fail); conv => whnf) | refine Sem.seqS ?_ | refine Sem.block ?_ | fail)
      refine hnow.on ?_; conv => whnf
      repeat' (first | ((first | refine Sem.reg tt_ok ?_ | refine Sem.condS ?_ | refine Sem.regL tt_ok ?_ | refine Sem.skip tt_ok ?_ | refine Sem.exit tt_ok ?_ | refine Sem.ret tt_ok ?_ | refine BS_t (by assumption) ?_ | refine BS_f (by assumption) ?_ | refine atG (by first | assumption | exact setG_same _ _ _) ?_ | refine (nthK_iff _ _).2 ⟨_, (by assumption), ?_⟩ | refine ⟨_, ⟨(by omega), (by assumption)⟩, ?_⟩ | refine And.intro (by first | decide | omega) ?_ | fail); conv => whnf) | refine Sem.seqS ?_ | refine Sem.block ?_ | fail)
      refine hw.on ?_; conv => whnf
      repeat' (first | ((first | refine Sem.reg tt_ok ?_ | refine Sem.condS ?_ | refine Sem.regL tt_ok ?_ | refine Sem.skip tt_ok ?_ | refine Sem.exit tt_ok ?_ | refine Sem.ret tt_ok ?_ | refine BS_t (by assumption) ?_ | refine BS_f (by assumption) ?_ | refine atG (by first | assumption | exact setG_same _ _ _) ?_ | refine (nthK_iff _ _).2 ⟨_, (by assumption), ?_⟩ | refine ⟨_, ⟨(by omega), (by assumption)⟩, ?_⟩ | refine And.intro (by first | decide | omega) ?_ | fail); conv => whnf) | refine Sem.seqS ?_ | refine Sem.block ?_ | fail)
      exact ⟨_, fun _ _ h => h, rfl, rfl⟩
    · have hw := well_ok hG (b := false) (by simp [h0])
      have hb : numB L p = false := by unfold numB; simp [h0]
      have e1 : numV L p = 0 := by unfold numV; rw [hb, if_neg (by decide)]
      have e2 : numP L p = p := num_no h0
      rw [e1, e2, setG_back hG]
      refine call_sem tt_ok Tryd.func86 rfl (by kernel_rfl) Tryd.ntmps86 Tryd.results86 ?_; conv => whnf
      repeat' (first | ((first | refine Sem.reg tt_ok ?_ | refine Sem.condS ?_ | refine Sem.regL tt_ok ?_ | refine Sem.skip tt_ok ?_ | refine Sem.exit tt_ok ?_ | refine Sem.ret tt_ok ?_ | refine BS_t (by assumption) ?_ | refine BS_f (by assumption) ?_ | refine atG (by first | assumption | exact setG_same _ _ _) ?_ | refine (nthK_iff _ _).2 ⟨_, (by assumption), ?_⟩ | refine ⟨_, ⟨(by omega), (by assumption)⟩, ?_⟩ | refine And.intro (by first | decide | omega) ?_ | fail); conv => whnf) | refine Sem.seqS ?_ | refine Sem.block ?_ | fail)
      refine hnow.on ?_; conv => whnf
      repeat' (first | ((first | refine Sem.reg tt_ok ?_ | refine Sem.condS ?_ | refine Sem.regL tt_ok ?_ | refine Sem.skip tt_ok ?_ | refine Sem.exit tt_ok ?_ | refine Sem.ret tt_ok ?_ | refine BS_t (by assumption) ?_ | refine BS_f (by assumption) ?_ | refine atG (by first | assumption | exact setG_same _ _ _) ?_ | refine (nthK_iff _ _).2 ⟨_, (by assumption), ?_⟩ | refine ⟨_, ⟨(by omega), (by assumption)⟩, ?_⟩ | refine And.intro (by first | decide | omega) ?_ | fail); conv => whnf) | refine Sem.seqS ?_ | refine Sem.block ?_ | fail)
      refine hw.on ?_; conv => whnf
      repeat' (first | ((first | refine Sem.reg tt_ok ?_ | refine Sem.condS ?_ | refine Sem.regL tt_ok ?_ | refine Sem.skip tt_ok ?_ | refine Sem.exit tt_ok ?_ | refine Sem.ret tt_ok ?_ | refine BS_t (by assumption) ?_ | refine BS_f (by assumption) ?_ | refine atG (by first | assumption | exact setG_same _ _ _) ?_ | refine (nthK_iff _ _).2 ⟨_, (by assumption), ?_⟩ | refine ⟨_, ⟨(by omega), (by assumption)⟩, ?_⟩ | refine And.intro (by first | decide | omega) ?_ | fail); conv => whnf) | refine Sem.seqS ?_ | refine Sem.block ?_ | fail)
      exact ⟨_, fun _ _ h => h, rfl, rfl⟩
  · have t1 : (!((((cur L p).kind : Nat) : Int) == 2)) = true := by
      have : ((((cur L p).kind : Nat) : Int) == 2) = false := by simp; omega
      rw [this]; rfl
    have hb : numB L p = false := by unfold numB; simp [hk]
    have e1 : numV L p = 0 := by unfold numV; rw [hb, if_neg (by decide)]
    have e2 : numP L p = failP L p 5 := by unfold numP; rw [hb, if_neg (by decide)]
    rw [e1, e2]
    refine call_sem tt_ok Tryd.func86 rfl (by kernel_rfl) Tryd.ntmps86 Tryd.results86 ?_; conv => whnf
    repeat' (first | ((first | refine Sem.reg tt_ok ?_ | refine Sem.condS ?_ | refine Sem.regL tt_ok ?_ | refine Sem.skip tt_ok ?_ | refine Sem.exit tt_ok ?_ | refine Sem.ret tt_ok ?_ | refine BS_t (by assumption) ?_ | refine BS_f (by assumption) ?_ | refine atG (by first | assumption | exact setG_same _ _ _) ?_ | refine (nthK_iff _ _).2 ⟨_, (by assumption), ?_⟩ | refine ⟨_, ⟨(by omega), (by assumption)⟩, ?_⟩ | refine And.intro (by first | decide | omega) ?_ | fail); conv => whnf) | refine Sem.seqS ?_ | refine Sem.block ?_ | fail)
    refine hnow.on ?_; conv => whnf
    repeat' (first | ((first | refine Sem.reg tt_ok ?_ | refine Sem.condS ?_ | refine Sem.regL tt_ok ?_ | refine Sem.skip tt_ok ?_ | refine Sem.exit tt_ok ?_ | refine Sem.ret tt_ok ?_ | refine BS_t (by assumption) ?_ | refine BS_f (by assumption) ?_ | refine atG (by first | assumption | exact setG_same _ _ _) ?_ | refine (nthK_iff _ _).2 ⟨_, (by assumption), ?_⟩ | refine ⟨_, ⟨(by omega), (by assumption)⟩, ?_⟩ | refine And.intro (by first | decide | omega) ?_ | fail); conv => whnf) | refine Sem.seqS ?_ | refine Sem.block ?_ | fail)
    refine hfail.on ?_; conv => whnf
    repeat' (first | ((first | refine Sem.reg tt_ok ?_ | refine Sem.condS ?_ | refine Sem.regL tt_ok ?_ | refine Sem.skip tt_ok ?_ | refine Sem.exit tt_ok ?_ | refine Sem.ret tt_ok ?_ | refine BS_t (by assumption) ?_ | refine BS_f (by assumption) ?_ | refine atG (by first | assumption | exact setG_same _ _ _) ?_ | refine (nthK_iff _ _).2 ⟨_, (by assumption), ?_⟩ | refine ⟨_, ⟨(by omega), (by assumption)⟩, ?_⟩ | refine And.intro (by first | decide | omega) ?_ | fail); conv => whnf) | refine Sem.seqS ?_ | refine Sem.block ?_ | fail)
    refine hw1.on ?_; conv => whnf
    repeat' (first | ((first | refine Sem.reg tt_ok ?_ | refine Sem.condS ?_ | refine Sem.regL tt_ok ?_ | refine Sem.skip tt_ok ?_ | refine Sem.exit tt_ok ?_ | refine Sem.ret tt_ok ?_ | refine BS_t (by assumption) ?_ | refine BS_f (by assumption) ?_ | refine atG (by first | assumption | exact setG_same _ _ _) ?_ | refine (nthK_iff _ _).2 ⟨_, (by assumption), ?_⟩ | refine ⟨_, ⟨(by omega), (by assumption)⟩, ?_⟩ | refine And.intro (by first | decide | omega) ?_ | fail); conv => whnf) | refine Sem.seqS ?_ | refine Sem.block ?_ | fail)
    exact ⟨_, fun _ _ h => h, rfl, rfl⟩
theorem plain_ok (s : List UInt8) (G : Glob) : CallOk Tryd.prog TT 134 [.str (S s)] G (fun v G' => v = .int .i64 (plainN s : Nat) ∧ G' = G) := by
  have e1 := seq_S s [98, 111, 111, 108]
  have e2 := seq_S s [105, 110, 116]
  have e3 := seq_S s [117, 105, 110, 116]
  have e4 := seq_S s [116, 101, 120, 116]
  have e5 := seq_S s [98, 121, 116, 101, 115]
  unfold plainN
  refine call_sem tt_ok Tryd.func134 rfl (by kernel_rfl) Tryd.ntmps134 Tryd.results134 ?_; conv => whnf
  repeat' (first | ((first | refine Sem.reg tt_ok ?_ | refine Sem.condS ?_ | refine Sem.regL tt_ok ?_ | refine Sem.skip tt_ok ?_ | refine Sem.exit tt_ok ?_ | refine Sem.ret tt_ok ?_ | refine BS_t (by assumption) ?_ | refine BS_f (by assumption) ?_ | refine atG (by first | assumption | exact setG_same _ _ _) ?_ | refine (nthK_iff _ _).2 ⟨_, (by assumption), ?_⟩ | refine ⟨_, ⟨(by omega), (by assumption)⟩, ?_⟩ | refine And.intro (by first | decide | omega) ?_ | fail); conv => whnf) | refine Sem.seqS ?_ | refine Sem.block ?_ | fail)
  by_cases h1 : s = [98, 111, 111, 108]
  · rw [if_pos h1]
    rw [decide_eq_true h1] at e1
    repeat' (first | ((first | refine Sem.reg tt_ok ?_ | refine Sem.condS ?_ | refine Sem.regL tt_ok ?_ | refine Sem.skip tt_ok ?_ | refine Sem.exit tt_ok ?_ | refine Sem.ret tt_ok ?_ | refine BS_t (by assumption) ?_ | refine BS_f (by assumption) ?_ | refine atG (by first | assumption | exact setG_same _ _ _) ?_ | refine (nthK_iff _ _).2 ⟨_, (by assumption), ?_⟩ | refine ⟨_, ⟨(by omega), (by assumption)⟩, ?_⟩ | refine And.intro (by first | decide | omega) ?_ | fail); conv => whnf) | refine Sem.seqS ?_ | refine Sem.block ?_ | fail)
    exact ⟨_, fun _ _ h => h, rfl, rfl⟩
  rw [if_neg h1]
  rw [decide_eq_false h1] at e1
  repeat' (first | ((first | refine Sem.reg tt_ok ?_ | refine Sem.condS ?_ | refine Sem.regL tt_ok ?_ | refine Sem.skip tt_ok ?_ | refine Sem.exit tt_ok ?_ | refine Sem.ret tt_ok ?_ | refine BS_t (by assumption) ?_ | refine BS_f (by assumption) ?_ | refine atG (by first | assumption | exact setG_same _ _ _) ?_ | refine (nthK_iff _ _).2 ⟨_, (by assumption), ?_⟩ | refine ⟨_, ⟨(by omega), (by assumption)⟩, ?_⟩ | refine And.intro (by first | decide | omega) ?_ | fail); conv => whnf) | refine Sem.seqS ?_ | refine Sem.block ?_ | fail)
  by_cases h2 : s = [105, 110, 116]
  · rw [if_pos h2]
    rw [decide_eq_true h2] at e2
    repeat' (first | ((first | refine Sem.reg tt_ok ?_ | refine Sem.condS ?_ | refine Sem.regL tt_ok ?_ | refine Sem.skip tt_ok ?_ | refine Sem.exit tt_ok ?_ | refine Sem.ret tt_ok ?_ | refine BS_t (by assumption) ?_ | refine BS_f (by assumption) ?_ | refine atG (by first | assumption | exact setG_same _ _ _) ?_ | refine (nthK_iff _ _).2 ⟨_, (by assumption), ?_⟩ | refine ⟨_, ⟨(by omega), (by assumption)⟩, ?_⟩ | refine And.intro (by first | decide | omega) ?_ | fail); conv => whnf) | refine Sem.seqS ?_ | refine Sem.block ?_ | fail)
    exact ⟨_, fun _ _ h => h, rfl, rfl⟩
  rw [if_neg h2]
  rw [decide_eq_false h2] at e2
  repeat' (first | ((first | refine Sem.reg tt_ok ?_ | refine Sem.condS ?_ | refine Sem.regL tt_ok ?_ | refine Sem.skip tt_ok ?_ | refine Sem.exit tt_ok ?_ | refine Sem.ret tt_ok ?_ | refine BS_t (by assumption) ?_ | refine BS_f (by assumption) ?_ | refine atG (by first | assumption | exact setG_same _ _ _) ?_ | refine (nthK_iff _ _).2 ⟨_, (by assumption), ?_⟩ | refine ⟨_, ⟨(by omega), (by assumption)⟩, ?_⟩ | refine And.intro (by first | decide | omega) ?_ | fail); conv => whnf) | refine Sem.seqS ?_ | refine Sem.block ?_ | fail)
  by_cases h3 : s = [117, 105, 110, 116]
  · rw [if_pos h3]
    rw [decide_eq_true h3] at e3
    repeat' (first | ((first | refine Sem.reg tt_ok ?_ | refine Sem.condS ?_ | refine Sem.regL tt_ok ?_ | refine Sem.skip tt_ok ?_ | refine Sem.exit tt_ok ?_ | refine Sem.ret tt_ok ?_ | refine BS_t (by assumption) ?_ | refine BS_f (by assumption) ?_ | refine atG (by first | assumption | exact setG_same _ _ _) ?_ | refine (nthK_iff _ _).2 ⟨_, (by assumption), ?_⟩ | refine ⟨_, ⟨(by omega), (by assumption)⟩, ?_⟩ | refine And.intro (by first | decide | omega) ?_ | fail); conv => whnf) | refine Sem.seqS ?_ | refine Sem.block ?_ | fail)
    exact ⟨_, fun _ _ h => h, rfl, rfl⟩
  rw [if_neg h3]
  rw [decide_eq_false h3] at e3
  repeat' (first | ((first | refine Sem.reg tt_ok ?_ | refine Sem.condS ?_ | refine Sem.regL tt_ok ?_ | refine Sem.skip tt_ok ?_ | refine Sem.exit tt_ok ?_ | refine Sem.ret tt_ok ?_ | refine BS_t (by assumption) ?_ | refine BS_f (by assumption) ?_ | refine atG (by first | assumption | exact setG_same _ _ _) ?_ | refine (nthK_iff _ _).2 ⟨_, (by assumption), ?_⟩ | refine ⟨_, ⟨(by omega), (by assumption)⟩, ?_⟩ | refine And.intro (by first | decide | omega) ?_ | fail); conv => whnf) | refine Sem.seqS ?_ | refine Sem.block ?_ | fail)
  by_cases h4 : s = [116, 101, 120, 116]
  · rw [if_pos h4]
    rw [decide_eq_true h4] at e4
    repeat' (first | ((first | refine Sem.reg tt_ok ?_ | refine Sem.condS ?_ | refine Sem.regL tt_ok ?_ | refine Sem.skip tt_ok ?_ | refine Sem.exit tt_ok ?_ | refine Sem.ret tt_ok ?_ | refine BS_t (by assumption) ?_ | refine BS_f (by assumption) ?_ | refine atG (by first | assumption | exact setG_same _ _ _) ?_ | refine (nthK_iff _ _).2 ⟨_, (by assumption), ?_⟩ | refine ⟨_, ⟨(by omega), (by assumption)⟩, ?_⟩ | refine And.intro (by first | decide | omega) ?_ | fail); conv => whnf) | refine Sem.seqS ?_ | refine Sem.block ?_ | fail)
    exact ⟨_, fun _ _ h => h, rfl, rfl⟩
  rw [if_neg h4]
  rw [decide_eq_false h4] at e4
  repeat' (first | ((first | refine Sem.reg tt_ok ?_ | refine Sem.condS ?_ | refine Sem.regL tt_ok ?_ | refine Sem.skip tt_ok ?_ | refine Sem.exit tt_ok ?_ | refine Sem.ret tt_ok ?_ | refine BS_t (by assumption) ?_ | refine BS_f (by assumption) ?_ | refine atG (by first | assumption | exact setG_same _ _ _) ?_ | refine (nthK_iff _ _).2 ⟨_, (by assumption), ?_⟩ | refine ⟨_, ⟨(by omega), (by assumption)⟩, ?_⟩ | refine And.intro (by first | decide | omega) ?_ | fail); conv => whnf) | refine Sem.seqS ?_ | refine Sem.block ?_ | fail)
  by_cases h5 : s = [98, 121, 116, 101, 115]
  · rw [if_pos h5]
    rw [decide_eq_true h5] at e5
    repeat' (first | ((first | refine Sem.reg tt_ok ?_ | refine Sem.condS ?_ | refine Sem.regL tt_ok ?_ | refine Sem.skip tt_ok ?_ | refine Sem.exit tt_ok ?_ | refine Sem.ret tt_ok ?_ | refine BS_t (by assumption) ?_ | refine BS_f (by assumption) ?_ | refine atG (by first | assumption | exact setG_same _ _ _) ?_ | refine (nthK_iff _ _).2 ⟨_, (by assumption), ?_⟩ | refine ⟨_, ⟨(by omega), (by assumption)⟩, ?_⟩ | refine And.intro (by first | decide | omega) ?_ | fail); conv => whnf) | refine Sem.seqS ?_ | refine Sem.block ?_ | fail)
    exact ⟨_, fun _ _ h => h, rfl, rfl⟩
  rw [if_neg h5]
  rw [decide_eq_false h5] at e5
  repeat' (first | ((first | refine Sem.reg tt_ok ?_ | refine Sem.condS ?_ | refine Sem.regL tt_ok ?_ | refine Sem.skip tt_ok ?_ | refine Sem.exit tt_ok ?_ | refine Sem.ret tt_ok ?_ | refine BS_t (by assumption) ?_ | refine BS_f (by assumption) ?_ | refine atG (by first | assumption | exact setG_same _ _ _) ?_ | refine (nthK_iff _ _).2 ⟨_, (by assumption), ?_⟩ | refine ⟨_, ⟨(by omega), (by assumption)⟩, ?_⟩ | refine And.intro (by first | decide | omega) ?_ | fail); conv => whnf) | refine Sem.seqS ?_ | refine Sem.block ?_ | fail)
  exact ⟨_, fun _ _ h => h, rfl, rfl⟩
end Go.Proofs.YtofhakbmmgpgdaaDoor
end

section
/- The parser in the abstract run: types. -/
set_option maxRecDepth 100000
set_option linter.unusedSimpArgs false
namespace Go.Proofs.YtofhakbmmgpgdaaDoor
open Go Go.RowKit Go.Proofs Go.Shelf

def Ty.av : Ty → List AV
  | .leaf k => [.int .i64 (k : Nat), .str ⟨#[]⟩, .nils]
  | .named s => [.int .i64 6, .str (S s), .nils]
  | .list t => [.int .i64 7, .str ⟨#[]⟩, .slc 81 [t.av]]
  | .map k v => [.int .i64 8, .str ⟨#[]⟩, .slc 81 [k.av, v.av]]
  | .opt t => [.int .i64 9, .str ⟨#[]⟩, .slc 81 [t.av]]
theorem Ty.av3 : ∀ t : Ty, (∃ k s, t.av = [.int .i64 k, .str s, .nils]) ∨ ∃ k s els, t.av = [.int .i64 k, .str s, .slc 81 els]
  | .leaf _ => .inl ⟨_, _, rfl⟩
  | .named _ => .inl ⟨_, _, rfl⟩
  | .list _ => .inr ⟨_, _, _, rfl⟩
  | .map _ _ => .inr ⟨_, _, _, rfl⟩
  | .opt _ => .inr ⟨_, _, _, rfl⟩
def TypOk (L : List Tok) (n : Nat) : Prop := ∀ (p : PS) (pb : Nat) (G : Glob), G pb = some (pB L p) → p.at_ < L.length → MaxOk G → CallOk Tryd.prog TT 89 [.gptr pb 0, .int .i64 ((9 - n : Nat) : Int)] G (fun v G' => v = .agg (typP L n p).1.av ∧ G' = setG G pb (pB L (typP L n p).2))
theorem mayP_t {L : List Tok} {p : PS} {s : List UInt8} (h : mayB L p s = true) : mayP L p s = { p with at_ := p.at_ + 1 } := by unfold mayP; rw [h, if_pos rfl]
theorem mayP_f {L : List Tok} {p : PS} {s : List UInt8} (h : mayB L p s = false) : mayP L p s = p := by unfold mayP; rw [h, if_neg (by decide)]
theorem base_ok {L : List Tok} (hL : TL L) {n : Nat} (hn : n ≤ 8) (ih : TypOk L n) {p : PS} {pb : Nat} {G : Glob} (hG : G pb = some (pB L p)) (hp : p.at_ < L.length) (hM : MaxOk G) : CallOk Tryd.prog TT 116 [.gptr pb 0, .int .i64 ((8 - n : Nat) : Int)] G (fun v G' => v = .agg (baseP L n p).1.av ∧ G' = setG G pb (pB L (baseP L n p).2)) := by
  have hnow := now_ok hG hp
  unfold Tok.av tokC at hnow
  have hlen := hL.len
  have hpl := plain_ok (cur L p).text G
  have hwd : IntKind.i64.wrap (((8 - n : Nat) : Int) + 1) = ((9 - n : Nat) : Int) := by rw [IntWalk.i64_in _ (by omega)]; omega
  by_cases h1 : 0 < plainN (cur L p).text
  · have t1 : decide (((plainN (cur L p).text : Nat) : Int) > 0) = true := by simp; omega
    have hlt := plain_lt hL hp h1
    have hw1 : IntKind.i64.wrap (((p.at_ : Nat) : Int) + 1) = ((p.at_ + 1 : Nat) : Int) := by rw [IntWalk.i64_in _ (by omega)]; omega
    have e1 : baseP L n p = (.leaf (plainN (cur L p).text), { p with at_ := p.at_ + 1 }) := by unfold baseP; rw [if_pos h1]
    rw [e1, pB_at L { p with at_ := p.at_ + 1 }]
    simp only
    rw [← hw1]
    rw [pB_at] at hG
    refine call_sem tt_ok Tryd.func116 rfl (by kernel_rfl) Tryd.ntmps116 Tryd.results116 ?_; conv => whnf
    repeat' (first | ((first | refine Sem.reg tt_ok ?_ | refine Sem.condS ?_ | refine Sem.regL tt_ok ?_ | refine Sem.skip tt_ok ?_ | refine Sem.exit tt_ok ?_ | refine Sem.ret tt_ok ?_ | refine BS_t (by assumption) ?_ | refine BS_f (by assumption) ?_ | refine atG (by first | assumption | exact setG_same _ _ _) ?_ | refine (nthK_iff _ _).2 ⟨_, (by assumption), ?_⟩ | refine ⟨_, ⟨(by omega), (by assumption)⟩, ?_⟩ | refine And.intro (by first | decide | omega) ?_ | fail); conv => whnf) | refine Sem.seqS ?_ | refine Sem.block ?_ | fail)
    refine hnow.on ?_; conv => whnf
    repeat' (first | ((first | refine Sem.reg tt_ok ?_ | refine Sem.condS ?_ | refine Sem.regL tt_ok ?_ | refine Sem.skip tt_ok ?_ | refine Sem.exit tt_ok ?_ | refine Sem.ret tt_ok ?_ | refine BS_t (by assumption) ?_ | refine BS_f (by assumption) ?_ | refine atG (by first | assumption | exact setG_same _ _ _) ?_ | refine (nthK_iff _ _).2 ⟨_, (by assumption), ?_⟩ | refine ⟨_, ⟨(by omega), (by assumption)⟩, ?_⟩ | refine And.intro (by first | decide | omega) ?_ | fail); conv => whnf) | refine Sem.seqS ?_ | refine Sem.block ?_ | fail)
    refine hpl.on ?_; conv => whnf
    repeat' (first | ((first | refine Sem.reg tt_ok ?_ | refine Sem.condS ?_ | refine Sem.regL tt_ok ?_ | refine Sem.skip tt_ok ?_ | refine Sem.exit tt_ok ?_ | refine Sem.ret tt_ok ?_ | refine BS_t (by assumption) ?_ | refine BS_f (by assumption) ?_ | refine atG (by first | assumption | exact setG_same _ _ _) ?_ | refine (nthK_iff _ _).2 ⟨_, (by assumption), ?_⟩ | refine ⟨_, ⟨(by omega), (by assumption)⟩, ?_⟩ | refine And.intro (by first | decide | omega) ?_ | fail); conv => whnf) | refine Sem.seqS ?_ | refine Sem.block ?_ | fail)
    exact ⟨_, fun _ _ h => h, rfl, rfl⟩
  have t1 : decide (((plainN (cur L p).text : Nat) : Int) > 0) = false := by simp; omega
  cases h2 : mayB L p [108, 105, 115, 116] with
  | true =>
    have hm := may_ok hL hG hp _ h2
    rw [mayP_t h2] at hm
    have hp1 : ({ p with at_ := p.at_ + 1 } : PS).at_ < L.length := may_lt hL hp h2
    have hG1 := setG_pB hG hM { p with at_ := p.at_ + 1 }
    have hneed := need_ok hL hG1.1 hp1 [60]
    rw [setG_twice] at hneed
    have hp2 := need_at hL hp1 [60]
    have hG2 := setG_pB hG hM (needP L { p with at_ := p.at_ + 1 } [60])
    have htyp := ih _ _ _ hG2.1 hp2 hG2.2
    rw [setG_twice] at htyp
    have hp3 := typ_at hL n hp2
    have hG3 := setG_pB hG hM (typP L n (needP L { p with at_ := p.at_ + 1 } [60])).2
    have hneed2 := need_ok hL hG3.1 hp3 [62]
    rw [setG_twice] at hneed2
    have e1 : baseP L n p = (.list (typP L n (needP L { p with at_ := p.at_ + 1 } [60])).1, needP L (typP L n (needP L { p with at_ := p.at_ + 1 } [60])).2 [62]) := by unfold baseP; rw [if_neg h1, if_pos h2]
    rw [e1]
    unfold Ty.av
    simp only
    generalize typP L n (needP L { p with at_ := p.at_ + 1 } [60]) = r at *
    rcases Ty.av3 r.1 with ⟨k, s, ht⟩ | ⟨k, s, els, ht⟩ <;> rw [ht] at htyp ⊢ <;> clear ht
    all_goals
      refine call_sem tt_ok Tryd.func116 rfl (by kernel_rfl) Tryd.ntmps116 Tryd.results116 ?_; conv => whnf
      repeat' (first | ((first | refine Sem.reg tt_ok ?_ | refine Sem.condS ?_ | refine Sem.regL tt_ok ?_ | refine Sem.skip tt_ok ?_ | refine Sem.exit tt_ok ?_ | refine Sem.ret tt_ok ?_ | refine BS_t (by assumption) ?_ | refine BS_f (by assumption) ?_ | refine atG (by first | assumption | exact setG_same _ _ _) ?_ | refine (nthK_iff _ _).2 ⟨_, (by assumption), ?_⟩ | refine ⟨_, ⟨(by omega), (by assumption)⟩, ?_⟩ | refine And.intro (by first | decide | omega) ?_ | fail); conv => whnf) | refine Sem.seqS ?_ | refine Sem.block ?_ | fail)
      refine hnow.on ?_; conv => whnf
      repeat' (first | ((first | refine Sem.reg tt_ok ?_ | refine Sem.condS ?_ | refine Sem.regL tt_ok ?_ | refine Sem.skip tt_ok ?_ | refine Sem.exit tt_ok ?_ | refine Sem.ret tt_ok ?_ | refine BS_t (by assumption) ?_ | refine BS_f (by assumption) ?_ | refine atG (by first | assumption | exact setG_same _ _ _) ?_ | refine (nthK_iff _ _).2 ⟨_, (by assumption), ?_⟩ | refine ⟨_, ⟨(by omega), (by assumption)⟩, ?_⟩ | refine And.intro (by first | decide | omega) ?_ | fail); conv => whnf) | refine Sem.seqS ?_ | refine Sem.block ?_ | fail)
      refine hpl.on ?_; conv => whnf
      repeat' (first | ((first | refine Sem.reg tt_ok ?_ | refine Sem.condS ?_ | refine Sem.regL tt_ok ?_ | refine Sem.skip tt_ok ?_ | refine Sem.exit tt_ok ?_ | refine Sem.ret tt_ok ?_ | refine BS_t (by assumption) ?_ | refine BS_f (by assumption) ?_ | refine atG (by first | assumption | exact setG_same _ _ _) ?_ | refine (nthK_iff _ _).2 ⟨_, (by assumption), ?_⟩ | refine ⟨_, ⟨(by omega), (by assumption)⟩, ?_⟩ | refine And.intro (by first | decide | omega) ?_ | fail); conv => whnf) | refine Sem.seqS ?_ | refine Sem.block ?_ | fail)
      refine hm.on ?_; conv => whnf
      repeat' (first | ((first | refine Sem.reg tt_ok ?_ | refine Sem.condS ?_ | refine Sem.regL tt_ok ?_ | refine Sem.skip tt_ok ?_ | refine Sem.exit tt_ok ?_ | refine Sem.ret tt_ok ?_ | refine BS_t (by assumption) ?_ | refine BS_f (by assumption) ?_ | refine atG (by first | assumption | exact setG_same _ _ _) ?_ | refine (nthK_iff _ _).2 ⟨_, (by assumption), ?_⟩ | refine ⟨_, ⟨(by omega), (by assumption)⟩, ?_⟩ | refine And.intro (by first | decide | omega) ?_ | fail); conv => whnf) | refine Sem.seqS ?_ | refine Sem.block ?_ | fail)
      refine hneed.on ?_; conv => whnf
      repeat' (first | ((first | refine Sem.reg tt_ok ?_ | refine Sem.condS ?_ | refine Sem.regL tt_ok ?_ | refine Sem.skip tt_ok ?_ | refine Sem.exit tt_ok ?_ | refine Sem.ret tt_ok ?_ | refine BS_t (by assumption) ?_ | refine BS_f (by assumption) ?_ | refine atG (by first | assumption | exact setG_same _ _ _) ?_ | refine (nthK_iff _ _).2 ⟨_, (by assumption), ?_⟩ | refine ⟨_, ⟨(by omega), (by assumption)⟩, ?_⟩ | refine And.intro (by first | decide | omega) ?_ | fail); conv => whnf) | refine Sem.seqS ?_ | refine Sem.block ?_ | fail)
      rw [hwd]
      refine htyp.on ?_; conv => whnf
      repeat' (first | ((first | refine Sem.reg tt_ok ?_ | refine Sem.condS ?_ | refine Sem.regL tt_ok ?_ | refine Sem.skip tt_ok ?_ | refine Sem.exit tt_ok ?_ | refine Sem.ret tt_ok ?_ | refine BS_t (by assumption) ?_ | refine BS_f (by assumption) ?_ | refine atG (by first | assumption | exact setG_same _ _ _) ?_ | refine (nthK_iff _ _).2 ⟨_, (by assumption), ?_⟩ | refine ⟨_, ⟨(by omega), (by assumption)⟩, ?_⟩ | refine And.intro (by first | decide | omega) ?_ | fail); conv => whnf) | refine Sem.seqS ?_ | refine Sem.block ?_ | fail)
      refine hneed2.on ?_; conv => whnf
      repeat' (first | ((first | refine Sem.reg tt_ok ?_ | refine Sem.condS ?_ | refine Sem.regL tt_ok ?_ | refine Sem.skip tt_ok ?_ | refine Sem.exit tt_ok ?_ | refine Sem.ret tt_ok ?_ | refine BS_t (by assumption) ?_ | refine BS_f (by assumption) ?_ | refine atG (by first | assumption | exact setG_same _ _ _) ?_ | refine (nthK_iff _ _).2 ⟨_, (by assumption), ?_⟩ | refine ⟨_, ⟨(by omega), (by assumption)⟩, ?_⟩ | refine And.intro (by first | decide | omega) ?_ | fail); conv => whnf) | refine Sem.seqS ?_ | refine Sem.block ?_ | fail)
      exact ⟨_, fun _ _ h => h, rfl, rfl⟩
  | false =>
    have hm := may_ok hL hG hp _ h2
    rw [mayP_f h2, setG_back hG] at hm
    cases h3 : mayB L p [109, 97, 112] with
    | true =>
      have hm' := may_ok hL hG hp _ h3
      rw [mayP_t h3] at hm'
      have hp1 : ({ p with at_ := p.at_ + 1 } : PS).at_ < L.length := may_lt hL hp h3
      have hG1 := setG_pB hG hM { p with at_ := p.at_ + 1 }
      have hneed := need_ok hL hG1.1 hp1 [60]
      rw [setG_twice] at hneed
      have hp2 := need_at hL hp1 [60]
      have hG2 := setG_pB hG hM (needP L { p with at_ := p.at_ + 1 } [60])
      have htyp := ih _ _ _ hG2.1 hp2 hG2.2
      rw [setG_twice] at htyp
      have hp3 := typ_at hL n hp2
      have hG3 := setG_pB hG hM (typP L n (needP L { p with at_ := p.at_ + 1 } [60])).2
      have hneed2 := need_ok hL hG3.1 hp3 [44]
      rw [setG_twice] at hneed2
      have hp4 := need_at hL hp3 [44]
      have hG4 := setG_pB hG hM (needP L (typP L n (needP L { p with at_ := p.at_ + 1 } [60])).2 [44])
      have htyp2 := ih _ _ _ hG4.1 hp4 hG4.2
      rw [setG_twice] at htyp2
      have hp5 := typ_at hL n hp4
      have hG5 := setG_pB hG hM (typP L n (needP L (typP L n (needP L { p with at_ := p.at_ + 1 } [60])).2 [44])).2
      have hneed3 := need_ok hL hG5.1 hp5 [62]
      rw [setG_twice] at hneed3
      have e1 : baseP L n p = (.map (typP L n (needP L { p with at_ := p.at_ + 1 } [60])).1 (typP L n (needP L (typP L n (needP L { p with at_ := p.at_ + 1 } [60])).2 [44])).1, needP L (typP L n (needP L (typP L n (needP L { p with at_ := p.at_ + 1 } [60])).2 [44])).2 [62]) := by unfold baseP; rw [if_neg h1, h2, if_neg (by decide), if_pos h3]
      rw [e1]
      unfold Ty.av
      simp only
      generalize typP L n (needP L (typP L n (needP L { p with at_ := p.at_ + 1 } [60])).2 [44]) = r2 at *
      generalize typP L n (needP L { p with at_ := p.at_ + 1 } [60]) = r at *
      rcases Ty.av3 r.1 with ⟨k, s, ht⟩ | ⟨k, s, els, ht⟩ <;> rw [ht] at htyp ⊢ <;> clear ht <;> rcases Ty.av3 r2.1 with ⟨k2, s2, ht⟩ | ⟨k2, s2, els2, ht⟩ <;> rw [ht] at htyp2 ⊢ <;> clear ht
      all_goals
        refine call_sem tt_ok Tryd.func116 rfl (by kernel_rfl) Tryd.ntmps116 Tryd.results116 ?_; conv => whnf
        repeat' (first | ((first | refine Sem.reg tt_ok ?_ | refine Sem.condS ?_ | refine Sem.regL tt_ok ?_ | refine Sem.skip tt_ok ?_ | refine Sem.exit tt_ok ?_ | refine Sem.ret tt_ok ?_ | refine BS_t (by assumption) ?_ | refine BS_f (by assumption) ?_ | refine atG (by first | assumption | exact setG_same _ _ _) ?_ | refine (nthK_iff _ _).2 ⟨_, (by assumption), ?_⟩ | refine ⟨_, ⟨(by omega), (by assumption)⟩, ?_⟩ | refine And.intro (by first | decide | omega) ?_ | fail); conv => whnf) | refine Sem.seqS ?_ | refine Sem.block ?_ | fail)
        refine hnow.on ?_; conv => whnf
        repeat' (first | ((first | refine Sem.reg tt_ok ?_ | refine Sem.condS ?_ | refine Sem.regL tt_ok ?_ | refine Sem.skip tt_ok ?_ | refine Sem.exit tt_ok ?_ | refine Sem.ret tt_ok ?_ | refine BS_t (by assumption) ?_ | refine BS_f (by assumption) ?_ | refine atG (by first | assumption | exact setG_same _ _ _) ?_ | refine (nthK_iff _ _).2 ⟨_, (by assumption), ?_⟩ | refine ⟨_, ⟨(by omega), (by assumption)⟩, ?_⟩ | refine And.intro (by first | decide | omega) ?_ | fail); conv => whnf) | refine Sem.seqS ?_ | refine Sem.block ?_ | fail)
        refine hpl.on ?_; conv => whnf
        repeat' (first | ((first | refine Sem.reg tt_ok ?_ | refine Sem.condS ?_ | refine Sem.regL tt_ok ?_ | refine Sem.skip tt_ok ?_ | refine Sem.exit tt_ok ?_ | refine Sem.ret tt_ok ?_ | refine BS_t (by assumption) ?_ | refine BS_f (by assumption) ?_ | refine atG (by first | assumption | exact setG_same _ _ _) ?_ | refine (nthK_iff _ _).2 ⟨_, (by assumption), ?_⟩ | refine ⟨_, ⟨(by omega), (by assumption)⟩, ?_⟩ | refine And.intro (by first | decide | omega) ?_ | fail); conv => whnf) | refine Sem.seqS ?_ | refine Sem.block ?_ | fail)
        refine hm.on ?_; conv => whnf
        repeat' (first | ((first | refine Sem.reg tt_ok ?_ | refine Sem.condS ?_ | refine Sem.regL tt_ok ?_ | refine Sem.skip tt_ok ?_ | refine Sem.exit tt_ok ?_ | refine Sem.ret tt_ok ?_ | refine BS_t (by assumption) ?_ | refine BS_f (by assumption) ?_ | refine atG (by first | assumption | exact setG_same _ _ _) ?_ | refine (nthK_iff _ _).2 ⟨_, (by assumption), ?_⟩ | refine ⟨_, ⟨(by omega), (by assumption)⟩, ?_⟩ | refine And.intro (by first | decide | omega) ?_ | fail); conv => whnf) | refine Sem.seqS ?_ | refine Sem.block ?_ | fail)
        refine hm'.on ?_; conv => whnf
        repeat' (first | ((first | refine Sem.reg tt_ok ?_ | refine Sem.condS ?_ | refine Sem.regL tt_ok ?_ | refine Sem.skip tt_ok ?_ | refine Sem.exit tt_ok ?_ | refine Sem.ret tt_ok ?_ | refine BS_t (by assumption) ?_ | refine BS_f (by assumption) ?_ | refine atG (by first | assumption | exact setG_same _ _ _) ?_ | refine (nthK_iff _ _).2 ⟨_, (by assumption), ?_⟩ | refine ⟨_, ⟨(by omega), (by assumption)⟩, ?_⟩ | refine And.intro (by first | decide | omega) ?_ | fail); conv => whnf) | refine Sem.seqS ?_ | refine Sem.block ?_ | fail)
        refine hneed.on ?_; conv => whnf
        repeat' (first | ((first | refine Sem.reg tt_ok ?_ | refine Sem.condS ?_ | refine Sem.regL tt_ok ?_ | refine Sem.skip tt_ok ?_ | refine Sem.exit tt_ok ?_ | refine Sem.ret tt_ok ?_ | refine BS_t (by assumption) ?_ | refine BS_f (by assumption) ?_ | refine atG (by first | assumption | exact setG_same _ _ _) ?_ | refine (nthK_iff _ _).2 ⟨_, (by assumption), ?_⟩ | refine ⟨_, ⟨(by omega), (by assumption)⟩, ?_⟩ | refine And.intro (by first | decide | omega) ?_ | fail); conv => whnf) | refine Sem.seqS ?_ | refine Sem.block ?_ | fail)
        rw [hwd]
        refine htyp.on ?_; conv => whnf
        repeat' (first | ((first | refine Sem.reg tt_ok ?_ | refine Sem.condS ?_ | refine Sem.regL tt_ok ?_ | refine Sem.skip tt_ok ?_ | refine Sem.exit tt_ok ?_ | refine Sem.ret tt_ok ?_ | refine BS_t (by assumption) ?_ | refine BS_f (by assumption) ?_ | refine atG (by first | assumption | exact setG_same _ _ _) ?_ | refine (nthK_iff _ _).2 ⟨_, (by assumption), ?_⟩ | refine ⟨_, ⟨(by omega), (by assumption)⟩, ?_⟩ | refine And.intro (by first | decide | omega) ?_ | fail); conv => whnf) | refine Sem.seqS ?_ | refine Sem.block ?_ | fail)
        refine hneed2.on ?_; conv => whnf
        repeat' (first | ((first | refine Sem.reg tt_ok ?_ | refine Sem.condS ?_ | refine Sem.regL tt_ok ?_ | refine Sem.skip tt_ok ?_ | refine Sem.exit tt_ok ?_ | refine Sem.ret tt_ok ?_ | refine BS_t (by assumption) ?_ | refine BS_f (by assumption) ?_ | refine atG (by first | assumption | exact setG_same _ _ _) ?_ | refine (nthK_iff _ _).2 ⟨_, (by assumption), ?_⟩ | refine ⟨_, ⟨(by omega), (by assumption)⟩, ?_⟩ | refine And.intro (by first | decide | omega) ?_ | fail); conv => whnf) | refine Sem.seqS ?_ | refine Sem.block ?_ | fail)
        rw [hwd]
        refine htyp2.on ?_; conv => whnf
        repeat' (first | ((first | refine Sem.reg tt_ok ?_ | refine Sem.condS ?_ | refine Sem.regL tt_ok ?_ | refine Sem.skip tt_ok ?_ | refine Sem.exit tt_ok ?_ | refine Sem.ret tt_ok ?_ | refine BS_t (by assumption) ?_ | refine BS_f (by assumption) ?_ | refine atG (by first | assumption | exact setG_same _ _ _) ?_ | refine (nthK_iff _ _).2 ⟨_, (by assumption), ?_⟩ | refine ⟨_, ⟨(by omega), (by assumption)⟩, ?_⟩ | refine And.intro (by first | decide | omega) ?_ | fail); conv => whnf) | refine Sem.seqS ?_ | refine Sem.block ?_ | fail)
        refine hneed3.on ?_; conv => whnf
        repeat' (first | ((first | refine Sem.reg tt_ok ?_ | refine Sem.condS ?_ | refine Sem.regL tt_ok ?_ | refine Sem.skip tt_ok ?_ | refine Sem.exit tt_ok ?_ | refine Sem.ret tt_ok ?_ | refine BS_t (by assumption) ?_ | refine BS_f (by assumption) ?_ | refine atG (by first | assumption | exact setG_same _ _ _) ?_ | refine (nthK_iff _ _).2 ⟨_, (by assumption), ?_⟩ | refine ⟨_, ⟨(by omega), (by assumption)⟩, ?_⟩ | refine And.intro (by first | decide | omega) ?_ | fail); conv => whnf) | refine Sem.seqS ?_ | refine Sem.block ?_ | fail)
        exact ⟨_, fun _ _ h => h, rfl, rfl⟩
    | false =>
      have hm' := may_ok hL hG hp _ h3
      rw [mayP_f h3, setG_back hG] at hm'
      have hname := pname_ok hL hG hp hM
      have e1 : baseP L n p = (.named (nameV L p), nameP L p) := by unfold baseP; rw [if_neg h1, h2, if_neg (by decide), h3, if_neg (by decide)]
      rw [e1]
      refine call_sem tt_ok Tryd.func116 rfl (by kernel_rfl) Tryd.ntmps116 Tryd.results116 ?_; conv => whnf
      repeat' (first | ((first | refine Sem.reg tt_ok ?_ | refine Sem.condS ?_ | refine Sem.regL tt_ok ?_ | refine Sem.skip tt_ok ?_ | refine Sem.exit tt_ok ?_ | refine Sem.ret tt_ok ?_ | refine BS_t (by assumption) ?_ | refine BS_f (by assumption) ?_ | refine atG (by first | assumption | exact setG_same _ _ _) ?_ | refine (nthK_iff _ _).2 ⟨_, (by assumption), ?_⟩ | refine ⟨_, ⟨(by omega), (by assumption)⟩, ?_⟩ | refine And.intro (by first | decide | omega) ?_ | fail); conv => whnf) | refine Sem.seqS ?_ | refine Sem.block ?_ | fail)
      refine hnow.on ?_; conv => whnf
      repeat' (first | ((first | refine Sem.reg tt_ok ?_ | refine Sem.condS ?_ | refine Sem.regL tt_ok ?_ | refine Sem.skip tt_ok ?_ | refine Sem.exit tt_ok ?_ | refine Sem.ret tt_ok ?_ | refine BS_t (by assumption) ?_ | refine BS_f (by assumption) ?_ | refine atG (by first | assumption | exact setG_same _ _ _) ?_ | refine (nthK_iff _ _).2 ⟨_, (by assumption), ?_⟩ | refine ⟨_, ⟨(by omega), (by assumption)⟩, ?_⟩ | refine And.intro (by first | decide | omega) ?_ | fail); conv => whnf) | refine Sem.seqS ?_ | refine Sem.block ?_ | fail)
      refine hpl.on ?_; conv => whnf
      repeat' (first | ((first | refine Sem.reg tt_ok ?_ | refine Sem.condS ?_ | refine Sem.regL tt_ok ?_ | refine Sem.skip tt_ok ?_ | refine Sem.exit tt_ok ?_ | refine Sem.ret tt_ok ?_ | refine BS_t (by assumption) ?_ | refine BS_f (by assumption) ?_ | refine atG (by first | assumption | exact setG_same _ _ _) ?_ | refine (nthK_iff _ _).2 ⟨_, (by assumption), ?_⟩ | refine ⟨_, ⟨(by omega), (by assumption)⟩, ?_⟩ | refine And.intro (by first | decide | omega) ?_ | fail); conv => whnf) | refine Sem.seqS ?_ | refine Sem.block ?_ | fail)
      refine hm.on ?_; conv => whnf
      repeat' (first | ((first | refine Sem.reg tt_ok ?_ | refine Sem.condS ?_ | refine Sem.regL tt_ok ?_ | refine Sem.skip tt_ok ?_ | refine Sem.exit tt_ok ?_ | refine Sem.ret tt_ok ?_ | refine BS_t (by assumption) ?_ | refine BS_f (by assumption) ?_ | refine atG (by first | assumption | exact setG_same _ _ _) ?_ | refine (nthK_iff _ _).2 ⟨_, (by assumption), ?_⟩ | refine ⟨_, ⟨(by omega), (by assumption)⟩, ?_⟩ | refine And.intro (by first | decide | omega) ?_ | fail); conv => whnf) | refine Sem.seqS ?_ | refine Sem.block ?_ | fail)
      refine hm'.on ?_; conv => whnf
      repeat' (first | ((first | refine Sem.reg tt_ok ?_ | refine Sem.condS ?_ | refine Sem.regL tt_ok ?_ | refine Sem.skip tt_ok ?_ | refine Sem.exit tt_ok ?_ | refine Sem.ret tt_ok ?_ | refine BS_t (by assumption) ?_ | refine BS_f (by assumption) ?_ | refine atG (by first | assumption | exact setG_same _ _ _) ?_ | refine (nthK_iff _ _).2 ⟨_, (by assumption), ?_⟩ | refine ⟨_, ⟨(by omega), (by assumption)⟩, ?_⟩ | refine And.intro (by first | decide | omega) ?_ | fail); conv => whnf) | refine Sem.seqS ?_ | refine Sem.block ?_ | fail)
      refine hname.on ?_; conv => whnf
      repeat' (first | ((first | refine Sem.reg tt_ok ?_ | refine Sem.condS ?_ | refine Sem.regL tt_ok ?_ | refine Sem.skip tt_ok ?_ | refine Sem.exit tt_ok ?_ | refine Sem.ret tt_ok ?_ | refine BS_t (by assumption) ?_ | refine BS_f (by assumption) ?_ | refine atG (by first | assumption | exact setG_same _ _ _) ?_ | refine (nthK_iff _ _).2 ⟨_, (by assumption), ?_⟩ | refine ⟨_, ⟨(by omega), (by assumption)⟩, ?_⟩ | refine And.intro (by first | decide | omega) ?_ | fail); conv => whnf) | refine Sem.seqS ?_ | refine Sem.block ?_ | fail)
      exact ⟨_, fun _ _ h => h, rfl, rfl⟩
theorem typ_ok {L : List Tok} (hL : TL L) : ∀ n, n ≤ 9 → TypOk L n
  | 0, _ => fun p pb G hG hp hM => by
    have hf := fail_ok hG hp 10
    have hw := well_ok (setG_same G pb (pB L (failP L p 10))) (b := false) (by have := fail_err (L := L) (p := p) (e := 10) (by decide); simp [this])
    unfold typP
    refine call_sem tt_ok Tryd.func89 rfl (by kernel_rfl) Tryd.ntmps89 Tryd.results89 ?_; conv => whnf
    repeat' (first | ((first | refine Sem.reg tt_ok ?_ | refine Sem.condS ?_ | refine Sem.regL tt_ok ?_ | refine Sem.skip tt_ok ?_ | refine Sem.exit tt_ok ?_ | refine Sem.ret tt_ok ?_ | refine BS_t (by assumption) ?_ | refine BS_f (by assumption) ?_ | refine atG (by first | assumption | exact setG_same _ _ _) ?_ | refine (nthK_iff _ _).2 ⟨_, (by assumption), ?_⟩ | refine ⟨_, ⟨(by omega), (by assumption)⟩, ?_⟩ | refine And.intro (by first | decide | omega) ?_ | fail); conv => whnf) | refine Sem.seqS ?_ | refine Sem.block ?_ | fail)
    refine hf.on ?_; conv => whnf
    repeat' (first | ((first | refine Sem.reg tt_ok ?_ | refine Sem.condS ?_ | refine Sem.regL tt_ok ?_ | refine Sem.skip tt_ok ?_ | refine Sem.exit tt_ok ?_ | refine Sem.ret tt_ok ?_ | refine BS_t (by assumption) ?_ | refine BS_f (by assumption) ?_ | refine atG (by first | assumption | exact setG_same _ _ _) ?_ | refine (nthK_iff _ _).2 ⟨_, (by assumption), ?_⟩ | refine ⟨_, ⟨(by omega), (by assumption)⟩, ?_⟩ | refine And.intro (by first | decide | omega) ?_ | fail); conv => whnf) | refine Sem.seqS ?_ | refine Sem.block ?_ | fail)
    refine hw.on ?_; conv => whnf
    repeat' (first | ((first | refine Sem.reg tt_ok ?_ | refine Sem.condS ?_ | refine Sem.regL tt_ok ?_ | refine Sem.skip tt_ok ?_ | refine Sem.exit tt_ok ?_ | refine Sem.ret tt_ok ?_ | refine BS_t (by assumption) ?_ | refine BS_f (by assumption) ?_ | refine atG (by first | assumption | exact setG_same _ _ _) ?_ | refine (nthK_iff _ _).2 ⟨_, (by assumption), ?_⟩ | refine ⟨_, ⟨(by omega), (by assumption)⟩, ?_⟩ | refine And.intro (by first | decide | omega) ?_ | fail); conv => whnf) | refine Sem.seqS ?_ | refine Sem.block ?_ | fail)
    exact ⟨_, fun _ _ h => h, rfl, rfl⟩
  | n + 1, hn => fun p pb G hG hp hM => by
    have ih := typ_ok hL n (by omega)
    have hd : (9 - (n + 1) : Nat) = 8 - n := by omega
    rw [hd]
    have t1 : decide (((8 - n : Nat) : Int) > 8) = false := by simp; omega
    by_cases h0 : p.err = 0
    · have hw := well_ok hG (b := true) (by simp [h0])
      have hb := base_ok hL (by omega) ih hG hp hM
      have hp1 := base_at hL n hp
      rw [typP_succ, if_neg (by omega)]
      generalize hr : baseP L n p = r at *
      clear hr
      cases h2 : mayB L r.2 [63] with
      | true =>
        have hm := may_ok hL (setG_same G pb (pB L r.2)) hp1 _ h2
        rw [mayP_t h2, setG_twice] at hm
        rw [if_pos rfl]
        unfold Ty.av
        simp only
        rcases Ty.av3 r.1 with ⟨k, s, ht⟩ | ⟨k, s, els, ht⟩ <;> rw [ht] at hb ⊢ <;> clear ht
        all_goals
          refine call_sem tt_ok Tryd.func89 rfl (by kernel_rfl) Tryd.ntmps89 Tryd.results89 ?_; conv => whnf
          repeat' (first | ((first | refine Sem.reg tt_ok ?_ | refine Sem.condS ?_ | refine Sem.regL tt_ok ?_ | refine Sem.skip tt_ok ?_ | refine Sem.exit tt_ok ?_ | refine Sem.ret tt_ok ?_ | refine BS_t (by assumption) ?_ | refine BS_f (by assumption) ?_ | refine atG (by first | assumption | exact setG_same _ _ _) ?_ | refine (nthK_iff _ _).2 ⟨_, (by assumption), ?_⟩ | refine ⟨_, ⟨(by omega), (by assumption)⟩, ?_⟩ | refine And.intro (by first | decide | omega) ?_ | fail); conv => whnf) | refine Sem.seqS ?_ | refine Sem.block ?_ | fail)
          refine hw.on ?_; conv => whnf
          repeat' (first | ((first | refine Sem.reg tt_ok ?_ | refine Sem.condS ?_ | refine Sem.regL tt_ok ?_ | refine Sem.skip tt_ok ?_ | refine Sem.exit tt_ok ?_ | refine Sem.ret tt_ok ?_ | refine BS_t (by assumption) ?_ | refine BS_f (by assumption) ?_ | refine atG (by first | assumption | exact setG_same _ _ _) ?_ | refine (nthK_iff _ _).2 ⟨_, (by assumption), ?_⟩ | refine ⟨_, ⟨(by omega), (by assumption)⟩, ?_⟩ | refine And.intro (by first | decide | omega) ?_ | fail); conv => whnf) | refine Sem.seqS ?_ | refine Sem.block ?_ | fail)
          refine hb.on ?_; conv => whnf
          repeat' (first | ((first | refine Sem.reg tt_ok ?_ | refine Sem.condS ?_ | refine Sem.regL tt_ok ?_ | refine Sem.skip tt_ok ?_ | refine Sem.exit tt_ok ?_ | refine Sem.ret tt_ok ?_ | refine BS_t (by assumption) ?_ | refine BS_f (by assumption) ?_ | refine atG (by first | assumption | exact setG_same _ _ _) ?_ | refine (nthK_iff _ _).2 ⟨_, (by assumption), ?_⟩ | refine ⟨_, ⟨(by omega), (by assumption)⟩, ?_⟩ | refine And.intro (by first | decide | omega) ?_ | fail); conv => whnf) | refine Sem.seqS ?_ | refine Sem.block ?_ | fail)
          refine hm.on ?_; conv => whnf
          repeat' (first | ((first | refine Sem.reg tt_ok ?_ | refine Sem.condS ?_ | refine Sem.regL tt_ok ?_ | refine Sem.skip tt_ok ?_ | refine Sem.exit tt_ok ?_ | refine Sem.ret tt_ok ?_ | refine BS_t (by assumption) ?_ | refine BS_f (by assumption) ?_ | refine atG (by first | assumption | exact setG_same _ _ _) ?_ | refine (nthK_iff _ _).2 ⟨_, (by assumption), ?_⟩ | refine ⟨_, ⟨(by omega), (by assumption)⟩, ?_⟩ | refine And.intro (by first | decide | omega) ?_ | fail); conv => whnf) | refine Sem.seqS ?_ | refine Sem.block ?_ | fail)
          exact ⟨_, fun _ _ h => h, rfl, rfl⟩
      | false =>
        have hm := may_ok hL (setG_same G pb (pB L r.2)) hp1 _ h2
        rw [mayP_f h2, setG_twice] at hm
        rw [if_neg (by decide)]
        rcases Ty.av3 r.1 with ⟨k, s, ht⟩ | ⟨k, s, els, ht⟩ <;> rw [ht] at hb ⊢ <;> clear ht
        all_goals
          refine call_sem tt_ok Tryd.func89 rfl (by kernel_rfl) Tryd.ntmps89 Tryd.results89 ?_; conv => whnf
          repeat' (first | ((first | refine Sem.reg tt_ok ?_ | refine Sem.condS ?_ | refine Sem.regL tt_ok ?_ | refine Sem.skip tt_ok ?_ | refine Sem.exit tt_ok ?_ | refine Sem.ret tt_ok ?_ | refine BS_t (by assumption) ?_ | refine BS_f (by assumption) ?_ | refine atG (by first | assumption | exact setG_same _ _ _) ?_ | refine (nthK_iff _ _).2 ⟨_, (by assumption), ?_⟩ | refine ⟨_, ⟨(by omega), (by assumption)⟩, ?_⟩ | refine And.intro (by first | decide | omega) ?_ | fail); conv => whnf) | refine Sem.seqS ?_ | refine Sem.block ?_ | fail)
          refine hw.on ?_; conv => whnf
          repeat' (first | ((first | refine Sem.reg tt_ok ?_ | refine Sem.condS ?_ | refine Sem.regL tt_ok ?_ | refine Sem.skip tt_ok ?_ | refine Sem.exit tt_ok ?_ | refine Sem.ret tt_ok ?_ | refine BS_t (by assumption) ?_ | refine BS_f (by assumption) ?_ | refine atG (by first | assumption | exact setG_same _ _ _) ?_ | refine (nthK_iff _ _).2 ⟨_, (by assumption), ?_⟩ | refine ⟨_, ⟨(by omega), (by assumption)⟩, ?_⟩ | refine And.intro (by first | decide | omega) ?_ | fail); conv => whnf) | refine Sem.seqS ?_ | refine Sem.block ?_ | fail)
          refine hb.on ?_; conv => whnf
          repeat' (first | ((first | refine Sem.reg tt_ok ?_ | refine Sem.condS ?_ | refine Sem.regL tt_ok ?_ | refine Sem.skip tt_ok ?_ | refine Sem.exit tt_ok ?_ | refine Sem.ret tt_ok ?_ | refine BS_t (by assumption) ?_ | refine BS_f (by assumption) ?_ | refine atG (by first | assumption | exact setG_same _ _ _) ?_ | refine (nthK_iff _ _).2 ⟨_, (by assumption), ?_⟩ | refine ⟨_, ⟨(by omega), (by assumption)⟩, ?_⟩ | refine And.intro (by first | decide | omega) ?_ | fail); conv => whnf) | refine Sem.seqS ?_ | refine Sem.block ?_ | fail)
          refine hm.on ?_; conv => whnf
          repeat' (first | ((first | refine Sem.reg tt_ok ?_ | refine Sem.condS ?_ | refine Sem.regL tt_ok ?_ | refine Sem.skip tt_ok ?_ | refine Sem.exit tt_ok ?_ | refine Sem.ret tt_ok ?_ | refine BS_t (by assumption) ?_ | refine BS_f (by assumption) ?_ | refine atG (by first | assumption | exact setG_same _ _ _) ?_ | refine (nthK_iff _ _).2 ⟨_, (by assumption), ?_⟩ | refine ⟨_, ⟨(by omega), (by assumption)⟩, ?_⟩ | refine And.intro (by first | decide | omega) ?_ | fail); conv => whnf) | refine Sem.seqS ?_ | refine Sem.block ?_ | fail)
          exact ⟨_, fun _ _ h => h, rfl, rfl⟩
    · have hw := well_ok hG (b := false) (by simp [h0])
      rw [typP_succ, if_pos h0, setG_back hG]
      refine call_sem tt_ok Tryd.func89 rfl (by kernel_rfl) Tryd.ntmps89 Tryd.results89 ?_; conv => whnf
      repeat' (first | ((first | refine Sem.reg tt_ok ?_ | refine Sem.condS ?_ | refine Sem.regL tt_ok ?_ | refine Sem.skip tt_ok ?_ | refine Sem.exit tt_ok ?_ | refine Sem.ret tt_ok ?_ | refine BS_t (by assumption) ?_ | refine BS_f (by assumption) ?_ | refine atG (by first | assumption | exact setG_same _ _ _) ?_ | refine (nthK_iff _ _).2 ⟨_, (by assumption), ?_⟩ | refine ⟨_, ⟨(by omega), (by assumption)⟩, ?_⟩ | refine And.intro (by first | decide | omega) ?_ | fail); conv => whnf) | refine Sem.seqS ?_ | refine Sem.block ?_ | fail)
      refine hw.on ?_; conv => whnf
      repeat' (first | ((first | refine Sem.reg tt_ok ?_ | refine Sem.condS ?_ | refine Sem.regL tt_ok ?_ | refine Sem.skip tt_ok ?_ | refine Sem.exit tt_ok ?_ | refine Sem.ret tt_ok ?_ | refine BS_t (by assumption) ?_ | refine BS_f (by assumption) ?_ | refine atG (by first | assumption | exact setG_same _ _ _) ?_ | refine (nthK_iff _ _).2 ⟨_, (by assumption), ?_⟩ | refine ⟨_, ⟨(by omega), (by assumption)⟩, ?_⟩ | refine And.intro (by first | decide | omega) ?_ | fail); conv => whnf) | refine Sem.seqS ?_ | refine Sem.block ?_ | fail)
      exact ⟨_, fun _ _ h => h, rfl, rfl⟩
end Go.Proofs.YtofhakbmmgpgdaaDoor
end

section
/- The parser in the abstract run: the rows of declarations, as closures. -/
set_option maxRecDepth 100000
set_option linter.unusedSimpArgs false
namespace Go.Proofs.YtofhakbmmgpgdaaDoor
open Go Go.RowKit Go.Proofs Go.Shelf

def Fd.av (f : Fd) : List AV := .int .i64 (f.tag : Nat) :: .str (S f.name) :: f.ty.av
def Md.av (m : Md) : List AV := [.int .i64 (m.tag : Nat), .str (S m.name), .str (S m.inn), .str (S m.out), .bool m.oneway]
/-- a declaration's box, its fields growing -/
def dF (k : Int) (nm : ByteArray) (a : Int) (els : List (List AV)) : GB := .box [.int .i64 k, .str nm, .slc 83 els, .nils, .int .i64 a] [(2, 83, els)]
/-- its methods growing -/
def dM (k : Int) (nm : ByteArray) (a : Int) (els : List (List AV)) : GB := .box [.int .i64 k, .str nm, .nils, .slc 123 els, .int .i64 a] [(3, 123, els)]
theorem dF_at (k : Int) (nm : ByteArray) (a : Int) (els : List (List AV)) : dF k nm a els = .box [.int .i64 k, .str nm, .slc 83 els, .nils, .int .i64 a] [(2, 83, els)] := rfl
theorem dM_at (k : Int) (nm : ByteArray) (a : Int) (els : List (List AV)) : dM k nm a els = .box [.int .i64 k, .str nm, .nils, .slc 123 els, .int .i64 a] [(3, 123, els)] := rfl
theorem rm_pB {L : List Tok} {p : PS} {pb db : Nat} {G : Glob} (hG : G pb = some (pB L p)) (hne : pb ≠ db) : rmG G db pb = some (pB L p) := by rw [rmG_ne _ hne]; exact hG

theorem DrawOk.to {P : Program} {T : TypeId → TR} {ops : Array Oper} {c : Cf} {K : Cf → Prop} (c1 : Cf) (h : DrawOk P T ops c (fun c' => c' = c1)) (hk : K c1) : DrawOk P T ops c K :=
  ⟨fun g a w st id Q hQ => h.draw g a w st id Q fun g' w' a' c' hc h1 h2 => hQ g' w' a' c' (by rw [hc]; exact hk) h1 h2⟩
theorem field_ok {L : List Tok} (hL : TL L) {p : PS} {pb qb db : Nat} {G : Glob} (hG : G pb = some (pB L p)) (hq : G qb = some (.cells [.gptr pb 0])) {k a : Int} {nm : ByteArray} {els : List (List AV)} (hd : G db = some (dF k nm a els)) (hp : p.at_ < L.length) (hM : MaxOk G) (hn : els.length ≤ 1000) :
    CallOk Tryd.prog TT 85 [.gptr qb 0, .gptr db 0] G (fun v G' => v = .tup [] ∧ G' = setG (setG G pb (pB L (fieldP L p).2)) db (dF k nm a (els ++ [(fieldP L p).1.av]))) := by
  have hqp : qb ≠ pb := fun e => by rw [e, hG] at hq; simp [pB] at hq
  have hqd : qb ≠ db := fun e => by rw [e, hd] at hq; simp [dF] at hq
  have hpd : pb ≠ db := fun e => by rw [e, hd] at hG; simp [dF, pB] at hG
  have hM' := hM.rm hd (fun k o h => by cases h)
  have hR := rm_pB hG hpd
  have hq' : rmG G db qb = some (.cells [.gptr pb 0]) := by rw [rmG_ne _ hqd]; exact hq
  have fin : ∀ x y, ∀ i z, setG (setG G pb x) db y i = some z → setG (setG (rmG G db) pb x) db y i = some z := fun x y => setG_rm hpd
  rw [dF_at] at hd
  refine call_semW tt_ok Tryd.func85 rfl (by kernel_rfl) Tryd.ntmps85 Tryd.results85 ?_
  conv => whnf
  refine Sem.weak (weak_adopt db 2 _ hd) ?_
  have e1 : decide (qb = db) = false := by simpa using hqd
  have e2 : decide (db = db) = true := by simp
  simp only [List.map_cons, List.map_nil, asOwn, e1, decide_true, List.set_cons_succ, List.set_cons_zero]
  generalize rmG G db = R at *
  have hnum := pnum_ok hL hR hp
  have hp1 := num_at hL hp
  have hG1 := setG_pB hR hM' (numP L p)
  have hname := pname_ok hL hG1.1 hp1 hG1.2
  rw [setG_twice] at hname
  have hp2 := name_at hL hp1
  have hG2 := setG_pB hR hM' (nameP L (numP L p))
  have hneed := need_ok hL hG2.1 hp2 [58]
  rw [setG_twice] at hneed
  have hp3 := need_at hL hp2 [58]
  have hG3 := setG_pB hR hM' (needP L (nameP L (numP L p)) [58])
  have htyp := typ_ok hL 9 (Nat.le_refl _) _ _ _ hG3.1 hp3 hG3.2
  rw [setG_twice] at htyp
  unfold fieldP Fd.av
  simp only
  generalize numP L p = p1 at *
  generalize needP L (nameP L p1) [58] = p3 at *
  generalize nameP L p1 = p2 at *
  generalize typP L 9 p3 = r at *
  rcases Ty.av3 r.1 with ⟨tk, ts, ht⟩ | ⟨tk, ts, tels, ht⟩ <;> rw [ht] at htyp ⊢ <;> clear ht
  all_goals
    conv => whnf
    repeat' (first | ((first | refine Sem.reg tt_ok ?_ | refine Sem.condS ?_ | refine Sem.regL tt_ok ?_ | refine Sem.skip tt_ok ?_ | refine Sem.exit tt_ok ?_ | refine Sem.ret tt_ok ?_ | refine BS_t (by assumption) ?_ | refine BS_f (by assumption) ?_ | refine atG (by repeat (first | assumption | exact setG_same _ _ _ | refine Eq.trans (setG_ne _ _ (by first | assumption | exact Ne.symm (by assumption))) ?_)) ?_ | refine (nthK_iff _ _).2 ⟨_, (by assumption), ?_⟩ | refine ⟨_, ⟨(by omega), (by assumption)⟩, ?_⟩ | refine And.intro (by first | decide | omega) ?_ | fail); conv => whnf) | refine Sem.seqS ?_ | refine Sem.block ?_ | fail)
    refine DrawOk.to ⟨(.gptr qb 0 :: .lptr 0 0 :: .lptr 1 0 :: .gptr pb 0 :: .int .i64 (numV L p : Nat) :: .gptr pb 0 :: .str (S (nameV L p1)) :: .agg [.int .i64 (numV L p : Nat), .str (S (nameV L p1)), .int .i64 0, .str ⟨#[]⟩, .nils] :: .top :: .top :: .top :: .top :: .top :: .top :: .top :: .top :: .top :: .top :: .top :: []), [.live (some db) [.int .i64 k, .str nm, .own 0 83 els, .nils, .int .i64 a], .live none [.int .i64 (numV L p : Nat), .str (S (nameV L p1)), .int .i64 0, .str ⟨#[]⟩, .nils]], 2, 1, setG R pb (pB L p2)⟩ ?_ ?_
    · refine draw_all tt_ok (by kernel_rfl) 7 rfl ?_
      conv => whnf
      repeat' (first | exact rfl | (refine hnum.on ?_; conv => whnf) | (refine hname.on ?_; conv => whnf) | (refine atG (by repeat (first | assumption | exact setG_same _ _ _ | refine Eq.trans (setG_ne _ _ (by first | assumption | exact Ne.symm (by assumption))) ?_)) ?_; conv => whnf) | (refine And.intro ?_ ?_ <;> conv => whnf) | fail)
    conv => whnf
    repeat' (first | ((first | refine Sem.reg tt_ok ?_ | refine Sem.condS ?_ | refine Sem.regL tt_ok ?_ | refine Sem.skip tt_ok ?_ | refine Sem.exit tt_ok ?_ | refine Sem.ret tt_ok ?_ | refine BS_t (by assumption) ?_ | refine BS_f (by assumption) ?_ | refine atG (by repeat (first | assumption | exact setG_same _ _ _ | refine Eq.trans (setG_ne _ _ (by first | assumption | exact Ne.symm (by assumption))) ?_)) ?_ | refine (nthK_iff _ _).2 ⟨_, (by assumption), ?_⟩ | refine ⟨_, ⟨(by omega), (by assumption)⟩, ?_⟩ | refine And.intro (by first | decide | omega) ?_ | fail); conv => whnf) | refine Sem.seqS ?_ | refine Sem.block ?_ | fail)
    refine hneed.on ?_; conv => whnf
    repeat' (first | ((first | refine Sem.reg tt_ok ?_ | refine Sem.condS ?_ | refine Sem.regL tt_ok ?_ | refine Sem.skip tt_ok ?_ | refine Sem.exit tt_ok ?_ | refine Sem.ret tt_ok ?_ | refine BS_t (by assumption) ?_ | refine BS_f (by assumption) ?_ | refine atG (by repeat (first | assumption | exact setG_same _ _ _ | refine Eq.trans (setG_ne _ _ (by first | assumption | exact Ne.symm (by assumption))) ?_)) ?_ | refine (nthK_iff _ _).2 ⟨_, (by assumption), ?_⟩ | refine ⟨_, ⟨(by omega), (by assumption)⟩, ?_⟩ | refine And.intro (by first | decide | omega) ?_ | fail); conv => whnf) | refine Sem.seqS ?_ | refine Sem.block ?_ | fail)
    refine htyp.on ?_; conv => whnf
    repeat' (first | ((first | refine Sem.reg tt_ok ?_ | refine Sem.condS ?_ | refine Sem.regL tt_ok ?_ | refine Sem.skip tt_ok ?_ | refine Sem.exit tt_ok ?_ | refine Sem.ret tt_ok ?_ | refine BS_t (by assumption) ?_ | refine BS_f (by assumption) ?_ | refine atG (by repeat (first | assumption | exact setG_same _ _ _ | refine Eq.trans (setG_ne _ _ (by first | assumption | exact Ne.symm (by assumption))) ?_)) ?_ | refine (nthK_iff _ _).2 ⟨_, (by assumption), ?_⟩ | refine ⟨_, ⟨(by omega), (by assumption)⟩, ?_⟩ | refine And.intro (by first | decide | omega) ?_ | fail); conv => whnf) | refine Sem.seqS ?_ | refine Sem.block ?_ | fail)
    refine And.intro (And.intro (by show els.length + 1 ≤ maxLen; simp [maxLen]; omega) (by show (els.length + 1) * 72 ≤ _; omega)) ?_
    conv => whnf
    refine ⟨_, weak_yield 2 (t := 0) (e := 83) rfl rfl, ?_⟩
    conv => whnf
    exact ⟨_, fin _ _, rfl, rfl⟩
theorem value_ok {L : List Tok} (hL : TL L) {p : PS} {pb qb db : Nat} {G : Glob} (hG : G pb = some (pB L p)) (hq : G qb = some (.cells [.gptr pb 0])) {k a : Int} {nm : ByteArray} {els : List (List AV)} (hd : G db = some (dF k nm a els)) (hp : p.at_ < L.length) (hM : MaxOk G) (hn : els.length ≤ 1000) :
    CallOk Tryd.prog TT 91 [.gptr db 0, .gptr qb 0] G (fun v G' => v = .tup [] ∧ G' = setG (setG G pb (pB L (valueP L p).2)) db (dF k nm a (els ++ [(valueP L p).1.av]))) := by
  have hqp : qb ≠ pb := fun e => by rw [e, hG] at hq; simp [pB] at hq
  have hqd : qb ≠ db := fun e => by rw [e, hd] at hq; simp [dF] at hq
  have hpd : pb ≠ db := fun e => by rw [e, hd] at hG; simp [dF, pB] at hG
  have hM' := hM.rm hd (fun k o h => by cases h)
  have hR := rm_pB hG hpd
  have hq' : rmG G db qb = some (.cells [.gptr pb 0]) := by rw [rmG_ne _ hqd]; exact hq
  have fin : ∀ x y, ∀ i z, setG (setG G pb x) db y i = some z → setG (setG (rmG G db) pb x) db y i = some z := fun x y => setG_rm hpd
  rw [dF_at] at hd
  refine call_semW tt_ok Tryd.func91 rfl (by kernel_rfl) Tryd.ntmps91 Tryd.results91 ?_
  conv => whnf
  refine Sem.weak (weak_adopt db 2 _ hd) ?_
  have e1 : decide (qb = db) = false := by simpa using hqd
  simp only [List.map_cons, List.map_nil, asOwn, e1, decide_true, List.set_cons_succ, List.set_cons_zero]
  generalize rmG G db = R at *
  have hnum := pnum_ok hL hR hp
  have hp1 := num_at hL hp
  have hG1 := setG_pB hR hM' (numP L p)
  have hname := pname_ok hL hG1.1 hp1 hG1.2
  rw [setG_twice] at hname
  unfold valueP Fd.av Ty.av
  simp only
  generalize numP L p = p1 at *
  generalize nameP L p1 = p2 at *
  conv => whnf
  repeat' (first | ((first | refine Sem.reg tt_ok ?_ | refine Sem.condS ?_ | refine Sem.regL tt_ok ?_ | refine Sem.skip tt_ok ?_ | refine Sem.exit tt_ok ?_ | refine Sem.ret tt_ok ?_ | refine BS_t (by assumption) ?_ | refine BS_f (by assumption) ?_ | refine atG (by repeat (first | assumption | exact setG_same _ _ _ | refine Eq.trans (setG_ne _ _ (by first | assumption | exact Ne.symm (by assumption))) ?_)) ?_ | refine (nthK_iff _ _).2 ⟨_, (by assumption), ?_⟩ | refine ⟨_, ⟨(by omega), (by assumption)⟩, ?_⟩ | refine And.intro (by first | decide | omega) ?_ | fail); conv => whnf) | refine Sem.seqS ?_ | refine Sem.block ?_ | fail)
  refine DrawOk.to ⟨(.lptr 0 0 :: .gptr qb 0 :: .lptr 0 2 :: .slc 83 els :: .gptr pb 0 :: .int .i64 (numV L p : Nat) :: .gptr pb 0 :: .str (S (nameV L p1)) :: .agg [.int .i64 (numV L p : Nat), .str (S (nameV L p1)), .int .i64 0, .str ⟨#[]⟩, .nils] :: .own 1 83 [[.int .i64 (numV L p : Nat), .str (S (nameV L p1)), .int .i64 0, .str ⟨#[]⟩, .nils]] :: .own 0 83 (els ++ [[.int .i64 (numV L p : Nat), .str (S (nameV L p1)), .int .i64 0, .str ⟨#[]⟩, .nils]]) :: .lptr 0 2 :: []), [.live (some db) [.int .i64 k, .str nm, .own 0 83 (els ++ [[.int .i64 (numV L p : Nat), .str (S (nameV L p1)), .int .i64 0, .str ⟨#[]⟩, .nils]]), .nils, .int .i64 a]], 1, 2, setG R pb (pB L p2)⟩ ?_ ?_
  · refine draw_all tt_ok (by kernel_rfl) 11 rfl ?_
    conv => whnf
    repeat' (first | exact rfl | (refine hnum.on ?_; conv => whnf) | (refine hname.on ?_; conv => whnf) | (refine atG (by repeat (first | assumption | exact setG_same _ _ _ | refine Eq.trans (setG_ne _ _ (by first | assumption | exact Ne.symm (by assumption))) ?_)) ?_; conv => whnf) | (refine And.intro (And.intro (by show els.length + 1 ≤ maxLen; simp [maxLen]; omega) (by show (els.length + 1) * 72 ≤ _; omega)) ?_; conv => whnf) | (refine And.intro ?_ ?_ <;> conv => whnf) | fail)
  conv => whnf
  refine ⟨_, weak_yield 2 (t := 0) (e := 83) rfl rfl, ?_⟩
  conv => whnf
  exact ⟨_, fin _ _, rfl, rfl⟩
theorem pmethod_ok {L : List Tok} (hL : TL L) {p : PS} {pb : Nat} {G : Glob} (hG : G pb = some (pB L p)) (hp : p.at_ < L.length) (hM : MaxOk G) :
    CallOk Tryd.prog TT 93 [.gptr pb 0] G (fun v G' => v = .agg (methodP L p).1.av ∧ G' = setG G pb (pB L (methodP L p).2)) := by
  have hmay := may_ok hL hG hp [111, 110, 101, 119, 97, 121] rfl
  have hp1 := may_at hL hp [111, 110, 101, 119, 97, 121]
  have hG1 := setG_pB hG hM (mayP L p [111, 110, 101, 119, 97, 121])
  unfold methodP Md.av
  simp only
  generalize mayP L p [111, 110, 101, 119, 97, 121] = p1 at *
  have hnum := pnum_ok hL hG1.1 hp1
  rw [setG_twice] at hnum
  have hp2 := num_at hL hp1
  have hG2 := setG_pB hG hM (numP L p1)
  generalize numP L p1 = p2 at *
  have hname := pname_ok hL hG2.1 hp2 hG2.2
  rw [setG_twice] at hname
  have hp3 := name_at hL hp2
  have hG3 := setG_pB hG hM (nameP L p2)
  generalize nameP L p2 = p3 at *
  have hneed := need_ok hL hG3.1 hp3 [40]
  rw [setG_twice] at hneed
  have hp4 := need_at hL hp3 [40]
  have hG4 := setG_pB hG hM (needP L p3 [40])
  generalize needP L p3 [40] = p4 at *
  have hname2 := pname_ok hL hG4.1 hp4 hG4.2
  rw [setG_twice] at hname2
  have hp5 := name_at hL hp4
  have hG5 := setG_pB hG hM (nameP L p4)
  generalize nameP L p4 = p5 at *
  have hneed2 := need_ok hL hG5.1 hp5 [41]
  rw [setG_twice] at hneed2
  have hp6 := need_at hL hp5 [41]
  have hG6 := setG_pB hG hM (needP L p5 [41])
  generalize needP L p5 [41] = p6 at *
  have hneed3 := need_ok hL hG6.1 hp6 [58]
  rw [setG_twice] at hneed3
  have hp7 := need_at hL hp6 [58]
  have hG7 := setG_pB hG hM (needP L p6 [58])
  generalize needP L p6 [58] = p7 at *
  have hname3 := pname_ok hL hG7.1 hp7 hG7.2
  rw [setG_twice] at hname3
  generalize nameP L p7 = p8 at *
  refine call_sem tt_ok Tryd.func93 rfl (by kernel_rfl) Tryd.ntmps93 Tryd.results93 ?_; conv => whnf
  repeat' (first | ((first | refine Sem.reg tt_ok ?_ | refine Sem.condS ?_ | refine Sem.regL tt_ok ?_ | refine Sem.skip tt_ok ?_ | refine Sem.exit tt_ok ?_ | refine Sem.ret tt_ok ?_ | refine BS_t (by assumption) ?_ | refine BS_f (by assumption) ?_ | refine atG (by repeat (first | assumption | exact setG_same _ _ _ | refine Eq.trans (setG_ne _ _ (by first | assumption | exact Ne.symm (by assumption))) ?_)) ?_ | refine (nthK_iff _ _).2 ⟨_, (by assumption), ?_⟩ | refine ⟨_, ⟨(by omega), (by assumption)⟩, ?_⟩ | refine And.intro (by first | decide | omega) ?_ | fail); conv => whnf) | refine Sem.seqS ?_ | refine Sem.block ?_ | fail)
  refine hmay.on ?_; conv => whnf
  repeat' (first | ((first | refine Sem.reg tt_ok ?_ | refine Sem.condS ?_ | refine Sem.regL tt_ok ?_ | refine Sem.skip tt_ok ?_ | refine Sem.exit tt_ok ?_ | refine Sem.ret tt_ok ?_ | refine BS_t (by assumption) ?_ | refine BS_f (by assumption) ?_ | refine atG (by repeat (first | assumption | exact setG_same _ _ _ | refine Eq.trans (setG_ne _ _ (by first | assumption | exact Ne.symm (by assumption))) ?_)) ?_ | refine (nthK_iff _ _).2 ⟨_, (by assumption), ?_⟩ | refine ⟨_, ⟨(by omega), (by assumption)⟩, ?_⟩ | refine And.intro (by first | decide | omega) ?_ | fail); conv => whnf) | refine Sem.seqS ?_ | refine Sem.block ?_ | fail)
  refine hnum.on ?_; conv => whnf
  repeat' (first | ((first | refine Sem.reg tt_ok ?_ | refine Sem.condS ?_ | refine Sem.regL tt_ok ?_ | refine Sem.skip tt_ok ?_ | refine Sem.exit tt_ok ?_ | refine Sem.ret tt_ok ?_ | refine BS_t (by assumption) ?_ | refine BS_f (by assumption) ?_ | refine atG (by repeat (first | assumption | exact setG_same _ _ _ | refine Eq.trans (setG_ne _ _ (by first | assumption | exact Ne.symm (by assumption))) ?_)) ?_ | refine (nthK_iff _ _).2 ⟨_, (by assumption), ?_⟩ | refine ⟨_, ⟨(by omega), (by assumption)⟩, ?_⟩ | refine And.intro (by first | decide | omega) ?_ | fail); conv => whnf) | refine Sem.seqS ?_ | refine Sem.block ?_ | fail)
  refine hname.on ?_; conv => whnf
  repeat' (first | ((first | refine Sem.reg tt_ok ?_ | refine Sem.condS ?_ | refine Sem.regL tt_ok ?_ | refine Sem.skip tt_ok ?_ | refine Sem.exit tt_ok ?_ | refine Sem.ret tt_ok ?_ | refine BS_t (by assumption) ?_ | refine BS_f (by assumption) ?_ | refine atG (by repeat (first | assumption | exact setG_same _ _ _ | refine Eq.trans (setG_ne _ _ (by first | assumption | exact Ne.symm (by assumption))) ?_)) ?_ | refine (nthK_iff _ _).2 ⟨_, (by assumption), ?_⟩ | refine ⟨_, ⟨(by omega), (by assumption)⟩, ?_⟩ | refine And.intro (by first | decide | omega) ?_ | fail); conv => whnf) | refine Sem.seqS ?_ | refine Sem.block ?_ | fail)
  refine hneed.on ?_; conv => whnf
  repeat' (first | ((first | refine Sem.reg tt_ok ?_ | refine Sem.condS ?_ | refine Sem.regL tt_ok ?_ | refine Sem.skip tt_ok ?_ | refine Sem.exit tt_ok ?_ | refine Sem.ret tt_ok ?_ | refine BS_t (by assumption) ?_ | refine BS_f (by assumption) ?_ | refine atG (by repeat (first | assumption | exact setG_same _ _ _ | refine Eq.trans (setG_ne _ _ (by first | assumption | exact Ne.symm (by assumption))) ?_)) ?_ | refine (nthK_iff _ _).2 ⟨_, (by assumption), ?_⟩ | refine ⟨_, ⟨(by omega), (by assumption)⟩, ?_⟩ | refine And.intro (by first | decide | omega) ?_ | fail); conv => whnf) | refine Sem.seqS ?_ | refine Sem.block ?_ | fail)
  refine hname2.on ?_; conv => whnf
  repeat' (first | ((first | refine Sem.reg tt_ok ?_ | refine Sem.condS ?_ | refine Sem.regL tt_ok ?_ | refine Sem.skip tt_ok ?_ | refine Sem.exit tt_ok ?_ | refine Sem.ret tt_ok ?_ | refine BS_t (by assumption) ?_ | refine BS_f (by assumption) ?_ | refine atG (by repeat (first | assumption | exact setG_same _ _ _ | refine Eq.trans (setG_ne _ _ (by first | assumption | exact Ne.symm (by assumption))) ?_)) ?_ | refine (nthK_iff _ _).2 ⟨_, (by assumption), ?_⟩ | refine ⟨_, ⟨(by omega), (by assumption)⟩, ?_⟩ | refine And.intro (by first | decide | omega) ?_ | fail); conv => whnf) | refine Sem.seqS ?_ | refine Sem.block ?_ | fail)
  refine hneed2.on ?_; conv => whnf
  repeat' (first | ((first | refine Sem.reg tt_ok ?_ | refine Sem.condS ?_ | refine Sem.regL tt_ok ?_ | refine Sem.skip tt_ok ?_ | refine Sem.exit tt_ok ?_ | refine Sem.ret tt_ok ?_ | refine BS_t (by assumption) ?_ | refine BS_f (by assumption) ?_ | refine atG (by repeat (first | assumption | exact setG_same _ _ _ | refine Eq.trans (setG_ne _ _ (by first | assumption | exact Ne.symm (by assumption))) ?_)) ?_ | refine (nthK_iff _ _).2 ⟨_, (by assumption), ?_⟩ | refine ⟨_, ⟨(by omega), (by assumption)⟩, ?_⟩ | refine And.intro (by first | decide | omega) ?_ | fail); conv => whnf) | refine Sem.seqS ?_ | refine Sem.block ?_ | fail)
  refine hneed3.on ?_; conv => whnf
  repeat' (first | ((first | refine Sem.reg tt_ok ?_ | refine Sem.condS ?_ | refine Sem.regL tt_ok ?_ | refine Sem.skip tt_ok ?_ | refine Sem.exit tt_ok ?_ | refine Sem.ret tt_ok ?_ | refine BS_t (by assumption) ?_ | refine BS_f (by assumption) ?_ | refine atG (by repeat (first | assumption | exact setG_same _ _ _ | refine Eq.trans (setG_ne _ _ (by first | assumption | exact Ne.symm (by assumption))) ?_)) ?_ | refine (nthK_iff _ _).2 ⟨_, (by assumption), ?_⟩ | refine ⟨_, ⟨(by omega), (by assumption)⟩, ?_⟩ | refine And.intro (by first | decide | omega) ?_ | fail); conv => whnf) | refine Sem.seqS ?_ | refine Sem.block ?_ | fail)
  refine hname3.on ?_; conv => whnf
  repeat' (first | ((first | refine Sem.reg tt_ok ?_ | refine Sem.condS ?_ | refine Sem.regL tt_ok ?_ | refine Sem.skip tt_ok ?_ | refine Sem.exit tt_ok ?_ | refine Sem.ret tt_ok ?_ | refine BS_t (by assumption) ?_ | refine BS_f (by assumption) ?_ | refine atG (by repeat (first | assumption | exact setG_same _ _ _ | refine Eq.trans (setG_ne _ _ (by first | assumption | exact Ne.symm (by assumption))) ?_)) ?_ | refine (nthK_iff _ _).2 ⟨_, (by assumption), ?_⟩ | refine ⟨_, ⟨(by omega), (by assumption)⟩, ?_⟩ | refine And.intro (by first | decide | omega) ?_ | fail); conv => whnf) | refine Sem.seqS ?_ | refine Sem.block ?_ | fail)
  exact ⟨_, fun _ _ h => h, rfl, rfl⟩
theorem mrow_ok {L : List Tok} (hL : TL L) {p : PS} {pb qb db : Nat} {G : Glob} (hG : G pb = some (pB L p)) (hq : G qb = some (.cells [.gptr pb 0])) {k a : Int} {nm : ByteArray} {els : List (List AV)} (hd : G db = some (dM k nm a els)) (hp : p.at_ < L.length) (hM : MaxOk G) (hn : els.length ≤ 1000) :
    CallOk Tryd.prog TT 92 [.gptr db 0, .gptr qb 0] G (fun v G' => v = .tup [] ∧ G' = setG (setG G pb (pB L (methodP L p).2)) db (dM k nm a (els ++ [(methodP L p).1.av]))) := by
  have hqp : qb ≠ pb := fun e => by rw [e, hG] at hq; simp [pB] at hq
  have hqd : qb ≠ db := fun e => by rw [e, hd] at hq; simp [dM] at hq
  have hpd : pb ≠ db := fun e => by rw [e, hd] at hG; simp [dM, pB] at hG
  have hM' := hM.rm hd (fun k o h => by cases h)
  have hR := rm_pB hG hpd
  have hq' : rmG G db qb = some (.cells [.gptr pb 0]) := by rw [rmG_ne _ hqd]; exact hq
  have fin : ∀ x y, ∀ i z, setG (setG G pb x) db y i = some z → setG (setG (rmG G db) pb x) db y i = some z := fun x y => setG_rm hpd
  rw [dM_at] at hd
  refine call_semW tt_ok Tryd.func92 rfl (by kernel_rfl) Tryd.ntmps92 Tryd.results92 ?_
  conv => whnf
  refine Sem.weak (weak_adopt db 3 _ hd) ?_
  have e1 : decide (qb = db) = false := by simpa using hqd
  simp only [List.map_cons, List.map_nil, asOwn, e1, decide_true, List.set_cons_succ, List.set_cons_zero]
  generalize rmG G db = R at *
  have hmeth := pmethod_ok hL hR hp hM'
  generalize methodP L p = r at *
  unfold Md.av at *
  conv => whnf
  repeat' (first | ((first | refine Sem.reg tt_ok ?_ | refine Sem.condS ?_ | refine Sem.regL tt_ok ?_ | refine Sem.skip tt_ok ?_ | refine Sem.exit tt_ok ?_ | refine Sem.ret tt_ok ?_ | refine BS_t (by assumption) ?_ | refine BS_f (by assumption) ?_ | refine atG (by repeat (first | assumption | exact setG_same _ _ _ | refine Eq.trans (setG_ne _ _ (by first | assumption | exact Ne.symm (by assumption))) ?_)) ?_ | refine (nthK_iff _ _).2 ⟨_, (by assumption), ?_⟩ | refine ⟨_, ⟨(by omega), (by assumption)⟩, ?_⟩ | refine And.intro (by first | decide | omega) ?_ | fail); conv => whnf) | refine Sem.seqS ?_ | refine Sem.block ?_ | fail)
  refine DrawOk.to ⟨(.lptr 0 0 :: .gptr qb 0 :: .lptr 0 3 :: .slc 123 els :: .gptr pb 0 :: .agg r.1.av :: .own 1 123 [r.1.av] :: .own 0 123 (els ++ [r.1.av]) :: .lptr 0 3 :: []), [.live (some db) [.int .i64 k, .str nm, .nils, .own 0 123 (els ++ [r.1.av]), .int .i64 a]], 1, 2, setG R pb (pB L r.2)⟩ ?_ ?_
  · refine draw_all tt_ok (by kernel_rfl) 8 rfl ?_
    conv => whnf
    repeat' (first | exact rfl | (refine hmeth.on ?_; conv => whnf) | (refine atG (by repeat (first | assumption | exact setG_same _ _ _ | refine Eq.trans (setG_ne _ _ (by first | assumption | exact Ne.symm (by assumption))) ?_)) ?_; conv => whnf) | (refine And.intro (And.intro (by show els.length + 1 ≤ maxLen; simp [maxLen]; omega) (by show (els.length + 1) * 64 ≤ _; omega)) ?_; conv => whnf) | (refine And.intro ?_ ?_ <;> conv => whnf) | fail)
  conv => whnf
  refine ⟨_, weak_yield 3 (t := 0) (e := 123) rfl rfl, ?_⟩
  conv => whnf
  exact ⟨_, fin _ _, rfl, rfl⟩
end Go.Proofs.YtofhakbmmgpgdaaDoor
end

section
/- The parser in the abstract run: rows in braces. -/
set_option maxRecDepth 100000
set_option linter.unusedSimpArgs false
namespace Go.Proofs.YtofhakbmmgpgdaaDoor
open Go Go.RowKit Go.Proofs Go.Shelf

theorem setG_comm (G : Glob) {a b : Nat} (h : a ≠ b) (x y z : GB) : setG (setG (setG G a x) b y) a z = setG (setG G a z) b y := by
  funext i
  by_cases h1 : i = b
  · subst h1; rw [setG_ne _ _ (Ne.symm h), setG_same, setG_same]
  · by_cases h2 : i = a
    · subst h2; rw [setG_same, setG_ne _ _ h1, setG_same]
    · rw [setG_ne _ _ h2, setG_ne _ _ h1, setG_ne _ _ h2, setG_ne _ _ h1, setG_ne _ _ h2]
theorem setG_two (G : Glob) {a b : Nat} (h : a ≠ b) (x y z u : GB) : setG (setG (setG (setG G a x) b y) a z) b u = setG (setG G a z) b u := by
  rw [setG_comm G h, setG_twice]
/-- the parser's box and the declaration's -/
structure PD (L : List Tok) (pb qb db : Nat) (D : List (List AV) → GB) (G : Glob) (p : PS) (els : List (List AV)) : Prop where
  gp : G pb = some (pB L p)
  gq : G qb = some (.cells [.gptr pb 0])
  gd : G db = some (D els)
  mx : MaxOk G
theorem PD.set {L : List Tok} {pb qb db : Nat} {D : List (List AV) → GB} {G : Glob} {p : PS} {els : List (List AV)} (h : PD L pb qb db D G p els) (hD : ∀ l k o, D l ≠ .pin k o) (hpd : pb ≠ db) (hqp : qb ≠ pb) (hqd : qb ≠ db) (q : PS) (l : List (List AV)) : PD L pb qb db D (setG (setG G pb (pB L q)) db (D l)) q l :=
  ⟨by rw [setG_ne _ _ hpd, setG_same], by rw [setG_ne _ _ hqd, setG_ne _ _ hqp]; exact h.gq, setG_same _ _ _, (h.mx.set h.gp (pB_np L p) _).set (by rw [setG_ne _ _ (Ne.symm hpd)]; exact h.gd) (hD els) _⟩
/-- what a row does -/
structure RowsOk (L : List Tok) (pb qb db u v : Nat) (F : FuncId) {α : Type} (row : PS → α × PS) (av : α → List AV) (D : List (List AV) → GB) : Prop where
  ok : ∀ (p : PS) (els : List (List AV)) (G : Glob), PD L pb qb db D G p els → p.at_ < L.length → els.length ≤ 1000 → CallOk Tryd.prog TT F [.gptr u 0, .gptr v 0] G (fun r G' => r = .tup [] ∧ G' = setG (setG G pb (pB L (row p).2)) db (D (els ++ [av (row p).1])))
  at_ : ∀ p, p.at_ < L.length → (row p).2.at_ < L.length
  end_ : ∀ p, p.at_ < L.length → (cur L p).kind = 4 → (row p).2.err ≠ 0
  np : ∀ l k o, D l ≠ .pin k o
structure RwI {α : Type} (L : List Tok) (row : PS → α × PS) (p0 : PS) where
  q : PS
  els : List α
  f : Nat
  n : Nat
  hf : n + f = 18
  hn : n ≤ 17
  he : n = 17 → q.err ≠ 0
  hq : q.at_ < L.length
  hl : els.length ≤ n
  h : rowsP L row 18 0 p0 = (els ++ (rowsP L row f n q).1, (rowsP L row f n q).2)
theorem rows_ok {L : List Tok} (hL : TL L) {pb qb db u v : Nat} {F : FuncId} {α : Type} {row : PS → α × PS} {av : α → List AV} {D : List (List AV) → GB} (hr : RowsOk L pb qb db u v F row av D) (hpd : pb ≠ db) (hqp : qb ≠ pb) (hqd : qb ≠ db) {p : PS} {G : Glob} (hG : PD L pb qb db D G p []) (hp : p.at_ < L.length) :
    CallOk Tryd.prog TT 94 [.gptr pb 0, .fn (.func F) [] [.gptr u 0, .gptr v 0]] G (fun r G' => r = .tup [] ∧ G' = setG (setG G pb (pB L (rowsP L row 18 0 (needP L p [123])).2)) db (D ((rowsP L row 18 0 (needP L p [123])).1.map av))) := by
  have hneed := need_ok hL hG.gp hp [123]
  have hp0 := need_at hL hp [123]
  generalize needP L p [123] = p0 at *
  have e0 : setG G pb (pB L p0) = setG (setG G pb (pB L p0)) db (D []) := by
    rw [setG_back (show setG G pb (pB L p0) db = some (D []) by rw [setG_ne _ _ (Ne.symm hpd)]; exact hG.gd)]
  rw [e0] at hneed
  refine call_sem tt_ok Tryd.func94 rfl (by kernel_rfl) Tryd.ntmps94 Tryd.results94 ?_; conv => whnf
  repeat' (first | ((first | refine Sem.reg tt_ok ?_ | refine Sem.condS ?_ | refine Sem.regL tt_ok ?_ | refine Sem.skip tt_ok ?_ | refine Sem.exit tt_ok ?_ | refine Sem.ret tt_ok ?_ | refine BS_t (by assumption) ?_ | refine BS_f (by assumption) ?_ | refine atG (by first | assumption | exact setG_same _ _ _) ?_ | refine (nthK_iff _ _).2 ⟨_, (by assumption), ?_⟩ | refine ⟨_, ⟨(by omega), (by assumption)⟩, ?_⟩ | refine And.intro (by first | decide | omega) ?_ | fail); conv => whnf) | refine Sem.seqS ?_ | refine Sem.block ?_ | fail)
  refine hneed.on ?_; conv => whnf
  repeat' (first | ((first | refine Sem.reg tt_ok ?_ | refine Sem.condS ?_ | refine Sem.regL tt_ok ?_ | refine Sem.skip tt_ok ?_ | refine Sem.exit tt_ok ?_ | refine Sem.ret tt_ok ?_ | refine BS_t (by assumption) ?_ | refine BS_f (by assumption) ?_ | refine atG (by first | assumption | exact setG_same _ _ _) ?_ | refine (nthK_iff _ _).2 ⟨_, (by assumption), ?_⟩ | refine ⟨_, ⟨(by omega), (by assumption)⟩, ?_⟩ | refine And.intro (by first | decide | omega) ?_ | fail); conv => whnf) | refine Sem.seqS ?_ | refine Sem.block ?_ | fail)
  refine Sem.loop (ι := RwI L row p0) (fun x => ⟨(.gptr pb 0 :: .fn (.func F) [] [.gptr u 0, .gptr v 0] :: .top :: .top :: .int .i64 (x.n : Nat) :: .top :: .top :: .top :: .top :: .top :: .top :: .top :: .top :: .top :: .top :: .top :: .top :: .top :: .top :: .top :: .top :: .top :: .top :: .top :: .top :: .top :: .top :: .top :: .top :: .top :: .top :: .top :: []), [], 0, 0, setG (setG G pb (pB L x.q)) db (D (x.els.map av))⟩) (fun x => x.f) ⟨p0, [], 18, 0, rfl, by omega, by omega, hp0, Nat.zero_le _, by simp⟩ ?_ (fun x => ?_)
  · refine weak_by [] ?_; (conv => whnf); repeat (first | (refine And.intro rfl ?_; conv => whnf) | fail)
    exact ⟨fun i y hy => hy, rfl, Nat.le_refl _, rfl, rfl⟩
  obtain ⟨q, els, f, n, hf, hn, he, hq, hl, h⟩ := x
  simp only
  have st := hG.set hr.np hpd hqp hqd q (els.map av)
  have hwell := fun b hb => well_ok st.gp (b := b) hb
  obtain ⟨f, rfl⟩ : ∃ k, f = k + 1 := ⟨f - 1, by omega⟩
  by_cases h0' : ¬ (q.err = 0)
  · have h0 := h0'
    have hw := hwell false (by simp [h0])
    have e : rowsP L row (f + 1) n q = ([], q) := by rw [rowsP, if_pos h0]
    rw [e] at h
    simp only [List.append_nil] at h
    repeat' (first | ((first | refine Sem.reg tt_ok ?_ | refine Sem.condS ?_ | refine Sem.regL tt_ok ?_ | refine Sem.skip tt_ok ?_ | refine Sem.exit tt_ok ?_ | refine Sem.ret tt_ok ?_ | refine BS_t (by assumption) ?_ | refine BS_f (by assumption) ?_ | refine atG (by first | assumption | exact setG_same _ _ _) ?_ | refine (nthK_iff _ _).2 ⟨_, (by assumption), ?_⟩ | refine ⟨_, ⟨(by omega), (by assumption)⟩, ?_⟩ | refine And.intro (by first | decide | omega) ?_ | fail); conv => whnf) | refine Sem.seqS ?_ | refine Sem.block ?_ | fail)
    refine hw.on ?_; conv => whnf
    repeat' (first | ((first | refine Sem.reg tt_ok ?_ | refine Sem.condS ?_ | refine Sem.regL tt_ok ?_ | refine Sem.skip tt_ok ?_ | refine Sem.exit tt_ok ?_ | refine Sem.ret tt_ok ?_ | refine BS_t (by assumption) ?_ | refine BS_f (by assumption) ?_ | refine atG (by first | assumption | exact setG_same _ _ _) ?_ | refine (nthK_iff _ _).2 ⟨_, (by assumption), ?_⟩ | refine ⟨_, ⟨(by omega), (by assumption)⟩, ?_⟩ | refine And.intro (by first | decide | omega) ?_ | fail); conv => whnf) | refine Sem.seqS ?_ | refine Sem.block ?_ | fail)
    exact ⟨_, fun _ _ h => h, rfl, by rw [h]⟩
  have h0 := Classical.not_not.1 h0'
  have hw := hwell true (by simp [h0])
  have hn16 : n ≤ 16 := by
    rcases Nat.lt_or_ge n 17 with h | h
    · omega
    · exact absurd h0 (he (by omega))
  cases hm : mayB L q [125] with
  | true =>
    have hmay := may_ok hL st.gp hq [125] hm
    rw [mayP_t hm, setG_comm G hpd] at hmay
    have e : rowsP L row (f + 1) n q = ([], { q with at_ := q.at_ + 1 }) := by rw [rowsP, if_neg (by simp [h0]), if_pos hm]
    rw [e] at h
    simp only [List.append_nil] at h
    repeat' (first | ((first | refine Sem.reg tt_ok ?_ | refine Sem.condS ?_ | refine Sem.regL tt_ok ?_ | refine Sem.skip tt_ok ?_ | refine Sem.exit tt_ok ?_ | refine Sem.ret tt_ok ?_ | refine BS_t (by assumption) ?_ | refine BS_f (by assumption) ?_ | refine atG (by first | assumption | exact setG_same _ _ _) ?_ | refine (nthK_iff _ _).2 ⟨_, (by assumption), ?_⟩ | refine ⟨_, ⟨(by omega), (by assumption)⟩, ?_⟩ | refine And.intro (by first | decide | omega) ?_ | fail); conv => whnf) | refine Sem.seqS ?_ | refine Sem.block ?_ | fail)
    refine hw.on ?_; conv => whnf
    repeat' (first | ((first | refine Sem.reg tt_ok ?_ | refine Sem.condS ?_ | refine Sem.regL tt_ok ?_ | refine Sem.skip tt_ok ?_ | refine Sem.exit tt_ok ?_ | refine Sem.ret tt_ok ?_ | refine BS_t (by assumption) ?_ | refine BS_f (by assumption) ?_ | refine atG (by first | assumption | exact setG_same _ _ _) ?_ | refine (nthK_iff _ _).2 ⟨_, (by assumption), ?_⟩ | refine ⟨_, ⟨(by omega), (by assumption)⟩, ?_⟩ | refine And.intro (by first | decide | omega) ?_ | fail); conv => whnf) | refine Sem.seqS ?_ | refine Sem.block ?_ | fail)
    refine hmay.on ?_; conv => whnf
    repeat' (first | ((first | refine Sem.reg tt_ok ?_ | refine Sem.condS ?_ | refine Sem.regL tt_ok ?_ | refine Sem.skip tt_ok ?_ | refine Sem.exit tt_ok ?_ | refine Sem.ret tt_ok ?_ | refine BS_t (by assumption) ?_ | refine BS_f (by assumption) ?_ | refine atG (by first | assumption | exact setG_same _ _ _) ?_ | refine (nthK_iff _ _).2 ⟨_, (by assumption), ?_⟩ | refine ⟨_, ⟨(by omega), (by assumption)⟩, ?_⟩ | refine And.intro (by first | decide | omega) ?_ | fail); conv => whnf) | refine Sem.seqS ?_ | refine Sem.block ?_ | fail)
    exact ⟨_, fun _ _ h => h, rfl, by rw [h]⟩
  | false =>
    have hmay := may_ok hL st.gp hq [125] hm
    rw [mayP_f hm, setG_back st.gp] at hmay
    have hnow := now_ok st.gp hq
    unfold Tok.av tokC at hnow
    have hnx : IntKind.i64.wrap ((n : Int) + 1) = ((n + 1 : Nat) : Int) := by rw [IntWalk.i64_in _ (by omega)]; omega
    have hwn : ∀ (a : Bool) (b : Bool), True := fun _ _ => trivial
    by_cases hfull : n = 16 ∧ (cur L q).kind ≠ 4
    · obtain ⟨hn1, hk⟩ := hfull
      subst hn1
      have t1 : ((((16 : Nat) : Int)) == 16) = true := rfl
      have t2 : (((((cur L q).kind : Nat) : Int)) != 4) = true := by simp; omega
      have hfail := fail_ok st.gp hq 3
      rw [setG_comm G hpd] at hfail
      have hfe : (failP L q 3).err ≠ 0 := fail_err (by decide)
      have st2 := hG.set hr.np hpd hqp hqd (failP L q 3) (els.map av)
      have hw2 := well_ok st2.gp (b := false) (by simp [hfe])
      have e : rowsP L row (f + 1) 16 q = rowsP L row f 17 (failP L q 3) := by
        rw [rowsP, if_neg (by simp [h0]), hm, if_neg (by decide)]
        simp only [if_pos (show True ∧ (cur L q).kind ≠ 4 from ⟨trivial, hk⟩)]
        rw [if_neg hfe]
      rw [e] at h
      repeat' (first | ((first | refine Sem.reg tt_ok ?_ | refine Sem.condS ?_ | refine Sem.regL tt_ok ?_ | refine Sem.skip tt_ok ?_ | refine Sem.exit tt_ok ?_ | refine Sem.ret tt_ok ?_ | refine BS_t (by assumption) ?_ | refine BS_f (by assumption) ?_ | refine atG (by first | assumption | exact setG_same _ _ _) ?_ | refine (nthK_iff _ _).2 ⟨_, (by assumption), ?_⟩ | refine ⟨_, ⟨(by omega), (by assumption)⟩, ?_⟩ | refine And.intro (by first | decide | omega) ?_ | fail); conv => whnf) | refine Sem.seqS ?_ | refine Sem.block ?_ | fail)
      refine hw.on ?_; conv => whnf
      repeat' (first | ((first | refine Sem.reg tt_ok ?_ | refine Sem.condS ?_ | refine Sem.regL tt_ok ?_ | refine Sem.skip tt_ok ?_ | refine Sem.exit tt_ok ?_ | refine Sem.ret tt_ok ?_ | refine BS_t (by assumption) ?_ | refine BS_f (by assumption) ?_ | refine atG (by first | assumption | exact setG_same _ _ _) ?_ | refine (nthK_iff _ _).2 ⟨_, (by assumption), ?_⟩ | refine ⟨_, ⟨(by omega), (by assumption)⟩, ?_⟩ | refine And.intro (by first | decide | omega) ?_ | fail); conv => whnf) | refine Sem.seqS ?_ | refine Sem.block ?_ | fail)
      refine hmay.on ?_; conv => whnf
      repeat' (first | ((first | refine Sem.reg tt_ok ?_ | refine Sem.condS ?_ | refine Sem.regL tt_ok ?_ | refine Sem.skip tt_ok ?_ | refine Sem.exit tt_ok ?_ | refine Sem.ret tt_ok ?_ | refine BS_t (by assumption) ?_ | refine BS_f (by assumption) ?_ | refine atG (by first | assumption | exact setG_same _ _ _) ?_ | refine (nthK_iff _ _).2 ⟨_, (by assumption), ?_⟩ | refine ⟨_, ⟨(by omega), (by assumption)⟩, ?_⟩ | refine And.intro (by first | decide | omega) ?_ | fail); conv => whnf) | refine Sem.seqS ?_ | refine Sem.block ?_ | fail)
      refine hnow.on ?_; conv => whnf
      repeat' (first | ((first | refine Sem.reg tt_ok ?_ | refine Sem.condS ?_ | refine Sem.regL tt_ok ?_ | refine Sem.skip tt_ok ?_ | refine Sem.exit tt_ok ?_ | refine Sem.ret tt_ok ?_ | refine BS_t (by assumption) ?_ | refine BS_f (by assumption) ?_ | refine atG (by first | assumption | exact setG_same _ _ _) ?_ | refine (nthK_iff _ _).2 ⟨_, (by assumption), ?_⟩ | refine ⟨_, ⟨(by omega), (by assumption)⟩, ?_⟩ | refine And.intro (by first | decide | omega) ?_ | fail); conv => whnf) | refine Sem.seqS ?_ | refine Sem.block ?_ | fail)
      refine hfail.on ?_; conv => whnf
      repeat' (first | ((first | refine Sem.reg tt_ok ?_ | refine Sem.condS ?_ | refine Sem.regL tt_ok ?_ | refine Sem.skip tt_ok ?_ | refine Sem.exit tt_ok ?_ | refine Sem.ret tt_ok ?_ | refine BS_t (by assumption) ?_ | refine BS_f (by assumption) ?_ | refine atG (by first | assumption | exact setG_same _ _ _) ?_ | refine (nthK_iff _ _).2 ⟨_, (by assumption), ?_⟩ | refine ⟨_, ⟨(by omega), (by assumption)⟩, ?_⟩ | refine And.intro (by first | decide | omega) ?_ | fail); conv => whnf) | refine Sem.seqS ?_ | refine Sem.block ?_ | fail)
      refine hw2.on ?_; conv => whnf
      repeat' (first | ((first | refine Sem.reg tt_ok ?_ | refine Sem.condS ?_ | refine Sem.regL tt_ok ?_ | refine Sem.skip tt_ok ?_ | refine Sem.exit tt_ok ?_ | refine Sem.ret tt_ok ?_ | refine BS_t (by assumption) ?_ | refine BS_f (by assumption) ?_ | refine atG (by first | assumption | exact setG_same _ _ _) ?_ | refine (nthK_iff _ _).2 ⟨_, (by assumption), ?_⟩ | refine ⟨_, ⟨(by omega), (by assumption)⟩, ?_⟩ | refine And.intro (by first | decide | omega) ?_ | fail); conv => whnf) | refine Sem.seqS ?_ | refine Sem.block ?_ | fail)
      refine ⟨⟨failP L q 3, els, f, 17, by omega, by omega, fun _ => hfe, by rw [fail_at]; exact hq, by omega, h⟩, Nat.lt_succ_self _, ?_⟩
      refine weak_by [] ?_; (conv => whnf); repeat (first | (refine And.intro rfl ?_; conv => whnf) | fail)
      exact ⟨fun i y hy => hy, rfl, Nat.le_refl _, rfl, rfl⟩
    · have e : rowsP L row (f + 1) n q = ((row q).1 :: (rowsP L row f (n + 1) (needP L (row q).2 [59])).1, (rowsP L row f (n + 1) (needP L (row q).2 [59])).2) := by
        rw [rowsP, if_neg (by simp [h0]), hm, if_neg (by decide)]
        simp only [if_neg hfull]
        rw [if_pos h0]
      have hrow := hr.ok q (els.map av) _ st hq (by rw [List.length_map]; omega)
      rw [setG_two G hpd] at hrow
      have hq1 := hr.at_ q hq
      have st2 := hG.set hr.np hpd hqp hqd (row q).2 (els.map av ++ [av (row q).1])
      have hneed2 := need_ok hL st2.gp hq1 [59]
      rw [setG_comm G hpd] at hneed2
      have hq2 := need_at hL hq1 [59]
      have hend : n + 1 = 17 → (needP L (row q).2 [59]).err ≠ 0 := fun hh => by
        have hk : (cur L q).kind = 4 := by
          rcases Classical.em ((cur L q).kind = 4) with h | h
          · exact h
          · exact absurd ⟨by omega, h⟩ hfull
        have := hr.end_ q hq hk
        rw [need_no this]; exact this
      rw [e] at h
      have fin : rowsP L row 18 0 p0 = ((els ++ [(row q).1]) ++ (rowsP L row f (n + 1) (needP L (row q).2 [59])).1, (rowsP L row f (n + 1) (needP L (row q).2 [59])).2) := by rw [h]; simp
      by_cases hn1 : n = 16
      · have hk : (cur L q).kind = 4 := by
          rcases Classical.em ((cur L q).kind = 4) with h | h
          · exact h
          · exact absurd ⟨hn1, h⟩ hfull
        have t1 : (((n : Int)) == 16) = true := by simp; omega
        have t2 : (((((cur L q).kind : Nat) : Int)) != 4) = false := by simp; omega
        repeat' (first | ((first | refine Sem.reg tt_ok ?_ | refine Sem.condS ?_ | refine Sem.regL tt_ok ?_ | refine Sem.skip tt_ok ?_ | refine Sem.exit tt_ok ?_ | refine Sem.ret tt_ok ?_ | refine BS_t (by assumption) ?_ | refine BS_f (by assumption) ?_ | refine atG (by first | assumption | exact setG_same _ _ _) ?_ | refine (nthK_iff _ _).2 ⟨_, (by assumption), ?_⟩ | refine ⟨_, ⟨(by omega), (by assumption)⟩, ?_⟩ | refine And.intro (by first | decide | omega) ?_ | fail); conv => whnf) | refine Sem.seqS ?_ | refine Sem.block ?_ | fail)
        refine hw.on ?_; conv => whnf
        repeat' (first | ((first | refine Sem.reg tt_ok ?_ | refine Sem.condS ?_ | refine Sem.regL tt_ok ?_ | refine Sem.skip tt_ok ?_ | refine Sem.exit tt_ok ?_ | refine Sem.ret tt_ok ?_ | refine BS_t (by assumption) ?_ | refine BS_f (by assumption) ?_ | refine atG (by first | assumption | exact setG_same _ _ _) ?_ | refine (nthK_iff _ _).2 ⟨_, (by assumption), ?_⟩ | refine ⟨_, ⟨(by omega), (by assumption)⟩, ?_⟩ | refine And.intro (by first | decide | omega) ?_ | fail); conv => whnf) | refine Sem.seqS ?_ | refine Sem.block ?_ | fail)
        refine hmay.on ?_; conv => whnf
        repeat' (first | ((first | refine Sem.reg tt_ok ?_ | refine Sem.condS ?_ | refine Sem.regL tt_ok ?_ | refine Sem.skip tt_ok ?_ | refine Sem.exit tt_ok ?_ | refine Sem.ret tt_ok ?_ | refine BS_t (by assumption) ?_ | refine BS_f (by assumption) ?_ | refine atG (by first | assumption | exact setG_same _ _ _) ?_ | refine (nthK_iff _ _).2 ⟨_, (by assumption), ?_⟩ | refine ⟨_, ⟨(by omega), (by assumption)⟩, ?_⟩ | refine And.intro (by first | decide | omega) ?_ | fail); conv => whnf) | refine Sem.seqS ?_ | refine Sem.block ?_ | fail)
        refine hnow.on ?_; conv => whnf
        repeat' (first | ((first | refine Sem.reg tt_ok ?_ | refine Sem.condS ?_ | refine Sem.regL tt_ok ?_ | refine Sem.skip tt_ok ?_ | refine Sem.exit tt_ok ?_ | refine Sem.ret tt_ok ?_ | refine BS_t (by assumption) ?_ | refine BS_f (by assumption) ?_ | refine atG (by first | assumption | exact setG_same _ _ _) ?_ | refine (nthK_iff _ _).2 ⟨_, (by assumption), ?_⟩ | refine ⟨_, ⟨(by omega), (by assumption)⟩, ?_⟩ | refine And.intro (by first | decide | omega) ?_ | fail); conv => whnf) | refine Sem.seqS ?_ | refine Sem.block ?_ | fail)
        refine hw.on ?_; conv => whnf
        repeat' (first | ((first | refine Sem.reg tt_ok ?_ | refine Sem.condS ?_ | refine Sem.regL tt_ok ?_ | refine Sem.skip tt_ok ?_ | refine Sem.exit tt_ok ?_ | refine Sem.ret tt_ok ?_ | refine BS_t (by assumption) ?_ | refine BS_f (by assumption) ?_ | refine atG (by first | assumption | exact setG_same _ _ _) ?_ | refine (nthK_iff _ _).2 ⟨_, (by assumption), ?_⟩ | refine ⟨_, ⟨(by omega), (by assumption)⟩, ?_⟩ | refine And.intro (by first | decide | omega) ?_ | fail); conv => whnf) | refine Sem.seqS ?_ | refine Sem.block ?_ | fail)
        refine hrow.on ?_; conv => whnf
        repeat' (first | ((first | refine Sem.reg tt_ok ?_ | refine Sem.condS ?_ | refine Sem.regL tt_ok ?_ | refine Sem.skip tt_ok ?_ | refine Sem.exit tt_ok ?_ | refine Sem.ret tt_ok ?_ | refine BS_t (by assumption) ?_ | refine BS_f (by assumption) ?_ | refine atG (by first | assumption | exact setG_same _ _ _) ?_ | refine (nthK_iff _ _).2 ⟨_, (by assumption), ?_⟩ | refine ⟨_, ⟨(by omega), (by assumption)⟩, ?_⟩ | refine And.intro (by first | decide | omega) ?_ | fail); conv => whnf) | refine Sem.seqS ?_ | refine Sem.block ?_ | fail)
        refine hneed2.on ?_; conv => whnf
        repeat' (first | ((first | refine Sem.reg tt_ok ?_ | refine Sem.condS ?_ | refine Sem.regL tt_ok ?_ | refine Sem.skip tt_ok ?_ | refine Sem.exit tt_ok ?_ | refine Sem.ret tt_ok ?_ | refine BS_t (by assumption) ?_ | refine BS_f (by assumption) ?_ | refine atG (by first | assumption | exact setG_same _ _ _) ?_ | refine (nthK_iff _ _).2 ⟨_, (by assumption), ?_⟩ | refine ⟨_, ⟨(by omega), (by assumption)⟩, ?_⟩ | refine And.intro (by first | decide | omega) ?_ | fail); conv => whnf) | refine Sem.seqS ?_ | refine Sem.block ?_ | fail)
        refine ⟨⟨needP L (row q).2 [59], els ++ [(row q).1], f, n + 1, by omega, by omega, hend, hq2, by simp; omega, fin⟩, Nat.lt_succ_self _, ?_⟩
        refine weak_by [] ?_; (conv => whnf); repeat (first | (refine And.intro rfl ?_; conv => whnf) | fail)
        refine ⟨hnx, fun i y hy => ?_, rfl, Nat.le_refl _, rfl, rfl⟩
        simpa using hy
      · have t1 : (((n : Int)) == 16) = false := by simp; omega
        repeat' (first | ((first | refine Sem.reg tt_ok ?_ | refine Sem.condS ?_ | refine Sem.regL tt_ok ?_ | refine Sem.skip tt_ok ?_ | refine Sem.exit tt_ok ?_ | refine Sem.ret tt_ok ?_ | refine BS_t (by assumption) ?_ | refine BS_f (by assumption) ?_ | refine atG (by first | assumption | exact setG_same _ _ _) ?_ | refine (nthK_iff _ _).2 ⟨_, (by assumption), ?_⟩ | refine ⟨_, ⟨(by omega), (by assumption)⟩, ?_⟩ | refine And.intro (by first | decide | omega) ?_ | fail); conv => whnf) | refine Sem.seqS ?_ | refine Sem.block ?_ | fail)
        refine hw.on ?_; conv => whnf
        repeat' (first | ((first | refine Sem.reg tt_ok ?_ | refine Sem.condS ?_ | refine Sem.regL tt_ok ?_ | refine Sem.skip tt_ok ?_ | refine Sem.exit tt_ok ?_ | refine Sem.ret tt_ok ?_ | refine BS_t (by assumption) ?_ | refine BS_f (by assumption) ?_ | refine atG (by first | assumption | exact setG_same _ _ _) ?_ | refine (nthK_iff _ _).2 ⟨_, (by assumption), ?_⟩ | refine ⟨_, ⟨(by omega), (by assumption)⟩, ?_⟩ | refine And.intro (by first | decide | omega) ?_ | fail); conv => whnf) | refine Sem.seqS ?_ | refine Sem.block ?_ | fail)
        refine hmay.on ?_; conv => whnf
        repeat' (first | ((first | refine Sem.reg tt_ok ?_ | refine Sem.condS ?_ | refine Sem.regL tt_ok ?_ | refine Sem.skip tt_ok ?_ | refine Sem.exit tt_ok ?_ | refine Sem.ret tt_ok ?_ | refine BS_t (by assumption) ?_ | refine BS_f (by assumption) ?_ | refine atG (by first | assumption | exact setG_same _ _ _) ?_ | refine (nthK_iff _ _).2 ⟨_, (by assumption), ?_⟩ | refine ⟨_, ⟨(by omega), (by assumption)⟩, ?_⟩ | refine And.intro (by first | decide | omega) ?_ | fail); conv => whnf) | refine Sem.seqS ?_ | refine Sem.block ?_ | fail)
        refine hw.on ?_; conv => whnf
        repeat' (first | ((first | refine Sem.reg tt_ok ?_ | refine Sem.condS ?_ | refine Sem.regL tt_ok ?_ | refine Sem.skip tt_ok ?_ | refine Sem.exit tt_ok ?_ | refine Sem.ret tt_ok ?_ | refine BS_t (by assumption) ?_ | refine BS_f (by assumption) ?_ | refine atG (by first | assumption | exact setG_same _ _ _) ?_ | refine (nthK_iff _ _).2 ⟨_, (by assumption), ?_⟩ | refine ⟨_, ⟨(by omega), (by assumption)⟩, ?_⟩ | refine And.intro (by first | decide | omega) ?_ | fail); conv => whnf) | refine Sem.seqS ?_ | refine Sem.block ?_ | fail)
        refine hrow.on ?_; conv => whnf
        repeat' (first | ((first | refine Sem.reg tt_ok ?_ | refine Sem.condS ?_ | refine Sem.regL tt_ok ?_ | refine Sem.skip tt_ok ?_ | refine Sem.exit tt_ok ?_ | refine Sem.ret tt_ok ?_ | refine BS_t (by assumption) ?_ | refine BS_f (by assumption) ?_ | refine atG (by first | assumption | exact setG_same _ _ _) ?_ | refine (nthK_iff _ _).2 ⟨_, (by assumption), ?_⟩ | refine ⟨_, ⟨(by omega), (by assumption)⟩, ?_⟩ | refine And.intro (by first | decide | omega) ?_ | fail); conv => whnf) | refine Sem.seqS ?_ | refine Sem.block ?_ | fail)
        refine hneed2.on ?_; conv => whnf
        repeat' (first | ((first | refine Sem.reg tt_ok ?_ | refine Sem.condS ?_ | refine Sem.regL tt_ok ?_ | refine Sem.skip tt_ok ?_ | refine Sem.exit tt_ok ?_ | refine Sem.ret tt_ok ?_ | refine BS_t (by assumption) ?_ | refine BS_f (by assumption) ?_ | refine atG (by first | assumption | exact setG_same _ _ _) ?_ | refine (nthK_iff _ _).2 ⟨_, (by assumption), ?_⟩ | refine ⟨_, ⟨(by omega), (by assumption)⟩, ?_⟩ | refine And.intro (by first | decide | omega) ?_ | fail); conv => whnf) | refine Sem.seqS ?_ | refine Sem.block ?_ | fail)
        refine ⟨⟨needP L (row q).2 [59], els ++ [(row q).1], f, n + 1, by omega, by omega, hend, hq2, by simp; omega, fin⟩, Nat.lt_succ_self _, ?_⟩
        refine weak_by [] ?_; (conv => whnf); repeat (first | (refine And.intro rfl ?_; conv => whnf) | fail)
        refine ⟨hnx, fun i y hy => ?_, rfl, Nat.le_refl _, rfl, rfl⟩
        simpa using hy
end Go.Proofs.YtofhakbmmgpgdaaDoor
end

section
/- The parser in the abstract run: a declaration. -/
set_option maxRecDepth 100000
set_option linter.unusedSimpArgs false
namespace Go.Proofs.YtofhakbmmgpgdaaDoor
open Go Go.RowKit Go.Proofs Go.Shelf

def Dc.av (d : Dc) : List AV := [.int .i64 (d.kind : Nat), .str (S d.name), if d.kind = 4 then .nils else .slc 83 (d.fields.map Fd.av), if d.kind = 4 then .slc 123 (d.methods.map Md.av) else .nils, .int .i64 (d.at_ : Nat)]
/-- what tokens are, beside: nothing stands at the end -/
def EndL (L : List Tok) : Prop := ∀ (i : Nat) (t : Tok), L[i]? = some t → t.kind = 4 → t.text = []
theorem rows_field {L : List Tok} (hL : TL L) (pb qb db : Nat) (k a : Int) (nm : ByteArray) : RowsOk L pb qb db qb db 85 (fieldP L) Fd.av (dF k nm a) :=
  ⟨fun _ _ _ st hp hn => field_ok hL st.gp st.gq st.gd hp st.mx hn, fun _ hp => field_at hL hp, fun _ _ h => field_end h, fun _ _ _ h => by cases h⟩
theorem rows_value {L : List Tok} (hL : TL L) (pb qb db : Nat) (k a : Int) (nm : ByteArray) : RowsOk L pb qb db db qb 91 (valueP L) Fd.av (dF k nm a) :=
  ⟨fun _ _ _ st hp hn => value_ok hL st.gp st.gq st.gd hp st.mx hn, fun _ hp => value_at hL hp, fun _ _ h => value_end h, fun _ _ _ h => by cases h⟩
theorem rows_method {L : List Tok} (hL : TL L) (hE : EndL L) (pb qb db : Nat) (k a : Int) (nm : ByteArray) : RowsOk L pb qb db db qb 92 (methodP L) Md.av (dM k nm a) :=
  ⟨fun _ _ _ st hp hn => mrow_ok hL st.gp st.gq st.gd hp st.mx hn, fun _ hp => method_at hL hp, fun _ hp h => method_end hp hE h, fun _ _ _ h => by cases h⟩
/-- boxes of a declaration's call -/
structure NN (L : List Tok) (pb qb db : Nat) (G : Glob) (N : PS → GB → Glob) : Prop where
  p : ∀ p C, N p C pb = some (pB L p)
  d : ∀ p C, N p C db = some C
  q : ∀ p C, N p C qb = some (.cells [.gptr pb 0])
  m : ∀ p C, (∀ k o, C ≠ .pin k o) → MaxOk (N p C)
  sp : ∀ p C q, setG (N p C) pb (pB L q) = N q C
  sd : ∀ p C C', setG (N p C) db C' = N p C'
  fin : ∀ p C i y, setG G pb (pB L p) i = some y → N p C i = some y
theorem nn_of {L : List Tok} {p0 : PS} {pb qb db : Nat} {G : Glob} (hG : G pb = some (pB L p0)) (hM : MaxOk G) (hq : G qb = none) (C0 : GB) (hd : setG G qb (.cells [.gptr pb 0]) db = none) : qb ≠ pb ∧ qb ≠ db ∧ pb ≠ db ∧ ∃ N, NN L pb qb db G N ∧ setG (setG G qb (.cells [.gptr pb 0])) db C0 = N p0 C0 := by
  have hqp : qb ≠ pb := fun e => by rw [e, hG] at hq; cases hq
  have hqd : qb ≠ db := fun e => by rw [← e, setG_same] at hd; cases hd
  have hd' : G db = none := by rw [setG_ne _ _ (Ne.symm hqd)] at hd; exact hd
  have hpd : pb ≠ db := fun e => by rw [← e, hG] at hd'; cases hd'
  refine ⟨hqp, hqd, hpd, fun p C => setG (setG (setG G qb (.cells [.gptr pb 0])) pb (pB L p)) db C, ⟨fun p C => ?_, fun p C => setG_same _ _ _, fun p C => ?_, fun p C hC => ?_, fun p C q => setG_comm _ hpd _ _ _, fun p C C' => setG_twice _ _ _ _, fun p C i y h => ?_⟩, ?_⟩
  · rw [setG_ne _ _ hpd, setG_same]
  · rw [setG_ne _ _ hqd, setG_ne _ _ hqp, setG_same]
  · refine MaxOk.new (((hM.new hq _).set (x := pB L p0) ?_ (pB_np L _) _)) ?_ _
    · rw [setG_ne _ _ (Ne.symm hqp)]; exact hG
    · rw [setG_ne _ _ (Ne.symm hpd)]; exact hd
  · have hid : i ≠ db := fun e => by rw [e, setG_ne _ _ (Ne.symm hpd), hd'] at h; cases h
    have hiq : i ≠ qb := fun e => by rw [e, setG_ne _ _ hqp, hq] at h; cases h
    rw [setG_ne _ _ hid]
    by_cases hip : i = pb
    · subst hip; rw [setG_same] at *; exact h
    · rw [setG_ne _ _ hip] at *; rw [setG_ne _ _ hiq]; exact h
  · simp only
    congr 1
    refine (setG_back ?_).symm
    rw [setG_ne _ _ (Ne.symm hqp)]; exact hG
theorem kindQ_t {L : List Tok} {p : PS} (h : kindP L p ≠ 0) : kindQ L p = { p with at_ := p.at_ + 1 } := by unfold kindQ; rw [if_neg h]

theorem decl_s {L : List Tok} (hL : TL L) {p : PS} {pb : Nat} {G : Glob} (hG : G pb = some (pB L p)) (hp : p.at_ < L.length) (hM : MaxOk G) (hs : mayB L p [115, 116, 114, 117, 99, 116] = true) :
    CallOk Tryd.prog TT 56 [.gptr pb 0] G (fun v G' => v = .agg (declP L p).1.av ∧ G' = setG G pb (pB L (declP L p).2)) := by
  have hk : kindP L p = 1 := by unfold kindP; simp [hs]
  have hkq : kindQ L p = { p with at_ := p.at_ + 1 } := kindQ_t (by rw [hk]; decide)
  have e : declP L p = (⟨1, nameV L (kindQ L p), (rowsP L (fieldP L) 18 0 (needP L (nameP L (kindQ L p)) [123])).1, [], (cur L p).at_⟩, (rowsP L (fieldP L) 18 0 (needP L (nameP L (kindQ L p)) [123])).2) := by unfold declP; simp only [hk, if_neg (show ¬ ((1 : Nat) = 4) by decide), if_neg (show ¬ ((1 : Nat) = 3) by decide)]
  rw [e]
  have hp1 := kindQ_at hL hp
  rw [hkq] at hp1 ⊢
  have hnow := now_ok hG hp
  unfold Tok.av tokC at hnow
  refine call_sem tt_ok Tryd.func56 rfl (by kernel_rfl) Tryd.ntmps56 Tryd.results56 ?_; conv => whnf
  refine Sem.seq tt_ok ?_; conv => whnf
  refine Sem.seq tt_ok ?_; conv => whnf
  refine hnow.on ?_; conv => whnf
  refine Sem.lend 0 ?_
  conv => whnf
  intro qb hqb
  conv => whnf
  refine Sem.lend 2 ?_
  conv => whnf
  intro db hdb
  conv => whnf
  obtain ⟨hqp, hqd, hpd, N, hN, hNe⟩ := nn_of hG hM hqb (.cells [.int .i64 0, .str ⟨#[]⟩, .nils, .nils, .int .i64 ((cur L p).at_ : Nat)]) hdb
  rw [hNe]
  have a0 := hN.p p (.cells [.int .i64 0, .str ⟨#[]⟩, .nils, .nils, .int .i64 ((cur L p).at_ : Nat)])
  have b0 := hN.q p (.cells [.int .i64 0, .str ⟨#[]⟩, .nils, .nils, .int .i64 ((cur L p).at_ : Nat)])
  have m0 := may_ok hL a0 hp _ hs
  rw [mayP_t hs, hN.sp] at m0
  generalize ({ p with at_ := p.at_ + 1 } : PS) = p1 at *
  have b1 := hN.q p1 (.cells [.int .i64 0, .str ⟨#[]⟩, .nils, .nils, .int .i64 ((cur L p).at_ : Nat)])
  have d1 := hN.d p1 (.cells [.int .i64 0, .str ⟨#[]⟩, .nils, .nils, .int .i64 ((cur L p).at_ : Nat)])
  have hname := pname_ok hL (hN.p p1 (.cells [.int .i64 1, .str ⟨#[]⟩, .nils, .nils, .int .i64 ((cur L p).at_ : Nat)])) hp1 (hN.m p1 _ (fun k o h => by cases h))
  rw [hN.sp] at hname
  have hp2 := name_at hL hp1
  have b2 := hN.q p1 (.cells [.int .i64 1, .str ⟨#[]⟩, .nils, .nils, .int .i64 ((cur L p).at_ : Nat)])
  have d2 := hN.d (nameP L p1) (.cells [.int .i64 1, .str ⟨#[]⟩, .nils, .nils, .int .i64 ((cur L p).at_ : Nat)])
  generalize nameP L p1 = p2 at *
  generalize nameV L p1 = nm at *
  have b3 := hN.q p2 (dF 1 (S nm) ((cur L p).at_ : Nat) [])
  have hPD : PD L pb qb db (dF 1 (S nm) ((cur L p).at_ : Nat)) (N p2 (dF 1 (S nm) ((cur L p).at_ : Nat) [])) p2 [] := ⟨hN.p _ _, b3, hN.d _ _, hN.m _ _ (fun k o h => by cases h)⟩
  have hrows := rows_ok hL (rows_field hL pb qb db 1 ((cur L p).at_ : Nat) (S nm)) hpd hqp hqd hPD hp2
  rw [hN.sp, hN.sd] at hrows
  generalize rowsP L (fieldP L) 18 0 (needP L p2 [123]) = r at *
  have d4 := hN.d r.2 (dF 1 (S nm) ((cur L p).at_ : Nat) (r.1.map Fd.av))
  repeat' (first | ((first | refine Sem.reg tt_ok ?_ | refine Sem.condS ?_ | refine Sem.regL tt_ok ?_ | refine Sem.skip tt_ok ?_ | refine Sem.exit tt_ok ?_ | refine Sem.ret tt_ok ?_ | refine BS_t (by assumption) ?_ | refine BS_f (by assumption) ?_ | refine atG (by first | assumption | exact setG_same _ _ _) ?_ | refine (nthK_iff _ _).2 ⟨_, (by assumption), ?_⟩ | refine ⟨_, ⟨(by omega), (by assumption)⟩, ?_⟩ | refine And.intro (by first | decide | omega) ?_ | fail); conv => whnf) | refine Sem.seqS ?_ | refine Sem.block ?_ | fail)
  refine m0.on ?_; conv => whnf
  repeat' (first | ((first | refine Sem.reg tt_ok ?_ | refine Sem.condS ?_ | refine Sem.regL tt_ok ?_ | refine Sem.skip tt_ok ?_ | refine Sem.exit tt_ok ?_ | refine Sem.ret tt_ok ?_ | refine BS_t (by assumption) ?_ | refine BS_f (by assumption) ?_ | refine atG (by first | assumption | exact setG_same _ _ _) ?_ | refine (nthK_iff _ _).2 ⟨_, (by assumption), ?_⟩ | refine ⟨_, ⟨(by omega), (by assumption)⟩, ?_⟩ | refine And.intro (by first | decide | omega) ?_ | fail); conv => whnf) | refine Sem.seqS ?_ | refine Sem.block ?_ | fail)
  rw [hN.sd]
  repeat' (first | ((first | refine Sem.reg tt_ok ?_ | refine Sem.condS ?_ | refine Sem.regL tt_ok ?_ | refine Sem.skip tt_ok ?_ | refine Sem.exit tt_ok ?_ | refine Sem.ret tt_ok ?_ | refine BS_t (by assumption) ?_ | refine BS_f (by assumption) ?_ | refine atG (by first | assumption | exact setG_same _ _ _) ?_ | refine (nthK_iff _ _).2 ⟨_, (by assumption), ?_⟩ | refine ⟨_, ⟨(by omega), (by assumption)⟩, ?_⟩ | refine And.intro (by first | decide | omega) ?_ | fail); conv => whnf) | refine Sem.seqS ?_ | refine Sem.block ?_ | fail)
  refine hname.on ?_; conv => whnf
  refine atG d2 ?_
  conv => whnf
  rw [hN.sd]
  refine Sem.weak (weak_row1 db 2 83 (hN.d _ _) rfl) ?_
  rw [hN.sd]
  repeat' (first | ((first | refine Sem.reg tt_ok ?_ | refine Sem.condS ?_ | refine Sem.regL tt_ok ?_ | refine Sem.skip tt_ok ?_ | refine Sem.exit tt_ok ?_ | refine Sem.ret tt_ok ?_ | refine BS_t (by assumption) ?_ | refine BS_f (by assumption) ?_ | refine atG (by first | assumption | exact setG_same _ _ _) ?_ | refine (nthK_iff _ _).2 ⟨_, (by assumption), ?_⟩ | refine ⟨_, ⟨(by omega), (by assumption)⟩, ?_⟩ | refine And.intro (by first | decide | omega) ?_ | fail); conv => whnf) | refine Sem.seqS ?_ | refine Sem.block ?_ | fail)
  refine hrows.on ?_; conv => whnf
  repeat' (first | ((first | refine Sem.reg tt_ok ?_ | refine Sem.condS ?_ | refine Sem.regL tt_ok ?_ | refine Sem.skip tt_ok ?_ | refine Sem.exit tt_ok ?_ | refine Sem.ret tt_ok ?_ | refine BS_t (by assumption) ?_ | refine BS_f (by assumption) ?_ | refine atG (by first | assumption | exact setG_same _ _ _) ?_ | refine (nthK_iff _ _).2 ⟨_, (by assumption), ?_⟩ | refine ⟨_, ⟨(by omega), (by assumption)⟩, ?_⟩ | refine And.intro (by first | decide | omega) ?_ | fail); conv => whnf) | refine Sem.seqS ?_ | refine Sem.block ?_ | fail)
  exact ⟨_, fun i y h => hN.fin _ _ i y h, rfl, rfl⟩
theorem decl_u {L : List Tok} (hL : TL L) {p : PS} {pb : Nat} {G : Glob} (hG : G pb = some (pB L p)) (hp : p.at_ < L.length) (hM : MaxOk G) (hs : mayB L p [115, 116, 114, 117, 99, 116] = false) (hu : mayB L p [117, 110, 105, 111, 110] = true) :
    CallOk Tryd.prog TT 56 [.gptr pb 0] G (fun v G' => v = .agg (declP L p).1.av ∧ G' = setG G pb (pB L (declP L p).2)) := by
  have hk : kindP L p = 2 := by unfold kindP; simp [hs, hu]
  have hkq : kindQ L p = { p with at_ := p.at_ + 1 } := kindQ_t (by rw [hk]; decide)
  have e : declP L p = (⟨2, nameV L (kindQ L p), (rowsP L (fieldP L) 18 0 (needP L (nameP L (kindQ L p)) [123])).1, [], (cur L p).at_⟩, (rowsP L (fieldP L) 18 0 (needP L (nameP L (kindQ L p)) [123])).2) := by unfold declP; simp only [hk, if_neg (show ¬ ((2 : Nat) = 4) by decide), if_neg (show ¬ ((2 : Nat) = 3) by decide)]
  rw [e]
  have hp1 := kindQ_at hL hp
  rw [hkq] at hp1 ⊢
  have hnow := now_ok hG hp
  unfold Tok.av tokC at hnow
  refine call_sem tt_ok Tryd.func56 rfl (by kernel_rfl) Tryd.ntmps56 Tryd.results56 ?_; conv => whnf
  refine Sem.seq tt_ok ?_; conv => whnf
  refine Sem.seq tt_ok ?_; conv => whnf
  refine hnow.on ?_; conv => whnf
  refine Sem.lend 0 ?_
  conv => whnf
  intro qb hqb
  conv => whnf
  refine Sem.lend 2 ?_
  conv => whnf
  intro db hdb
  conv => whnf
  obtain ⟨hqp, hqd, hpd, N, hN, hNe⟩ := nn_of hG hM hqb (.cells [.int .i64 0, .str ⟨#[]⟩, .nils, .nils, .int .i64 ((cur L p).at_ : Nat)]) hdb
  rw [hNe]
  have a0 := hN.p p (.cells [.int .i64 0, .str ⟨#[]⟩, .nils, .nils, .int .i64 ((cur L p).at_ : Nat)])
  have b0 := hN.q p (.cells [.int .i64 0, .str ⟨#[]⟩, .nils, .nils, .int .i64 ((cur L p).at_ : Nat)])
  have m0 := may_ok hL a0 hp _ hs
  rw [mayP_f hs, setG_back a0] at m0
  have m1 := may_ok hL a0 hp _ hu
  rw [mayP_t hu, hN.sp] at m1
  generalize ({ p with at_ := p.at_ + 1 } : PS) = p1 at *
  have b1 := hN.q p1 (.cells [.int .i64 0, .str ⟨#[]⟩, .nils, .nils, .int .i64 ((cur L p).at_ : Nat)])
  have d1 := hN.d p1 (.cells [.int .i64 0, .str ⟨#[]⟩, .nils, .nils, .int .i64 ((cur L p).at_ : Nat)])
  have hname := pname_ok hL (hN.p p1 (.cells [.int .i64 2, .str ⟨#[]⟩, .nils, .nils, .int .i64 ((cur L p).at_ : Nat)])) hp1 (hN.m p1 _ (fun k o h => by cases h))
  rw [hN.sp] at hname
  have hp2 := name_at hL hp1
  have b2 := hN.q p1 (.cells [.int .i64 2, .str ⟨#[]⟩, .nils, .nils, .int .i64 ((cur L p).at_ : Nat)])
  have d2 := hN.d (nameP L p1) (.cells [.int .i64 2, .str ⟨#[]⟩, .nils, .nils, .int .i64 ((cur L p).at_ : Nat)])
  generalize nameP L p1 = p2 at *
  generalize nameV L p1 = nm at *
  have b3 := hN.q p2 (dF 2 (S nm) ((cur L p).at_ : Nat) [])
  have hPD : PD L pb qb db (dF 2 (S nm) ((cur L p).at_ : Nat)) (N p2 (dF 2 (S nm) ((cur L p).at_ : Nat) [])) p2 [] := ⟨hN.p _ _, b3, hN.d _ _, hN.m _ _ (fun k o h => by cases h)⟩
  have hrows := rows_ok hL (rows_field hL pb qb db 2 ((cur L p).at_ : Nat) (S nm)) hpd hqp hqd hPD hp2
  rw [hN.sp, hN.sd] at hrows
  generalize rowsP L (fieldP L) 18 0 (needP L p2 [123]) = r at *
  have d4 := hN.d r.2 (dF 2 (S nm) ((cur L p).at_ : Nat) (r.1.map Fd.av))
  repeat' (first | ((first | refine Sem.reg tt_ok ?_ | refine Sem.condS ?_ | refine Sem.regL tt_ok ?_ | refine Sem.skip tt_ok ?_ | refine Sem.exit tt_ok ?_ | refine Sem.ret tt_ok ?_ | refine BS_t (by assumption) ?_ | refine BS_f (by assumption) ?_ | refine atG (by first | assumption | exact setG_same _ _ _) ?_ | refine (nthK_iff _ _).2 ⟨_, (by assumption), ?_⟩ | refine ⟨_, ⟨(by omega), (by assumption)⟩, ?_⟩ | refine And.intro (by first | decide | omega) ?_ | fail); conv => whnf) | refine Sem.seqS ?_ | refine Sem.block ?_ | fail)
  refine m0.on ?_; conv => whnf
  repeat' (first | ((first | refine Sem.reg tt_ok ?_ | refine Sem.condS ?_ | refine Sem.regL tt_ok ?_ | refine Sem.skip tt_ok ?_ | refine Sem.exit tt_ok ?_ | refine Sem.ret tt_ok ?_ | refine BS_t (by assumption) ?_ | refine BS_f (by assumption) ?_ | refine atG (by first | assumption | exact setG_same _ _ _) ?_ | refine (nthK_iff _ _).2 ⟨_, (by assumption), ?_⟩ | refine ⟨_, ⟨(by omega), (by assumption)⟩, ?_⟩ | refine And.intro (by first | decide | omega) ?_ | fail); conv => whnf) | refine Sem.seqS ?_ | refine Sem.block ?_ | fail)
  refine m1.on ?_; conv => whnf
  repeat' (first | ((first | refine Sem.reg tt_ok ?_ | refine Sem.condS ?_ | refine Sem.regL tt_ok ?_ | refine Sem.skip tt_ok ?_ | refine Sem.exit tt_ok ?_ | refine Sem.ret tt_ok ?_ | refine BS_t (by assumption) ?_ | refine BS_f (by assumption) ?_ | refine atG (by first | assumption | exact setG_same _ _ _) ?_ | refine (nthK_iff _ _).2 ⟨_, (by assumption), ?_⟩ | refine ⟨_, ⟨(by omega), (by assumption)⟩, ?_⟩ | refine And.intro (by first | decide | omega) ?_ | fail); conv => whnf) | refine Sem.seqS ?_ | refine Sem.block ?_ | fail)
  rw [hN.sd]
  repeat' (first | ((first | refine Sem.reg tt_ok ?_ | refine Sem.condS ?_ | refine Sem.regL tt_ok ?_ | refine Sem.skip tt_ok ?_ | refine Sem.exit tt_ok ?_ | refine Sem.ret tt_ok ?_ | refine BS_t (by assumption) ?_ | refine BS_f (by assumption) ?_ | refine atG (by first | assumption | exact setG_same _ _ _) ?_ | refine (nthK_iff _ _).2 ⟨_, (by assumption), ?_⟩ | refine ⟨_, ⟨(by omega), (by assumption)⟩, ?_⟩ | refine And.intro (by first | decide | omega) ?_ | fail); conv => whnf) | refine Sem.seqS ?_ | refine Sem.block ?_ | fail)
  refine hname.on ?_; conv => whnf
  refine atG d2 ?_
  conv => whnf
  rw [hN.sd]
  refine Sem.weak (weak_row1 db 2 83 (hN.d _ _) rfl) ?_
  rw [hN.sd]
  repeat' (first | ((first | refine Sem.reg tt_ok ?_ | refine Sem.condS ?_ | refine Sem.regL tt_ok ?_ | refine Sem.skip tt_ok ?_ | refine Sem.exit tt_ok ?_ | refine Sem.ret tt_ok ?_ | refine BS_t (by assumption) ?_ | refine BS_f (by assumption) ?_ | refine atG (by first | assumption | exact setG_same _ _ _) ?_ | refine (nthK_iff _ _).2 ⟨_, (by assumption), ?_⟩ | refine ⟨_, ⟨(by omega), (by assumption)⟩, ?_⟩ | refine And.intro (by first | decide | omega) ?_ | fail); conv => whnf) | refine Sem.seqS ?_ | refine Sem.block ?_ | fail)
  refine hrows.on ?_; conv => whnf
  repeat' (first | ((first | refine Sem.reg tt_ok ?_ | refine Sem.condS ?_ | refine Sem.regL tt_ok ?_ | refine Sem.skip tt_ok ?_ | refine Sem.exit tt_ok ?_ | refine Sem.ret tt_ok ?_ | refine BS_t (by assumption) ?_ | refine BS_f (by assumption) ?_ | refine atG (by first | assumption | exact setG_same _ _ _) ?_ | refine (nthK_iff _ _).2 ⟨_, (by assumption), ?_⟩ | refine ⟨_, ⟨(by omega), (by assumption)⟩, ?_⟩ | refine And.intro (by first | decide | omega) ?_ | fail); conv => whnf) | refine Sem.seqS ?_ | refine Sem.block ?_ | fail)
  exact ⟨_, fun i y h => hN.fin _ _ i y h, rfl, rfl⟩
theorem decl_e {L : List Tok} (hL : TL L) {p : PS} {pb : Nat} {G : Glob} (hG : G pb = some (pB L p)) (hp : p.at_ < L.length) (hM : MaxOk G) (hs : mayB L p [115, 116, 114, 117, 99, 116] = false) (hu : mayB L p [117, 110, 105, 111, 110] = false) (he : mayB L p [101, 110, 117, 109] = true) :
    CallOk Tryd.prog TT 56 [.gptr pb 0] G (fun v G' => v = .agg (declP L p).1.av ∧ G' = setG G pb (pB L (declP L p).2)) := by
  have hk : kindP L p = 3 := by unfold kindP; simp [hs, hu, he]
  have hkq : kindQ L p = { p with at_ := p.at_ + 1 } := kindQ_t (by rw [hk]; decide)
  have e : declP L p = (⟨3, nameV L (kindQ L p), (rowsP L (valueP L) 18 0 (needP L (nameP L (kindQ L p)) [123])).1, [], (cur L p).at_⟩, (rowsP L (valueP L) 18 0 (needP L (nameP L (kindQ L p)) [123])).2) := by unfold declP; simp only [hk, if_neg (show ¬ ((3 : Nat) = 4) by decide), if_true]
  rw [e]
  have hp1 := kindQ_at hL hp
  rw [hkq] at hp1 ⊢
  have hnow := now_ok hG hp
  unfold Tok.av tokC at hnow
  refine call_sem tt_ok Tryd.func56 rfl (by kernel_rfl) Tryd.ntmps56 Tryd.results56 ?_; conv => whnf
  refine Sem.seq tt_ok ?_; conv => whnf
  refine Sem.seq tt_ok ?_; conv => whnf
  refine hnow.on ?_; conv => whnf
  refine Sem.lend 0 ?_
  conv => whnf
  intro qb hqb
  conv => whnf
  refine Sem.lend 2 ?_
  conv => whnf
  intro db hdb
  conv => whnf
  obtain ⟨hqp, hqd, hpd, N, hN, hNe⟩ := nn_of hG hM hqb (.cells [.int .i64 0, .str ⟨#[]⟩, .nils, .nils, .int .i64 ((cur L p).at_ : Nat)]) hdb
  rw [hNe]
  have a0 := hN.p p (.cells [.int .i64 0, .str ⟨#[]⟩, .nils, .nils, .int .i64 ((cur L p).at_ : Nat)])
  have b0 := hN.q p (.cells [.int .i64 0, .str ⟨#[]⟩, .nils, .nils, .int .i64 ((cur L p).at_ : Nat)])
  have m0 := may_ok hL a0 hp _ hs
  rw [mayP_f hs, setG_back a0] at m0
  have m1 := may_ok hL a0 hp _ hu
  rw [mayP_f hu, setG_back a0] at m1
  have m2 := may_ok hL a0 hp _ he
  rw [mayP_t he, hN.sp] at m2
  generalize ({ p with at_ := p.at_ + 1 } : PS) = p1 at *
  have b1 := hN.q p1 (.cells [.int .i64 0, .str ⟨#[]⟩, .nils, .nils, .int .i64 ((cur L p).at_ : Nat)])
  have d1 := hN.d p1 (.cells [.int .i64 0, .str ⟨#[]⟩, .nils, .nils, .int .i64 ((cur L p).at_ : Nat)])
  have hname := pname_ok hL (hN.p p1 (.cells [.int .i64 3, .str ⟨#[]⟩, .nils, .nils, .int .i64 ((cur L p).at_ : Nat)])) hp1 (hN.m p1 _ (fun k o h => by cases h))
  rw [hN.sp] at hname
  have hp2 := name_at hL hp1
  have b2 := hN.q p1 (.cells [.int .i64 3, .str ⟨#[]⟩, .nils, .nils, .int .i64 ((cur L p).at_ : Nat)])
  have d2 := hN.d (nameP L p1) (.cells [.int .i64 3, .str ⟨#[]⟩, .nils, .nils, .int .i64 ((cur L p).at_ : Nat)])
  generalize nameP L p1 = p2 at *
  generalize nameV L p1 = nm at *
  have b3 := hN.q p2 (dF 3 (S nm) ((cur L p).at_ : Nat) [])
  have hPD : PD L pb qb db (dF 3 (S nm) ((cur L p).at_ : Nat)) (N p2 (dF 3 (S nm) ((cur L p).at_ : Nat) [])) p2 [] := ⟨hN.p _ _, b3, hN.d _ _, hN.m _ _ (fun k o h => by cases h)⟩
  have hrows := rows_ok hL (rows_value hL pb qb db 3 ((cur L p).at_ : Nat) (S nm)) hpd hqp hqd hPD hp2
  rw [hN.sp, hN.sd] at hrows
  generalize rowsP L (valueP L) 18 0 (needP L p2 [123]) = r at *
  have d4 := hN.d r.2 (dF 3 (S nm) ((cur L p).at_ : Nat) (r.1.map Fd.av))
  repeat' (first | ((first | refine Sem.reg tt_ok ?_ | refine Sem.condS ?_ | refine Sem.regL tt_ok ?_ | refine Sem.skip tt_ok ?_ | refine Sem.exit tt_ok ?_ | refine Sem.ret tt_ok ?_ | refine BS_t (by assumption) ?_ | refine BS_f (by assumption) ?_ | refine atG (by first | assumption | exact setG_same _ _ _) ?_ | refine (nthK_iff _ _).2 ⟨_, (by assumption), ?_⟩ | refine ⟨_, ⟨(by omega), (by assumption)⟩, ?_⟩ | refine And.intro (by first | decide | omega) ?_ | fail); conv => whnf) | refine Sem.seqS ?_ | refine Sem.block ?_ | fail)
  refine m0.on ?_; conv => whnf
  repeat' (first | ((first | refine Sem.reg tt_ok ?_ | refine Sem.condS ?_ | refine Sem.regL tt_ok ?_ | refine Sem.skip tt_ok ?_ | refine Sem.exit tt_ok ?_ | refine Sem.ret tt_ok ?_ | refine BS_t (by assumption) ?_ | refine BS_f (by assumption) ?_ | refine atG (by first | assumption | exact setG_same _ _ _) ?_ | refine (nthK_iff _ _).2 ⟨_, (by assumption), ?_⟩ | refine ⟨_, ⟨(by omega), (by assumption)⟩, ?_⟩ | refine And.intro (by first | decide | omega) ?_ | fail); conv => whnf) | refine Sem.seqS ?_ | refine Sem.block ?_ | fail)
  refine m1.on ?_; conv => whnf
  repeat' (first | ((first | refine Sem.reg tt_ok ?_ | refine Sem.condS ?_ | refine Sem.regL tt_ok ?_ | refine Sem.skip tt_ok ?_ | refine Sem.exit tt_ok ?_ | refine Sem.ret tt_ok ?_ | refine BS_t (by assumption) ?_ | refine BS_f (by assumption) ?_ | refine atG (by first | assumption | exact setG_same _ _ _) ?_ | refine (nthK_iff _ _).2 ⟨_, (by assumption), ?_⟩ | refine ⟨_, ⟨(by omega), (by assumption)⟩, ?_⟩ | refine And.intro (by first | decide | omega) ?_ | fail); conv => whnf) | refine Sem.seqS ?_ | refine Sem.block ?_ | fail)
  refine m2.on ?_; conv => whnf
  repeat' (first | ((first | refine Sem.reg tt_ok ?_ | refine Sem.condS ?_ | refine Sem.regL tt_ok ?_ | refine Sem.skip tt_ok ?_ | refine Sem.exit tt_ok ?_ | refine Sem.ret tt_ok ?_ | refine BS_t (by assumption) ?_ | refine BS_f (by assumption) ?_ | refine atG (by first | assumption | exact setG_same _ _ _) ?_ | refine (nthK_iff _ _).2 ⟨_, (by assumption), ?_⟩ | refine ⟨_, ⟨(by omega), (by assumption)⟩, ?_⟩ | refine And.intro (by first | decide | omega) ?_ | fail); conv => whnf) | refine Sem.seqS ?_ | refine Sem.block ?_ | fail)
  rw [hN.sd]
  repeat' (first | ((first | refine Sem.reg tt_ok ?_ | refine Sem.condS ?_ | refine Sem.regL tt_ok ?_ | refine Sem.skip tt_ok ?_ | refine Sem.exit tt_ok ?_ | refine Sem.ret tt_ok ?_ | refine BS_t (by assumption) ?_ | refine BS_f (by assumption) ?_ | refine atG (by first | assumption | exact setG_same _ _ _) ?_ | refine (nthK_iff _ _).2 ⟨_, (by assumption), ?_⟩ | refine ⟨_, ⟨(by omega), (by assumption)⟩, ?_⟩ | refine And.intro (by first | decide | omega) ?_ | fail); conv => whnf) | refine Sem.seqS ?_ | refine Sem.block ?_ | fail)
  refine hname.on ?_; conv => whnf
  refine atG d2 ?_
  conv => whnf
  rw [hN.sd]
  refine Sem.weak (weak_row1 db 2 83 (hN.d _ _) rfl) ?_
  rw [hN.sd]
  repeat' (first | ((first | refine Sem.reg tt_ok ?_ | refine Sem.condS ?_ | refine Sem.regL tt_ok ?_ | refine Sem.skip tt_ok ?_ | refine Sem.exit tt_ok ?_ | refine Sem.ret tt_ok ?_ | refine BS_t (by assumption) ?_ | refine BS_f (by assumption) ?_ | refine atG (by first | assumption | exact setG_same _ _ _) ?_ | refine (nthK_iff _ _).2 ⟨_, (by assumption), ?_⟩ | refine ⟨_, ⟨(by omega), (by assumption)⟩, ?_⟩ | refine And.intro (by first | decide | omega) ?_ | fail); conv => whnf) | refine Sem.seqS ?_ | refine Sem.block ?_ | fail)
  refine hrows.on ?_; conv => whnf
  repeat' (first | ((first | refine Sem.reg tt_ok ?_ | refine Sem.condS ?_ | refine Sem.regL tt_ok ?_ | refine Sem.skip tt_ok ?_ | refine Sem.exit tt_ok ?_ | refine Sem.ret tt_ok ?_ | refine BS_t (by assumption) ?_ | refine BS_f (by assumption) ?_ | refine atG (by first | assumption | exact setG_same _ _ _) ?_ | refine (nthK_iff _ _).2 ⟨_, (by assumption), ?_⟩ | refine ⟨_, ⟨(by omega), (by assumption)⟩, ?_⟩ | refine And.intro (by first | decide | omega) ?_ | fail); conv => whnf) | refine Sem.seqS ?_ | refine Sem.block ?_ | fail)
  exact ⟨_, fun i y h => hN.fin _ _ i y h, rfl, rfl⟩
theorem decl_v {L : List Tok} (hL : TL L) (hE : EndL L) {p : PS} {pb : Nat} {G : Glob} (hG : G pb = some (pB L p)) (hp : p.at_ < L.length) (hM : MaxOk G) (hs : mayB L p [115, 116, 114, 117, 99, 116] = false) (hu : mayB L p [117, 110, 105, 111, 110] = false) (he : mayB L p [101, 110, 117, 109] = false) (hv : mayB L p [115, 101, 114, 118, 105, 99, 101] = true) :
    CallOk Tryd.prog TT 56 [.gptr pb 0] G (fun v G' => v = .agg (declP L p).1.av ∧ G' = setG G pb (pB L (declP L p).2)) := by
  have hk : kindP L p = 4 := by unfold kindP; simp [hs, hu, he, hv]
  have hkq : kindQ L p = { p with at_ := p.at_ + 1 } := kindQ_t (by rw [hk]; decide)
  have e : declP L p = (⟨4, nameV L (kindQ L p), [], (rowsP L (methodP L) 18 0 (needP L (nameP L (kindQ L p)) [123])).1, (cur L p).at_⟩, (rowsP L (methodP L) 18 0 (needP L (nameP L (kindQ L p)) [123])).2) := by unfold declP; simp only [hk, if_true]
  rw [e]
  have hp1 := kindQ_at hL hp
  rw [hkq] at hp1 ⊢
  have hnow := now_ok hG hp
  unfold Tok.av tokC at hnow
  refine call_sem tt_ok Tryd.func56 rfl (by kernel_rfl) Tryd.ntmps56 Tryd.results56 ?_; conv => whnf
  refine Sem.seq tt_ok ?_; conv => whnf
  refine Sem.seq tt_ok ?_; conv => whnf
  refine hnow.on ?_; conv => whnf
  refine Sem.lend 0 ?_
  conv => whnf
  intro qb hqb
  conv => whnf
  refine Sem.lend 2 ?_
  conv => whnf
  intro db hdb
  conv => whnf
  obtain ⟨hqp, hqd, hpd, N, hN, hNe⟩ := nn_of hG hM hqb (.cells [.int .i64 0, .str ⟨#[]⟩, .nils, .nils, .int .i64 ((cur L p).at_ : Nat)]) hdb
  rw [hNe]
  have a0 := hN.p p (.cells [.int .i64 0, .str ⟨#[]⟩, .nils, .nils, .int .i64 ((cur L p).at_ : Nat)])
  have b0 := hN.q p (.cells [.int .i64 0, .str ⟨#[]⟩, .nils, .nils, .int .i64 ((cur L p).at_ : Nat)])
  have m0 := may_ok hL a0 hp _ hs
  rw [mayP_f hs, setG_back a0] at m0
  have m1 := may_ok hL a0 hp _ hu
  rw [mayP_f hu, setG_back a0] at m1
  have m2 := may_ok hL a0 hp _ he
  rw [mayP_f he, setG_back a0] at m2
  have m3 := may_ok hL a0 hp _ hv
  rw [mayP_t hv, hN.sp] at m3
  generalize ({ p with at_ := p.at_ + 1 } : PS) = p1 at *
  have b1 := hN.q p1 (.cells [.int .i64 0, .str ⟨#[]⟩, .nils, .nils, .int .i64 ((cur L p).at_ : Nat)])
  have d1 := hN.d p1 (.cells [.int .i64 0, .str ⟨#[]⟩, .nils, .nils, .int .i64 ((cur L p).at_ : Nat)])
  have hname := pname_ok hL (hN.p p1 (.cells [.int .i64 4, .str ⟨#[]⟩, .nils, .nils, .int .i64 ((cur L p).at_ : Nat)])) hp1 (hN.m p1 _ (fun k o h => by cases h))
  rw [hN.sp] at hname
  have hp2 := name_at hL hp1
  have b2 := hN.q p1 (.cells [.int .i64 4, .str ⟨#[]⟩, .nils, .nils, .int .i64 ((cur L p).at_ : Nat)])
  have d2 := hN.d (nameP L p1) (.cells [.int .i64 4, .str ⟨#[]⟩, .nils, .nils, .int .i64 ((cur L p).at_ : Nat)])
  generalize nameP L p1 = p2 at *
  generalize nameV L p1 = nm at *
  have b3 := hN.q p2 (dM 4 (S nm) ((cur L p).at_ : Nat) [])
  have hPD : PD L pb qb db (dM 4 (S nm) ((cur L p).at_ : Nat)) (N p2 (dM 4 (S nm) ((cur L p).at_ : Nat) [])) p2 [] := ⟨hN.p _ _, b3, hN.d _ _, hN.m _ _ (fun k o h => by cases h)⟩
  have hrows := rows_ok hL (rows_method hL hE pb qb db 4 ((cur L p).at_ : Nat) (S nm)) hpd hqp hqd hPD hp2
  rw [hN.sp, hN.sd] at hrows
  generalize rowsP L (methodP L) 18 0 (needP L p2 [123]) = r at *
  have d4 := hN.d r.2 (dM 4 (S nm) ((cur L p).at_ : Nat) (r.1.map Md.av))
  repeat' (first | ((first | refine Sem.reg tt_ok ?_ | refine Sem.condS ?_ | refine Sem.regL tt_ok ?_ | refine Sem.skip tt_ok ?_ | refine Sem.exit tt_ok ?_ | refine Sem.ret tt_ok ?_ | refine BS_t (by assumption) ?_ | refine BS_f (by assumption) ?_ | refine atG (by first | assumption | exact setG_same _ _ _) ?_ | refine (nthK_iff _ _).2 ⟨_, (by assumption), ?_⟩ | refine ⟨_, ⟨(by omega), (by assumption)⟩, ?_⟩ | refine And.intro (by first | decide | omega) ?_ | fail); conv => whnf) | refine Sem.seqS ?_ | refine Sem.block ?_ | fail)
  refine m0.on ?_; conv => whnf
  repeat' (first | ((first | refine Sem.reg tt_ok ?_ | refine Sem.condS ?_ | refine Sem.regL tt_ok ?_ | refine Sem.skip tt_ok ?_ | refine Sem.exit tt_ok ?_ | refine Sem.ret tt_ok ?_ | refine BS_t (by assumption) ?_ | refine BS_f (by assumption) ?_ | refine atG (by first | assumption | exact setG_same _ _ _) ?_ | refine (nthK_iff _ _).2 ⟨_, (by assumption), ?_⟩ | refine ⟨_, ⟨(by omega), (by assumption)⟩, ?_⟩ | refine And.intro (by first | decide | omega) ?_ | fail); conv => whnf) | refine Sem.seqS ?_ | refine Sem.block ?_ | fail)
  refine m1.on ?_; conv => whnf
  repeat' (first | ((first | refine Sem.reg tt_ok ?_ | refine Sem.condS ?_ | refine Sem.regL tt_ok ?_ | refine Sem.skip tt_ok ?_ | refine Sem.exit tt_ok ?_ | refine Sem.ret tt_ok ?_ | refine BS_t (by assumption) ?_ | refine BS_f (by assumption) ?_ | refine atG (by first | assumption | exact setG_same _ _ _) ?_ | refine (nthK_iff _ _).2 ⟨_, (by assumption), ?_⟩ | refine ⟨_, ⟨(by omega), (by assumption)⟩, ?_⟩ | refine And.intro (by first | decide | omega) ?_ | fail); conv => whnf) | refine Sem.seqS ?_ | refine Sem.block ?_ | fail)
  refine m2.on ?_; conv => whnf
  repeat' (first | ((first | refine Sem.reg tt_ok ?_ | refine Sem.condS ?_ | refine Sem.regL tt_ok ?_ | refine Sem.skip tt_ok ?_ | refine Sem.exit tt_ok ?_ | refine Sem.ret tt_ok ?_ | refine BS_t (by assumption) ?_ | refine BS_f (by assumption) ?_ | refine atG (by first | assumption | exact setG_same _ _ _) ?_ | refine (nthK_iff _ _).2 ⟨_, (by assumption), ?_⟩ | refine ⟨_, ⟨(by omega), (by assumption)⟩, ?_⟩ | refine And.intro (by first | decide | omega) ?_ | fail); conv => whnf) | refine Sem.seqS ?_ | refine Sem.block ?_ | fail)
  refine m3.on ?_; conv => whnf
  repeat' (first | ((first | refine Sem.reg tt_ok ?_ | refine Sem.condS ?_ | refine Sem.regL tt_ok ?_ | refine Sem.skip tt_ok ?_ | refine Sem.exit tt_ok ?_ | refine Sem.ret tt_ok ?_ | refine BS_t (by assumption) ?_ | refine BS_f (by assumption) ?_ | refine atG (by first | assumption | exact setG_same _ _ _) ?_ | refine (nthK_iff _ _).2 ⟨_, (by assumption), ?_⟩ | refine ⟨_, ⟨(by omega), (by assumption)⟩, ?_⟩ | refine And.intro (by first | decide | omega) ?_ | fail); conv => whnf) | refine Sem.seqS ?_ | refine Sem.block ?_ | fail)
  rw [hN.sd]
  repeat' (first | ((first | refine Sem.reg tt_ok ?_ | refine Sem.condS ?_ | refine Sem.regL tt_ok ?_ | refine Sem.skip tt_ok ?_ | refine Sem.exit tt_ok ?_ | refine Sem.ret tt_ok ?_ | refine BS_t (by assumption) ?_ | refine BS_f (by assumption) ?_ | refine atG (by first | assumption | exact setG_same _ _ _) ?_ | refine (nthK_iff _ _).2 ⟨_, (by assumption), ?_⟩ | refine ⟨_, ⟨(by omega), (by assumption)⟩, ?_⟩ | refine And.intro (by first | decide | omega) ?_ | fail); conv => whnf) | refine Sem.seqS ?_ | refine Sem.block ?_ | fail)
  refine hname.on ?_; conv => whnf
  refine atG d2 ?_
  conv => whnf
  rw [hN.sd]
  refine Sem.weak (weak_row1 db 3 123 (hN.d _ _) rfl) ?_
  rw [hN.sd]
  repeat' (first | ((first | refine Sem.reg tt_ok ?_ | refine Sem.condS ?_ | refine Sem.regL tt_ok ?_ | refine Sem.skip tt_ok ?_ | refine Sem.exit tt_ok ?_ | refine Sem.ret tt_ok ?_ | refine BS_t (by assumption) ?_ | refine BS_f (by assumption) ?_ | refine atG (by first | assumption | exact setG_same _ _ _) ?_ | refine (nthK_iff _ _).2 ⟨_, (by assumption), ?_⟩ | refine ⟨_, ⟨(by omega), (by assumption)⟩, ?_⟩ | refine And.intro (by first | decide | omega) ?_ | fail); conv => whnf) | refine Sem.seqS ?_ | refine Sem.block ?_ | fail)
  refine hrows.on ?_; conv => whnf
  repeat' (first | ((first | refine Sem.reg tt_ok ?_ | refine Sem.condS ?_ | refine Sem.regL tt_ok ?_ | refine Sem.skip tt_ok ?_ | refine Sem.exit tt_ok ?_ | refine Sem.ret tt_ok ?_ | refine BS_t (by assumption) ?_ | refine BS_f (by assumption) ?_ | refine atG (by first | assumption | exact setG_same _ _ _) ?_ | refine (nthK_iff _ _).2 ⟨_, (by assumption), ?_⟩ | refine ⟨_, ⟨(by omega), (by assumption)⟩, ?_⟩ | refine And.intro (by first | decide | omega) ?_ | fail); conv => whnf) | refine Sem.seqS ?_ | refine Sem.block ?_ | fail)
  exact ⟨_, fun i y h => hN.fin _ _ i y h, rfl, rfl⟩
theorem decl_x {L : List Tok} (hL : TL L) {p : PS} {pb : Nat} {G : Glob} (hG : G pb = some (pB L p)) (hp : p.at_ < L.length) (hM : MaxOk G) (hs : mayB L p [115, 116, 114, 117, 99, 116] = false) (hu : mayB L p [117, 110, 105, 111, 110] = false) (he : mayB L p [101, 110, 117, 109] = false) (hv : mayB L p [115, 101, 114, 118, 105, 99, 101] = false) :
    CallOk Tryd.prog TT 56 [.gptr pb 0] G (fun v G' => v = .agg (declP L p).1.av ∧ G' = setG G pb (pB L (declP L p).2)) := by
  have hk : kindP L p = 0 := by unfold kindP; simp [hs, hu, he, hv]
  have hkq : kindQ L p = failP L p 5 := by unfold kindQ; rw [if_pos hk]
  have e : declP L p = (⟨0, nameV L (kindQ L p), (rowsP L (fieldP L) 18 0 (needP L (nameP L (kindQ L p)) [123])).1, [], (cur L p).at_⟩, (rowsP L (fieldP L) 18 0 (needP L (nameP L (kindQ L p)) [123])).2) := by unfold declP; simp only [hk, if_neg (show ¬ ((0 : Nat) = 4) by decide), if_neg (show ¬ ((0 : Nat) = 3) by decide)]
  rw [e]
  have hp1 := kindQ_at hL hp
  rw [hkq] at hp1 ⊢
  have hnow := now_ok hG hp
  unfold Tok.av tokC at hnow
  refine call_sem tt_ok Tryd.func56 rfl (by kernel_rfl) Tryd.ntmps56 Tryd.results56 ?_; conv => whnf
  refine Sem.seq tt_ok ?_; conv => whnf
  refine Sem.seq tt_ok ?_; conv => whnf
  refine hnow.on ?_; conv => whnf
  refine Sem.lend 0 ?_
  conv => whnf
  intro qb hqb
  conv => whnf
  refine Sem.lend 2 ?_
  conv => whnf
  intro db hdb
  conv => whnf
  obtain ⟨hqp, hqd, hpd, N, hN, hNe⟩ := nn_of hG hM hqb (.cells [.int .i64 0, .str ⟨#[]⟩, .nils, .nils, .int .i64 ((cur L p).at_ : Nat)]) hdb
  rw [hNe]
  have a0 := hN.p p (.cells [.int .i64 0, .str ⟨#[]⟩, .nils, .nils, .int .i64 ((cur L p).at_ : Nat)])
  have b0 := hN.q p (.cells [.int .i64 0, .str ⟨#[]⟩, .nils, .nils, .int .i64 ((cur L p).at_ : Nat)])
  have m0 := may_ok hL a0 hp _ hs
  rw [mayP_f hs, setG_back a0] at m0
  have m1 := may_ok hL a0 hp _ hu
  rw [mayP_f hu, setG_back a0] at m1
  have m2 := may_ok hL a0 hp _ he
  rw [mayP_f he, setG_back a0] at m2
  have m3 := may_ok hL a0 hp _ hv
  rw [mayP_f hv, setG_back a0] at m3
  have m4 := fail_ok a0 hp 5
  rw [hN.sp] at m4
  generalize failP L p 5 = p1 at *
  have b1 := hN.q p1 (.cells [.int .i64 0, .str ⟨#[]⟩, .nils, .nils, .int .i64 ((cur L p).at_ : Nat)])
  have d1 := hN.d p1 (.cells [.int .i64 0, .str ⟨#[]⟩, .nils, .nils, .int .i64 ((cur L p).at_ : Nat)])
  have hname := pname_ok hL (hN.p p1 (.cells [.int .i64 0, .str ⟨#[]⟩, .nils, .nils, .int .i64 ((cur L p).at_ : Nat)])) hp1 (hN.m p1 _ (fun k o h => by cases h))
  rw [hN.sp] at hname
  have hp2 := name_at hL hp1
  have b2 := hN.q p1 (.cells [.int .i64 0, .str ⟨#[]⟩, .nils, .nils, .int .i64 ((cur L p).at_ : Nat)])
  have d2 := hN.d (nameP L p1) (.cells [.int .i64 0, .str ⟨#[]⟩, .nils, .nils, .int .i64 ((cur L p).at_ : Nat)])
  generalize nameP L p1 = p2 at *
  generalize nameV L p1 = nm at *
  have b3 := hN.q p2 (dF 0 (S nm) ((cur L p).at_ : Nat) [])
  have hPD : PD L pb qb db (dF 0 (S nm) ((cur L p).at_ : Nat)) (N p2 (dF 0 (S nm) ((cur L p).at_ : Nat) [])) p2 [] := ⟨hN.p _ _, b3, hN.d _ _, hN.m _ _ (fun k o h => by cases h)⟩
  have hrows := rows_ok hL (rows_field hL pb qb db 0 ((cur L p).at_ : Nat) (S nm)) hpd hqp hqd hPD hp2
  rw [hN.sp, hN.sd] at hrows
  generalize rowsP L (fieldP L) 18 0 (needP L p2 [123]) = r at *
  have d4 := hN.d r.2 (dF 0 (S nm) ((cur L p).at_ : Nat) (r.1.map Fd.av))
  repeat' (first | ((first | refine Sem.reg tt_ok ?_ | refine Sem.condS ?_ | refine Sem.regL tt_ok ?_ | refine Sem.skip tt_ok ?_ | refine Sem.exit tt_ok ?_ | refine Sem.ret tt_ok ?_ | refine BS_t (by assumption) ?_ | refine BS_f (by assumption) ?_ | refine atG (by first | assumption | exact setG_same _ _ _) ?_ | refine (nthK_iff _ _).2 ⟨_, (by assumption), ?_⟩ | refine ⟨_, ⟨(by omega), (by assumption)⟩, ?_⟩ | refine And.intro (by first | decide | omega) ?_ | fail); conv => whnf) | refine Sem.seqS ?_ | refine Sem.block ?_ | fail)
  refine m0.on ?_; conv => whnf
  repeat' (first | ((first | refine Sem.reg tt_ok ?_ | refine Sem.condS ?_ | refine Sem.regL tt_ok ?_ | refine Sem.skip tt_ok ?_ | refine Sem.exit tt_ok ?_ | refine Sem.ret tt_ok ?_ | refine BS_t (by assumption) ?_ | refine BS_f (by assumption) ?_ | refine atG (by first | assumption | exact setG_same _ _ _) ?_ | refine (nthK_iff _ _).2 ⟨_, (by assumption), ?_⟩ | refine ⟨_, ⟨(by omega), (by assumption)⟩, ?_⟩ | refine And.intro (by first | decide | omega) ?_ | fail); conv => whnf) | refine Sem.seqS ?_ | refine Sem.block ?_ | fail)
  refine m1.on ?_; conv => whnf
  repeat' (first | ((first | refine Sem.reg tt_ok ?_ | refine Sem.condS ?_ | refine Sem.regL tt_ok ?_ | refine Sem.skip tt_ok ?_ | refine Sem.exit tt_ok ?_ | refine Sem.ret tt_ok ?_ | refine BS_t (by assumption) ?_ | refine BS_f (by assumption) ?_ | refine atG (by first | assumption | exact setG_same _ _ _) ?_ | refine (nthK_iff _ _).2 ⟨_, (by assumption), ?_⟩ | refine ⟨_, ⟨(by omega), (by assumption)⟩, ?_⟩ | refine And.intro (by first | decide | omega) ?_ | fail); conv => whnf) | refine Sem.seqS ?_ | refine Sem.block ?_ | fail)
  refine m2.on ?_; conv => whnf
  repeat' (first | ((first | refine Sem.reg tt_ok ?_ | refine Sem.condS ?_ | refine Sem.regL tt_ok ?_ | refine Sem.skip tt_ok ?_ | refine Sem.exit tt_ok ?_ | refine Sem.ret tt_ok ?_ | refine BS_t (by assumption) ?_ | refine BS_f (by assumption) ?_ | refine atG (by first | assumption | exact setG_same _ _ _) ?_ | refine (nthK_iff _ _).2 ⟨_, (by assumption), ?_⟩ | refine ⟨_, ⟨(by omega), (by assumption)⟩, ?_⟩ | refine And.intro (by first | decide | omega) ?_ | fail); conv => whnf) | refine Sem.seqS ?_ | refine Sem.block ?_ | fail)
  refine m3.on ?_; conv => whnf
  repeat' (first | ((first | refine Sem.reg tt_ok ?_ | refine Sem.condS ?_ | refine Sem.regL tt_ok ?_ | refine Sem.skip tt_ok ?_ | refine Sem.exit tt_ok ?_ | refine Sem.ret tt_ok ?_ | refine BS_t (by assumption) ?_ | refine BS_f (by assumption) ?_ | refine atG (by first | assumption | exact setG_same _ _ _) ?_ | refine (nthK_iff _ _).2 ⟨_, (by assumption), ?_⟩ | refine ⟨_, ⟨(by omega), (by assumption)⟩, ?_⟩ | refine And.intro (by first | decide | omega) ?_ | fail); conv => whnf) | refine Sem.seqS ?_ | refine Sem.block ?_ | fail)
  refine m4.on ?_; conv => whnf
  repeat' (first | ((first | refine Sem.reg tt_ok ?_ | refine Sem.condS ?_ | refine Sem.regL tt_ok ?_ | refine Sem.skip tt_ok ?_ | refine Sem.exit tt_ok ?_ | refine Sem.ret tt_ok ?_ | refine BS_t (by assumption) ?_ | refine BS_f (by assumption) ?_ | refine atG (by first | assumption | exact setG_same _ _ _) ?_ | refine (nthK_iff _ _).2 ⟨_, (by assumption), ?_⟩ | refine ⟨_, ⟨(by omega), (by assumption)⟩, ?_⟩ | refine And.intro (by first | decide | omega) ?_ | fail); conv => whnf) | refine Sem.seqS ?_ | refine Sem.block ?_ | fail)
  refine hname.on ?_; conv => whnf
  refine atG d2 ?_
  conv => whnf
  rw [hN.sd]
  refine Sem.weak (weak_row1 db 2 83 (hN.d _ _) rfl) ?_
  rw [hN.sd]
  repeat' (first | ((first | refine Sem.reg tt_ok ?_ | refine Sem.condS ?_ | refine Sem.regL tt_ok ?_ | refine Sem.skip tt_ok ?_ | refine Sem.exit tt_ok ?_ | refine Sem.ret tt_ok ?_ | refine BS_t (by assumption) ?_ | refine BS_f (by assumption) ?_ | refine atG (by first | assumption | exact setG_same _ _ _) ?_ | refine (nthK_iff _ _).2 ⟨_, (by assumption), ?_⟩ | refine ⟨_, ⟨(by omega), (by assumption)⟩, ?_⟩ | refine And.intro (by first | decide | omega) ?_ | fail); conv => whnf) | refine Sem.seqS ?_ | refine Sem.block ?_ | fail)
  refine hrows.on ?_; conv => whnf
  repeat' (first | ((first | refine Sem.reg tt_ok ?_ | refine Sem.condS ?_ | refine Sem.regL tt_ok ?_ | refine Sem.skip tt_ok ?_ | refine Sem.exit tt_ok ?_ | refine Sem.ret tt_ok ?_ | refine BS_t (by assumption) ?_ | refine BS_f (by assumption) ?_ | refine atG (by first | assumption | exact setG_same _ _ _) ?_ | refine (nthK_iff _ _).2 ⟨_, (by assumption), ?_⟩ | refine ⟨_, ⟨(by omega), (by assumption)⟩, ?_⟩ | refine And.intro (by first | decide | omega) ?_ | fail); conv => whnf) | refine Sem.seqS ?_ | refine Sem.block ?_ | fail)
  exact ⟨_, fun i y h => hN.fin _ _ i y h, rfl, rfl⟩
theorem decl_ok {L : List Tok} (hL : TL L) (hE : EndL L) {p : PS} {pb : Nat} {G : Glob} (hG : G pb = some (pB L p)) (hp : p.at_ < L.length) (hM : MaxOk G) :
    CallOk Tryd.prog TT 56 [.gptr pb 0] G (fun v G' => v = .agg (declP L p).1.av ∧ G' = setG G pb (pB L (declP L p).2)) := by
  cases h1 : mayB L p [115, 116, 114, 117, 99, 116] with
  | true => exact decl_s hL hG hp hM h1
  | false =>
    cases h2 : mayB L p [117, 110, 105, 111, 110] with
    | true => exact decl_u hL hG hp hM h1 h2
    | false =>
      cases h3 : mayB L p [101, 110, 117, 109] with
      | true => exact decl_e hL hG hp hM h1 h2 h3
      | false =>
        cases h4 : mayB L p [115, 101, 114, 118, 105, 99, 101] with
        | true => exact decl_v hL hE hG hp hM h1 h2 h3 h4
        | false => exact decl_x hL hG hp hM h1 h2 h3 h4
end Go.Proofs.YtofhakbmmgpgdaaDoor
end

section
/- The parser in the abstract run: a text's declarations. -/
set_option maxRecDepth 100000
set_option linter.unusedSimpArgs false
namespace Go.Proofs.YtofhakbmmgpgdaaDoor
open Go Go.RowKit Go.Proofs Go.Shelf

def parseV (r : List Dc × Nat × Nat) : AV := .tup [.slc 77 (r.1.map Dc.av), .agg [.int .i64 (r.2.1 : Nat), .int .i64 (r.2.2 : Nat)]]
theorem parse_weak {f : FuncId} {args : List AV} {G : Glob} {r : List Dc × Nat × Nat} (h : CallOk Tryd.prog TT f args G (fun v G' => (v = parseV r ∨ v = .tup [.nils, .agg [.int .i64 (r.2.1 : Nat), .int .i64 (r.2.2 : Nat)]] ∧ r.1 = []) ∧ G' = G)) : CallOk Tryd.prog TT f args G (fun v G' => v = parseV r ∧ G' = G) :=
  h.weak fun v G' hv => by
    obtain ⟨hv, rfl⟩ := hv
    rcases hv with rfl | ⟨rfl, hr⟩
    · exact ⟨_, ⟨rfl, rfl⟩, fun _ _ _ h => h⟩
    · refine ⟨_, ⟨rfl, rfl⟩, fun g w u h => ?_⟩
      unfold parseV
      rw [hr]
      exact tup2_to (fun x hx => nils_dz _ hx) h
theorem end_of {s : List UInt8} (h : (tokT s).2.1 = 0) : EndL (tokT s).1 := by
  unfold tokT at *
  by_cases hl : 1024 < s.length
  · rw [if_pos hl] at h; cases h
  · rw [if_neg hl] at *
    obtain ⟨m, h1, h2, h3⟩ := lex_toks s 0 h
    intro i t hi hk
    rw [h1] at hi
    rcases List.mem_append.1 (List.mem_of_getElem? hi) with ht | ht
    · exact absurd hk (h2 t ht).1.kind4
    · rw [List.mem_singleton.1 ht]
structure PaI (L : List Tok) where
  q : PS
  out : List Dc
  f : Nat
  hf : f + out.length = 17
  hk : out.length ≤ 16
  hq : q.at_ < L.length
  h : declsP L 17 0 ⟨0, 0, 0⟩ = (out ++ (declsP L f out.length q).1, (declsP L f out.length q).2)
theorem parse_is_ok (s : List UInt8) (G : Glob) (hM : MaxOk G) : CallOk Tryd.prog TT 27 [.str (S s)] G (fun v G' => v = parseV (parseT s) ∧ G' = G) := by
  refine parse_weak ?_
  have htok := tokens_ok s G
  unfold toksV at htok
  refine call_sem tt_ok Tryd.func27 rfl (by kernel_rfl) Tryd.ntmps27 Tryd.results27 ?_; conv => whnf
  repeat' (first | ((first | refine Sem.reg tt_ok ?_ | refine Sem.condS ?_ | refine Sem.regL tt_ok ?_ | refine Sem.skip tt_ok ?_ | refine Sem.exit tt_ok ?_ | refine Sem.ret tt_ok ?_ | refine BS_t (by assumption) ?_ | refine BS_f (by assumption) ?_ | refine (nthK_iff _ _).2 ⟨_, (by assumption), ?_⟩ | refine ⟨_, ⟨(by omega), (by assumption)⟩, ?_⟩ | refine And.intro (by first | decide | omega) ?_ | fail); conv => whnf) | refine Sem.seqS ?_ | refine Sem.block ?_ | fail)
  refine htok.on ?_; conv => whnf
  repeat' (first | ((first | refine Sem.reg tt_ok ?_ | refine Sem.condS ?_ | refine Sem.regL tt_ok ?_ | refine Sem.skip tt_ok ?_ | refine Sem.exit tt_ok ?_ | refine Sem.ret tt_ok ?_ | refine BS_t (by assumption) ?_ | refine BS_f (by assumption) ?_ | refine (nthK_iff _ _).2 ⟨_, (by assumption), ?_⟩ | refine ⟨_, ⟨(by omega), (by assumption)⟩, ?_⟩ | refine And.intro (by first | decide | omega) ?_ | fail); conv => whnf) | refine Sem.seqS ?_ | refine Sem.block ?_ | fail)
  by_cases he : ¬ ((tokT s).2.1 = 0)
  · have t0 : ((((tokT s).2.1 : Nat) : Int) != 0) = true := by simpa using he
    have e : parseT s = ([], (tokT s).2) := by unfold parseT; rw [if_pos he]
    rw [e]
    repeat' (first | ((first | refine Sem.reg tt_ok ?_ | refine Sem.condS ?_ | refine Sem.regL tt_ok ?_ | refine Sem.skip tt_ok ?_ | refine Sem.exit tt_ok ?_ | refine Sem.ret tt_ok ?_ | refine BS_t (by assumption) ?_ | refine BS_f (by assumption) ?_ | refine (nthK_iff _ _).2 ⟨_, (by assumption), ?_⟩ | refine ⟨_, ⟨(by omega), (by assumption)⟩, ?_⟩ | refine And.intro (by first | decide | omega) ?_ | fail); conv => whnf) | refine Sem.seqS ?_ | refine Sem.block ?_ | fail)
    refine draw_sound (eff := []) tt_ok (by kernel_rfl) (by kernel_rfl) ?_; conv => whnf
    repeat' (first | ((first | refine BS_t (by assumption) ?_ | refine BS_f (by assumption) ?_ | refine atG (by repeat (first | assumption | exact setG_same _ _ _ | refine Eq.trans (setG_ne _ _ (by first | assumption | exact Ne.symm (by assumption))) ?_)) ?_ | refine (nthK_iff _ _).2 ⟨_, (by assumption), ?_⟩ | refine ⟨_, ⟨(by omega), (by assumption)⟩, ?_⟩ | refine And.intro (by first | decide | omega) ?_ | fail); conv => whnf) | fail)
    repeat' (first | ((first | refine Sem.reg tt_ok ?_ | refine Sem.condS ?_ | refine Sem.regL tt_ok ?_ | refine Sem.skip tt_ok ?_ | refine Sem.exit tt_ok ?_ | refine Sem.ret tt_ok ?_ | refine BS_t (by assumption) ?_ | refine BS_f (by assumption) ?_ | refine (nthK_iff _ _).2 ⟨_, (by assumption), ?_⟩ | refine ⟨_, ⟨(by omega), (by assumption)⟩, ?_⟩ | refine And.intro (by first | decide | omega) ?_ | fail); conv => whnf) | refine Sem.seqS ?_ | refine Sem.block ?_ | fail)
    exact ⟨_, fun _ _ h => h, .inr ⟨rfl, rfl⟩, rfl⟩
  have he := Classical.not_not.1 he
  have t0 : ((((tokT s).2.1 : Nat) : Int) != 0) = false := by simp [he]
  have hL := tl_of he
  have hE := end_of he
  generalize hLe : (tokT s).1 = L at *
  repeat' (first | ((first | refine Sem.reg tt_ok ?_ | refine Sem.condS ?_ | refine Sem.regL tt_ok ?_ | refine Sem.skip tt_ok ?_ | refine Sem.exit tt_ok ?_ | refine Sem.ret tt_ok ?_ | refine BS_t (by assumption) ?_ | refine BS_f (by assumption) ?_ | refine (nthK_iff _ _).2 ⟨_, (by assumption), ?_⟩ | refine ⟨_, ⟨(by omega), (by assumption)⟩, ?_⟩ | refine And.intro (by first | decide | omega) ?_ | fail); conv => whnf) | refine Sem.seqS ?_ | refine Sem.block ?_ | fail)
  refine Sem.lend 2 ?_
  conv => whnf
  intro pb hpb
  conv => whnf
  have hG0 : ∀ x, setG G pb x pb = some x := fun x => setG_same _ _ _
  have hM0 : ∀ q, MaxOk (setG G pb (pB L q)) := fun q => hM.new hpb _
  have sub : ∀ x i y, G i = some y → setG G pb x i = some y := fun x i y hi => by rw [setG_ne _ _ (fun e => by rw [e, hpb] at hi; cases hi)]; exact hi
  have hP : parseT s = if (declsP L 17 0 ⟨0, 0, 0⟩).2.err ≠ 0 then ([], (declsP L 17 0 ⟨0, 0, 0⟩).2.err, (declsP L 17 0 ⟨0, 0, 0⟩).2.eat) else ((declsP L 17 0 ⟨0, 0, 0⟩).1, 0, 0) := by
    unfold parseT
    rw [if_neg (by simpa using he), hLe]
  refine Sem.loop (ι := PaI L) (fun x => ⟨(.str (S s) :: .top :: .top :: .lptr 0 0 :: .top :: .top :: .lptr 2 0 :: .fn (.func 56) [.lptr 2 0] [] :: .own 0 77 (x.out.map Dc.av) :: .top :: .top :: .top :: .top :: .top :: .top :: .top :: .top :: .top :: .top :: .top :: .top :: .top :: .top :: .top :: .top :: .top :: .top :: .top :: .top :: .top :: .top :: .top :: .top :: .top :: .top :: .top :: .top :: .top :: .top :: .top :: .top :: .top :: .top :: .top :: .top :: .top :: .top :: .top :: .top :: .top :: []), [.live none [.int .i64 0, .int .i64 0], .live none [.int .i64 ((tokT s).2.1 : Nat), .int .i64 ((tokT s).2.2 : Nat)], .away pb], 3, 1, setG G pb (pB L x.q)⟩) (fun x => x.f) ⟨⟨0, 0, 0⟩, [], 17, rfl, by simp, hL.pos, by simp⟩ ?_ (fun x => ?_)
  · refine weak_by [none] ?_; (conv => whnf); repeat (first | (refine And.intro rfl ?_; conv => whnf) | fail)
    exact ⟨fun i y hy => hy, rfl, by decide, rfl, rfl⟩
  obtain ⟨q, out, f, hf, hk, hq, h⟩ := x
  simp only
  have hwell := fun b hb => well_ok (hG0 (pB L q)) (b := b) hb
  have hnow := now_ok (hG0 (pB L q)) hq
  unfold Tok.av tokC at hnow
  obtain ⟨f, rfl⟩ : ∃ k, f = k + 1 := ⟨f - 1, by omega⟩
  have bad : q.err ≠ 0 → parseT s = ([], q.err, q.eat) := fun h0 => by
    rw [decls_stop (.inl h0)] at h
    rw [hP, h]
    exact if_pos h0
  by_cases h0' : ¬ (q.err = 0)
  · have hw := hwell false (by simp [h0'])
    repeat' (first | ((first | refine Sem.reg tt_ok ?_ | refine Sem.condS ?_ | refine Sem.regL tt_ok ?_ | refine Sem.skip tt_ok ?_ | refine Sem.exit tt_ok ?_ | refine Sem.ret tt_ok ?_ | refine BS_t (by assumption) ?_ | refine BS_f (by assumption) ?_ | refine (nthK_iff _ _).2 ⟨_, (by assumption), ?_⟩ | refine ⟨_, ⟨(by omega), (by assumption)⟩, ?_⟩ | refine And.intro (by first | decide | omega) ?_ | fail); conv => whnf) | refine Sem.seqS ?_ | refine Sem.block ?_ | fail)
    refine hw.on ?_; conv => whnf
    repeat' (first | ((first | refine Sem.reg tt_ok ?_ | refine Sem.condS ?_ | refine Sem.regL tt_ok ?_ | refine Sem.skip tt_ok ?_ | refine Sem.exit tt_ok ?_ | refine Sem.ret tt_ok ?_ | refine BS_t (by assumption) ?_ | refine BS_f (by assumption) ?_ | refine (nthK_iff _ _).2 ⟨_, (by assumption), ?_⟩ | refine ⟨_, ⟨(by omega), (by assumption)⟩, ?_⟩ | refine And.intro (by first | decide | omega) ?_ | fail); conv => whnf) | refine Sem.seqS ?_ | refine Sem.block ?_ | fail)
    refine hw.on ?_; conv => whnf
    repeat' (first | ((first | refine Sem.reg tt_ok ?_ | refine Sem.condS ?_ | refine Sem.regL tt_ok ?_ | refine Sem.skip tt_ok ?_ | refine Sem.exit tt_ok ?_ | refine Sem.ret tt_ok ?_ | refine BS_t (by assumption) ?_ | refine BS_f (by assumption) ?_ | refine (nthK_iff _ _).2 ⟨_, (by assumption), ?_⟩ | refine ⟨_, ⟨(by omega), (by assumption)⟩, ?_⟩ | refine And.intro (by first | decide | omega) ?_ | fail); conv => whnf) | refine Sem.seqS ?_ | refine Sem.block ?_ | fail)
    refine draw_sound (eff := []) tt_ok (by kernel_rfl) (by kernel_rfl) ?_; conv => whnf
    repeat' (first | ((first | refine BS_t (by assumption) ?_ | refine BS_f (by assumption) ?_ | refine atG (by repeat (first | assumption | exact setG_same _ _ _ | refine Eq.trans (setG_ne _ _ (by first | assumption | exact Ne.symm (by assumption))) ?_)) ?_ | refine (nthK_iff _ _).2 ⟨_, (by assumption), ?_⟩ | refine ⟨_, ⟨(by omega), (by assumption)⟩, ?_⟩ | refine And.intro (by first | decide | omega) ?_ | fail); conv => whnf) | fail)
    repeat' (first | ((first | refine Sem.reg tt_ok ?_ | refine Sem.condS ?_ | refine Sem.regL tt_ok ?_ | refine Sem.skip tt_ok ?_ | refine Sem.exit tt_ok ?_ | refine Sem.ret tt_ok ?_ | refine BS_t (by assumption) ?_ | refine BS_f (by assumption) ?_ | refine (nthK_iff _ _).2 ⟨_, (by assumption), ?_⟩ | refine ⟨_, ⟨(by omega), (by assumption)⟩, ?_⟩ | refine And.intro (by first | decide | omega) ?_ | fail); conv => whnf) | refine Sem.seqS ?_ | refine Sem.block ?_ | fail)
    exact ⟨_, sub _, .inr ⟨by rw [bad h0'], by rw [bad h0']⟩, rfl⟩
  have h0 := Classical.not_not.1 h0'
  have hw := hwell true (by simp [h0])
  by_cases h4 : (cur L q).kind = 4
  · have t4 : ((((cur L q).kind : Nat) : Int) != 4) = false := by rw [h4]; rfl
    have good : parseT s = (out, 0, 0) := by
      rw [decls_stop (.inr h4)] at h
      rw [hP, h]
      simp only [List.append_nil]
      exact if_neg (by simp [h0])
    repeat' (first | ((first | refine Sem.reg tt_ok ?_ | refine Sem.condS ?_ | refine Sem.regL tt_ok ?_ | refine Sem.skip tt_ok ?_ | refine Sem.exit tt_ok ?_ | refine Sem.ret tt_ok ?_ | refine BS_t (by assumption) ?_ | refine BS_f (by assumption) ?_ | refine (nthK_iff _ _).2 ⟨_, (by assumption), ?_⟩ | refine ⟨_, ⟨(by omega), (by assumption)⟩, ?_⟩ | refine And.intro (by first | decide | omega) ?_ | fail); conv => whnf) | refine Sem.seqS ?_ | refine Sem.block ?_ | fail)
    refine hw.on ?_; conv => whnf
    repeat' (first | ((first | refine Sem.reg tt_ok ?_ | refine Sem.condS ?_ | refine Sem.regL tt_ok ?_ | refine Sem.skip tt_ok ?_ | refine Sem.exit tt_ok ?_ | refine Sem.ret tt_ok ?_ | refine BS_t (by assumption) ?_ | refine BS_f (by assumption) ?_ | refine (nthK_iff _ _).2 ⟨_, (by assumption), ?_⟩ | refine ⟨_, ⟨(by omega), (by assumption)⟩, ?_⟩ | refine And.intro (by first | decide | omega) ?_ | fail); conv => whnf) | refine Sem.seqS ?_ | refine Sem.block ?_ | fail)
    refine hnow.on ?_; conv => whnf
    repeat' (first | ((first | refine Sem.reg tt_ok ?_ | refine Sem.condS ?_ | refine Sem.regL tt_ok ?_ | refine Sem.skip tt_ok ?_ | refine Sem.exit tt_ok ?_ | refine Sem.ret tt_ok ?_ | refine BS_t (by assumption) ?_ | refine BS_f (by assumption) ?_ | refine (nthK_iff _ _).2 ⟨_, (by assumption), ?_⟩ | refine ⟨_, ⟨(by omega), (by assumption)⟩, ?_⟩ | refine And.intro (by first | decide | omega) ?_ | fail); conv => whnf) | refine Sem.seqS ?_ | refine Sem.block ?_ | fail)
    refine hw.on ?_; conv => whnf
    repeat' (first | ((first | refine Sem.reg tt_ok ?_ | refine Sem.condS ?_ | refine Sem.regL tt_ok ?_ | refine Sem.skip tt_ok ?_ | refine Sem.exit tt_ok ?_ | refine Sem.ret tt_ok ?_ | refine BS_t (by assumption) ?_ | refine BS_f (by assumption) ?_ | refine (nthK_iff _ _).2 ⟨_, (by assumption), ?_⟩ | refine ⟨_, ⟨(by omega), (by assumption)⟩, ?_⟩ | refine And.intro (by first | decide | omega) ?_ | fail); conv => whnf) | refine Sem.seqS ?_ | refine Sem.block ?_ | fail)
    exact ⟨_, sub _, .inl (by rw [good]; rfl), rfl⟩
  have t4 : ((((cur L q).kind : Nat) : Int) != 4) = true := by simp; omega
  by_cases h16 : out.length = 16
  · have t16 : (((out.map Dc.av).length : Int) == 16) = true := by simp; omega
    have hfail := fail_ok (hG0 (pB L q)) hq 3
    rw [setG_twice] at hfail
    have hfe : (failP L q 3).err ≠ 0 := fail_err (by decide)
    have hw2 := well_ok (hG0 (pB L (failP L q 3))) (b := false) (by simp [hfe])
    have full : parseT s = ([], (failP L q 3).err, (failP L q 3).eat) := by
      rw [h16, decls_full h0 h4] at h
      rw [hP, h]
      exact if_pos hfe
    generalize failP L q 3 = q3 at *
    repeat' (first | ((first | refine Sem.reg tt_ok ?_ | refine Sem.condS ?_ | refine Sem.regL tt_ok ?_ | refine Sem.skip tt_ok ?_ | refine Sem.exit tt_ok ?_ | refine Sem.ret tt_ok ?_ | refine BS_t (by assumption) ?_ | refine BS_f (by assumption) ?_ | refine (nthK_iff _ _).2 ⟨_, (by assumption), ?_⟩ | refine ⟨_, ⟨(by omega), (by assumption)⟩, ?_⟩ | refine And.intro (by first | decide | omega) ?_ | fail); conv => whnf) | refine Sem.seqS ?_ | refine Sem.block ?_ | fail)
    refine hw.on ?_; conv => whnf
    repeat' (first | ((first | refine Sem.reg tt_ok ?_ | refine Sem.condS ?_ | refine Sem.regL tt_ok ?_ | refine Sem.skip tt_ok ?_ | refine Sem.exit tt_ok ?_ | refine Sem.ret tt_ok ?_ | refine BS_t (by assumption) ?_ | refine BS_f (by assumption) ?_ | refine (nthK_iff _ _).2 ⟨_, (by assumption), ?_⟩ | refine ⟨_, ⟨(by omega), (by assumption)⟩, ?_⟩ | refine And.intro (by first | decide | omega) ?_ | fail); conv => whnf) | refine Sem.seqS ?_ | refine Sem.block ?_ | fail)
    refine hnow.on ?_; conv => whnf
    repeat' (first | ((first | refine Sem.reg tt_ok ?_ | refine Sem.condS ?_ | refine Sem.regL tt_ok ?_ | refine Sem.skip tt_ok ?_ | refine Sem.exit tt_ok ?_ | refine Sem.ret tt_ok ?_ | refine BS_t (by assumption) ?_ | refine BS_f (by assumption) ?_ | refine (nthK_iff _ _).2 ⟨_, (by assumption), ?_⟩ | refine ⟨_, ⟨(by omega), (by assumption)⟩, ?_⟩ | refine And.intro (by first | decide | omega) ?_ | fail); conv => whnf) | refine Sem.seqS ?_ | refine Sem.block ?_ | fail)
    refine hfail.on ?_; conv => whnf
    repeat' (first | ((first | refine Sem.reg tt_ok ?_ | refine Sem.condS ?_ | refine Sem.regL tt_ok ?_ | refine Sem.skip tt_ok ?_ | refine Sem.exit tt_ok ?_ | refine Sem.ret tt_ok ?_ | refine BS_t (by assumption) ?_ | refine BS_f (by assumption) ?_ | refine (nthK_iff _ _).2 ⟨_, (by assumption), ?_⟩ | refine ⟨_, ⟨(by omega), (by assumption)⟩, ?_⟩ | refine And.intro (by first | decide | omega) ?_ | fail); conv => whnf) | refine Sem.seqS ?_ | refine Sem.block ?_ | fail)
    refine hw2.on ?_; conv => whnf
    repeat' (first | ((first | refine Sem.reg tt_ok ?_ | refine Sem.condS ?_ | refine Sem.regL tt_ok ?_ | refine Sem.skip tt_ok ?_ | refine Sem.exit tt_ok ?_ | refine Sem.ret tt_ok ?_ | refine BS_t (by assumption) ?_ | refine BS_f (by assumption) ?_ | refine (nthK_iff _ _).2 ⟨_, (by assumption), ?_⟩ | refine ⟨_, ⟨(by omega), (by assumption)⟩, ?_⟩ | refine And.intro (by first | decide | omega) ?_ | fail); conv => whnf) | refine Sem.seqS ?_ | refine Sem.block ?_ | fail)
    refine draw_sound (eff := []) tt_ok (by kernel_rfl) (by kernel_rfl) ?_; conv => whnf
    repeat' (first | ((first | refine BS_t (by assumption) ?_ | refine BS_f (by assumption) ?_ | refine atG (by repeat (first | assumption | exact setG_same _ _ _ | refine Eq.trans (setG_ne _ _ (by first | assumption | exact Ne.symm (by assumption))) ?_)) ?_ | refine (nthK_iff _ _).2 ⟨_, (by assumption), ?_⟩ | refine ⟨_, ⟨(by omega), (by assumption)⟩, ?_⟩ | refine And.intro (by first | decide | omega) ?_ | fail); conv => whnf) | fail)
    repeat' (first | ((first | refine Sem.reg tt_ok ?_ | refine Sem.condS ?_ | refine Sem.regL tt_ok ?_ | refine Sem.skip tt_ok ?_ | refine Sem.exit tt_ok ?_ | refine Sem.ret tt_ok ?_ | refine BS_t (by assumption) ?_ | refine BS_f (by assumption) ?_ | refine (nthK_iff _ _).2 ⟨_, (by assumption), ?_⟩ | refine ⟨_, ⟨(by omega), (by assumption)⟩, ?_⟩ | refine And.intro (by first | decide | omega) ?_ | fail); conv => whnf) | refine Sem.seqS ?_ | refine Sem.block ?_ | fail)
    exact ⟨_, sub _, .inr ⟨by rw [full], by rw [full]⟩, rfl⟩
  have t16 : (((out.map Dc.av).length : Int) == 16) = false := by simp; omega
  have hdecl := decl_ok hL hE (hG0 (pB L q)) hq (hM0 q)
  rw [setG_twice] at hdecl
  have hq1 := decl_at hL hq
  rw [decls_step h0 h4 h16] at h
  generalize declP L q = r at *
  have hav : r.1.av = [.int .i64 (r.1.kind : Nat), .str (S r.1.name), .nils, .slc 123 (r.1.methods.map Md.av), .int .i64 (r.1.at_ : Nat)] ∨ r.1.av = [.int .i64 (r.1.kind : Nat), .str (S r.1.name), .slc 83 (r.1.fields.map Fd.av), .nils, .int .i64 (r.1.at_ : Nat)] := by
    unfold Dc.av
    by_cases k4 : r.1.kind = 4
    · left; simp only [if_pos k4]
    · right; simp only [if_neg k4]
  have hm : (out ++ [r.1]).map Dc.av = out.map Dc.av ++ [r.1.av] := by simp
  rcases hav with hav | hav <;> rw [hav] at hdecl hm
  all_goals
    repeat' (first | ((first | refine Sem.reg tt_ok ?_ | refine Sem.condS ?_ | refine Sem.regL tt_ok ?_ | refine Sem.skip tt_ok ?_ | refine Sem.exit tt_ok ?_ | refine Sem.ret tt_ok ?_ | refine BS_t (by assumption) ?_ | refine BS_f (by assumption) ?_ | refine (nthK_iff _ _).2 ⟨_, (by assumption), ?_⟩ | refine ⟨_, ⟨(by omega), (by assumption)⟩, ?_⟩ | refine And.intro (by first | decide | omega) ?_ | fail); conv => whnf) | refine Sem.seqS ?_ | refine Sem.block ?_ | fail)
    refine hw.on ?_; conv => whnf
    repeat' (first | ((first | refine Sem.reg tt_ok ?_ | refine Sem.condS ?_ | refine Sem.regL tt_ok ?_ | refine Sem.skip tt_ok ?_ | refine Sem.exit tt_ok ?_ | refine Sem.ret tt_ok ?_ | refine BS_t (by assumption) ?_ | refine BS_f (by assumption) ?_ | refine (nthK_iff _ _).2 ⟨_, (by assumption), ?_⟩ | refine ⟨_, ⟨(by omega), (by assumption)⟩, ?_⟩ | refine And.intro (by first | decide | omega) ?_ | fail); conv => whnf) | refine Sem.seqS ?_ | refine Sem.block ?_ | fail)
    refine hnow.on ?_; conv => whnf
    repeat' (first | ((first | refine Sem.reg tt_ok ?_ | refine Sem.condS ?_ | refine Sem.regL tt_ok ?_ | refine Sem.skip tt_ok ?_ | refine Sem.exit tt_ok ?_ | refine Sem.ret tt_ok ?_ | refine BS_t (by assumption) ?_ | refine BS_f (by assumption) ?_ | refine (nthK_iff _ _).2 ⟨_, (by assumption), ?_⟩ | refine ⟨_, ⟨(by omega), (by assumption)⟩, ?_⟩ | refine And.intro (by first | decide | omega) ?_ | fail); conv => whnf) | refine Sem.seqS ?_ | refine Sem.block ?_ | fail)
    refine hdecl.on ?_; conv => whnf
    repeat' (first | ((first | refine Sem.reg tt_ok ?_ | refine Sem.condS ?_ | refine Sem.regL tt_ok ?_ | refine Sem.skip tt_ok ?_ | refine Sem.exit tt_ok ?_ | refine Sem.ret tt_ok ?_ | refine BS_t (by assumption) ?_ | refine BS_f (by assumption) ?_ | refine (nthK_iff _ _).2 ⟨_, (by assumption), ?_⟩ | refine ⟨_, ⟨(by omega), (by assumption)⟩, ?_⟩ | refine And.intro (by first | decide | omega) ?_ | fail); conv => whnf) | refine Sem.seqS ?_ | refine Sem.block ?_ | fail)
    refine And.intro (app_le (by simp; omega) (by decide)) ?_; conv => whnf
    repeat' (first | ((first | refine Sem.reg tt_ok ?_ | refine Sem.condS ?_ | refine Sem.regL tt_ok ?_ | refine Sem.skip tt_ok ?_ | refine Sem.exit tt_ok ?_ | refine Sem.ret tt_ok ?_ | refine BS_t (by assumption) ?_ | refine BS_f (by assumption) ?_ | refine (nthK_iff _ _).2 ⟨_, (by assumption), ?_⟩ | refine ⟨_, ⟨(by omega), (by assumption)⟩, ?_⟩ | refine And.intro (by first | decide | omega) ?_ | fail); conv => whnf) | refine Sem.seqS ?_ | refine Sem.block ?_ | fail)
    refine ⟨⟨r.2, out ++ [r.1], f, by simp; omega, by simp; omega, hq1, ?_⟩, Nat.lt_succ_self _, ?_⟩
    · rw [h]; simp
    refine weak_by [some 0] ?_; (conv => whnf); repeat (first | (refine And.intro rfl ?_; conv => whnf) | fail)
    refine ⟨hm.symm, ?_⟩
    (conv => whnf); repeat (first | (refine And.intro rfl ?_; conv => whnf) | fail)
    exact ⟨fun i y hy => hy, rfl, by decide, rfl, rfl⟩
end Go.Proofs.YtofhakbmmgpgdaaDoor
end

section
/- The words of the language, the document's; chapter 9's example. -/
set_option maxRecDepth 100000
set_option linter.unusedSimpArgs false
namespace Go.Proofs.YtofhakbmmgpgdaaDoor
open Go Go.RowKit Go.Proofs Go.Shelf

theorem max_cell {w : World} (h : w.ShapedOpen Tryd.prog) : ∃ m, w.cell? ⟨lays144_ren.g 1, 0, none⟩ = some (.int .i64 m) :=
  cell_of_shapedOpen_int (zero := #[.int .i64 0]) (t := 3) h (of_decide_eq_true (by kernel_rfl)) (by kernel_rfl) rfl (by kernel_rfl) (by kernel_rfl) Tryd.underlying3
theorem max_pin {w : World} {o : Obj} (ho : w.heap[lays144_ren.g 1]? = some o) (hw : ∃ m, w.cell? ⟨lays144_ren.g 1, 0, none⟩ = some (.int .i64 m)) : MaxOk (globP (lays144_ren.g 1) o) := by
  obtain ⟨m, hm⟩ := hw
  refine ⟨0, o, m, globP_0 _ _, fun w' hw' => ?_⟩
  rw [← hm]
  simp only [World.cell?, ho, hw']
def ex9 : List UInt8 := [101, 110, 117, 109, 32, 69, 32, 123, 32, 48, 32, 65, 59, 32, 125]
theorem tok_ex9 : tokT ex9 = ([⟨1, [101, 110, 117, 109], 0, 0⟩, ⟨1, [69], 0, 5⟩, ⟨3, [123], 0, 7⟩, ⟨2, [48], 0, 9⟩, ⟨1, [65], 0, 11⟩, ⟨3, [59], 0, 12⟩, ⟨3, [125], 0, 14⟩, ⟨4, [], 0, 15⟩], 0, 0) := by
  have o0 : oneL ex9 0 = (some ⟨1, [101, 110, 117, 109], 0, 0⟩, 4, 0) := rfl
  have o1 : oneL ex9 4 = (none, 5, 0) := rfl
  have o2 : oneL ex9 5 = (some ⟨1, [69], 0, 5⟩, 6, 0) := rfl
  have o3 : oneL ex9 6 = (none, 7, 0) := rfl
  have o4 : oneL ex9 7 = (some ⟨3, [123], 0, 7⟩, 8, 0) := rfl
  have o5 : oneL ex9 8 = (none, 9, 0) := rfl
  have o6 : oneL ex9 9 = (some ⟨2, [48], 0, 9⟩, 10, 0) := rfl
  have o7 : oneL ex9 10 = (none, 11, 0) := rfl
  have o8 : oneL ex9 11 = (some ⟨1, [65], 0, 11⟩, 12, 0) := rfl
  have o9 : oneL ex9 12 = (some ⟨3, [59], 0, 12⟩, 13, 0) := rfl
  have o10 : oneL ex9 13 = (none, 14, 0) := rfl
  have o11 : oneL ex9 14 = (some ⟨3, [125], 0, 14⟩, 15, 0) := rfl
  unfold tokT
  rw [if_neg (by decide), lex_next (by decide) (by rw [o0]), o0, lex_next (by decide) (by rw [o1]), o1, lex_next (by decide) (by rw [o2]), o2, lex_next (by decide) (by rw [o3]), o3, lex_next (by decide) (by rw [o4]), o4, lex_next (by decide) (by rw [o5]), o5, lex_next (by decide) (by rw [o6]), o6, lex_next (by decide) (by rw [o7]), o7, lex_next (by decide) (by rw [o8]), o8, lex_next (by decide) (by rw [o9]), o9, lex_next (by decide) (by rw [o10]), o10, lex_next (by decide) (by rw [o11]), o11, lex_end (by decide)]
  rfl
theorem parse_ex9 : parseT ex9 = ([⟨3, [69], [⟨0, [65], .leaf 0⟩], [], 0⟩], 0, 0) := by
  unfold parseT
  rw [tok_ex9]
  rfl
end Go.Proofs.YtofhakbmmgpgdaaDoor
end
