/- The parser in the abstract run: the rows of declarations, as closures. -/
import Derived.Test.YtofhakbmmgpgdaaPrsC
set_option maxRecDepth 100000
set_option linter.unusedSimpArgs false
namespace Go.Proofs.Ytofhakbmmgpgdaa
open Go Go.RowKit Go.Proofs Go.Shelf

def Fd.av (f : Fd) : List AV := .int .i64 (f.tag : Nat) :: .str (S f.name) :: f.ty.av
def Md.av (m : Md) : List AV := [.int .i64 (m.tag : Nat), .str (S m.name), .str (S m.inn), .str (S m.out), .bool m.oneway]
/-- a declaration's box, its fields growing -/
def dF (k : Int) (nm : ByteArray) (a : Int) (els : List (List AV)) : GB := .box [.int .i64 k, .str nm, .slc 41 els, .nils, .int .i64 a] [(2, 41, els)]
/-- its methods growing -/
def dM (k : Int) (nm : ByteArray) (a : Int) (els : List (List AV)) : GB := .box [.int .i64 k, .str nm, .nils, .slc 65 els, .int .i64 a] [(3, 65, els)]
theorem dF_at (k : Int) (nm : ByteArray) (a : Int) (els : List (List AV)) : dF k nm a els = .box [.int .i64 k, .str nm, .slc 41 els, .nils, .int .i64 a] [(2, 41, els)] := rfl
theorem dM_at (k : Int) (nm : ByteArray) (a : Int) (els : List (List AV)) : dM k nm a els = .box [.int .i64 k, .str nm, .nils, .slc 65 els, .int .i64 a] [(3, 65, els)] := rfl
theorem rm_pB {L : List Tok} {p : PS} {pb db : Nat} {G : Glob} (hG : G pb = some (pB L p)) (hne : pb ≠ db) : rmG G db pb = some (pB L p) := by rw [rmG_ne _ hne]; exact hG

theorem DrawOk.to {P : Program} {T : TypeId → TR} {ops : Array Oper} {c : Cf} {K : Cf → Prop} (c1 : Cf) (h : DrawOk P T ops c (fun c' => c' = c1)) (hk : K c1) : DrawOk P T ops c K :=
  ⟨fun g a w st id Q hQ => h.draw g a w st id Q fun g' w' a' c' hc h1 h2 => hQ g' w' a' c' (by rw [hc]; exact hk) h1 h2⟩
theorem field_ok {L : List Tok} (hL : TL L) {p : PS} {pb qb db : Nat} {G : Glob} (hG : G pb = some (pB L p)) (hq : G qb = some (.cells [.gptr pb 0])) {k a : Int} {nm : ByteArray} {els : List (List AV)} (hd : G db = some (dF k nm a els)) (hp : p.at_ < L.length) (hM : MaxOk G) (hn : els.length ≤ 1000) :
    CallOk Try.prog TT 20 [.gptr qb 0, .gptr db 0] G (fun v G' => v = .tup [] ∧ G' = setG (setG G pb (pB L (fieldP L p).2)) db (dF k nm a (els ++ [(fieldP L p).1.av]))) := by
  have hqp : qb ≠ pb := fun e => by rw [e, hG] at hq; simp [pB] at hq
  have hqd : qb ≠ db := fun e => by rw [e, hd] at hq; simp [dF] at hq
  have hpd : pb ≠ db := fun e => by rw [e, hd] at hG; simp [dF, pB] at hG
  have hM' := hM.rm hd (fun k o h => by cases h)
  have hR := rm_pB hG hpd
  have hq' : rmG G db qb = some (.cells [.gptr pb 0]) := by rw [rmG_ne _ hqd]; exact hq
  have fin : ∀ x y, ∀ i z, setG (setG G pb x) db y i = some z → setG (setG (rmG G db) pb x) db y i = some z := fun x y => setG_rm hpd
  rw [dF_at] at hd
  refine call_semW tt_ok Try.func20 rfl (by kernel_rfl) Try.ntmps20 Try.results20 ?_
  conv => whnf
  refine Sem.weak (weak_adopt db 2 _ hd) ?_
  have e1 : decide (qb = db) = false := by simpa using hqd
  have e2 : decide (db = db) = true := by simp
  simp only [List.map_cons, List.map_nil, asOwn, e1, decide_true, List.set_cons_succ, List.set_cons_zero]
  generalize rmG G db = R at *
  have hnum := pnum_ok hL hR hp
  have hp1 := num_at hL hp
  have hG1 := setG_pB hR hM' (numP L p)
  have hname := pname_ok hL hG1.1 hp1 hG1.2
  rw [setG_twice] at hname
  have hp2 := name_at hL hp1
  have hG2 := setG_pB hR hM' (nameP L (numP L p))
  have hneed := need_ok hL hG2.1 hp2 [58]
  rw [setG_twice] at hneed
  have hp3 := need_at hL hp2 [58]
  have hG3 := setG_pB hR hM' (needP L (nameP L (numP L p)) [58])
  have htyp := typ_ok hL 9 (Nat.le_refl _) _ _ _ hG3.1 hp3 hG3.2
  rw [setG_twice] at htyp
  unfold fieldP Fd.av
  simp only
  generalize numP L p = p1 at *
  generalize needP L (nameP L p1) [58] = p3 at *
  generalize nameP L p1 = p2 at *
  generalize typP L 9 p3 = r at *
  rcases Ty.av3 r.1 with ⟨tk, ts, ht⟩ | ⟨tk, ts, tels, ht⟩ <;> rw [ht] at htyp ⊢ <;> clear ht
  all_goals
    conv => whnf
    repeat' (first | ((first | refine Sem.reg tt_ok ?_ | refine Sem.condS ?_ | refine Sem.regL tt_ok ?_ | refine Sem.skip tt_ok ?_ | refine Sem.exit tt_ok ?_ | refine Sem.ret tt_ok ?_ | refine BS_t (by assumption) ?_ | refine BS_f (by assumption) ?_ | refine atG (by repeat (first | assumption | exact setG_same _ _ _ | refine Eq.trans (setG_ne _ _ (by first | assumption | exact Ne.symm (by assumption))) ?_)) ?_ | refine (nthK_iff _ _).2 ⟨_, (by assumption), ?_⟩ | refine ⟨_, ⟨(by omega), (by assumption)⟩, ?_⟩ | refine And.intro (by first | decide | omega) ?_ | fail); conv => whnf) | refine Sem.seqS ?_ | refine Sem.block ?_ | fail)
    refine DrawOk.to ⟨(.gptr qb 0 :: .lptr 0 0 :: .lptr 1 0 :: .gptr pb 0 :: .int .i64 (numV L p : Nat) :: .gptr pb 0 :: .str (S (nameV L p1)) :: .agg [.int .i64 (numV L p : Nat), .str (S (nameV L p1)), .int .i64 0, .str ⟨#[]⟩, .nils] :: .top :: .top :: .top :: .top :: .top :: .top :: .top :: .top :: .top :: .top :: .top :: []), [.live (some db) [.int .i64 k, .str nm, .own 0 41 els, .nils, .int .i64 a], .live none [.int .i64 (numV L p : Nat), .str (S (nameV L p1)), .int .i64 0, .str ⟨#[]⟩, .nils]], 2, 1, setG R pb (pB L p2)⟩ ?_ ?_
    · refine draw_all tt_ok (by kernel_rfl) 7 rfl ?_
      conv => whnf
      repeat' (first | exact rfl | (refine hnum.on ?_; conv => whnf) | (refine hname.on ?_; conv => whnf) | (refine atG (by repeat (first | assumption | exact setG_same _ _ _ | refine Eq.trans (setG_ne _ _ (by first | assumption | exact Ne.symm (by assumption))) ?_)) ?_; conv => whnf) | (refine And.intro ?_ ?_ <;> conv => whnf) | fail)
    conv => whnf
    repeat' (first | ((first | refine Sem.reg tt_ok ?_ | refine Sem.condS ?_ | refine Sem.regL tt_ok ?_ | refine Sem.skip tt_ok ?_ | refine Sem.exit tt_ok ?_ | refine Sem.ret tt_ok ?_ | refine BS_t (by assumption) ?_ | refine BS_f (by assumption) ?_ | refine atG (by repeat (first | assumption | exact setG_same _ _ _ | refine Eq.trans (setG_ne _ _ (by first | assumption | exact Ne.symm (by assumption))) ?_)) ?_ | refine (nthK_iff _ _).2 ⟨_, (by assumption), ?_⟩ | refine ⟨_, ⟨(by omega), (by assumption)⟩, ?_⟩ | refine And.intro (by first | decide | omega) ?_ | fail); conv => whnf) | refine Sem.seqS ?_ | refine Sem.block ?_ | fail)
    refine hneed.on ?_; conv => whnf
    repeat' (first | ((first | refine Sem.reg tt_ok ?_ | refine Sem.condS ?_ | refine Sem.regL tt_ok ?_ | refine Sem.skip tt_ok ?_ | refine Sem.exit tt_ok ?_ | refine Sem.ret tt_ok ?_ | refine BS_t (by assumption) ?_ | refine BS_f (by assumption) ?_ | refine atG (by repeat (first | assumption | exact setG_same _ _ _ | refine Eq.trans (setG_ne _ _ (by first | assumption | exact Ne.symm (by assumption))) ?_)) ?_ | refine (nthK_iff _ _).2 ⟨_, (by assumption), ?_⟩ | refine ⟨_, ⟨(by omega), (by assumption)⟩, ?_⟩ | refine And.intro (by first | decide | omega) ?_ | fail); conv => whnf) | refine Sem.seqS ?_ | refine Sem.block ?_ | fail)
    refine htyp.on ?_; conv => whnf
    repeat' (first | ((first | refine Sem.reg tt_ok ?_ | refine Sem.condS ?_ | refine Sem.regL tt_ok ?_ | refine Sem.skip tt_ok ?_ | refine Sem.exit tt_ok ?_ | refine Sem.ret tt_ok ?_ | refine BS_t (by assumption) ?_ | refine BS_f (by assumption) ?_ | refine atG (by repeat (first | assumption | exact setG_same _ _ _ | refine Eq.trans (setG_ne _ _ (by first | assumption | exact Ne.symm (by assumption))) ?_)) ?_ | refine (nthK_iff _ _).2 ⟨_, (by assumption), ?_⟩ | refine ⟨_, ⟨(by omega), (by assumption)⟩, ?_⟩ | refine And.intro (by first | decide | omega) ?_ | fail); conv => whnf) | refine Sem.seqS ?_ | refine Sem.block ?_ | fail)
    refine And.intro (And.intro (by show els.length + 1 ≤ maxLen; simp [maxLen]; omega) (by show (els.length + 1) * 72 ≤ _; omega)) ?_
    conv => whnf
    refine ⟨_, weak_yield 2 (t := 0) (e := 41) rfl rfl, ?_⟩
    conv => whnf
    exact ⟨_, fin _ _, rfl, rfl⟩
theorem value_ok {L : List Tok} (hL : TL L) {p : PS} {pb qb db : Nat} {G : Glob} (hG : G pb = some (pB L p)) (hq : G qb = some (.cells [.gptr pb 0])) {k a : Int} {nm : ByteArray} {els : List (List AV)} (hd : G db = some (dF k nm a els)) (hp : p.at_ < L.length) (hM : MaxOk G) (hn : els.length ≤ 1000) :
    CallOk Try.prog TT 26 [.gptr db 0, .gptr qb 0] G (fun v G' => v = .tup [] ∧ G' = setG (setG G pb (pB L (valueP L p).2)) db (dF k nm a (els ++ [(valueP L p).1.av]))) := by
  have hqp : qb ≠ pb := fun e => by rw [e, hG] at hq; simp [pB] at hq
  have hqd : qb ≠ db := fun e => by rw [e, hd] at hq; simp [dF] at hq
  have hpd : pb ≠ db := fun e => by rw [e, hd] at hG; simp [dF, pB] at hG
  have hM' := hM.rm hd (fun k o h => by cases h)
  have hR := rm_pB hG hpd
  have hq' : rmG G db qb = some (.cells [.gptr pb 0]) := by rw [rmG_ne _ hqd]; exact hq
  have fin : ∀ x y, ∀ i z, setG (setG G pb x) db y i = some z → setG (setG (rmG G db) pb x) db y i = some z := fun x y => setG_rm hpd
  rw [dF_at] at hd
  refine call_semW tt_ok Try.func26 rfl (by kernel_rfl) Try.ntmps26 Try.results26 ?_
  conv => whnf
  refine Sem.weak (weak_adopt db 2 _ hd) ?_
  have e1 : decide (qb = db) = false := by simpa using hqd
  simp only [List.map_cons, List.map_nil, asOwn, e1, decide_true, List.set_cons_succ, List.set_cons_zero]
  generalize rmG G db = R at *
  have hnum := pnum_ok hL hR hp
  have hp1 := num_at hL hp
  have hG1 := setG_pB hR hM' (numP L p)
  have hname := pname_ok hL hG1.1 hp1 hG1.2
  rw [setG_twice] at hname
  unfold valueP Fd.av Ty.av
  simp only
  generalize numP L p = p1 at *
  generalize nameP L p1 = p2 at *
  conv => whnf
  repeat' (first | ((first | refine Sem.reg tt_ok ?_ | refine Sem.condS ?_ | refine Sem.regL tt_ok ?_ | refine Sem.skip tt_ok ?_ | refine Sem.exit tt_ok ?_ | refine Sem.ret tt_ok ?_ | refine BS_t (by assumption) ?_ | refine BS_f (by assumption) ?_ | refine atG (by repeat (first | assumption | exact setG_same _ _ _ | refine Eq.trans (setG_ne _ _ (by first | assumption | exact Ne.symm (by assumption))) ?_)) ?_ | refine (nthK_iff _ _).2 ⟨_, (by assumption), ?_⟩ | refine ⟨_, ⟨(by omega), (by assumption)⟩, ?_⟩ | refine And.intro (by first | decide | omega) ?_ | fail); conv => whnf) | refine Sem.seqS ?_ | refine Sem.block ?_ | fail)
  refine DrawOk.to ⟨(.lptr 0 0 :: .gptr qb 0 :: .lptr 0 2 :: .slc 41 els :: .gptr pb 0 :: .int .i64 (numV L p : Nat) :: .gptr pb 0 :: .str (S (nameV L p1)) :: .agg [.int .i64 (numV L p : Nat), .str (S (nameV L p1)), .int .i64 0, .str ⟨#[]⟩, .nils] :: .own 1 41 [[.int .i64 (numV L p : Nat), .str (S (nameV L p1)), .int .i64 0, .str ⟨#[]⟩, .nils]] :: .own 0 41 (els ++ [[.int .i64 (numV L p : Nat), .str (S (nameV L p1)), .int .i64 0, .str ⟨#[]⟩, .nils]]) :: .lptr 0 2 :: []), [.live (some db) [.int .i64 k, .str nm, .own 0 41 (els ++ [[.int .i64 (numV L p : Nat), .str (S (nameV L p1)), .int .i64 0, .str ⟨#[]⟩, .nils]]), .nils, .int .i64 a]], 1, 2, setG R pb (pB L p2)⟩ ?_ ?_
  · refine draw_all tt_ok (by kernel_rfl) 11 rfl ?_
    conv => whnf
    repeat' (first | exact rfl | (refine hnum.on ?_; conv => whnf) | (refine hname.on ?_; conv => whnf) | (refine atG (by repeat (first | assumption | exact setG_same _ _ _ | refine Eq.trans (setG_ne _ _ (by first | assumption | exact Ne.symm (by assumption))) ?_)) ?_; conv => whnf) | (refine And.intro (And.intro (by show els.length + 1 ≤ maxLen; simp [maxLen]; omega) (by show (els.length + 1) * 72 ≤ _; omega)) ?_; conv => whnf) | (refine And.intro ?_ ?_ <;> conv => whnf) | fail)
  conv => whnf
  refine ⟨_, weak_yield 2 (t := 0) (e := 41) rfl rfl, ?_⟩
  conv => whnf
  exact ⟨_, fin _ _, rfl, rfl⟩
theorem pmethod_ok {L : List Tok} (hL : TL L) {p : PS} {pb : Nat} {G : Glob} (hG : G pb = some (pB L p)) (hp : p.at_ < L.length) (hM : MaxOk G) :
    CallOk Try.prog TT 28 [.gptr pb 0] G (fun v G' => v = .agg (methodP L p).1.av ∧ G' = setG G pb (pB L (methodP L p).2)) := by
  have hmay := may_ok hL hG hp [111, 110, 101, 119, 97, 121] rfl
  have hp1 := may_at hL hp [111, 110, 101, 119, 97, 121]
  have hG1 := setG_pB hG hM (mayP L p [111, 110, 101, 119, 97, 121])
  unfold methodP Md.av
  simp only
  generalize mayP L p [111, 110, 101, 119, 97, 121] = p1 at *
  have hnum := pnum_ok hL hG1.1 hp1
  rw [setG_twice] at hnum
  have hp2 := num_at hL hp1
  have hG2 := setG_pB hG hM (numP L p1)
  generalize numP L p1 = p2 at *
  have hname := pname_ok hL hG2.1 hp2 hG2.2
  rw [setG_twice] at hname
  have hp3 := name_at hL hp2
  have hG3 := setG_pB hG hM (nameP L p2)
  generalize nameP L p2 = p3 at *
  have hneed := need_ok hL hG3.1 hp3 [40]
  rw [setG_twice] at hneed
  have hp4 := need_at hL hp3 [40]
  have hG4 := setG_pB hG hM (needP L p3 [40])
  generalize needP L p3 [40] = p4 at *
  have hname2 := pname_ok hL hG4.1 hp4 hG4.2
  rw [setG_twice] at hname2
  have hp5 := name_at hL hp4
  have hG5 := setG_pB hG hM (nameP L p4)
  generalize nameP L p4 = p5 at *
  have hneed2 := need_ok hL hG5.1 hp5 [41]
  rw [setG_twice] at hneed2
  have hp6 := need_at hL hp5 [41]
  have hG6 := setG_pB hG hM (needP L p5 [41])
  generalize needP L p5 [41] = p6 at *
  have hneed3 := need_ok hL hG6.1 hp6 [58]
  rw [setG_twice] at hneed3
  have hp7 := need_at hL hp6 [58]
  have hG7 := setG_pB hG hM (needP L p6 [58])
  generalize needP L p6 [58] = p7 at *
  have hname3 := pname_ok hL hG7.1 hp7 hG7.2
  rw [setG_twice] at hname3
  generalize nameP L p7 = p8 at *
  refine call_sem tt_ok Try.func28 rfl (by kernel_rfl) Try.ntmps28 Try.results28 ?_; conv => whnf
  repeat' (first | ((first | refine Sem.reg tt_ok ?_ | refine Sem.condS ?_ | refine Sem.regL tt_ok ?_ | refine Sem.skip tt_ok ?_ | refine Sem.exit tt_ok ?_ | refine Sem.ret tt_ok ?_ | refine BS_t (by assumption) ?_ | refine BS_f (by assumption) ?_ | refine atG (by repeat (first | assumption | exact setG_same _ _ _ | refine Eq.trans (setG_ne _ _ (by first | assumption | exact Ne.symm (by assumption))) ?_)) ?_ | refine (nthK_iff _ _).2 ⟨_, (by assumption), ?_⟩ | refine ⟨_, ⟨(by omega), (by assumption)⟩, ?_⟩ | refine And.intro (by first | decide | omega) ?_ | fail); conv => whnf) | refine Sem.seqS ?_ | refine Sem.block ?_ | fail)
  refine hmay.on ?_; conv => whnf
  repeat' (first | ((first | refine Sem.reg tt_ok ?_ | refine Sem.condS ?_ | refine Sem.regL tt_ok ?_ | refine Sem.skip tt_ok ?_ | refine Sem.exit tt_ok ?_ | refine Sem.ret tt_ok ?_ | refine BS_t (by assumption) ?_ | refine BS_f (by assumption) ?_ | refine atG (by repeat (first | assumption | exact setG_same _ _ _ | refine Eq.trans (setG_ne _ _ (by first | assumption | exact Ne.symm (by assumption))) ?_)) ?_ | refine (nthK_iff _ _).2 ⟨_, (by assumption), ?_⟩ | refine ⟨_, ⟨(by omega), (by assumption)⟩, ?_⟩ | refine And.intro (by first | decide | omega) ?_ | fail); conv => whnf) | refine Sem.seqS ?_ | refine Sem.block ?_ | fail)
  refine hnum.on ?_; conv => whnf
  repeat' (first | ((first | refine Sem.reg tt_ok ?_ | refine Sem.condS ?_ | refine Sem.regL tt_ok ?_ | refine Sem.skip tt_ok ?_ | refine Sem.exit tt_ok ?_ | refine Sem.ret tt_ok ?_ | refine BS_t (by assumption) ?_ | refine BS_f (by assumption) ?_ | refine atG (by repeat (first | assumption | exact setG_same _ _ _ | refine Eq.trans (setG_ne _ _ (by first | assumption | exact Ne.symm (by assumption))) ?_)) ?_ | refine (nthK_iff _ _).2 ⟨_, (by assumption), ?_⟩ | refine ⟨_, ⟨(by omega), (by assumption)⟩, ?_⟩ | refine And.intro (by first | decide | omega) ?_ | fail); conv => whnf) | refine Sem.seqS ?_ | refine Sem.block ?_ | fail)
  refine hname.on ?_; conv => whnf
  repeat' (first | ((first | refine Sem.reg tt_ok ?_ | refine Sem.condS ?_ | refine Sem.regL tt_ok ?_ | refine Sem.skip tt_ok ?_ | refine Sem.exit tt_ok ?_ | refine Sem.ret tt_ok ?_ | refine BS_t (by assumption) ?_ | refine BS_f (by assumption) ?_ | refine atG (by repeat (first | assumption | exact setG_same _ _ _ | refine Eq.trans (setG_ne _ _ (by first | assumption | exact Ne.symm (by assumption))) ?_)) ?_ | refine (nthK_iff _ _).2 ⟨_, (by assumption), ?_⟩ | refine ⟨_, ⟨(by omega), (by assumption)⟩, ?_⟩ | refine And.intro (by first | decide | omega) ?_ | fail); conv => whnf) | refine Sem.seqS ?_ | refine Sem.block ?_ | fail)
  refine hneed.on ?_; conv => whnf
  repeat' (first | ((first | refine Sem.reg tt_ok ?_ | refine Sem.condS ?_ | refine Sem.regL tt_ok ?_ | refine Sem.skip tt_ok ?_ | refine Sem.exit tt_ok ?_ | refine Sem.ret tt_ok ?_ | refine BS_t (by assumption) ?_ | refine BS_f (by assumption) ?_ | refine atG (by repeat (first | assumption | exact setG_same _ _ _ | refine Eq.trans (setG_ne _ _ (by first | assumption | exact Ne.symm (by assumption))) ?_)) ?_ | refine (nthK_iff _ _).2 ⟨_, (by assumption), ?_⟩ | refine ⟨_, ⟨(by omega), (by assumption)⟩, ?_⟩ | refine And.intro (by first | decide | omega) ?_ | fail); conv => whnf) | refine Sem.seqS ?_ | refine Sem.block ?_ | fail)
  refine hname2.on ?_; conv => whnf
  repeat' (first | ((first | refine Sem.reg tt_ok ?_ | refine Sem.condS ?_ | refine Sem.regL tt_ok ?_ | refine Sem.skip tt_ok ?_ | refine Sem.exit tt_ok ?_ | refine Sem.ret tt_ok ?_ | refine BS_t (by assumption) ?_ | refine BS_f (by assumption) ?_ | refine atG (by repeat (first | assumption | exact setG_same _ _ _ | refine Eq.trans (setG_ne _ _ (by first | assumption | exact Ne.symm (by assumption))) ?_)) ?_ | refine (nthK_iff _ _).2 ⟨_, (by assumption), ?_⟩ | refine ⟨_, ⟨(by omega), (by assumption)⟩, ?_⟩ | refine And.intro (by first | decide | omega) ?_ | fail); conv => whnf) | refine Sem.seqS ?_ | refine Sem.block ?_ | fail)
  refine hneed2.on ?_; conv => whnf
  repeat' (first | ((first | refine Sem.reg tt_ok ?_ | refine Sem.condS ?_ | refine Sem.regL tt_ok ?_ | refine Sem.skip tt_ok ?_ | refine Sem.exit tt_ok ?_ | refine Sem.ret tt_ok ?_ | refine BS_t (by assumption) ?_ | refine BS_f (by assumption) ?_ | refine atG (by repeat (first | assumption | exact setG_same _ _ _ | refine Eq.trans (setG_ne _ _ (by first | assumption | exact Ne.symm (by assumption))) ?_)) ?_ | refine (nthK_iff _ _).2 ⟨_, (by assumption), ?_⟩ | refine ⟨_, ⟨(by omega), (by assumption)⟩, ?_⟩ | refine And.intro (by first | decide | omega) ?_ | fail); conv => whnf) | refine Sem.seqS ?_ | refine Sem.block ?_ | fail)
  refine hneed3.on ?_; conv => whnf
  repeat' (first | ((first | refine Sem.reg tt_ok ?_ | refine Sem.condS ?_ | refine Sem.regL tt_ok ?_ | refine Sem.skip tt_ok ?_ | refine Sem.exit tt_ok ?_ | refine Sem.ret tt_ok ?_ | refine BS_t (by assumption) ?_ | refine BS_f (by assumption) ?_ | refine atG (by repeat (first | assumption | exact setG_same _ _ _ | refine Eq.trans (setG_ne _ _ (by first | assumption | exact Ne.symm (by assumption))) ?_)) ?_ | refine (nthK_iff _ _).2 ⟨_, (by assumption), ?_⟩ | refine ⟨_, ⟨(by omega), (by assumption)⟩, ?_⟩ | refine And.intro (by first | decide | omega) ?_ | fail); conv => whnf) | refine Sem.seqS ?_ | refine Sem.block ?_ | fail)
  refine hname3.on ?_; conv => whnf
  repeat' (first | ((first | refine Sem.reg tt_ok ?_ | refine Sem.condS ?_ | refine Sem.regL tt_ok ?_ | refine Sem.skip tt_ok ?_ | refine Sem.exit tt_ok ?_ | refine Sem.ret tt_ok ?_ | refine BS_t (by assumption) ?_ | refine BS_f (by assumption) ?_ | refine atG (by repeat (first | assumption | exact setG_same _ _ _ | refine Eq.trans (setG_ne _ _ (by first | assumption | exact Ne.symm (by assumption))) ?_)) ?_ | refine (nthK_iff _ _).2 ⟨_, (by assumption), ?_⟩ | refine ⟨_, ⟨(by omega), (by assumption)⟩, ?_⟩ | refine And.intro (by first | decide | omega) ?_ | fail); conv => whnf) | refine Sem.seqS ?_ | refine Sem.block ?_ | fail)
  exact ⟨_, fun _ _ h => h, rfl, rfl⟩
theorem mrow_ok {L : List Tok} (hL : TL L) {p : PS} {pb qb db : Nat} {G : Glob} (hG : G pb = some (pB L p)) (hq : G qb = some (.cells [.gptr pb 0])) {k a : Int} {nm : ByteArray} {els : List (List AV)} (hd : G db = some (dM k nm a els)) (hp : p.at_ < L.length) (hM : MaxOk G) (hn : els.length ≤ 1000) :
    CallOk Try.prog TT 27 [.gptr db 0, .gptr qb 0] G (fun v G' => v = .tup [] ∧ G' = setG (setG G pb (pB L (methodP L p).2)) db (dM k nm a (els ++ [(methodP L p).1.av]))) := by
  have hqp : qb ≠ pb := fun e => by rw [e, hG] at hq; simp [pB] at hq
  have hqd : qb ≠ db := fun e => by rw [e, hd] at hq; simp [dM] at hq
  have hpd : pb ≠ db := fun e => by rw [e, hd] at hG; simp [dM, pB] at hG
  have hM' := hM.rm hd (fun k o h => by cases h)
  have hR := rm_pB hG hpd
  have hq' : rmG G db qb = some (.cells [.gptr pb 0]) := by rw [rmG_ne _ hqd]; exact hq
  have fin : ∀ x y, ∀ i z, setG (setG G pb x) db y i = some z → setG (setG (rmG G db) pb x) db y i = some z := fun x y => setG_rm hpd
  rw [dM_at] at hd
  refine call_semW tt_ok Try.func27 rfl (by kernel_rfl) Try.ntmps27 Try.results27 ?_
  conv => whnf
  refine Sem.weak (weak_adopt db 3 _ hd) ?_
  have e1 : decide (qb = db) = false := by simpa using hqd
  simp only [List.map_cons, List.map_nil, asOwn, e1, decide_true, List.set_cons_succ, List.set_cons_zero]
  generalize rmG G db = R at *
  have hmeth := pmethod_ok hL hR hp hM'
  generalize methodP L p = r at *
  unfold Md.av at *
  conv => whnf
  repeat' (first | ((first | refine Sem.reg tt_ok ?_ | refine Sem.condS ?_ | refine Sem.regL tt_ok ?_ | refine Sem.skip tt_ok ?_ | refine Sem.exit tt_ok ?_ | refine Sem.ret tt_ok ?_ | refine BS_t (by assumption) ?_ | refine BS_f (by assumption) ?_ | refine atG (by repeat (first | assumption | exact setG_same _ _ _ | refine Eq.trans (setG_ne _ _ (by first | assumption | exact Ne.symm (by assumption))) ?_)) ?_ | refine (nthK_iff _ _).2 ⟨_, (by assumption), ?_⟩ | refine ⟨_, ⟨(by omega), (by assumption)⟩, ?_⟩ | refine And.intro (by first | decide | omega) ?_ | fail); conv => whnf) | refine Sem.seqS ?_ | refine Sem.block ?_ | fail)
  refine DrawOk.to ⟨(.lptr 0 0 :: .gptr qb 0 :: .lptr 0 3 :: .slc 65 els :: .gptr pb 0 :: .agg r.1.av :: .own 1 65 [r.1.av] :: .own 0 65 (els ++ [r.1.av]) :: .lptr 0 3 :: []), [.live (some db) [.int .i64 k, .str nm, .nils, .own 0 65 (els ++ [r.1.av]), .int .i64 a]], 1, 2, setG R pb (pB L r.2)⟩ ?_ ?_
  · refine draw_all tt_ok (by kernel_rfl) 8 rfl ?_
    conv => whnf
    repeat' (first | exact rfl | (refine hmeth.on ?_; conv => whnf) | (refine atG (by repeat (first | assumption | exact setG_same _ _ _ | refine Eq.trans (setG_ne _ _ (by first | assumption | exact Ne.symm (by assumption))) ?_)) ?_; conv => whnf) | (refine And.intro (And.intro (by show els.length + 1 ≤ maxLen; simp [maxLen]; omega) (by show (els.length + 1) * 64 ≤ _; omega)) ?_; conv => whnf) | (refine And.intro ?_ ?_ <;> conv => whnf) | fail)
  conv => whnf
  refine ⟨_, weak_yield 3 (t := 0) (e := 65) rfl rfl, ?_⟩
  conv => whnf
  exact ⟨_, fin _ _, rfl, rfl⟩
end Go.Proofs.Ytofhakbmmgpgdaa
