/- The parser in the abstract run: a declaration. -/
import Derived.Test.YtofhakbmmgpgdaaPrsE
set_option maxRecDepth 100000
set_option linter.unusedSimpArgs false
namespace Go.Proofs.Ytofhakbmmgpgdaa
open Go Go.RowKit Go.Proofs Go.Shelf

def Dc.av (d : Dc) : List AV := [.int .i64 (d.kind : Nat), .str (S d.name), if d.kind = 4 then .nils else .slc 41 (d.fields.map Fd.av), if d.kind = 4 then .slc 65 (d.methods.map Md.av) else .nils, .int .i64 (d.at_ : Nat)]
/-- what tokens are, beside: nothing stands at the end -/
def EndL (L : List Tok) : Prop := ∀ (i : Nat) (t : Tok), L[i]? = some t → t.kind = 4 → t.text = []
theorem rows_field {L : List Tok} (hL : TL L) (pb qb db : Nat) (k a : Int) (nm : ByteArray) : RowsOk L pb qb db qb db 20 (fieldP L) Fd.av (dF k nm a) :=
  ⟨fun _ _ _ st hp hn => field_ok hL st.gp st.gq st.gd hp st.mx hn, fun _ hp => field_at hL hp, fun _ _ h => field_end h, fun _ _ _ h => by cases h⟩
theorem rows_value {L : List Tok} (hL : TL L) (pb qb db : Nat) (k a : Int) (nm : ByteArray) : RowsOk L pb qb db db qb 26 (valueP L) Fd.av (dF k nm a) :=
  ⟨fun _ _ _ st hp hn => value_ok hL st.gp st.gq st.gd hp st.mx hn, fun _ hp => value_at hL hp, fun _ _ h => value_end h, fun _ _ _ h => by cases h⟩
theorem rows_method {L : List Tok} (hL : TL L) (hE : EndL L) (pb qb db : Nat) (k a : Int) (nm : ByteArray) : RowsOk L pb qb db db qb 27 (methodP L) Md.av (dM k nm a) :=
  ⟨fun _ _ _ st hp hn => mrow_ok hL st.gp st.gq st.gd hp st.mx hn, fun _ hp => method_at hL hp, fun _ hp h => method_end hp hE h, fun _ _ _ h => by cases h⟩
/-- boxes of a declaration's call -/
structure NN (L : List Tok) (pb qb db : Nat) (G : Glob) (N : PS → GB → Glob) : Prop where
  p : ∀ p C, N p C pb = some (pB L p)
  d : ∀ p C, N p C db = some C
  q : ∀ p C, N p C qb = some (.cells [.gptr pb 0])
  m : ∀ p C, (∀ k o, C ≠ .pin k o) → MaxOk (N p C)
  sp : ∀ p C q, setG (N p C) pb (pB L q) = N q C
  sd : ∀ p C C', setG (N p C) db C' = N p C'
  fin : ∀ p C i y, setG G pb (pB L p) i = some y → N p C i = some y
theorem nn_of {L : List Tok} {p0 : PS} {pb qb db : Nat} {G : Glob} (hG : G pb = some (pB L p0)) (hM : MaxOk G) (hq : G qb = none) (C0 : GB) (hd : setG G qb (.cells [.gptr pb 0]) db = none) : qb ≠ pb ∧ qb ≠ db ∧ pb ≠ db ∧ ∃ N, NN L pb qb db G N ∧ setG (setG G qb (.cells [.gptr pb 0])) db C0 = N p0 C0 := by
  have hqp : qb ≠ pb := fun e => by rw [e, hG] at hq; cases hq
  have hqd : qb ≠ db := fun e => by rw [← e, setG_same] at hd; cases hd
  have hd' : G db = none := by rw [setG_ne _ _ (Ne.symm hqd)] at hd; exact hd
  have hpd : pb ≠ db := fun e => by rw [← e, hG] at hd'; cases hd'
  refine ⟨hqp, hqd, hpd, fun p C => setG (setG (setG G qb (.cells [.gptr pb 0])) pb (pB L p)) db C, ⟨fun p C => ?_, fun p C => setG_same _ _ _, fun p C => ?_, fun p C hC => ?_, fun p C q => setG_comm _ hpd _ _ _, fun p C C' => setG_twice _ _ _ _, fun p C i y h => ?_⟩, ?_⟩
  · rw [setG_ne _ _ hpd, setG_same]
  · rw [setG_ne _ _ hqd, setG_ne _ _ hqp, setG_same]
  · refine MaxOk.new (((hM.new hq _).set (x := pB L p0) ?_ (pB_np L _) _)) ?_ _
    · rw [setG_ne _ _ (Ne.symm hqp)]; exact hG
    · rw [setG_ne _ _ (Ne.symm hpd)]; exact hd
  · have hid : i ≠ db := fun e => by rw [e, setG_ne _ _ (Ne.symm hpd), hd'] at h; cases h
    have hiq : i ≠ qb := fun e => by rw [e, setG_ne _ _ hqp, hq] at h; cases h
    rw [setG_ne _ _ hid]
    by_cases hip : i = pb
    · subst hip; rw [setG_same] at *; exact h
    · rw [setG_ne _ _ hip] at *; rw [setG_ne _ _ hiq]; exact h
  · simp only
    congr 1
    refine (setG_back ?_).symm
    rw [setG_ne _ _ (Ne.symm hqp)]; exact hG
theorem kindQ_t {L : List Tok} {p : PS} (h : kindP L p ≠ 0) : kindQ L p = { p with at_ := p.at_ + 1 } := by unfold kindQ; rw [if_neg h]

theorem decl_s {L : List Tok} (hL : TL L) {p : PS} {pb : Nat} {G : Glob} (hG : G pb = some (pB L p)) (hp : p.at_ < L.length) (hM : MaxOk G) (hs : mayB L p [115, 116, 114, 117, 99, 116] = true) :
    CallOk Try.prog TT 12 [.gptr pb 0] G (fun v G' => v = .agg (declP L p).1.av ∧ G' = setG G pb (pB L (declP L p).2)) := by
  have hk : kindP L p = 1 := by unfold kindP; simp [hs]
  have hkq : kindQ L p = { p with at_ := p.at_ + 1 } := kindQ_t (by rw [hk]; decide)
  have e : declP L p = (⟨1, nameV L (kindQ L p), (rowsP L (fieldP L) 18 0 (needP L (nameP L (kindQ L p)) [123])).1, [], (cur L p).at_⟩, (rowsP L (fieldP L) 18 0 (needP L (nameP L (kindQ L p)) [123])).2) := by unfold declP; simp only [hk, if_neg (show ¬ ((1 : Nat) = 4) by decide), if_neg (show ¬ ((1 : Nat) = 3) by decide)]
  rw [e]
  have hp1 := kindQ_at hL hp
  rw [hkq] at hp1 ⊢
  have hnow := now_ok hG hp
  unfold Tok.av tokC at hnow
  refine call_sem tt_ok Try.func12 rfl (by kernel_rfl) Try.ntmps12 Try.results12 ?_; conv => whnf
  refine Sem.seq tt_ok ?_; conv => whnf
  refine Sem.seq tt_ok ?_; conv => whnf
  refine hnow.on ?_; conv => whnf
  refine Sem.lend 0 ?_
  conv => whnf
  intro qb hqb
  conv => whnf
  refine Sem.lend 2 ?_
  conv => whnf
  intro db hdb
  conv => whnf
  obtain ⟨hqp, hqd, hpd, N, hN, hNe⟩ := nn_of hG hM hqb (.cells [.int .i64 0, .str ⟨#[]⟩, .nils, .nils, .int .i64 ((cur L p).at_ : Nat)]) hdb
  rw [hNe]
  have a0 := hN.p p (.cells [.int .i64 0, .str ⟨#[]⟩, .nils, .nils, .int .i64 ((cur L p).at_ : Nat)])
  have b0 := hN.q p (.cells [.int .i64 0, .str ⟨#[]⟩, .nils, .nils, .int .i64 ((cur L p).at_ : Nat)])
  have m0 := may_ok hL a0 hp _ hs
  rw [mayP_t hs, hN.sp] at m0
  generalize ({ p with at_ := p.at_ + 1 } : PS) = p1 at *
  have b1 := hN.q p1 (.cells [.int .i64 0, .str ⟨#[]⟩, .nils, .nils, .int .i64 ((cur L p).at_ : Nat)])
  have d1 := hN.d p1 (.cells [.int .i64 0, .str ⟨#[]⟩, .nils, .nils, .int .i64 ((cur L p).at_ : Nat)])
  have hname := pname_ok hL (hN.p p1 (.cells [.int .i64 1, .str ⟨#[]⟩, .nils, .nils, .int .i64 ((cur L p).at_ : Nat)])) hp1 (hN.m p1 _ (fun k o h => by cases h))
  rw [hN.sp] at hname
  have hp2 := name_at hL hp1
  have b2 := hN.q p1 (.cells [.int .i64 1, .str ⟨#[]⟩, .nils, .nils, .int .i64 ((cur L p).at_ : Nat)])
  have d2 := hN.d (nameP L p1) (.cells [.int .i64 1, .str ⟨#[]⟩, .nils, .nils, .int .i64 ((cur L p).at_ : Nat)])
  generalize nameP L p1 = p2 at *
  generalize nameV L p1 = nm at *
  have b3 := hN.q p2 (dF 1 (S nm) ((cur L p).at_ : Nat) [])
  have hPD : PD L pb qb db (dF 1 (S nm) ((cur L p).at_ : Nat)) (N p2 (dF 1 (S nm) ((cur L p).at_ : Nat) [])) p2 [] := ⟨hN.p _ _, b3, hN.d _ _, hN.m _ _ (fun k o h => by cases h)⟩
  have hrows := rows_ok hL (rows_field hL pb qb db 1 ((cur L p).at_ : Nat) (S nm)) hpd hqp hqd hPD hp2
  rw [hN.sp, hN.sd] at hrows
  generalize rowsP L (fieldP L) 18 0 (needP L p2 [123]) = r at *
  have d4 := hN.d r.2 (dF 1 (S nm) ((cur L p).at_ : Nat) (r.1.map Fd.av))
  repeat' (first | ((first | refine Sem.reg tt_ok ?_ | refine Sem.condS ?_ | refine Sem.regL tt_ok ?_ | refine Sem.skip tt_ok ?_ | refine Sem.exit tt_ok ?_ | refine Sem.ret tt_ok ?_ | refine BS_t (by assumption) ?_ | refine BS_f (by assumption) ?_ | refine atG (by repeat (first | assumption | exact setG_same _ _ _ | refine Eq.trans (setG_ne _ _ (by first | assumption | exact Ne.symm (by assumption))) ?_)) ?_ | refine (nthK_iff _ _).2 ⟨_, (by assumption), ?_⟩ | refine ⟨_, ⟨(by omega), (by assumption)⟩, ?_⟩ | refine And.intro (by first | decide | omega) ?_ | fail); conv => whnf) | refine Sem.seqS ?_ | refine Sem.block ?_ | fail)
  refine m0.on ?_; conv => whnf
  repeat' (first | ((first | refine Sem.reg tt_ok ?_ | refine Sem.condS ?_ | refine Sem.regL tt_ok ?_ | refine Sem.skip tt_ok ?_ | refine Sem.exit tt_ok ?_ | refine Sem.ret tt_ok ?_ | refine BS_t (by assumption) ?_ | refine BS_f (by assumption) ?_ | refine atG (by repeat (first | assumption | exact setG_same _ _ _ | refine Eq.trans (setG_ne _ _ (by first | assumption | exact Ne.symm (by assumption))) ?_)) ?_ | refine (nthK_iff _ _).2 ⟨_, (by assumption), ?_⟩ | refine ⟨_, ⟨(by omega), (by assumption)⟩, ?_⟩ | refine And.intro (by first | decide | omega) ?_ | fail); conv => whnf) | refine Sem.seqS ?_ | refine Sem.block ?_ | fail)
  rw [hN.sd]
  repeat' (first | ((first | refine Sem.reg tt_ok ?_ | refine Sem.condS ?_ | refine Sem.regL tt_ok ?_ | refine Sem.skip tt_ok ?_ | refine Sem.exit tt_ok ?_ | refine Sem.ret tt_ok ?_ | refine BS_t (by assumption) ?_ | refine BS_f (by assumption) ?_ | refine atG (by repeat (first | assumption | exact setG_same _ _ _ | refine Eq.trans (setG_ne _ _ (by first | assumption | exact Ne.symm (by assumption))) ?_)) ?_ | refine (nthK_iff _ _).2 ⟨_, (by assumption), ?_⟩ | refine ⟨_, ⟨(by omega), (by assumption)⟩, ?_⟩ | refine And.intro (by first | decide | omega) ?_ | fail); conv => whnf) | refine Sem.seqS ?_ | refine Sem.block ?_ | fail)
  refine hname.on ?_; conv => whnf
  refine atG d2 ?_
  conv => whnf
  rw [hN.sd]
  refine Sem.weak (weak_row1 db 2 41 (hN.d _ _) rfl) ?_
  rw [hN.sd]
  repeat' (first | ((first | refine Sem.reg tt_ok ?_ | refine Sem.condS ?_ | refine Sem.regL tt_ok ?_ | refine Sem.skip tt_ok ?_ | refine Sem.exit tt_ok ?_ | refine Sem.ret tt_ok ?_ | refine BS_t (by assumption) ?_ | refine BS_f (by assumption) ?_ | refine atG (by repeat (first | assumption | exact setG_same _ _ _ | refine Eq.trans (setG_ne _ _ (by first | assumption | exact Ne.symm (by assumption))) ?_)) ?_ | refine (nthK_iff _ _).2 ⟨_, (by assumption), ?_⟩ | refine ⟨_, ⟨(by omega), (by assumption)⟩, ?_⟩ | refine And.intro (by first | decide | omega) ?_ | fail); conv => whnf) | refine Sem.seqS ?_ | refine Sem.block ?_ | fail)
  refine hrows.on ?_; conv => whnf
  repeat' (first | ((first | refine Sem.reg tt_ok ?_ | refine Sem.condS ?_ | refine Sem.regL tt_ok ?_ | refine Sem.skip tt_ok ?_ | refine Sem.exit tt_ok ?_ | refine Sem.ret tt_ok ?_ | refine BS_t (by assumption) ?_ | refine BS_f (by assumption) ?_ | refine atG (by repeat (first | assumption | exact setG_same _ _ _ | refine Eq.trans (setG_ne _ _ (by first | assumption | exact Ne.symm (by assumption))) ?_)) ?_ | refine (nthK_iff _ _).2 ⟨_, (by assumption), ?_⟩ | refine ⟨_, ⟨(by omega), (by assumption)⟩, ?_⟩ | refine And.intro (by first | decide | omega) ?_ | fail); conv => whnf) | refine Sem.seqS ?_ | refine Sem.block ?_ | fail)
  exact ⟨_, fun i y h => hN.fin _ _ i y h, rfl, rfl⟩
theorem decl_u {L : List Tok} (hL : TL L) {p : PS} {pb : Nat} {G : Glob} (hG : G pb = some (pB L p)) (hp : p.at_ < L.length) (hM : MaxOk G) (hs : mayB L p [115, 116, 114, 117, 99, 116] = false) (hu : mayB L p [117, 110, 105, 111, 110] = true) :
    CallOk Try.prog TT 12 [.gptr pb 0] G (fun v G' => v = .agg (declP L p).1.av ∧ G' = setG G pb (pB L (declP L p).2)) := by
  have hk : kindP L p = 2 := by unfold kindP; simp [hs, hu]
  have hkq : kindQ L p = { p with at_ := p.at_ + 1 } := kindQ_t (by rw [hk]; decide)
  have e : declP L p = (⟨2, nameV L (kindQ L p), (rowsP L (fieldP L) 18 0 (needP L (nameP L (kindQ L p)) [123])).1, [], (cur L p).at_⟩, (rowsP L (fieldP L) 18 0 (needP L (nameP L (kindQ L p)) [123])).2) := by unfold declP; simp only [hk, if_neg (show ¬ ((2 : Nat) = 4) by decide), if_neg (show ¬ ((2 : Nat) = 3) by decide)]
  rw [e]
  have hp1 := kindQ_at hL hp
  rw [hkq] at hp1 ⊢
  have hnow := now_ok hG hp
  unfold Tok.av tokC at hnow
  refine call_sem tt_ok Try.func12 rfl (by kernel_rfl) Try.ntmps12 Try.results12 ?_; conv => whnf
  refine Sem.seq tt_ok ?_; conv => whnf
  refine Sem.seq tt_ok ?_; conv => whnf
  refine hnow.on ?_; conv => whnf
  refine Sem.lend 0 ?_
  conv => whnf
  intro qb hqb
  conv => whnf
  refine Sem.lend 2 ?_
  conv => whnf
  intro db hdb
  conv => whnf
  obtain ⟨hqp, hqd, hpd, N, hN, hNe⟩ := nn_of hG hM hqb (.cells [.int .i64 0, .str ⟨#[]⟩, .nils, .nils, .int .i64 ((cur L p).at_ : Nat)]) hdb
  rw [hNe]
  have a0 := hN.p p (.cells [.int .i64 0, .str ⟨#[]⟩, .nils, .nils, .int .i64 ((cur L p).at_ : Nat)])
  have b0 := hN.q p (.cells [.int .i64 0, .str ⟨#[]⟩, .nils, .nils, .int .i64 ((cur L p).at_ : Nat)])
  have m0 := may_ok hL a0 hp _ hs
  rw [mayP_f hs, setG_back a0] at m0
  have m1 := may_ok hL a0 hp _ hu
  rw [mayP_t hu, hN.sp] at m1
  generalize ({ p with at_ := p.at_ + 1 } : PS) = p1 at *
  have b1 := hN.q p1 (.cells [.int .i64 0, .str ⟨#[]⟩, .nils, .nils, .int .i64 ((cur L p).at_ : Nat)])
  have d1 := hN.d p1 (.cells [.int .i64 0, .str ⟨#[]⟩, .nils, .nils, .int .i64 ((cur L p).at_ : Nat)])
  have hname := pname_ok hL (hN.p p1 (.cells [.int .i64 2, .str ⟨#[]⟩, .nils, .nils, .int .i64 ((cur L p).at_ : Nat)])) hp1 (hN.m p1 _ (fun k o h => by cases h))
  rw [hN.sp] at hname
  have hp2 := name_at hL hp1
  have b2 := hN.q p1 (.cells [.int .i64 2, .str ⟨#[]⟩, .nils, .nils, .int .i64 ((cur L p).at_ : Nat)])
  have d2 := hN.d (nameP L p1) (.cells [.int .i64 2, .str ⟨#[]⟩, .nils, .nils, .int .i64 ((cur L p).at_ : Nat)])
  generalize nameP L p1 = p2 at *
  generalize nameV L p1 = nm at *
  have b3 := hN.q p2 (dF 2 (S nm) ((cur L p).at_ : Nat) [])
  have hPD : PD L pb qb db (dF 2 (S nm) ((cur L p).at_ : Nat)) (N p2 (dF 2 (S nm) ((cur L p).at_ : Nat) [])) p2 [] := ⟨hN.p _ _, b3, hN.d _ _, hN.m _ _ (fun k o h => by cases h)⟩
  have hrows := rows_ok hL (rows_field hL pb qb db 2 ((cur L p).at_ : Nat) (S nm)) hpd hqp hqd hPD hp2
  rw [hN.sp, hN.sd] at hrows
  generalize rowsP L (fieldP L) 18 0 (needP L p2 [123]) = r at *
  have d4 := hN.d r.2 (dF 2 (S nm) ((cur L p).at_ : Nat) (r.1.map Fd.av))
  repeat' (first | ((first | refine Sem.reg tt_ok ?_ | refine Sem.condS ?_ | refine Sem.regL tt_ok ?_ | refine Sem.skip tt_ok ?_ | refine Sem.exit tt_ok ?_ | refine Sem.ret tt_ok ?_ | refine BS_t (by assumption) ?_ | refine BS_f (by assumption) ?_ | refine atG (by repeat (first | assumption | exact setG_same _ _ _ | refine Eq.trans (setG_ne _ _ (by first | assumption | exact Ne.symm (by assumption))) ?_)) ?_ | refine (nthK_iff _ _).2 ⟨_, (by assumption), ?_⟩ | refine ⟨_, ⟨(by omega), (by assumption)⟩, ?_⟩ | refine And.intro (by first | decide | omega) ?_ | fail); conv => whnf) | refine Sem.seqS ?_ | refine Sem.block ?_ | fail)
  refine m0.on ?_; conv => whnf
  repeat' (first | ((first | refine Sem.reg tt_ok ?_ | refine Sem.condS ?_ | refine Sem.regL tt_ok ?_ | refine Sem.skip tt_ok ?_ | refine Sem.exit tt_ok ?_ | refine Sem.ret tt_ok ?_ | refine BS_t (by assumption) ?_ | refine BS_f (by assumption) ?_ | refine atG (by repeat (first | assumption | exact setG_same _ _ _ | refine Eq.trans (setG_ne _ _ (by first | assumption | exact Ne.symm (by assumption))) ?_)) ?_ | refine (nthK_iff _ _).2 ⟨_, (by assumption), ?_⟩ | refine ⟨_, ⟨(by omega), (by assumption)⟩, ?_⟩ | refine And.intro (by first | decide | omega) ?_ | fail); conv => whnf) | refine Sem.seqS ?_ | refine Sem.block ?_ | fail)
  refine m1.on ?_; conv => whnf
  repeat' (first | ((first | refine Sem.reg tt_ok ?_ | refine Sem.condS ?_ | refine Sem.regL tt_ok ?_ | refine Sem.skip tt_ok ?_ | refine Sem.exit tt_ok ?_ | refine Sem.ret tt_ok ?_ | refine BS_t (by assumption) ?_ | refine BS_f (by assumption) ?_ | refine atG (by repeat (first | assumption | exact setG_same _ _ _ | refine Eq.trans (setG_ne _ _ (by first | assumption | exact Ne.symm (by assumption))) ?_)) ?_ | refine (nthK_iff _ _).2 ⟨_, (by assumption), ?_⟩ | refine ⟨_, ⟨(by omega), (by assumption)⟩, ?_⟩ | refine And.intro (by first | decide | omega) ?_ | fail); conv => whnf) | refine Sem.seqS ?_ | refine Sem.block ?_ | fail)
  rw [hN.sd]
  repeat' (first | ((first | refine Sem.reg tt_ok ?_ | refine Sem.condS ?_ | refine Sem.regL tt_ok ?_ | refine Sem.skip tt_ok ?_ | refine Sem.exit tt_ok ?_ | refine Sem.ret tt_ok ?_ | refine BS_t (by assumption) ?_ | refine BS_f (by assumption) ?_ | refine atG (by repeat (first | assumption | exact setG_same _ _ _ | refine Eq.trans (setG_ne _ _ (by first | assumption | exact Ne.symm (by assumption))) ?_)) ?_ | refine (nthK_iff _ _).2 ⟨_, (by assumption), ?_⟩ | refine ⟨_, ⟨(by omega), (by assumption)⟩, ?_⟩ | refine And.intro (by first | decide | omega) ?_ | fail); conv => whnf) | refine Sem.seqS ?_ | refine Sem.block ?_ | fail)
  refine hname.on ?_; conv => whnf
  refine atG d2 ?_
  conv => whnf
  rw [hN.sd]
  refine Sem.weak (weak_row1 db 2 41 (hN.d _ _) rfl) ?_
  rw [hN.sd]
  repeat' (first | ((first | refine Sem.reg tt_ok ?_ | refine Sem.condS ?_ | refine Sem.regL tt_ok ?_ | refine Sem.skip tt_ok ?_ | refine Sem.exit tt_ok ?_ | refine Sem.ret tt_ok ?_ | refine BS_t (by assumption) ?_ | refine BS_f (by assumption) ?_ | refine atG (by repeat (first | assumption | exact setG_same _ _ _ | refine Eq.trans (setG_ne _ _ (by first | assumption | exact Ne.symm (by assumption))) ?_)) ?_ | refine (nthK_iff _ _).2 ⟨_, (by assumption), ?_⟩ | refine ⟨_, ⟨(by omega), (by assumption)⟩, ?_⟩ | refine And.intro (by first | decide | omega) ?_ | fail); conv => whnf) | refine Sem.seqS ?_ | refine Sem.block ?_ | fail)
  refine hrows.on ?_; conv => whnf
  repeat' (first | ((first | refine Sem.reg tt_ok ?_ | refine Sem.condS ?_ | refine Sem.regL tt_ok ?_ | refine Sem.skip tt_ok ?_ | refine Sem.exit tt_ok ?_ | refine Sem.ret tt_ok ?_ | refine BS_t (by assumption) ?_ | refine BS_f (by assumption) ?_ | refine atG (by repeat (first | assumption | exact setG_same _ _ _ | refine Eq.trans (setG_ne _ _ (by first | assumption | exact Ne.symm (by assumption))) ?_)) ?_ | refine (nthK_iff _ _).2 ⟨_, (by assumption), ?_⟩ | refine ⟨_, ⟨(by omega), (by assumption)⟩, ?_⟩ | refine And.intro (by first | decide | omega) ?_ | fail); conv => whnf) | refine Sem.seqS ?_ | refine Sem.block ?_ | fail)
  exact ⟨_, fun i y h => hN.fin _ _ i y h, rfl, rfl⟩
theorem decl_e {L : List Tok} (hL : TL L) {p : PS} {pb : Nat} {G : Glob} (hG : G pb = some (pB L p)) (hp : p.at_ < L.length) (hM : MaxOk G) (hs : mayB L p [115, 116, 114, 117, 99, 116] = false) (hu : mayB L p [117, 110, 105, 111, 110] = false) (he : mayB L p [101, 110, 117, 109] = true) :
    CallOk Try.prog TT 12 [.gptr pb 0] G (fun v G' => v = .agg (declP L p).1.av ∧ G' = setG G pb (pB L (declP L p).2)) := by
  have hk : kindP L p = 3 := by unfold kindP; simp [hs, hu, he]
  have hkq : kindQ L p = { p with at_ := p.at_ + 1 } := kindQ_t (by rw [hk]; decide)
  have e : declP L p = (⟨3, nameV L (kindQ L p), (rowsP L (valueP L) 18 0 (needP L (nameP L (kindQ L p)) [123])).1, [], (cur L p).at_⟩, (rowsP L (valueP L) 18 0 (needP L (nameP L (kindQ L p)) [123])).2) := by unfold declP; simp only [hk, if_neg (show ¬ ((3 : Nat) = 4) by decide), if_true]
  rw [e]
  have hp1 := kindQ_at hL hp
  rw [hkq] at hp1 ⊢
  have hnow := now_ok hG hp
  unfold Tok.av tokC at hnow
  refine call_sem tt_ok Try.func12 rfl (by kernel_rfl) Try.ntmps12 Try.results12 ?_; conv => whnf
  refine Sem.seq tt_ok ?_; conv => whnf
  refine Sem.seq tt_ok ?_; conv => whnf
  refine hnow.on ?_; conv => whnf
  refine Sem.lend 0 ?_
  conv => whnf
  intro qb hqb
  conv => whnf
  refine Sem.lend 2 ?_
  conv => whnf
  intro db hdb
  conv => whnf
  obtain ⟨hqp, hqd, hpd, N, hN, hNe⟩ := nn_of hG hM hqb (.cells [.int .i64 0, .str ⟨#[]⟩, .nils, .nils, .int .i64 ((cur L p).at_ : Nat)]) hdb
  rw [hNe]
  have a0 := hN.p p (.cells [.int .i64 0, .str ⟨#[]⟩, .nils, .nils, .int .i64 ((cur L p).at_ : Nat)])
  have b0 := hN.q p (.cells [.int .i64 0, .str ⟨#[]⟩, .nils, .nils, .int .i64 ((cur L p).at_ : Nat)])
  have m0 := may_ok hL a0 hp _ hs
  rw [mayP_f hs, setG_back a0] at m0
  have m1 := may_ok hL a0 hp _ hu
  rw [mayP_f hu, setG_back a0] at m1
  have m2 := may_ok hL a0 hp _ he
  rw [mayP_t he, hN.sp] at m2
  generalize ({ p with at_ := p.at_ + 1 } : PS) = p1 at *
  have b1 := hN.q p1 (.cells [.int .i64 0, .str ⟨#[]⟩, .nils, .nils, .int .i64 ((cur L p).at_ : Nat)])
  have d1 := hN.d p1 (.cells [.int .i64 0, .str ⟨#[]⟩, .nils, .nils, .int .i64 ((cur L p).at_ : Nat)])
  have hname := pname_ok hL (hN.p p1 (.cells [.int .i64 3, .str ⟨#[]⟩, .nils, .nils, .int .i64 ((cur L p).at_ : Nat)])) hp1 (hN.m p1 _ (fun k o h => by cases h))
  rw [hN.sp] at hname
  have hp2 := name_at hL hp1
  have b2 := hN.q p1 (.cells [.int .i64 3, .str ⟨#[]⟩, .nils, .nils, .int .i64 ((cur L p).at_ : Nat)])
  have d2 := hN.d (nameP L p1) (.cells [.int .i64 3, .str ⟨#[]⟩, .nils, .nils, .int .i64 ((cur L p).at_ : Nat)])
  generalize nameP L p1 = p2 at *
  generalize nameV L p1 = nm at *
  have b3 := hN.q p2 (dF 3 (S nm) ((cur L p).at_ : Nat) [])
  have hPD : PD L pb qb db (dF 3 (S nm) ((cur L p).at_ : Nat)) (N p2 (dF 3 (S nm) ((cur L p).at_ : Nat) [])) p2 [] := ⟨hN.p _ _, b3, hN.d _ _, hN.m _ _ (fun k o h => by cases h)⟩
  have hrows := rows_ok hL (rows_value hL pb qb db 3 ((cur L p).at_ : Nat) (S nm)) hpd hqp hqd hPD hp2
  rw [hN.sp, hN.sd] at hrows
  generalize rowsP L (valueP L) 18 0 (needP L p2 [123]) = r at *
  have d4 := hN.d r.2 (dF 3 (S nm) ((cur L p).at_ : Nat) (r.1.map Fd.av))
  repeat' (first | ((first | refine Sem.reg tt_ok ?_ | refine Sem.condS ?_ | refine Sem.regL tt_ok ?_ | refine Sem.skip tt_ok ?_ | refine Sem.exit tt_ok ?_ | refine Sem.ret tt_ok ?_ | refine BS_t (by assumption) ?_ | refine BS_f (by assumption) ?_ | refine atG (by repeat (first | assumption | exact setG_same _ _ _ | refine Eq.trans (setG_ne _ _ (by first | assumption | exact Ne.symm (by assumption))) ?_)) ?_ | refine (nthK_iff _ _).2 ⟨_, (by assumption), ?_⟩ | refine ⟨_, ⟨(by omega), (by assumption)⟩, ?_⟩ | refine And.intro (by first | decide | omega) ?_ | fail); conv => whnf) | refine Sem.seqS ?_ | refine Sem.block ?_ | fail)
  refine m0.on ?_; conv => whnf
  repeat' (first | ((first | refine Sem.reg tt_ok ?_ | refine Sem.condS ?_ | refine Sem.regL tt_ok ?_ | refine Sem.skip tt_ok ?_ | refine Sem.exit tt_ok ?_ | refine Sem.ret tt_ok ?_ | refine BS_t (by assumption) ?_ | refine BS_f (by assumption) ?_ | refine atG (by repeat (first | assumption | exact setG_same _ _ _ | refine Eq.trans (setG_ne _ _ (by first | assumption | exact Ne.symm (by assumption))) ?_)) ?_ | refine (nthK_iff _ _).2 ⟨_, (by assumption), ?_⟩ | refine ⟨_, ⟨(by omega), (by assumption)⟩, ?_⟩ | refine And.intro (by first | decide | omega) ?_ | fail); conv => whnf) | refine Sem.seqS ?_ | refine Sem.block ?_ | fail)
  refine m1.on ?_; conv => whnf
  repeat' (first | ((first | refine Sem.reg tt_ok ?_ | refine Sem.condS ?_ | refine Sem.regL tt_ok ?_ | refine Sem.skip tt_ok ?_ | refine Sem.exit tt_ok ?_ | refine Sem.ret tt_ok ?_ | refine BS_t (by assumption) ?_ | refine BS_f (by assumption) ?_ | refine atG (by repeat (first | assumption | exact setG_same _ _ _ | refine Eq.trans (setG_ne _ _ (by first | assumption | exact Ne.symm (by assumption))) ?_)) ?_ | refine (nthK_iff _ _).2 ⟨_, (by assumption), ?_⟩ | refine ⟨_, ⟨(by omega), (by assumption)⟩, ?_⟩ | refine And.intro (by first | decide | omega) ?_ | fail); conv => whnf) | refine Sem.seqS ?_ | refine Sem.block ?_ | fail)
  refine m2.on ?_; conv => whnf
  repeat' (first | ((first | refine Sem.reg tt_ok ?_ | refine Sem.condS ?_ | refine Sem.regL tt_ok ?_ | refine Sem.skip tt_ok ?_ | refine Sem.exit tt_ok ?_ | refine Sem.ret tt_ok ?_ | refine BS_t (by assumption) ?_ | refine BS_f (by assumption) ?_ | refine atG (by repeat (first | assumption | exact setG_same _ _ _ | refine Eq.trans (setG_ne _ _ (by first | assumption | exact Ne.symm (by assumption))) ?_)) ?_ | refine (nthK_iff _ _).2 ⟨_, (by assumption), ?_⟩ | refine ⟨_, ⟨(by omega), (by assumption)⟩, ?_⟩ | refine And.intro (by first | decide | omega) ?_ | fail); conv => whnf) | refine Sem.seqS ?_ | refine Sem.block ?_ | fail)
  rw [hN.sd]
  repeat' (first | ((first | refine Sem.reg tt_ok ?_ | refine Sem.condS ?_ | refine Sem.regL tt_ok ?_ | refine Sem.skip tt_ok ?_ | refine Sem.exit tt_ok ?_ | refine Sem.ret tt_ok ?_ | refine BS_t (by assumption) ?_ | refine BS_f (by assumption) ?_ | refine atG (by repeat (first | assumption | exact setG_same _ _ _ | refine Eq.trans (setG_ne _ _ (by first | assumption | exact Ne.symm (by assumption))) ?_)) ?_ | refine (nthK_iff _ _).2 ⟨_, (by assumption), ?_⟩ | refine ⟨_, ⟨(by omega), (by assumption)⟩, ?_⟩ | refine And.intro (by first | decide | omega) ?_ | fail); conv => whnf) | refine Sem.seqS ?_ | refine Sem.block ?_ | fail)
  refine hname.on ?_; conv => whnf
  refine atG d2 ?_
  conv => whnf
  rw [hN.sd]
  refine Sem.weak (weak_row1 db 2 41 (hN.d _ _) rfl) ?_
  rw [hN.sd]
  repeat' (first | ((first | refine Sem.reg tt_ok ?_ | refine Sem.condS ?_ | refine Sem.regL tt_ok ?_ | refine Sem.skip tt_ok ?_ | refine Sem.exit tt_ok ?_ | refine Sem.ret tt_ok ?_ | refine BS_t (by assumption) ?_ | refine BS_f (by assumption) ?_ | refine atG (by repeat (first | assumption | exact setG_same _ _ _ | refine Eq.trans (setG_ne _ _ (by first | assumption | exact Ne.symm (by assumption))) ?_)) ?_ | refine (nthK_iff _ _).2 ⟨_, (by assumption), ?_⟩ | refine ⟨_, ⟨(by omega), (by assumption)⟩, ?_⟩ | refine And.intro (by first | decide | omega) ?_ | fail); conv => whnf) | refine Sem.seqS ?_ | refine Sem.block ?_ | fail)
  refine hrows.on ?_; conv => whnf
  repeat' (first | ((first | refine Sem.reg tt_ok ?_ | refine Sem.condS ?_ | refine Sem.regL tt_ok ?_ | refine Sem.skip tt_ok ?_ | refine Sem.exit tt_ok ?_ | refine Sem.ret tt_ok ?_ | refine BS_t (by assumption) ?_ | refine BS_f (by assumption) ?_ | refine atG (by repeat (first | assumption | exact setG_same _ _ _ | refine Eq.trans (setG_ne _ _ (by first | assumption | exact Ne.symm (by assumption))) ?_)) ?_ | refine (nthK_iff _ _).2 ⟨_, (by assumption), ?_⟩ | refine ⟨_, ⟨(by omega), (by assumption)⟩, ?_⟩ | refine And.intro (by first | decide | omega) ?_ | fail); conv => whnf) | refine Sem.seqS ?_ | refine Sem.block ?_ | fail)
  exact ⟨_, fun i y h => hN.fin _ _ i y h, rfl, rfl⟩
theorem decl_v {L : List Tok} (hL : TL L) (hE : EndL L) {p : PS} {pb : Nat} {G : Glob} (hG : G pb = some (pB L p)) (hp : p.at_ < L.length) (hM : MaxOk G) (hs : mayB L p [115, 116, 114, 117, 99, 116] = false) (hu : mayB L p [117, 110, 105, 111, 110] = false) (he : mayB L p [101, 110, 117, 109] = false) (hv : mayB L p [115, 101, 114, 118, 105, 99, 101] = true) :
    CallOk Try.prog TT 12 [.gptr pb 0] G (fun v G' => v = .agg (declP L p).1.av ∧ G' = setG G pb (pB L (declP L p).2)) := by
  have hk : kindP L p = 4 := by unfold kindP; simp [hs, hu, he, hv]
  have hkq : kindQ L p = { p with at_ := p.at_ + 1 } := kindQ_t (by rw [hk]; decide)
  have e : declP L p = (⟨4, nameV L (kindQ L p), [], (rowsP L (methodP L) 18 0 (needP L (nameP L (kindQ L p)) [123])).1, (cur L p).at_⟩, (rowsP L (methodP L) 18 0 (needP L (nameP L (kindQ L p)) [123])).2) := by unfold declP; simp only [hk, if_true]
  rw [e]
  have hp1 := kindQ_at hL hp
  rw [hkq] at hp1 ⊢
  have hnow := now_ok hG hp
  unfold Tok.av tokC at hnow
  refine call_sem tt_ok Try.func12 rfl (by kernel_rfl) Try.ntmps12 Try.results12 ?_; conv => whnf
  refine Sem.seq tt_ok ?_; conv => whnf
  refine Sem.seq tt_ok ?_; conv => whnf
  refine hnow.on ?_; conv => whnf
  refine Sem.lend 0 ?_
  conv => whnf
  intro qb hqb
  conv => whnf
  refine Sem.lend 2 ?_
  conv => whnf
  intro db hdb
  conv => whnf
  obtain ⟨hqp, hqd, hpd, N, hN, hNe⟩ := nn_of hG hM hqb (.cells [.int .i64 0, .str ⟨#[]⟩, .nils, .nils, .int .i64 ((cur L p).at_ : Nat)]) hdb
  rw [hNe]
  have a0 := hN.p p (.cells [.int .i64 0, .str ⟨#[]⟩, .nils, .nils, .int .i64 ((cur L p).at_ : Nat)])
  have b0 := hN.q p (.cells [.int .i64 0, .str ⟨#[]⟩, .nils, .nils, .int .i64 ((cur L p).at_ : Nat)])
  have m0 := may_ok hL a0 hp _ hs
  rw [mayP_f hs, setG_back a0] at m0
  have m1 := may_ok hL a0 hp _ hu
  rw [mayP_f hu, setG_back a0] at m1
  have m2 := may_ok hL a0 hp _ he
  rw [mayP_f he, setG_back a0] at m2
  have m3 := may_ok hL a0 hp _ hv
  rw [mayP_t hv, hN.sp] at m3
  generalize ({ p with at_ := p.at_ + 1 } : PS) = p1 at *
  have b1 := hN.q p1 (.cells [.int .i64 0, .str ⟨#[]⟩, .nils, .nils, .int .i64 ((cur L p).at_ : Nat)])
  have d1 := hN.d p1 (.cells [.int .i64 0, .str ⟨#[]⟩, .nils, .nils, .int .i64 ((cur L p).at_ : Nat)])
  have hname := pname_ok hL (hN.p p1 (.cells [.int .i64 4, .str ⟨#[]⟩, .nils, .nils, .int .i64 ((cur L p).at_ : Nat)])) hp1 (hN.m p1 _ (fun k o h => by cases h))
  rw [hN.sp] at hname
  have hp2 := name_at hL hp1
  have b2 := hN.q p1 (.cells [.int .i64 4, .str ⟨#[]⟩, .nils, .nils, .int .i64 ((cur L p).at_ : Nat)])
  have d2 := hN.d (nameP L p1) (.cells [.int .i64 4, .str ⟨#[]⟩, .nils, .nils, .int .i64 ((cur L p).at_ : Nat)])
  generalize nameP L p1 = p2 at *
  generalize nameV L p1 = nm at *
  have b3 := hN.q p2 (dM 4 (S nm) ((cur L p).at_ : Nat) [])
  have hPD : PD L pb qb db (dM 4 (S nm) ((cur L p).at_ : Nat)) (N p2 (dM 4 (S nm) ((cur L p).at_ : Nat) [])) p2 [] := ⟨hN.p _ _, b3, hN.d _ _, hN.m _ _ (fun k o h => by cases h)⟩
  have hrows := rows_ok hL (rows_method hL hE pb qb db 4 ((cur L p).at_ : Nat) (S nm)) hpd hqp hqd hPD hp2
  rw [hN.sp, hN.sd] at hrows
  generalize rowsP L (methodP L) 18 0 (needP L p2 [123]) = r at *
  have d4 := hN.d r.2 (dM 4 (S nm) ((cur L p).at_ : Nat) (r.1.map Md.av))
  repeat' (first | ((first | refine Sem.reg tt_ok ?_ | refine Sem.condS ?_ | refine Sem.regL tt_ok ?_ | refine Sem.skip tt_ok ?_ | refine Sem.exit tt_ok ?_ | refine Sem.ret tt_ok ?_ | refine BS_t (by assumption) ?_ | refine BS_f (by assumption) ?_ | refine atG (by repeat (first | assumption | exact setG_same _ _ _ | refine Eq.trans (setG_ne _ _ (by first | assumption | exact Ne.symm (by assumption))) ?_)) ?_ | refine (nthK_iff _ _).2 ⟨_, (by assumption), ?_⟩ | refine ⟨_, ⟨(by omega), (by assumption)⟩, ?_⟩ | refine And.intro (by first | decide | omega) ?_ | fail); conv => whnf) | refine Sem.seqS ?_ | refine Sem.block ?_ | fail)
  refine m0.on ?_; conv => whnf
  repeat' (first | ((first | refine Sem.reg tt_ok ?_ | refine Sem.condS ?_ | refine Sem.regL tt_ok ?_ | refine Sem.skip tt_ok ?_ | refine Sem.exit tt_ok ?_ | refine Sem.ret tt_ok ?_ | refine BS_t (by assumption) ?_ | refine BS_f (by assumption) ?_ | refine atG (by repeat (first | assumption | exact setG_same _ _ _ | refine Eq.trans (setG_ne _ _ (by first | assumption | exact Ne.symm (by assumption))) ?_)) ?_ | refine (nthK_iff _ _).2 ⟨_, (by assumption), ?_⟩ | refine ⟨_, ⟨(by omega), (by assumption)⟩, ?_⟩ | refine And.intro (by first | decide | omega) ?_ | fail); conv => whnf) | refine Sem.seqS ?_ | refine Sem.block ?_ | fail)
  refine m1.on ?_; conv => whnf
  repeat' (first | ((first | refine Sem.reg tt_ok ?_ | refine Sem.condS ?_ | refine Sem.regL tt_ok ?_ | refine Sem.skip tt_ok ?_ | refine Sem.exit tt_ok ?_ | refine Sem.ret tt_ok ?_ | refine BS_t (by assumption) ?_ | refine BS_f (by assumption) ?_ | refine atG (by repeat (first | assumption | exact setG_same _ _ _ | refine Eq.trans (setG_ne _ _ (by first | assumption | exact Ne.symm (by assumption))) ?_)) ?_ | refine (nthK_iff _ _).2 ⟨_, (by assumption), ?_⟩ | refine ⟨_, ⟨(by omega), (by assumption)⟩, ?_⟩ | refine And.intro (by first | decide | omega) ?_ | fail); conv => whnf) | refine Sem.seqS ?_ | refine Sem.block ?_ | fail)
  refine m2.on ?_; conv => whnf
  repeat' (first | ((first | refine Sem.reg tt_ok ?_ | refine Sem.condS ?_ | refine Sem.regL tt_ok ?_ | refine Sem.skip tt_ok ?_ | refine Sem.exit tt_ok ?_ | refine Sem.ret tt_ok ?_ | refine BS_t (by assumption) ?_ | refine BS_f (by assumption) ?_ | refine atG (by repeat (first | assumption | exact setG_same _ _ _ | refine Eq.trans (setG_ne _ _ (by first | assumption | exact Ne.symm (by assumption))) ?_)) ?_ | refine (nthK_iff _ _).2 ⟨_, (by assumption), ?_⟩ | refine ⟨_, ⟨(by omega), (by assumption)⟩, ?_⟩ | refine And.intro (by first | decide | omega) ?_ | fail); conv => whnf) | refine Sem.seqS ?_ | refine Sem.block ?_ | fail)
  refine m3.on ?_; conv => whnf
  repeat' (first | ((first | refine Sem.reg tt_ok ?_ | refine Sem.condS ?_ | refine Sem.regL tt_ok ?_ | refine Sem.skip tt_ok ?_ | refine Sem.exit tt_ok ?_ | refine Sem.ret tt_ok ?_ | refine BS_t (by assumption) ?_ | refine BS_f (by assumption) ?_ | refine atG (by repeat (first | assumption | exact setG_same _ _ _ | refine Eq.trans (setG_ne _ _ (by first | assumption | exact Ne.symm (by assumption))) ?_)) ?_ | refine (nthK_iff _ _).2 ⟨_, (by assumption), ?_⟩ | refine ⟨_, ⟨(by omega), (by assumption)⟩, ?_⟩ | refine And.intro (by first | decide | omega) ?_ | fail); conv => whnf) | refine Sem.seqS ?_ | refine Sem.block ?_ | fail)
  rw [hN.sd]
  repeat' (first | ((first | refine Sem.reg tt_ok ?_ | refine Sem.condS ?_ | refine Sem.regL tt_ok ?_ | refine Sem.skip tt_ok ?_ | refine Sem.exit tt_ok ?_ | refine Sem.ret tt_ok ?_ | refine BS_t (by assumption) ?_ | refine BS_f (by assumption) ?_ | refine atG (by repeat (first | assumption | exact setG_same _ _ _ | refine Eq.trans (setG_ne _ _ (by first | assumption | exact Ne.symm (by assumption))) ?_)) ?_ | refine (nthK_iff _ _).2 ⟨_, (by assumption), ?_⟩ | refine ⟨_, ⟨(by omega), (by assumption)⟩, ?_⟩ | refine And.intro (by first | decide | omega) ?_ | fail); conv => whnf) | refine Sem.seqS ?_ | refine Sem.block ?_ | fail)
  refine hname.on ?_; conv => whnf
  refine atG d2 ?_
  conv => whnf
  rw [hN.sd]
  refine Sem.weak (weak_row1 db 3 65 (hN.d _ _) rfl) ?_
  rw [hN.sd]
  repeat' (first | ((first | refine Sem.reg tt_ok ?_ | refine Sem.condS ?_ | refine Sem.regL tt_ok ?_ | refine Sem.skip tt_ok ?_ | refine Sem.exit tt_ok ?_ | refine Sem.ret tt_ok ?_ | refine BS_t (by assumption) ?_ | refine BS_f (by assumption) ?_ | refine atG (by repeat (first | assumption | exact setG_same _ _ _ | refine Eq.trans (setG_ne _ _ (by first | assumption | exact Ne.symm (by assumption))) ?_)) ?_ | refine (nthK_iff _ _).2 ⟨_, (by assumption), ?_⟩ | refine ⟨_, ⟨(by omega), (by assumption)⟩, ?_⟩ | refine And.intro (by first | decide | omega) ?_ | fail); conv => whnf) | refine Sem.seqS ?_ | refine Sem.block ?_ | fail)
  refine hrows.on ?_; conv => whnf
  repeat' (first | ((first | refine Sem.reg tt_ok ?_ | refine Sem.condS ?_ | refine Sem.regL tt_ok ?_ | refine Sem.skip tt_ok ?_ | refine Sem.exit tt_ok ?_ | refine Sem.ret tt_ok ?_ | refine BS_t (by assumption) ?_ | refine BS_f (by assumption) ?_ | refine atG (by repeat (first | assumption | exact setG_same _ _ _ | refine Eq.trans (setG_ne _ _ (by first | assumption | exact Ne.symm (by assumption))) ?_)) ?_ | refine (nthK_iff _ _).2 ⟨_, (by assumption), ?_⟩ | refine ⟨_, ⟨(by omega), (by assumption)⟩, ?_⟩ | refine And.intro (by first | decide | omega) ?_ | fail); conv => whnf) | refine Sem.seqS ?_ | refine Sem.block ?_ | fail)
  exact ⟨_, fun i y h => hN.fin _ _ i y h, rfl, rfl⟩
theorem decl_x {L : List Tok} (hL : TL L) {p : PS} {pb : Nat} {G : Glob} (hG : G pb = some (pB L p)) (hp : p.at_ < L.length) (hM : MaxOk G) (hs : mayB L p [115, 116, 114, 117, 99, 116] = false) (hu : mayB L p [117, 110, 105, 111, 110] = false) (he : mayB L p [101, 110, 117, 109] = false) (hv : mayB L p [115, 101, 114, 118, 105, 99, 101] = false) :
    CallOk Try.prog TT 12 [.gptr pb 0] G (fun v G' => v = .agg (declP L p).1.av ∧ G' = setG G pb (pB L (declP L p).2)) := by
  have hk : kindP L p = 0 := by unfold kindP; simp [hs, hu, he, hv]
  have hkq : kindQ L p = failP L p 5 := by unfold kindQ; rw [if_pos hk]
  have e : declP L p = (⟨0, nameV L (kindQ L p), (rowsP L (fieldP L) 18 0 (needP L (nameP L (kindQ L p)) [123])).1, [], (cur L p).at_⟩, (rowsP L (fieldP L) 18 0 (needP L (nameP L (kindQ L p)) [123])).2) := by unfold declP; simp only [hk, if_neg (show ¬ ((0 : Nat) = 4) by decide), if_neg (show ¬ ((0 : Nat) = 3) by decide)]
  rw [e]
  have hp1 := kindQ_at hL hp
  rw [hkq] at hp1 ⊢
  have hnow := now_ok hG hp
  unfold Tok.av tokC at hnow
  refine call_sem tt_ok Try.func12 rfl (by kernel_rfl) Try.ntmps12 Try.results12 ?_; conv => whnf
  refine Sem.seq tt_ok ?_; conv => whnf
  refine Sem.seq tt_ok ?_; conv => whnf
  refine hnow.on ?_; conv => whnf
  refine Sem.lend 0 ?_
  conv => whnf
  intro qb hqb
  conv => whnf
  refine Sem.lend 2 ?_
  conv => whnf
  intro db hdb
  conv => whnf
  obtain ⟨hqp, hqd, hpd, N, hN, hNe⟩ := nn_of hG hM hqb (.cells [.int .i64 0, .str ⟨#[]⟩, .nils, .nils, .int .i64 ((cur L p).at_ : Nat)]) hdb
  rw [hNe]
  have a0 := hN.p p (.cells [.int .i64 0, .str ⟨#[]⟩, .nils, .nils, .int .i64 ((cur L p).at_ : Nat)])
  have b0 := hN.q p (.cells [.int .i64 0, .str ⟨#[]⟩, .nils, .nils, .int .i64 ((cur L p).at_ : Nat)])
  have m0 := may_ok hL a0 hp _ hs
  rw [mayP_f hs, setG_back a0] at m0
  have m1 := may_ok hL a0 hp _ hu
  rw [mayP_f hu, setG_back a0] at m1
  have m2 := may_ok hL a0 hp _ he
  rw [mayP_f he, setG_back a0] at m2
  have m3 := may_ok hL a0 hp _ hv
  rw [mayP_f hv, setG_back a0] at m3
  have m4 := fail_ok a0 hp 5
  rw [hN.sp] at m4
  generalize failP L p 5 = p1 at *
  have b1 := hN.q p1 (.cells [.int .i64 0, .str ⟨#[]⟩, .nils, .nils, .int .i64 ((cur L p).at_ : Nat)])
  have d1 := hN.d p1 (.cells [.int .i64 0, .str ⟨#[]⟩, .nils, .nils, .int .i64 ((cur L p).at_ : Nat)])
  have hname := pname_ok hL (hN.p p1 (.cells [.int .i64 0, .str ⟨#[]⟩, .nils, .nils, .int .i64 ((cur L p).at_ : Nat)])) hp1 (hN.m p1 _ (fun k o h => by cases h))
  rw [hN.sp] at hname
  have hp2 := name_at hL hp1
  have b2 := hN.q p1 (.cells [.int .i64 0, .str ⟨#[]⟩, .nils, .nils, .int .i64 ((cur L p).at_ : Nat)])
  have d2 := hN.d (nameP L p1) (.cells [.int .i64 0, .str ⟨#[]⟩, .nils, .nils, .int .i64 ((cur L p).at_ : Nat)])
  generalize nameP L p1 = p2 at *
  generalize nameV L p1 = nm at *
  have b3 := hN.q p2 (dF 0 (S nm) ((cur L p).at_ : Nat) [])
  have hPD : PD L pb qb db (dF 0 (S nm) ((cur L p).at_ : Nat)) (N p2 (dF 0 (S nm) ((cur L p).at_ : Nat) [])) p2 [] := ⟨hN.p _ _, b3, hN.d _ _, hN.m _ _ (fun k o h => by cases h)⟩
  have hrows := rows_ok hL (rows_field hL pb qb db 0 ((cur L p).at_ : Nat) (S nm)) hpd hqp hqd hPD hp2
  rw [hN.sp, hN.sd] at hrows
  generalize rowsP L (fieldP L) 18 0 (needP L p2 [123]) = r at *
  have d4 := hN.d r.2 (dF 0 (S nm) ((cur L p).at_ : Nat) (r.1.map Fd.av))
  repeat' (first | ((first | refine Sem.reg tt_ok ?_ | refine Sem.condS ?_ | refine Sem.regL tt_ok ?_ | refine Sem.skip tt_ok ?_ | refine Sem.exit tt_ok ?_ | refine Sem.ret tt_ok ?_ | refine BS_t (by assumption) ?_ | refine BS_f (by assumption) ?_ | refine atG (by repeat (first | assumption | exact setG_same _ _ _ | refine Eq.trans (setG_ne _ _ (by first | assumption | exact Ne.symm (by assumption))) ?_)) ?_ | refine (nthK_iff _ _).2 ⟨_, (by assumption), ?_⟩ | refine ⟨_, ⟨(by omega), (by assumption)⟩, ?_⟩ | refine And.intro (by first | decide | omega) ?_ | fail); conv => whnf) | refine Sem.seqS ?_ | refine Sem.block ?_ | fail)
  refine m0.on ?_; conv => whnf
  repeat' (first | ((first | refine Sem.reg tt_ok ?_ | refine Sem.condS ?_ | refine Sem.regL tt_ok ?_ | refine Sem.skip tt_ok ?_ | refine Sem.exit tt_ok ?_ | refine Sem.ret tt_ok ?_ | refine BS_t (by assumption) ?_ | refine BS_f (by assumption) ?_ | refine atG (by repeat (first | assumption | exact setG_same _ _ _ | refine Eq.trans (setG_ne _ _ (by first | assumption | exact Ne.symm (by assumption))) ?_)) ?_ | refine (nthK_iff _ _).2 ⟨_, (by assumption), ?_⟩ | refine ⟨_, ⟨(by omega), (by assumption)⟩, ?_⟩ | refine And.intro (by first | decide | omega) ?_ | fail); conv => whnf) | refine Sem.seqS ?_ | refine Sem.block ?_ | fail)
  refine m1.on ?_; conv => whnf
  repeat' (first | ((first | refine Sem.reg tt_ok ?_ | refine Sem.condS ?_ | refine Sem.regL tt_ok ?_ | refine Sem.skip tt_ok ?_ | refine Sem.exit tt_ok ?_ | refine Sem.ret tt_ok ?_ | refine BS_t (by assumption) ?_ | refine BS_f (by assumption) ?_ | refine atG (by repeat (first | assumption | exact setG_same _ _ _ | refine Eq.trans (setG_ne _ _ (by first | assumption | exact Ne.symm (by assumption))) ?_)) ?_ | refine (nthK_iff _ _).2 ⟨_, (by assumption), ?_⟩ | refine ⟨_, ⟨(by omega), (by assumption)⟩, ?_⟩ | refine And.intro (by first | decide | omega) ?_ | fail); conv => whnf) | refine Sem.seqS ?_ | refine Sem.block ?_ | fail)
  refine m2.on ?_; conv => whnf
  repeat' (first | ((first | refine Sem.reg tt_ok ?_ | refine Sem.condS ?_ | refine Sem.regL tt_ok ?_ | refine Sem.skip tt_ok ?_ | refine Sem.exit tt_ok ?_ | refine Sem.ret tt_ok ?_ | refine BS_t (by assumption) ?_ | refine BS_f (by assumption) ?_ | refine atG (by repeat (first | assumption | exact setG_same _ _ _ | refine Eq.trans (setG_ne _ _ (by first | assumption | exact Ne.symm (by assumption))) ?_)) ?_ | refine (nthK_iff _ _).2 ⟨_, (by assumption), ?_⟩ | refine ⟨_, ⟨(by omega), (by assumption)⟩, ?_⟩ | refine And.intro (by first | decide | omega) ?_ | fail); conv => whnf) | refine Sem.seqS ?_ | refine Sem.block ?_ | fail)
  refine m3.on ?_; conv => whnf
  repeat' (first | ((first | refine Sem.reg tt_ok ?_ | refine Sem.condS ?_ | refine Sem.regL tt_ok ?_ | refine Sem.skip tt_ok ?_ | refine Sem.exit tt_ok ?_ | refine Sem.ret tt_ok ?_ | refine BS_t (by assumption) ?_ | refine BS_f (by assumption) ?_ | refine atG (by repeat (first | assumption | exact setG_same _ _ _ | refine Eq.trans (setG_ne _ _ (by first | assumption | exact Ne.symm (by assumption))) ?_)) ?_ | refine (nthK_iff _ _).2 ⟨_, (by assumption), ?_⟩ | refine ⟨_, ⟨(by omega), (by assumption)⟩, ?_⟩ | refine And.intro (by first | decide | omega) ?_ | fail); conv => whnf) | refine Sem.seqS ?_ | refine Sem.block ?_ | fail)
  refine m4.on ?_; conv => whnf
  repeat' (first | ((first | refine Sem.reg tt_ok ?_ | refine Sem.condS ?_ | refine Sem.regL tt_ok ?_ | refine Sem.skip tt_ok ?_ | refine Sem.exit tt_ok ?_ | refine Sem.ret tt_ok ?_ | refine BS_t (by assumption) ?_ | refine BS_f (by assumption) ?_ | refine atG (by repeat (first | assumption | exact setG_same _ _ _ | refine Eq.trans (setG_ne _ _ (by first | assumption | exact Ne.symm (by assumption))) ?_)) ?_ | refine (nthK_iff _ _).2 ⟨_, (by assumption), ?_⟩ | refine ⟨_, ⟨(by omega), (by assumption)⟩, ?_⟩ | refine And.intro (by first | decide | omega) ?_ | fail); conv => whnf) | refine Sem.seqS ?_ | refine Sem.block ?_ | fail)
  refine hname.on ?_; conv => whnf
  refine atG d2 ?_
  conv => whnf
  rw [hN.sd]
  refine Sem.weak (weak_row1 db 2 41 (hN.d _ _) rfl) ?_
  rw [hN.sd]
  repeat' (first | ((first | refine Sem.reg tt_ok ?_ | refine Sem.condS ?_ | refine Sem.regL tt_ok ?_ | refine Sem.skip tt_ok ?_ | refine Sem.exit tt_ok ?_ | refine Sem.ret tt_ok ?_ | refine BS_t (by assumption) ?_ | refine BS_f (by assumption) ?_ | refine atG (by repeat (first | assumption | exact setG_same _ _ _ | refine Eq.trans (setG_ne _ _ (by first | assumption | exact Ne.symm (by assumption))) ?_)) ?_ | refine (nthK_iff _ _).2 ⟨_, (by assumption), ?_⟩ | refine ⟨_, ⟨(by omega), (by assumption)⟩, ?_⟩ | refine And.intro (by first | decide | omega) ?_ | fail); conv => whnf) | refine Sem.seqS ?_ | refine Sem.block ?_ | fail)
  refine hrows.on ?_; conv => whnf
  repeat' (first | ((first | refine Sem.reg tt_ok ?_ | refine Sem.condS ?_ | refine Sem.regL tt_ok ?_ | refine Sem.skip tt_ok ?_ | refine Sem.exit tt_ok ?_ | refine Sem.ret tt_ok ?_ | refine BS_t (by assumption) ?_ | refine BS_f (by assumption) ?_ | refine atG (by repeat (first | assumption | exact setG_same _ _ _ | refine Eq.trans (setG_ne _ _ (by first | assumption | exact Ne.symm (by assumption))) ?_)) ?_ | refine (nthK_iff _ _).2 ⟨_, (by assumption), ?_⟩ | refine ⟨_, ⟨(by omega), (by assumption)⟩, ?_⟩ | refine And.intro (by first | decide | omega) ?_ | fail); conv => whnf) | refine Sem.seqS ?_ | refine Sem.block ?_ | fail)
  exact ⟨_, fun i y h => hN.fin _ _ i y h, rfl, rfl⟩
theorem decl_ok {L : List Tok} (hL : TL L) (hE : EndL L) {p : PS} {pb : Nat} {G : Glob} (hG : G pb = some (pB L p)) (hp : p.at_ < L.length) (hM : MaxOk G) :
    CallOk Try.prog TT 12 [.gptr pb 0] G (fun v G' => v = .agg (declP L p).1.av ∧ G' = setG G pb (pB L (declP L p).2)) := by
  cases h1 : mayB L p [115, 116, 114, 117, 99, 116] with
  | true => exact decl_s hL hG hp hM h1
  | false =>
    cases h2 : mayB L p [117, 110, 105, 111, 110] with
    | true => exact decl_u hL hG hp hM h1 h2
    | false =>
      cases h3 : mayB L p [101, 110, 117, 109] with
      | true => exact decl_e hL hG hp hM h1 h2 h3
      | false =>
        cases h4 : mayB L p [115, 101, 114, 118, 105, 99, 101] with
        | true => exact decl_v hL hE hG hp hM h1 h2 h3 h4
        | false => exact decl_x hL hG hp hM h1 h2 h3 h4
end Go.Proofs.Ytofhakbmmgpgdaa
