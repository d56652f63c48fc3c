/- Chapter 15's example: value.Well through an interface. -/
import Derived.Test.YtgedlbfdhekdgaaDoorValL
set_option maxRecDepth 100000
set_option linter.unusedSimpArgs false
namespace Go.Proofs.YtgedlbfdhekdgaaDoor
open Go Go.RowKit Go.Proofs

theorem meth_single : Meth Tryd.prog 37 "concourse/value.well" 87 := fun w u => by kernel_rfl
theorem meth_many : Meth Tryd.prog 46 "concourse/value.well" 94 := fun w u => by kernel_rfl
theorem meth_tagged : Meth Tryd.prog 50 "concourse/value.well" 96 := fun w u => by kernel_rfl
def exI (n : Int) : VT := .mk 2 n [] [] []
def exL : VT := .mk 7 0 [] [] [exI 1, exI 2]
def exS : VT := .mk 9 0 [] [1] [exL]
theorem av_I (n : Int) : (exI n).av = [.int .i64 2, .int .i64 n, .str (S []), .slc 3 [], .slc 25 []] := by unfold exI; rw [VT.av, VT.avs]; rfl
theorem av_L : exL.av = [.int .i64 7, .int .i64 0, .str (S []), .slc 3 [], .slc 25 [(exI 1).av, (exI 2).av]] := by unfold exL; rw [VT.av, VT.avs, VT.avs, VT.avs]; rfl
theorem av_S : exS.av = [.int .i64 9, .int .i64 0, .str (S []), .slc 3 [[.int .i64 1]], .slc 25 [exL.av]] := by unfold exS; rw [VT.av, VT.avs, VT.avs]; rfl
theorem ofI_ok (G : Glob) : ∃ lo hi : Int, lo ≤ 0 ∧ 2 ≤ hi ∧ CallOk Tryd.prog TT 16 [.int .i64 2] G (fun v G' => v = .ifc 37 (.agg [.int .i64 lo, .int .i64 hi]) ∧ G' = G) :=
  ⟨-9223372036854775808, 9223372036854775807, by decide, by decide, vof_ok 2 G⟩
theorem bare_ok (n : Int) (z : ByteArray) (G : Glob) : CallOk Tryd.prog TT 88 [.agg [.int .i64 2, .int .i64 n, .str z, .slc 3 [], .slc 25 []]] G (fun v G' => v = .bool true ∧ G' = G) := by
  refine call_sem tt_ok Tryd.func88 rfl (by kernel_rfl) Tryd.ntmps88 Tryd.results88 ?_; conv => whnf
  repeat' (first | ((first | refine Sem.reg tt_ok ?_ | refine Sem.condS ?_ | refine Sem.regL tt_ok ?_ | refine Sem.skip tt_ok ?_ | refine Sem.exit tt_ok ?_ | refine Sem.ret tt_ok ?_ | refine BS_t (by assumption) ?_ | refine BS_f (by assumption) ?_ | refine (nthK_iff _ _).2 ⟨_, (by assumption), ?_⟩ | refine ⟨_, ⟨(by omega), (by assumption)⟩, ?_⟩ | refine And.intro (by first | decide | omega) ?_ | fail); conv => whnf) | refine Sem.seqS ?_ | refine Sem.block ?_ | fail)
  exact ⟨_, fun _ _ h => h, rfl, rfl⟩
theorem single_ok (n lo hi : Int) (z : ByteArray) (e0 : (z.toList == (⟨#[]⟩ : ByteArray).toList) = true) (c1 : decide (n ≥ lo) = true) (c2 : decide (n ≤ hi) = true) (G : Glob) : CallOk Tryd.prog TT 87 [.agg [.int .i64 lo, .int .i64 hi], .agg [.int .i64 2, .int .i64 n, .str z, .slc 3 [], .slc 25 []]] G (fun v G' => v = .bool true ∧ G' = G) := by
  have hb := bare_ok n z G
  refine call_sem tt_ok Tryd.func87 rfl (by kernel_rfl) Tryd.ntmps87 Tryd.results87 ?_; conv => whnf
  repeat' (first | ((first | refine Sem.reg tt_ok ?_ | refine Sem.condS ?_ | refine Sem.regL tt_ok ?_ | refine Sem.skip tt_ok ?_ | refine Sem.exit tt_ok ?_ | refine Sem.ret tt_ok ?_ | refine BS_t (by assumption) ?_ | refine BS_f (by assumption) ?_ | refine (nthK_iff _ _).2 ⟨_, (by assumption), ?_⟩ | refine ⟨_, ⟨(by omega), (by assumption)⟩, ?_⟩ | refine And.intro (by first | decide | omega) ?_ | fail); conv => whnf) | refine Sem.seqS ?_ | refine Sem.block ?_ | fail)
  refine hb.on ?_; conv => whnf
  repeat' (first | ((first | refine Sem.reg tt_ok ?_ | refine Sem.condS ?_ | refine Sem.regL tt_ok ?_ | refine Sem.skip tt_ok ?_ | refine Sem.exit tt_ok ?_ | refine Sem.ret tt_ok ?_ | refine BS_t (by assumption) ?_ | refine BS_f (by assumption) ?_ | refine (nthK_iff _ _).2 ⟨_, (by assumption), ?_⟩ | refine ⟨_, ⟨(by omega), (by assumption)⟩, ?_⟩ | refine And.intro (by first | decide | omega) ?_ | fail); conv => whnf) | refine Sem.seqS ?_ | refine Sem.block ?_ | fail)
  exact ⟨_, fun _ _ h => h, congrArg AV.bool c2, rfl⟩
theorem wellI_ok (n : Int) (hn : n = 1 ∨ n = 2) (G : Glob) : CallOk Tryd.prog TT 14 [.agg (exI n).av] G (fun v G' => v = .bool true ∧ G' = G) := by
  obtain ⟨lo, hi, h1, h2, hof⟩ := ofI_ok G
  have hx := idx_ok [] 38 G (by decide) (fun x hx => by cases hx)
  rw [VT.avs] at hx
  have e0 : ((S []).toList == (⟨#[]⟩ : ByteArray).toList) = true := by simp [S]
  rw [av_I]
  generalize S [] = z at *
  have c1 : decide (n ≥ lo) = true := by rw [decide_eq_true_eq]; omega
  have c2 : decide (n ≤ hi) = true := by rw [decide_eq_true_eq]; omega
  have hw := single_ok n lo hi z e0 c1 c2 G
  clear e0 c1 c2
  refine call_sem tt_ok Tryd.func14 rfl (by kernel_rfl) Tryd.ntmps14 Tryd.results14 ?_; conv => whnf
  repeat' (first | ((first | refine Sem.reg tt_ok ?_ | refine Sem.condS ?_ | refine Sem.regL tt_ok ?_ | refine Sem.skip tt_ok ?_ | refine Sem.exit tt_ok ?_ | refine Sem.ret tt_ok ?_ | refine BS_t (by assumption) ?_ | refine BS_f (by assumption) ?_ | refine (nthK_iff _ _).2 ⟨_, (by assumption), ?_⟩ | refine ⟨_, ⟨(by omega), (by assumption)⟩, ?_⟩ | refine And.intro (by first | decide | omega) ?_ | fail); conv => whnf) | refine Sem.seqS ?_ | refine Sem.block ?_ | fail)
  refine hof.on ?_; conv => whnf
  repeat' (first | ((first | refine Sem.reg tt_ok ?_ | refine Sem.condS ?_ | refine Sem.regL tt_ok ?_ | refine Sem.skip tt_ok ?_ | refine Sem.exit tt_ok ?_ | refine Sem.ret tt_ok ?_ | refine BS_t (by assumption) ?_ | refine BS_f (by assumption) ?_ | refine (nthK_iff _ _).2 ⟨_, (by assumption), ?_⟩ | refine ⟨_, ⟨(by omega), (by assumption)⟩, ?_⟩ | refine And.intro (by first | decide | omega) ?_ | fail); conv => whnf) | refine Sem.seqS ?_ | refine Sem.block ?_ | fail)
  refine ⟨_, meth_single, ?_⟩
  refine hw.on ?_; conv => whnf
  repeat' (first | ((first | refine Sem.reg tt_ok ?_ | refine Sem.condS ?_ | refine Sem.regL tt_ok ?_ | refine Sem.skip tt_ok ?_ | refine Sem.exit tt_ok ?_ | refine Sem.ret tt_ok ?_ | refine BS_t (by assumption) ?_ | refine BS_f (by assumption) ?_ | refine (nthK_iff _ _).2 ⟨_, (by assumption), ?_⟩ | refine ⟨_, ⟨(by omega), (by assumption)⟩, ?_⟩ | refine And.intro (by first | decide | omega) ?_ | fail); conv => whnf) | refine Sem.seqS ?_ | refine Sem.block ?_ | fail)
  refine hx.on ?_; conv => whnf
  repeat' (first | ((first | refine Sem.reg tt_ok ?_ | refine Sem.condS ?_ | refine Sem.regL tt_ok ?_ | refine Sem.skip tt_ok ?_ | refine Sem.exit tt_ok ?_ | refine Sem.ret tt_ok ?_ | refine BS_t (by assumption) ?_ | refine BS_f (by assumption) ?_ | refine (nthK_iff _ _).2 ⟨_, (by assumption), ?_⟩ | refine ⟨_, ⟨(by omega), (by assumption)⟩, ?_⟩ | refine And.intro (by first | decide | omega) ?_ | fail); conv => whnf) | refine Sem.seqS ?_ | refine Sem.block ?_ | fail)
  exact ⟨_, fun _ _ h => h, rfl, rfl⟩
theorem clo_ok {v : VT} {G : Glob} (h : CallOk Tryd.prog TT 14 [.agg v.av] G (fun v G' => v = .bool true ∧ G' = G)) : CallOk Tryd.prog TT 38 [.agg v.av] G (fun v G' => v = .bool false ∧ G' = G) := by
  obtain ⟨k, n, s, t, l⟩ := v
  rw [VT.av] at h ⊢
  refine call_sem tt_ok Tryd.func38 rfl (by kernel_rfl) Tryd.ntmps38 Tryd.results38 ?_; conv => whnf
  repeat' (first | ((first | refine Sem.reg tt_ok ?_ | refine Sem.condS ?_ | refine Sem.regL tt_ok ?_ | refine Sem.skip tt_ok ?_ | refine Sem.exit tt_ok ?_ | refine Sem.ret tt_ok ?_ | refine BS_t (by assumption) ?_ | refine BS_f (by assumption) ?_ | refine (nthK_iff _ _).2 ⟨_, (by assumption), ?_⟩ | refine ⟨_, ⟨(by omega), (by assumption)⟩, ?_⟩ | refine And.intro (by first | decide | omega) ?_ | fail); conv => whnf) | refine Sem.seqS ?_ | refine Sem.block ?_ | fail)
  refine h.on ?_; conv => whnf
  repeat' (first | ((first | refine Sem.reg tt_ok ?_ | refine Sem.condS ?_ | refine Sem.regL tt_ok ?_ | refine Sem.skip tt_ok ?_ | refine Sem.exit tt_ok ?_ | refine Sem.ret tt_ok ?_ | refine BS_t (by assumption) ?_ | refine BS_f (by assumption) ?_ | refine (nthK_iff _ _).2 ⟨_, (by assumption), ?_⟩ | refine ⟨_, ⟨(by omega), (by assumption)⟩, ?_⟩ | refine And.intro (by first | decide | omega) ?_ | fail); conv => whnf) | refine Sem.seqS ?_ | refine Sem.block ?_ | fail)
  exact ⟨_, fun _ _ h => h, rfl, rfl⟩
theorem many_ok (z : ByteArray) (e0 : (z.toList == (⟨#[]⟩ : ByteArray).toList) = true) (i1 i2 : List AV) (G : Glob) : CallOk Tryd.prog TT 94 [.agg [], .agg [.int .i64 7, .int .i64 0, .str z, .slc 3 [], .slc 25 [i1, i2]]] G (fun v G' => v = .bool true ∧ G' = G) := by
  refine call_sem tt_ok Tryd.func94 rfl (by kernel_rfl) Tryd.ntmps94 Tryd.results94 ?_; conv => whnf
  repeat' (first | ((first | refine Sem.reg tt_ok ?_ | refine Sem.condS ?_ | refine Sem.regL tt_ok ?_ | refine Sem.skip tt_ok ?_ | refine Sem.exit tt_ok ?_ | refine Sem.ret tt_ok ?_ | refine BS_t (by assumption) ?_ | refine BS_f (by assumption) ?_ | refine (nthK_iff _ _).2 ⟨_, (by assumption), ?_⟩ | refine ⟨_, ⟨(by omega), (by assumption)⟩, ?_⟩ | refine And.intro (by first | decide | omega) ?_ | fail); conv => whnf) | refine Sem.seqS ?_ | refine Sem.block ?_ | fail)
  exact ⟨_, fun _ _ h => h, rfl, rfl⟩
theorem wellL_ok (G : Glob) : CallOk Tryd.prog TT 14 [.agg exL.av] G (fun v G' => v = .bool true ∧ G' = G) := by
  have hof := vof_ok 7 G
  have o1 : ofV 7 = .ifc 46 (.agg []) := rfl
  rw [o1] at hof
  have hx := idx_ok [exI 1, exI 2] 38 G (by decide) (fun x hx => by
    rcases List.mem_cons.1 hx with rfl | hx
    · exact clo_ok (wellI_ok 1 (.inl rfl) G)
    · rcases List.mem_cons.1 hx with rfl | hx
      · exact clo_ok (wellI_ok 2 (.inr rfl) G)
      · cases hx)
  rw [VT.avs, VT.avs, VT.avs] at hx
  have e0 : ((S []).toList == (⟨#[]⟩ : ByteArray).toList) = true := by simp [S]
  rw [av_L]
  generalize S [] = z at *
  generalize (exI 1).av = i1 at *
  generalize (exI 2).av = i2 at *
  have hw := many_ok z e0 i1 i2 G
  clear e0
  refine call_sem tt_ok Tryd.func14 rfl (by kernel_rfl) Tryd.ntmps14 Tryd.results14 ?_; conv => whnf
  repeat' (first | ((first | refine Sem.reg tt_ok ?_ | refine Sem.condS ?_ | refine Sem.regL tt_ok ?_ | refine Sem.skip tt_ok ?_ | refine Sem.exit tt_ok ?_ | refine Sem.ret tt_ok ?_ | refine BS_t (by assumption) ?_ | refine BS_f (by assumption) ?_ | refine (nthK_iff _ _).2 ⟨_, (by assumption), ?_⟩ | refine ⟨_, ⟨(by omega), (by assumption)⟩, ?_⟩ | refine And.intro (by first | decide | omega) ?_ | fail); conv => whnf) | refine Sem.seqS ?_ | refine Sem.block ?_ | fail)
  refine hof.on ?_; conv => whnf
  repeat' (first | ((first | refine Sem.reg tt_ok ?_ | refine Sem.condS ?_ | refine Sem.regL tt_ok ?_ | refine Sem.skip tt_ok ?_ | refine Sem.exit tt_ok ?_ | refine Sem.ret tt_ok ?_ | refine BS_t (by assumption) ?_ | refine BS_f (by assumption) ?_ | refine (nthK_iff _ _).2 ⟨_, (by assumption), ?_⟩ | refine ⟨_, ⟨(by omega), (by assumption)⟩, ?_⟩ | refine And.intro (by first | decide | omega) ?_ | fail); conv => whnf) | refine Sem.seqS ?_ | refine Sem.block ?_ | fail)
  refine ⟨_, meth_many, ?_⟩
  refine hw.on ?_; conv => whnf
  repeat' (first | ((first | refine Sem.reg tt_ok ?_ | refine Sem.condS ?_ | refine Sem.regL tt_ok ?_ | refine Sem.skip tt_ok ?_ | refine Sem.exit tt_ok ?_ | refine Sem.ret tt_ok ?_ | refine BS_t (by assumption) ?_ | refine BS_f (by assumption) ?_ | refine (nthK_iff _ _).2 ⟨_, (by assumption), ?_⟩ | refine ⟨_, ⟨(by omega), (by assumption)⟩, ?_⟩ | refine And.intro (by first | decide | omega) ?_ | fail); conv => whnf) | refine Sem.seqS ?_ | refine Sem.block ?_ | fail)
  refine hx.on ?_; conv => whnf
  repeat' (first | ((first | refine Sem.reg tt_ok ?_ | refine Sem.condS ?_ | refine Sem.regL tt_ok ?_ | refine Sem.skip tt_ok ?_ | refine Sem.exit tt_ok ?_ | refine Sem.ret tt_ok ?_ | refine BS_t (by assumption) ?_ | refine BS_f (by assumption) ?_ | refine (nthK_iff _ _).2 ⟨_, (by assumption), ?_⟩ | refine ⟨_, ⟨(by omega), (by assumption)⟩, ?_⟩ | refine And.intro (by first | decide | omega) ?_ | fail); conv => whnf) | refine Sem.seqS ?_ | refine Sem.block ?_ | fail)
  exact ⟨_, fun _ _ h => h, rfl, rfl⟩
theorem tagged_ok (z : ByteArray) (e0 : (z.toList == (⟨#[]⟩ : ByteArray).toList) = true) (i1 : List AV) (G : Glob) : CallOk Tryd.prog TT 96 [.agg [.int .i64 0], .agg [.int .i64 9, .int .i64 0, .str z, .slc 3 [[.int .i64 1]], .slc 25 [i1]]] G (fun v G' => v = .bool true ∧ G' = G) := by
  have e1 : (!(z.toList == (⟨#[]⟩ : ByteArray).toList)) = false := by rw [e0]; rfl
  clear e0
  refine call_sem tt_ok Tryd.func96 rfl (by kernel_rfl) Tryd.ntmps96 Tryd.results96 ?_; conv => whnf
  repeat' (first | ((first | refine Sem.reg tt_ok ?_ | refine Sem.condS ?_ | refine Sem.regL tt_ok ?_ | refine Sem.skip tt_ok ?_ | refine Sem.exit tt_ok ?_ | refine Sem.ret tt_ok ?_ | refine BS_t (by assumption) ?_ | refine BS_f (by assumption) ?_ | refine (nthK_iff _ _).2 ⟨_, (by assumption), ?_⟩ | refine ⟨_, ⟨(by omega), (by assumption)⟩, ?_⟩ | refine And.intro (by first | decide | omega) ?_ | fail); conv => whnf) | refine Sem.seqS ?_ | refine Sem.block ?_ | fail)
  refine Sem.loop (ι := VI 1) (fun x => ⟨(.top :: .top :: .top :: .top :: .bool false :: .int .i64 (x.k : Nat) :: .top :: .top :: .top :: .top :: .top :: .top :: .top :: .top :: .top :: .top :: .top :: .top :: .top :: .top :: .top :: .top :: .top :: .top :: .top :: .top :: .top :: .top :: .top :: .top :: .top :: .top :: .top :: .top :: .top :: .top :: .top :: .top :: .top :: .slc 3 [[.int .i64 1]] :: .int .i64 (1 : Nat) :: .int .i64 (x.k : Nat) :: .top :: .top :: .top :: .top :: .top :: .top :: .top :: .top :: .top :: .top :: .top :: .top :: []), [], 0, 0, G⟩) (fun x => 1 - x.k) ⟨0, Nat.zero_le _⟩ ?_ (fun x => ?_)
  · refine weak_by [] ?_; (conv => whnf); repeat (first | (refine And.intro rfl ?_; conv => whnf) | fail)
    exact ⟨fun i y hy => hy, rfl, by decide, rfl, rfl⟩
  obtain ⟨k, hk⟩ := x
  simp only
  match k, hk with
  | 0, _ =>
    repeat' (first | ((first | refine Sem.reg tt_ok ?_ | refine Sem.condS ?_ | refine Sem.regL tt_ok ?_ | refine Sem.skip tt_ok ?_ | refine Sem.exit tt_ok ?_ | refine Sem.ret tt_ok ?_ | refine BS_t (by assumption) ?_ | refine BS_f (by assumption) ?_ | refine (nthK_iff _ _).2 ⟨_, (by assumption), ?_⟩ | refine ⟨_, ⟨(by omega), (by assumption)⟩, ?_⟩ | refine And.intro (by first | decide | omega) ?_ | fail); conv => whnf) | refine Sem.seqS ?_ | refine Sem.block ?_ | fail)
    refine ⟨_, ⟨by decide, rfl⟩, ?_⟩; conv => whnf
    repeat' (first | ((first | refine Sem.reg tt_ok ?_ | refine Sem.condS ?_ | refine Sem.regL tt_ok ?_ | refine Sem.skip tt_ok ?_ | refine Sem.exit tt_ok ?_ | refine Sem.ret tt_ok ?_ | refine BS_t (by assumption) ?_ | refine BS_f (by assumption) ?_ | refine (nthK_iff _ _).2 ⟨_, (by assumption), ?_⟩ | refine ⟨_, ⟨(by omega), (by assumption)⟩, ?_⟩ | refine And.intro (by first | decide | omega) ?_ | fail); conv => whnf) | refine Sem.seqS ?_ | refine Sem.block ?_ | fail)
    refine ⟨⟨1, by omega⟩, Nat.one_pos, ?_⟩
    refine weak_by [] ?_; (conv => whnf); repeat (first | (refine And.intro rfl ?_; conv => whnf) | fail)
    exact ⟨fun i y hy => hy, rfl, by decide, rfl, rfl⟩
  | 1, _ =>
    repeat' (first | ((first | refine Sem.reg tt_ok ?_ | refine Sem.condS ?_ | refine Sem.regL tt_ok ?_ | refine Sem.skip tt_ok ?_ | refine Sem.exit tt_ok ?_ | refine Sem.ret tt_ok ?_ | refine BS_t (by assumption) ?_ | refine BS_f (by assumption) ?_ | refine (nthK_iff _ _).2 ⟨_, (by assumption), ?_⟩ | refine ⟨_, ⟨(by omega), (by assumption)⟩, ?_⟩ | refine And.intro (by first | decide | omega) ?_ | fail); conv => whnf) | refine Sem.seqS ?_ | refine Sem.block ?_ | fail)
    exact ⟨_, fun _ _ h => h, rfl, rfl⟩
theorem wellS_ok (G : Glob) : CallOk Tryd.prog TT 14 [.agg exS.av] G (fun v G' => v = .bool true ∧ G' = G) := by
  have hof := vof_ok 9 G
  have o1 : ofV 9 = .ifc 50 (.agg [.int .i64 0]) := rfl
  rw [o1] at hof
  have hx := idx_ok [exL] 38 G (by decide) (fun x hx => by
    rcases List.mem_cons.1 hx with rfl | hx
    · exact clo_ok (wellL_ok G)
    · cases hx)
  rw [VT.avs, VT.avs] at hx
  have e0 : ((S []).toList == (⟨#[]⟩ : ByteArray).toList) = true := by simp [S]
  rw [av_S]
  generalize S [] = z at *
  generalize exL.av = i1 at *
  have hw := tagged_ok z e0 i1 G
  clear e0
  refine call_sem tt_ok Tryd.func14 rfl (by kernel_rfl) Tryd.ntmps14 Tryd.results14 ?_; conv => whnf
  repeat' (first | ((first | refine Sem.reg tt_ok ?_ | refine Sem.condS ?_ | refine Sem.regL tt_ok ?_ | refine Sem.skip tt_ok ?_ | refine Sem.exit tt_ok ?_ | refine Sem.ret tt_ok ?_ | refine BS_t (by assumption) ?_ | refine BS_f (by assumption) ?_ | refine (nthK_iff _ _).2 ⟨_, (by assumption), ?_⟩ | refine ⟨_, ⟨(by omega), (by assumption)⟩, ?_⟩ | refine And.intro (by first | decide | omega) ?_ | fail); conv => whnf) | refine Sem.seqS ?_ | refine Sem.block ?_ | fail)
  refine hof.on ?_; conv => whnf
  repeat' (first | ((first | refine Sem.reg tt_ok ?_ | refine Sem.condS ?_ | refine Sem.regL tt_ok ?_ | refine Sem.skip tt_ok ?_ | refine Sem.exit tt_ok ?_ | refine Sem.ret tt_ok ?_ | refine BS_t (by assumption) ?_ | refine BS_f (by assumption) ?_ | refine (nthK_iff _ _).2 ⟨_, (by assumption), ?_⟩ | refine ⟨_, ⟨(by omega), (by assumption)⟩, ?_⟩ | refine And.intro (by first | decide | omega) ?_ | fail); conv => whnf) | refine Sem.seqS ?_ | refine Sem.block ?_ | fail)
  refine ⟨_, meth_tagged, ?_⟩
  refine hw.on ?_; conv => whnf
  repeat' (first | ((first | refine Sem.reg tt_ok ?_ | refine Sem.condS ?_ | refine Sem.regL tt_ok ?_ | refine Sem.skip tt_ok ?_ | refine Sem.exit tt_ok ?_ | refine Sem.ret tt_ok ?_ | refine BS_t (by assumption) ?_ | refine BS_f (by assumption) ?_ | refine (nthK_iff _ _).2 ⟨_, (by assumption), ?_⟩ | refine ⟨_, ⟨(by omega), (by assumption)⟩, ?_⟩ | refine And.intro (by first | decide | omega) ?_ | fail); conv => whnf) | refine Sem.seqS ?_ | refine Sem.block ?_ | fail)
  refine hx.on ?_; conv => whnf
  repeat' (first | ((first | refine Sem.reg tt_ok ?_ | refine Sem.condS ?_ | refine Sem.regL tt_ok ?_ | refine Sem.skip tt_ok ?_ | refine Sem.exit tt_ok ?_ | refine Sem.ret tt_ok ?_ | refine BS_t (by assumption) ?_ | refine BS_f (by assumption) ?_ | refine (nthK_iff _ _).2 ⟨_, (by assumption), ?_⟩ | refine ⟨_, ⟨(by omega), (by assumption)⟩, ?_⟩ | refine And.intro (by first | decide | omega) ?_ | fail); conv => whnf) | refine Sem.seqS ?_ | refine Sem.block ?_ | fail)
  exact ⟨_, fun _ _ h => h, rfl, rfl⟩
theorem text_S : textT exS = [40, 49, 61, 91, 49, 44, 50, 93, 41] := by
  have e1 : Lib.itoa 1 = [49] := by decide +kernel
  have e2 : Lib.itoa 2 = [50] := by decide +kernel
  simp [exS, exL, exI, textT_mk, itemsT, sepV, tagV, e1, e2]
theorem deep_S : deepV exS = 3 := by simp [exS, exL, exI, deepV_mk, deepsV]
theorem in_I (n : Int) (hn : n = 1 ∨ n = 2) : (exI n).In := .mk _ _ _ _ _ (by decide) (by omega) (fun t h => by cases h) (fun t h => by cases h)
theorem in_S : exS.In := .mk _ _ _ _ _ (by decide) (by decide) (fun t h => by rcases List.mem_cons.1 h with rfl | h; decide; cases h) (fun t h => by
  rcases List.mem_cons.1 h with rfl | h
  · exact .mk _ _ _ _ _ (by decide) (by decide) (fun t h => by cases h) (fun t h => by
      rcases List.mem_cons.1 h with rfl | h
      · exact in_I 1 (.inl rfl)
      · rcases List.mem_cons.1 h with rfl | h
        · exact in_I 2 (.inr rfl)
        · cases h)
  · cases h)
theorem size_S : sizeV exS = 32 := by simp [exS, exL, exI, sizeV_mk, sizesV]
theorem awake15_ok {G : Glob} (hG : PowOk G) : CallOk Tryd.prog TT 6 [] G (fun v G' => v = .bool true ∧ G' = G) := by
  have h1 := vtext_ok exS G hG in_S (by rw [size_S]; decide)
  have h2 := wellS_ok G
  have h3 := vdeep_ok exS G (by rw [size_S]; decide)
  rw [text_S] at h1
  rw [deep_S] at h3
  have hto : CellsTo [.int .i64 9, .int .i64 0, .str ⟨#[]⟩, .slc 3 [[.int .i64 1]], .slc 25 [[.int .i64 7, .int .i64 0, .str ⟨#[]⟩, .nils, .slc 25 [[.int .i64 2, .int .i64 1, .str ⟨#[]⟩, .nils, .nils], [.int .i64 2, .int .i64 2, .str ⟨#[]⟩, .nils, .nils]]]]] exS.av := by
    have hI : ∀ n, CellsTo [.int .i64 2, .int .i64 n, .str ⟨#[]⟩, .nils, .nils] (exI n).av := fun n => by
      rw [av_I]
      exact cells_cons (fun _ _ _ _ h => h) (cells_cons (fun _ _ _ _ h => h) (cells_cons (fun _ _ _ _ h => h) (cells_cons (nil_to _) (cells_cons (nil_to _) cells_nil))))
    have hL : CellsTo [.int .i64 7, .int .i64 0, .str ⟨#[]⟩, .nils, .slc 25 [[.int .i64 2, .int .i64 1, .str ⟨#[]⟩, .nils, .nils], [.int .i64 2, .int .i64 2, .str ⟨#[]⟩, .nils, .nils]]] exL.av := by
      rw [av_L]
      refine cells_cons (fun _ _ _ _ h => h) (cells_cons (fun _ _ _ _ h => h) (cells_cons (fun _ _ _ _ h => h) (cells_cons (nil_to _) (cells_cons (fun T g w x hd => ?_) cells_nil))))
      refine cells_slc (by simp) (fun i p q hp hq => ?_) hd
      match i with
      | 0 => cases hp; cases hq; exact hI 1
      | 1 => cases hp; cases hq; exact hI 2
      | i + 2 => simp at hp
    rw [av_S]
    exact cells_cons (fun _ _ _ _ h => h) (cells_cons (fun _ _ _ _ h => h) (cells_cons (fun _ _ _ _ h => h) (cells_cons (fun _ _ _ _ h => h) (cells_cons (slc_one hL) cells_nil))))
  have g1 := h1.arg1 (agg_to hto)
  have g2 := h2.arg1 (agg_to hto)
  have g3 := h3.arg1 (agg_to hto)
  have e0 : ((S [40, 49, 61, 91, 49, 44, 50, 93, 41]).toList == (⟨#[40, 49, 61, 91, 49, 44, 50, 93, 41]⟩ : ByteArray).toList) = true := by simp [S]
  generalize S [40, 49, 61, 91, 49, 44, 50, 93, 41] = z at *
  clear hto h1 h2 h3
  refine call_sem tt_ok Tryd.func6 rfl (by kernel_rfl) Tryd.ntmps6 Tryd.results6 ?_; conv => whnf
  repeat' (first | ((first | refine Sem.reg tt_ok ?_ | refine Sem.condS ?_ | refine Sem.regL tt_ok ?_ | refine Sem.skip tt_ok ?_ | refine Sem.exit tt_ok ?_ | refine Sem.ret tt_ok ?_ | refine BS_t (by assumption) ?_ | refine BS_f (by assumption) ?_ | refine (nthK_iff _ _).2 ⟨_, (by assumption), ?_⟩ | refine ⟨_, ⟨(by omega), (by assumption)⟩, ?_⟩ | refine And.intro (by first | decide | omega) ?_ | fail); conv => whnf) | refine Sem.seqS ?_ | refine Sem.block ?_ | fail)
  refine g1.on ?_; conv => whnf
  repeat' (first | ((first | refine Sem.reg tt_ok ?_ | refine Sem.condS ?_ | refine Sem.regL tt_ok ?_ | refine Sem.skip tt_ok ?_ | refine Sem.exit tt_ok ?_ | refine Sem.ret tt_ok ?_ | refine BS_t (by assumption) ?_ | refine BS_f (by assumption) ?_ | refine (nthK_iff _ _).2 ⟨_, (by assumption), ?_⟩ | refine ⟨_, ⟨(by omega), (by assumption)⟩, ?_⟩ | refine And.intro (by first | decide | omega) ?_ | fail); conv => whnf) | refine Sem.seqS ?_ | refine Sem.block ?_ | fail)
  refine g2.on ?_; conv => whnf
  repeat' (first | ((first | refine Sem.reg tt_ok ?_ | refine Sem.condS ?_ | refine Sem.regL tt_ok ?_ | refine Sem.skip tt_ok ?_ | refine Sem.exit tt_ok ?_ | refine Sem.ret tt_ok ?_ | refine BS_t (by assumption) ?_ | refine BS_f (by assumption) ?_ | refine (nthK_iff _ _).2 ⟨_, (by assumption), ?_⟩ | refine ⟨_, ⟨(by omega), (by assumption)⟩, ?_⟩ | refine And.intro (by first | decide | omega) ?_ | fail); conv => whnf) | refine Sem.seqS ?_ | refine Sem.block ?_ | fail)
  refine g3.on ?_; conv => whnf
  repeat' (first | ((first | refine Sem.reg tt_ok ?_ | refine Sem.condS ?_ | refine Sem.regL tt_ok ?_ | refine Sem.skip tt_ok ?_ | refine Sem.exit tt_ok ?_ | refine Sem.ret tt_ok ?_ | refine BS_t (by assumption) ?_ | refine BS_f (by assumption) ?_ | refine (nthK_iff _ _).2 ⟨_, (by assumption), ?_⟩ | refine ⟨_, ⟨(by omega), (by assumption)⟩, ?_⟩ | refine And.intro (by first | decide | omega) ?_ | fail); conv => whnf) | refine Sem.seqS ?_ | refine Sem.block ?_ | fail)
  exact ⟨_, fun _ _ h => h, rfl, rfl⟩
end Go.Proofs.YtgedlbfdhekdgaaDoor
