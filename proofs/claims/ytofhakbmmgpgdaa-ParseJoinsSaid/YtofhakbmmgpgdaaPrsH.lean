/- The words of the language, the document's; chapter 9's example. -/
import Derived.Test.YtofhakbmmgpgdaaPrsG
import Derived.Test.YtofhakbmmgpgdaaPin
import Derived.Shelf.Vars
set_option maxRecDepth 100000
set_option linter.unusedSimpArgs false
namespace Go.Proofs.Ytofhakbmmgpgdaa
open Go Go.RowKit Go.Proofs Go.Shelf

theorem max_cell {w : World} (h : w.ShapedOpen Try.prog) : ∃ m, w.cell? ⟨lays144_ren.g 1, 0, none⟩ = some (.int .i64 m) :=
  cell_of_shapedOpen_int (zero := #[.int .i64 0]) (t := 3) h (of_decide_eq_true (by kernel_rfl)) (by kernel_rfl) rfl (by kernel_rfl) (by kernel_rfl) Try.underlying3
theorem max_pin {w : World} {o : Obj} (ho : w.heap[lays144_ren.g 1]? = some o) (hw : ∃ m, w.cell? ⟨lays144_ren.g 1, 0, none⟩ = some (.int .i64 m)) : MaxOk (globP (lays144_ren.g 1) o) := by
  obtain ⟨m, hm⟩ := hw
  refine ⟨0, o, m, globP_0 _ _, fun w' hw' => ?_⟩
  rw [← hm]
  simp only [World.cell?, ho, hw']
theorem refword_ok (s : List UInt8) (G : Glob) : CallOk Try.prog TT 6 [.str (S s)] G (fun v G' => v = .bool (wordB s) ∧ G' = G) := by
  refine call_sem tt_ok Try.func6 rfl (by kernel_rfl) Try.ntmps6 Try.results6 ?_; conv => whnf
  repeat' (first | ((first | refine Sem.reg tt_ok ?_ | refine Sem.condS ?_ | refine Sem.regL tt_ok ?_ | refine Sem.skip tt_ok ?_ | refine Sem.exit tt_ok ?_ | refine Sem.ret tt_ok ?_ | refine BS_t (by assumption) ?_ | refine BS_f (by assumption) ?_ | refine atG (by repeat (first | assumption | exact setG_same _ _ _ | refine Eq.trans (setG_ne _ _ (by first | assumption | exact Ne.symm (by assumption))) ?_)) ?_ | refine (nthK_iff _ _).2 ⟨_, (by assumption), ?_⟩ | refine ⟨_, ⟨(by omega), (by assumption)⟩, ?_⟩ | refine And.intro (by first | decide | omega) ?_ | fail); conv => whnf) | refine Sem.seqS ?_ | refine Sem.block ?_ | fail)
  refine Sem.loop (ι := {k : Nat // k ≤ 12 ∧ s ∉ wordsL.take k}) (fun x => ⟨(.str (S s) :: .top :: .top :: .own 0 9 (wordsL.map fun w => [.str (S w)]) :: .int .i64 (x.1 : Nat) :: .top :: .top :: .top :: .top :: .top :: .top :: .top :: .top :: .top :: .top :: .top :: .top :: .top :: []), [], 0, 1, G⟩) (fun x => 12 - x.1) ⟨0, by omega, by simp⟩ ?_ (fun x => ?_)
  · refine weak_by [some 0] ?_; (conv => whnf); repeat (first | (refine And.intro rfl ?_; conv => whnf) | fail)
    exact ⟨fun i y hy => hy, rfl, by decide, rfl, rfl⟩
  obtain ⟨k, hk0, hno⟩ := x
  simp only
  have hlen : wordsL.length = 12 := rfl
  by_cases hk : k < 12
  · have t1 : decide (((k : Nat) : Int) < ((wordsL.map fun w => [AV.str (S w)]).length : Nat)) = true := by simp [hlen]; omega
    obtain ⟨x, hx⟩ : ∃ x, wordsL[k]? = some x := ⟨_, List.getElem?_eq_getElem (by omega)⟩
    have hm : (wordsL.map fun w => [AV.str (S w)])[((k : Nat) : Int).toNat]? = some [AV.str (S x)] := by rw [Int.toNat_natCast, List.getElem?_map, hx]; rfl
    have h0 : (0 : Int) ≤ ((k : Nat) : Int) := by omega
    have ht : wordsL.take (k + 1) = wordsL.take k ++ [x] := by rw [List.take_add_one, hx]; rfl
    have e1 := seq_S x s
    generalize hW : wordsL = W at *
    by_cases hxs : x = s
    · rw [decide_eq_true hxs] at e1
      have hw : wordB s = true := by unfold wordB; rw [hW, ← hxs]; exact decide_eq_true (List.mem_of_getElem? hx)
      rw [hw]
      repeat' (first | ((first | refine Sem.reg tt_ok ?_ | refine Sem.condS ?_ | refine Sem.regL tt_ok ?_ | refine Sem.skip tt_ok ?_ | refine Sem.exit tt_ok ?_ | refine Sem.ret tt_ok ?_ | refine BS_t (by assumption) ?_ | refine BS_f (by assumption) ?_ | refine atG (by repeat (first | assumption | exact setG_same _ _ _ | refine Eq.trans (setG_ne _ _ (by first | assumption | exact Ne.symm (by assumption))) ?_)) ?_ | refine (nthK_iff _ _).2 ⟨_, (by assumption), ?_⟩ | refine ⟨_, ⟨(by omega), (by assumption)⟩, ?_⟩ | refine And.intro (by first | decide | omega) ?_ | fail); conv => whnf) | refine Sem.seqS ?_ | refine Sem.block ?_ | fail)
      exact ⟨_, fun _ _ h => h, rfl, rfl⟩
    · rw [decide_eq_false hxs] at e1
      repeat' (first | ((first | refine Sem.reg tt_ok ?_ | refine Sem.condS ?_ | refine Sem.regL tt_ok ?_ | refine Sem.skip tt_ok ?_ | refine Sem.exit tt_ok ?_ | refine Sem.ret tt_ok ?_ | refine BS_t (by assumption) ?_ | refine BS_f (by assumption) ?_ | refine atG (by repeat (first | assumption | exact setG_same _ _ _ | refine Eq.trans (setG_ne _ _ (by first | assumption | exact Ne.symm (by assumption))) ?_)) ?_ | refine (nthK_iff _ _).2 ⟨_, (by assumption), ?_⟩ | refine ⟨_, ⟨(by omega), (by assumption)⟩, ?_⟩ | refine And.intro (by first | decide | omega) ?_ | fail); conv => whnf) | refine Sem.seqS ?_ | refine Sem.block ?_ | fail)
      refine ⟨⟨k + 1, by omega, by rw [ht]; simp [hno, Ne.symm hxs]⟩, by show 12 - (k + 1) < 12 - k; omega, ?_⟩
      refine weak_by [some 0] ?_; (conv => whnf); repeat (first | (refine And.intro rfl ?_; conv => whnf) | fail)
      have hw : IntKind.i64.wrap ((k : Int) + 1) = ((k + 1 : Nat) : Int) := by rw [IntWalk.i64_in _ (by omega)]; omega
      refine ⟨hw, ?_⟩
      (conv => whnf); repeat (first | (refine And.intro rfl ?_; conv => whnf) | fail)
      exact ⟨fun i y hy => hy, rfl, by decide, rfl, rfl⟩
  · have t1 : decide (((k : Nat) : Int) < ((wordsL.map fun w => [AV.str (S w)]).length : Nat)) = false := by simp [hlen]; omega
    have hk' : k = 12 := by omega
    have hw : wordB s = false := by
      unfold wordB
      rw [hk', show wordsL.take 12 = wordsL from rfl] at hno
      simpa using hno
    rw [hw]
    generalize hW : wordsL = W at *
    repeat' (first | ((first | refine Sem.reg tt_ok ?_ | refine Sem.condS ?_ | refine Sem.regL tt_ok ?_ | refine Sem.skip tt_ok ?_ | refine Sem.exit tt_ok ?_ | refine Sem.ret tt_ok ?_ | refine BS_t (by assumption) ?_ | refine BS_f (by assumption) ?_ | refine atG (by repeat (first | assumption | exact setG_same _ _ _ | refine Eq.trans (setG_ne _ _ (by first | assumption | exact Ne.symm (by assumption))) ?_)) ?_ | refine (nthK_iff _ _).2 ⟨_, (by assumption), ?_⟩ | refine ⟨_, ⟨(by omega), (by assumption)⟩, ?_⟩ | refine And.intro (by first | decide | omega) ?_ | fail); conv => whnf) | refine Sem.seqS ?_ | refine Sem.block ?_ | fail)
    exact ⟨_, fun _ _ h => h, rfl, rfl⟩
def ex9 : List UInt8 := [101, 110, 117, 109, 32, 69, 32, 123, 32, 48, 32, 65, 59, 32, 125]
theorem tok_ex9 : tokT ex9 = ([⟨1, [101, 110, 117, 109], 0, 0⟩, ⟨1, [69], 0, 5⟩, ⟨3, [123], 0, 7⟩, ⟨2, [48], 0, 9⟩, ⟨1, [65], 0, 11⟩, ⟨3, [59], 0, 12⟩, ⟨3, [125], 0, 14⟩, ⟨4, [], 0, 15⟩], 0, 0) := by
  have o0 : oneL ex9 0 = (some ⟨1, [101, 110, 117, 109], 0, 0⟩, 4, 0) := rfl
  have o1 : oneL ex9 4 = (none, 5, 0) := rfl
  have o2 : oneL ex9 5 = (some ⟨1, [69], 0, 5⟩, 6, 0) := rfl
  have o3 : oneL ex9 6 = (none, 7, 0) := rfl
  have o4 : oneL ex9 7 = (some ⟨3, [123], 0, 7⟩, 8, 0) := rfl
  have o5 : oneL ex9 8 = (none, 9, 0) := rfl
  have o6 : oneL ex9 9 = (some ⟨2, [48], 0, 9⟩, 10, 0) := rfl
  have o7 : oneL ex9 10 = (none, 11, 0) := rfl
  have o8 : oneL ex9 11 = (some ⟨1, [65], 0, 11⟩, 12, 0) := rfl
  have o9 : oneL ex9 12 = (some ⟨3, [59], 0, 12⟩, 13, 0) := rfl
  have o10 : oneL ex9 13 = (none, 14, 0) := rfl
  have o11 : oneL ex9 14 = (some ⟨3, [125], 0, 14⟩, 15, 0) := rfl
  unfold tokT
  rw [if_neg (by decide), lex_next (by decide) (by rw [o0]), o0, lex_next (by decide) (by rw [o1]), o1, lex_next (by decide) (by rw [o2]), o2, lex_next (by decide) (by rw [o3]), o3, lex_next (by decide) (by rw [o4]), o4, lex_next (by decide) (by rw [o5]), o5, lex_next (by decide) (by rw [o6]), o6, lex_next (by decide) (by rw [o7]), o7, lex_next (by decide) (by rw [o8]), o8, lex_next (by decide) (by rw [o9]), o9, lex_next (by decide) (by rw [o10]), o10, lex_next (by decide) (by rw [o11]), o11, lex_end (by decide)]
  rfl
theorem parse_ex9 : parseT ex9 = ([⟨3, [69], [⟨0, [65], .leaf 0⟩], [], 0⟩], 0, 0) := by
  unfold parseT
  rw [tok_ex9]
  rfl
theorem awake09_ok {G : Glob} (hM : MaxOk G) : CallOk Try.prog TT 7 [] G (fun v G' => v = .bool true ∧ G' = G) := by
  have h := parse_is_ok ex9 G hM
  rw [parse_ex9] at h
  rw [show parseV ([⟨3, [69], [⟨0, [65], .leaf 0⟩], [], 0⟩], 0, 0) = .tup [.slc 36 [[.int .i64 3, .str (S [69]), .slc 41 [[.int .i64 0, .str (S [65]), .int .i64 0, .str ⟨#[]⟩, .nils]], .nils, .int .i64 0]], .agg [.int .i64 0, .int .i64 0]] from rfl] at h
  refine call_sem tt_ok Try.func7 rfl (by kernel_rfl) Try.ntmps7 Try.results7 ?_; conv => whnf
  repeat' (first | ((first | refine Sem.reg tt_ok ?_ | refine Sem.condS ?_ | refine Sem.regL tt_ok ?_ | refine Sem.skip tt_ok ?_ | refine Sem.exit tt_ok ?_ | refine Sem.ret tt_ok ?_ | refine BS_t (by assumption) ?_ | refine BS_f (by assumption) ?_ | refine atG (by repeat (first | assumption | exact setG_same _ _ _ | refine Eq.trans (setG_ne _ _ (by first | assumption | exact Ne.symm (by assumption))) ?_)) ?_ | refine (nthK_iff _ _).2 ⟨_, (by assumption), ?_⟩ | refine ⟨_, ⟨(by omega), (by assumption)⟩, ?_⟩ | refine And.intro (by first | decide | omega) ?_ | fail); conv => whnf) | refine Sem.seqS ?_ | refine Sem.block ?_ | fail)
  refine h.on ?_; conv => whnf
  repeat' (first | ((first | refine Sem.reg tt_ok ?_ | refine Sem.condS ?_ | refine Sem.regL tt_ok ?_ | refine Sem.skip tt_ok ?_ | refine Sem.exit tt_ok ?_ | refine Sem.ret tt_ok ?_ | refine BS_t (by assumption) ?_ | refine BS_f (by assumption) ?_ | refine atG (by repeat (first | assumption | exact setG_same _ _ _ | refine Eq.trans (setG_ne _ _ (by first | assumption | exact Ne.symm (by assumption))) ?_)) ?_ | refine (nthK_iff _ _).2 ⟨_, (by assumption), ?_⟩ | refine ⟨_, ⟨(by omega), (by assumption)⟩, ?_⟩ | refine And.intro (by first | decide | omega) ?_ | fail); conv => whnf) | refine Sem.seqS ?_ | refine Sem.block ?_ | fail)
  repeat' (first | (refine ⟨_, ⟨by decide, rfl⟩, ?_⟩; conv => whnf) | (refine Sem.ret tt_ok ?_; conv => whnf) | fail)
  repeat' (first | ((first | refine Sem.reg tt_ok ?_ | refine Sem.condS ?_ | refine Sem.regL tt_ok ?_ | refine Sem.skip tt_ok ?_ | refine Sem.exit tt_ok ?_ | refine Sem.ret tt_ok ?_ | refine BS_t (by assumption) ?_ | refine BS_f (by assumption) ?_ | refine atG (by repeat (first | assumption | exact setG_same _ _ _ | refine Eq.trans (setG_ne _ _ (by first | assumption | exact Ne.symm (by assumption))) ?_)) ?_ | refine (nthK_iff _ _).2 ⟨_, (by assumption), ?_⟩ | refine ⟨_, ⟨(by omega), (by assumption)⟩, ?_⟩ | refine And.intro (by first | decide | omega) ?_ | fail); conv => whnf) | refine Sem.seqS ?_ | refine Sem.block ?_ | fail)
  exact ⟨_, fun _ _ h => h, congrArg AV.bool (by show ((S [65]).toList == (S [65]).toList) = true; simp), rfl⟩
end Go.Proofs.Ytofhakbmmgpgdaa
