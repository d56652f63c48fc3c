/- The document's Same of declarations, where they are the same: declarations, rows of them. -/
import Derived.Test.YtofhakbmmgpgdaaDoorSm9
import Derived.Test.YtofhakbmmgpgdaaDoorPrn
set_option maxRecDepth 100000
set_option linter.unusedSimpArgs false
namespace Go.Proofs.YtofhakbmmgpgdaaDoor
open Go Go.RowKit Go.Proofs Go.Shelf

def dcC (k : Int) (nm : List UInt8) (f m : List (List AV)) (a : Int) : List AV := [.int .i64 k, .str (S nm), .slc 83 f, .slc 123 m, .int .i64 a]
set_option maxHeartbeats 1000000 in
theorem samedecl_ok {f1 f2 m1 m2 : List (List AV)} {k : Int} {nm : List UInt8} {pa pb : Int} (fl : f1.length = f2.length) (ml : m1.length = m2.length) (fn : f1.length ≤ 1048576) (mn : m1.length ≤ 1048576)
    (fs : ∀ (i : Nat) (a b : List AV), f1[i]? = some a → f2[i]? = some b → SameF a b) (ms : ∀ (i : Nat) (a b : List AV), m1[i]? = some a → m2[i]? = some b → SameM a b) (G : Glob) :
    CallOk Tryd.prog TT 60 [.agg (dcC k nm f1 m1 pa), .agg (dcC k nm f2 m2 pb)] G (fun v G' => v = .bool true ∧ G' = G) := by
  unfold dcC
  have e0 : (k != k) = false := by simp
  have e1 : (!((S nm).toList == (S nm).toList)) = false := by simp
  have e2 : (((f1.length : Int)) != ((f2.length : Int))) = false := by simp [fl]
  have e3 : (((m1.length : Int)) != ((m2.length : Int))) = false := by simp [ml]
  refine call_sem tt_ok Tryd.func60 rfl (by kernel_rfl) Tryd.ntmps60 Tryd.results60 ?_; conv => whnf
  repeat' (first | ((first | refine Sem.reg tt_ok ?_ | refine Sem.condS ?_ | refine Sem.regL tt_ok ?_ | refine Sem.skip tt_ok ?_ | refine Sem.exit tt_ok ?_ | refine Sem.ret tt_ok ?_ | refine BS_t (by assumption) ?_ | refine BS_f (by assumption) ?_ | refine (nthK_iff _ _).2 ⟨_, (by assumption), ?_⟩ | refine ⟨_, ⟨(by omega), (by assumption)⟩, ?_⟩ | refine And.intro (by first | decide | omega) ?_ | fail); conv => whnf) | refine Sem.seqS ?_ | refine Sem.block ?_ | fail)
  refine Sem.loop (ι := {k : Nat // k ≤ f1.length}) (fun x => ⟨(.top :: .top :: .lptr 0 0 :: .lptr 1 0 :: .top :: .bool true :: .int .i64 (x.1 : Nat) :: .top :: .top :: .top :: .top :: .top :: .top :: .top :: .top :: .top :: .top :: .top :: .top :: .top :: .top :: .top :: .top :: .top :: .top :: .top :: .top :: .top :: .top :: .top :: .top :: .top :: .top :: .top :: .top :: .top :: .top :: .top :: .top :: .top :: .top :: .top :: .top :: .top :: .top :: .top :: .top :: .top :: .top :: .top :: .top :: .top :: .top :: .top :: .top :: .top :: .top :: .top :: .top :: .top :: .top :: .top :: .top :: .top :: .top :: .top :: .top :: .top :: .top :: .top :: .top :: .top :: .top :: .top :: .top :: .top :: .top :: .top :: .top :: .top :: .top :: .top :: .top :: .top :: .top :: .top :: .top :: .top :: .top :: .top :: .top :: .top :: .top :: .top :: .top :: .top :: .top :: .top :: .top :: .top :: .top :: []), [.live none [.int .i64 k, .str (S nm), .slc 83 f1, .slc 123 m1, .int .i64 pa], .live none [.int .i64 k, .str (S nm), .slc 83 f2, .slc 123 m2, .int .i64 pb]], 2, 0, G⟩) (fun x => f1.length - x.1) ⟨0, Nat.zero_le _⟩ ?_ (fun x => ?_)
  · refine weak_by [] ?_; (conv => whnf); repeat (first | (refine And.intro rfl ?_; conv => whnf) | fail)
    exact ⟨fun i y hy => hy, rfl, by decide, rfl, rfl⟩
  obtain ⟨i, hi⟩ := x
  simp only
  by_cases hlt : i < f1.length
  · have t1 : decide (((i : Nat) : Int) < (f1.length : Nat)) = true := by simp; omega
    obtain ⟨x, hx⟩ : ∃ x, f1[i]? = some x := ⟨_, List.getElem?_eq_getElem hlt⟩
    obtain ⟨y, hy⟩ : ∃ y, f2[i]? = some y := ⟨_, List.getElem?_eq_getElem (by omega)⟩
    have hx' : f1[((i : Nat) : Int).toNat]? = some x := by rw [Int.toNat_natCast]; exact hx
    have hy' : f2[((i : Nat) : Int).toNat]? = some y := by rw [Int.toNat_natCast]; exact hy
    have h0 : (0 : Int) ≤ ((i : Nat) : Int) := by omega
    have hw : IntKind.i64.wrap ((i : Int) + 1) = ((i + 1 : Nat) : Int) := by rw [IntWalk.i64_in _ (by omega)]; omega
    obtain ⟨tag, fnm, t1', t2', rfl, rfl, hT⟩ := fs i x y hx hy
    have hc := sametype_ok hT G
    have c0 : (tag == tag) = true := by simp
    have c1 : ((S fnm).toList == (S fnm).toList) = true := by simp
    obtain ⟨k', s', o1, o2, rfl, rfl, q1, q2⟩ := hT.cells
    rcases q1 with rfl | ⟨p1, rfl⟩ <;> rcases q2 with rfl | ⟨p2, rfl⟩
    all_goals
      repeat' (first | ((first | refine Sem.reg tt_ok ?_ | refine Sem.condS ?_ | refine Sem.regL tt_ok ?_ | refine Sem.skip tt_ok ?_ | refine Sem.exit tt_ok ?_ | refine Sem.ret tt_ok ?_ | refine BS_t (by assumption) ?_ | refine BS_f (by assumption) ?_ | refine (nthK_iff _ _).2 ⟨_, (by assumption), ?_⟩ | refine ⟨_, ⟨(by omega), (by assumption)⟩, ?_⟩ | refine And.intro (by first | decide | omega) ?_ | fail); conv => whnf) | refine Sem.seqS ?_ | refine Sem.block ?_ | fail)
      refine draw_two 10 11 [0, 1, 2, 3, 4, 5, 6, 7, 8, 9, 10, 11, 12, 13] [0, 1, 2, 3, 4, 5, 6, 7, 8, 9, 11, 10, 12, 13] tt_ok (by kernel_rfl) (by kernel_rfl) (by decide) (by kernel_rfl) (by kernel_rfl) (by kernel_rfl) (by kernel_rfl) ?_ ?_ <;> conv => whnf
    all_goals
      repeat' (first | ((first | refine BS_t (by assumption) ?_ | refine BS_f (by assumption) ?_ | refine (nthK_iff _ _).2 ⟨_, (by assumption), ?_⟩ | refine ⟨_, ⟨(by omega), (by assumption)⟩, ?_⟩ | refine And.intro (by first | decide | omega) ?_ | fail); conv => whnf) | fail)
      repeat' (first | (refine And.intro (by conv => whnf) ?_; conv => whnf) | fail)
      repeat' (first | ((first | refine BS_t (by assumption) ?_ | refine BS_f (by assumption) ?_ | refine (nthK_iff _ _).2 ⟨_, (by assumption), ?_⟩ | refine ⟨_, ⟨(by omega), (by assumption)⟩, ?_⟩ | refine And.intro (by first | decide | omega) ?_ | fail); conv => whnf) | fail)
      repeat' (first | ((first | refine Sem.reg tt_ok ?_ | refine Sem.condS ?_ | refine Sem.regL tt_ok ?_ | refine Sem.skip tt_ok ?_ | refine Sem.exit tt_ok ?_ | refine Sem.ret tt_ok ?_ | refine BS_t (by assumption) ?_ | refine BS_f (by assumption) ?_ | refine (nthK_iff _ _).2 ⟨_, (by assumption), ?_⟩ | refine ⟨_, ⟨(by omega), (by assumption)⟩, ?_⟩ | refine And.intro (by first | decide | omega) ?_ | fail); conv => whnf) | refine Sem.seqS ?_ | refine Sem.block ?_ | fail)
      refine hc.on ?_; conv => whnf
      repeat' (first | ((first | refine Sem.reg tt_ok ?_ | refine Sem.condS ?_ | refine Sem.regL tt_ok ?_ | refine Sem.skip tt_ok ?_ | refine Sem.exit tt_ok ?_ | refine Sem.ret tt_ok ?_ | refine BS_t (by assumption) ?_ | refine BS_f (by assumption) ?_ | refine (nthK_iff _ _).2 ⟨_, (by assumption), ?_⟩ | refine ⟨_, ⟨(by omega), (by assumption)⟩, ?_⟩ | refine And.intro (by first | decide | omega) ?_ | fail); conv => whnf) | refine Sem.seqS ?_ | refine Sem.block ?_ | fail)
      refine ⟨⟨i + 1, by omega⟩, by show f1.length - (i + 1) < f1.length - i; omega, ?_⟩
      refine weak_by [] ?_; (conv => whnf); repeat (first | (refine And.intro rfl ?_; conv => whnf) | fail)
      refine And.intro hw ?_
      (conv => whnf); repeat (first | (refine And.intro rfl ?_; conv => whnf) | fail)
      exact ⟨fun i y hy => hy, rfl, by decide, rfl, rfl⟩
  have t1 : decide (((i : Nat) : Int) < (f1.length : Nat)) = false := by simp; omega
  repeat' (first | ((first | refine Sem.reg tt_ok ?_ | refine Sem.condS ?_ | refine Sem.regL tt_ok ?_ | refine Sem.skip tt_ok ?_ | refine Sem.exit tt_ok ?_ | refine Sem.ret tt_ok ?_ | refine BS_t (by assumption) ?_ | refine BS_f (by assumption) ?_ | refine (nthK_iff _ _).2 ⟨_, (by assumption), ?_⟩ | refine ⟨_, ⟨(by omega), (by assumption)⟩, ?_⟩ | refine And.intro (by first | decide | omega) ?_ | fail); conv => whnf) | refine Sem.seqS ?_ | refine Sem.block ?_ | fail)
  refine Sem.loop (ι := {k : Nat // k ≤ m1.length}) (fun x => ⟨(.top :: .top :: .lptr 0 0 :: .lptr 1 0 :: .top :: .bool true :: .top :: .top :: .top :: .int .i64 (x.1 : Nat) :: .top :: .top :: .top :: .top :: .top :: .top :: .top :: .top :: .top :: .top :: .top :: .top :: .top :: .top :: .top :: .top :: .top :: .top :: .top :: .top :: .top :: .top :: .top :: .top :: .top :: .top :: .top :: .top :: .top :: .top :: .top :: .top :: .top :: .top :: .top :: .top :: .top :: .top :: .top :: .top :: .top :: .top :: .top :: .top :: .top :: .top :: .top :: .top :: .top :: .top :: .top :: .top :: .top :: .top :: .top :: .top :: .top :: .top :: .top :: .top :: .top :: .top :: .top :: .top :: .top :: .top :: .top :: .top :: .top :: .top :: .top :: .top :: .top :: .top :: .top :: .top :: .top :: .top :: .top :: .top :: .top :: .top :: .top :: .top :: .top :: .top :: .top :: .top :: .top :: .top :: .top :: []), [.live none [.int .i64 k, .str (S nm), .slc 83 f1, .slc 123 m1, .int .i64 pa], .live none [.int .i64 k, .str (S nm), .slc 83 f2, .slc 123 m2, .int .i64 pb]], 2, 0, G⟩) (fun x => m1.length - x.1) ⟨0, Nat.zero_le _⟩ ?_ (fun x => ?_)
  · refine weak_by [] ?_; (conv => whnf); repeat (first | (refine And.intro rfl ?_; conv => whnf) | fail)
    exact ⟨fun i y hy => hy, rfl, by decide, rfl, rfl⟩
  clear hi t1
  obtain ⟨i, hi⟩ := x
  simp only
  by_cases hlt : i < m1.length
  · have t1 : decide (((i : Nat) : Int) < (m1.length : Nat)) = true := by simp; omega
    obtain ⟨x, hx⟩ : ∃ x, m1[i]? = some x := ⟨_, List.getElem?_eq_getElem hlt⟩
    obtain ⟨y, hy⟩ : ∃ y, m2[i]? = some y := ⟨_, List.getElem?_eq_getElem (by omega)⟩
    have hx' : m1[((i : Nat) : Int).toNat]? = some x := by rw [Int.toNat_natCast]; exact hx
    have hy' : m2[((i : Nat) : Int).toNat]? = some y := by rw [Int.toNat_natCast]; exact hy
    have h0 : (0 : Int) ≤ ((i : Nat) : Int) := by omega
    have hw : IntKind.i64.wrap ((i : Int) + 1) = ((i + 1 : Nat) : Int) := by rw [IntWalk.i64_in _ (by omega)]; omega
    obtain ⟨tag, x1, x2, x3, w, rfl, rfl⟩ := ms i x y hx hy
    have hb : ((tag == tag) && (((S x1).toList == (S x1).toList) && (((S x2).toList == (S x2).toList) && (((S x3).toList == (S x3).toList) && ((w == w) && true))))) = true := by simp
    repeat' (first | ((first | refine Sem.reg tt_ok ?_ | refine Sem.condS ?_ | refine Sem.regL tt_ok ?_ | refine Sem.skip tt_ok ?_ | refine Sem.exit tt_ok ?_ | refine Sem.ret tt_ok ?_ | refine BS_t (by assumption) ?_ | refine BS_f (by assumption) ?_ | refine (nthK_iff _ _).2 ⟨_, (by assumption), ?_⟩ | refine ⟨_, ⟨(by omega), (by assumption)⟩, ?_⟩ | refine And.intro (by first | decide | omega) ?_ | fail); conv => whnf) | refine Sem.seqS ?_ | refine Sem.block ?_ | fail)
    refine draw_sound (eff := []) tt_ok (by kernel_rfl) (by kernel_rfl) ?_; conv => whnf
    repeat' (first | ((first | refine BS_t (by assumption) ?_ | refine BS_f (by assumption) ?_ | refine (nthK_iff _ _).2 ⟨_, (by assumption), ?_⟩ | refine ⟨_, ⟨(by omega), (by assumption)⟩, ?_⟩ | refine And.intro (by first | decide | omega) ?_ | fail); conv => whnf) | fail)
    repeat' (first | ((first | refine Sem.reg tt_ok ?_ | refine Sem.condS ?_ | refine Sem.regL tt_ok ?_ | refine Sem.skip tt_ok ?_ | refine Sem.exit tt_ok ?_ | refine Sem.ret tt_ok ?_ | refine BS_t (by assumption) ?_ | refine BS_f (by assumption) ?_ | refine (nthK_iff _ _).2 ⟨_, (by assumption), ?_⟩ | refine ⟨_, ⟨(by omega), (by assumption)⟩, ?_⟩ | refine And.intro (by first | decide | omega) ?_ | fail); conv => whnf) | refine Sem.seqS ?_ | refine Sem.block ?_ | fail)
    refine ⟨⟨i + 1, by omega⟩, by show m1.length - (i + 1) < m1.length - i; omega, ?_⟩
    refine weak_by [] ?_; (conv => whnf); repeat (first | (refine And.intro rfl ?_; conv => whnf) | fail)
    refine And.intro hb ?_
    (conv => whnf); repeat (first | (refine And.intro rfl ?_; conv => whnf) | fail)
    refine And.intro hw ?_
    (conv => whnf); repeat (first | (refine And.intro rfl ?_; conv => whnf) | fail)
    exact ⟨fun i y hy => hy, rfl, by decide, rfl, rfl⟩
  have t1 : decide (((i : Nat) : Int) < (m1.length : Nat)) = false := by simp; omega
  repeat' (first | ((first | refine Sem.reg tt_ok ?_ | refine Sem.condS ?_ | refine Sem.regL tt_ok ?_ | refine Sem.skip tt_ok ?_ | refine Sem.exit tt_ok ?_ | refine Sem.ret tt_ok ?_ | refine BS_t (by assumption) ?_ | refine BS_f (by assumption) ?_ | refine (nthK_iff _ _).2 ⟨_, (by assumption), ?_⟩ | refine ⟨_, ⟨(by omega), (by assumption)⟩, ?_⟩ | refine And.intro (by first | decide | omega) ?_ | fail); conv => whnf) | refine Sem.seqS ?_ | refine Sem.block ?_ | fail)
  exact ⟨_, fun _ _ h => h, rfl, rfl⟩
end Go.Proofs.YtofhakbmmgpgdaaDoor
