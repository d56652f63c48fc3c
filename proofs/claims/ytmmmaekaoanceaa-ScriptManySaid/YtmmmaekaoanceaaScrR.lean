/- script.Put and the document's Put: lists of events, in the abstract run. -/
import Derived.Test.YtmmmaekaoanceaaScrQ
set_option maxRecDepth 100000
set_option linter.unusedSimpArgs false
namespace Go.Proofs.Ytmmmaekaoanceaa
open Go Go.RowKit Go.Proofs

theorem evL_size {v : Ev} (h : evE v = 0) (hn : v.num < 18446744073709551616) : (evL v).length ≤ 1048616 := by
  have hk := evE_kinds h
  have hb : hasB v.kind = true → v.bytes.size ≤ 1048576 := fun h0 => by
    unfold evE at h; simp only [h0] at h; split at h
    · cases h
    · split at h
      · cases h
      · rename_i h1; simp at h1; omega
  have hc : hasC v.kind = true → 0 ≤ v.conn ∧ v.conn ≤ 15 := fun h0 => by
    unfold evE at h; simp only [h0] at h; split at h
    · cases h
    · split at h
      · cases h
      · rename_i h1; simp at h1; omega
  have h1 : (putL v.kind.toNat).length ≤ 10 := putL_ten (by omega)
  have h2 : (if hasN v.kind = true then putL v.num else []).length ≤ 10 := by split <;> first | exact putL_ten hn | simp
  have h3 : (if hasC v.kind = true then putL v.conn.toNat else []).length ≤ 10 := by
    split
    · rename_i h0; have := hc h0; exact putL_ten (by omega)
    · simp
  have h4 : (if hasB v.kind = true then spanL v.bytes else []).length ≤ 1048586 := by
    split
    · rename_i h0
      have := hb h0
      unfold spanL; rw [List.length_append]; have := putL_ten (n := v.bytes.size) (by omega); have : v.bytes.data.toList.length = v.bytes.size := by simp
      omega
    · simp
  unfold evL
  simp only [List.length_append]
  omega
theorem putsE_next {l : List Ev} {k : Nat} {v : Ev} (hv : l[k]? = some v) (h : putsE (l.take k) = 0) : (evE v = 0 → putsE (l.take (k + 1)) = 0) ∧ (evE v ≠ 0 → putsE l = evE v) := by
  induction l generalizing k with
  | nil => simp at hv
  | cons x r ih =>
    cases k with
    | zero =>
      simp at hv
      subst hv
      exact ⟨fun h0 => by show (if evE x ≠ 0 then evE x else putsE []) = 0; rw [if_neg (by simp [h0])]; rfl, fun h0 => if_pos h0⟩
    | succ k =>
      by_cases h0 : evE x = 0
      · have e1 : ∀ r, putsE (x :: r) = putsE r := fun r => by show (if evE x ≠ 0 then evE x else putsE r) = _; rw [if_neg (by simp [h0])]
        rw [List.take_succ_cons, e1] at h
        have := ih (by simpa using hv) h
        rw [List.take_succ_cons, e1, e1]
        exact this
      · rw [List.take_succ_cons] at h
        exact absurd ((show putsE (x :: r.take k) = evE x from if_pos h0).symm.trans h) h0
theorem putsL_next {l : List Ev} {k : Nat} {v : Ev} (hv : l[k]? = some v) : putsL (l.take (k + 1)) = putsL (l.take k) ++ evL v := by
  rw [List.take_add_one, hv]; simp [putsL]
theorem putsL_size {l : List Ev} (hn : ∀ v ∈ l, v.num < 18446744073709551616) (h : putsE l = 0) : (putsL l).length ≤ l.length * 1048616 := by
  induction l with
  | nil => simp [putsL]
  | cons v r ih =>
    have h0 : evE v = 0 := by
      by_cases h0 : evE v = 0
      · exact h0
      · exact absurd ((show putsE (v :: r) = evE v from if_pos h0).symm.trans h) h0
    have e1 : putsE (v :: r) = putsE r := by show (if evE v ≠ 0 then evE v else putsE r) = _; rw [if_neg (by simp [h0])]
    have := ih (fun x hx => hn x (by simp [hx])) (by rw [← e1]; exact h)
    have h2 := evL_size h0 (hn v (by simp))
    simp only [putsL, List.flatMap_cons, List.length_append, List.length_cons] at this ⊢
    omega
/-- how far it is: k events are put -/
structure PI (l : List Ev) where
  k : Nat
  hk : k ≤ l.length
  h0 : putsE (l.take k) = 0
theorem PI.size {l : List Ev} (x : PI l) (hn : ∀ v ∈ l, v.num < 18446744073709551616) : (S (putsL (l.take x.k))).size ≤ x.k * 1048616 := by
  rw [S_size]
  have := putsL_size (l := l.take x.k) (fun v hv => hn v (List.mem_of_mem_take hv)) x.h0
  rw [List.length_take] at this
  exact Nat.le_trans this (Nat.mul_le_mul_right _ (Nat.min_le_left _ _))
theorem sputs_ok (l : List Ev) (G : Glob) (hn : ∀ v ∈ l, v.num < 18446744073709551616) :
    CallOk Try.prog TT 38 [.slc 72 (l.map Ev.av)] G (fun x G' => x = .tup [.str (putT l).1, .int .i64 (putT l).2] ∧ G' = G) := by
  refine call_sem tt_ok Try.func38 rfl (by kernel_rfl) Try.ntmps38 Try.results38 ?_; conv => whnf
  refine Sem.seq tt_ok ?_; conv => whnf
  refine Sem.seq tt_ok ?_; conv => whnf
  refine BS_intro (fun h => ?_) (fun h => ?_) <;> conv => whnf
  · have h : 1024 < l.length := by simp at h; omega
    exact ⟨_, fun _ _ h => h, by unfold putT; rw [if_pos h], rfl⟩
  have hlen : l.length ≤ 1024 := by simp at h; omega
  clear h
  refine Sem.seq tt_ok ?_; conv => whnf
  intro b hb
  conv => whnf
  refine Sem.seqS ?_
  refine Sem.seq tt_ok ?_; conv => whnf
  refine Sem.block ?_
  refine Sem.loop (ι := PI l) (fun x => ⟨(.slc 72 (l.map Ev.av) :: .top :: .str ⟨#[]⟩ :: .int .i64 0 :: .gptr b 0 :: .top :: .top :: .top :: .top :: .top :: .top :: .top :: .slc 72 (l.map Ev.av) :: .int .i64 ((l.map Ev.av).length : Nat) :: .int .i64 (x.k : Nat) :: .top :: .top :: .top :: .top :: .top :: .top :: .top :: .top :: .top :: .top :: .top :: .top :: .top :: .top :: .top :: []), [], 0, 0, setG G b (.bld (S (putsL (l.take x.k))))⟩) (fun x => l.length - x.k) ⟨0, Nat.zero_le _, rfl⟩ ?_ (fun x => ?_)
  · refine weak_by [] ?_; (conv => whnf); repeat (first | (refine And.intro rfl ?_; conv => whnf) | fail)
    exact ⟨fun i x hx => hx, rfl, Nat.le_refl _, rfl, rfl⟩
  refine Sem.seq tt_ok ?_; conv => whnf
  refine Sem.seq tt_ok ?_; conv => whnf
  refine BS_intro (fun hk => ?_) (fun hk => ?_) <;> conv => whnf
  · have hks : x.k < l.length := by simp at hk; omega
    clear hk
    obtain ⟨v, hv⟩ : ∃ v, l[x.k]? = some v := ⟨_, List.getElem?_eq_getElem hks⟩
    have hsm : (l.map Ev.av)[((x.k : Nat) : Int).toNat]? = some v.av := by rw [Int.toNat_natCast, List.getElem?_map, hv]; rfl
    have hn1 := hn v (List.mem_of_getElem? hv)
    obtain ⟨q1, q2⟩ := putsE_next hv x.h0
    have hsz := x.size hn
    refine Sem.seqS ?_
    refine Sem.block ?_
    refine Sem.seq tt_ok ?_; conv => whnf
    repeat' (first | (refine BS_t (by assumption) ?_; conv => whnf) | (refine BS_f (by assumption) ?_; conv => whnf) | (refine atG (by first | assumption | exact setG_same _ _ _) ?_; conv => whnf) | (refine (nthK_iff _ _).2 ⟨_, (by assumption), ?_⟩; conv => whnf) | (refine Exists.intro _ (And.intro (And.intro (by omega) (by assumption)) ?_); conv => whnf) | (refine And.intro (by first | decide | omega) ?_; conv => whnf) | fail)
    refine Sem.seq tt_ok ?_; conv => whnf
    refine (sput_ok v _ hn1).on ?_; conv => whnf
    refine Sem.seqS ?_
    refine Sem.seq tt_ok ?_; conv => whnf
    by_cases he : evE v = 0
    · have hb2 : (evE v != 0) = false := by simp [he]
      have h2 := evL_size he hn1
      repeat' (first | (refine Sem.reg tt_ok ?_; conv => whnf) | refine Sem.seqS ?_ | (refine Sem.condS ?_; conv => whnf) | refine Sem.block ?_ | (refine Sem.regL tt_ok ?_; conv => whnf) | (refine Sem.skip tt_ok ?_; conv => whnf) | (refine Sem.exit tt_ok ?_; conv => whnf) | (refine Sem.ret tt_ok ?_; conv => whnf) | (refine BS_t (by assumption) ?_; conv => whnf) | (refine BS_f (by assumption) ?_; conv => whnf) | (refine atG (by first | assumption | exact setG_same _ _ _) ?_; conv => whnf) | (refine (nthK_iff _ _).2 ⟨_, (by assumption), ?_⟩; conv => whnf) | (refine Exists.intro _ (And.intro (And.intro (by omega) (by assumption)) ?_); conv => whnf) | (refine And.intro (by first | decide | omega) ?_; conv => whnf) | fail)
      refine (write_ok _ _ b _ (setG_same _ _ _) (by rw [if_pos he, S_size (evL v)]; omega)).on ?_; conv => whnf
      repeat' (first | (refine Sem.reg tt_ok ?_; conv => whnf) | refine Sem.seqS ?_ | (refine Sem.condS ?_; conv => whnf) | refine Sem.block ?_ | (refine Sem.regL tt_ok ?_; conv => whnf) | (refine Sem.skip tt_ok ?_; conv => whnf) | (refine Sem.exit tt_ok ?_; conv => whnf) | (refine Sem.ret tt_ok ?_; conv => whnf) | (refine BS_t (by assumption) ?_; conv => whnf) | (refine BS_f (by assumption) ?_; conv => whnf) | (refine atG (by first | assumption | exact setG_same _ _ _) ?_; conv => whnf) | (refine (nthK_iff _ _).2 ⟨_, (by assumption), ?_⟩; conv => whnf) | (refine Exists.intro _ (And.intro (And.intro (by omega) (by assumption)) ?_); conv => whnf) | (refine And.intro (by first | decide | omega) ?_; conv => whnf) | fail)
      refine ⟨⟨x.k + 1, by omega, q1 he⟩, by show l.length - (x.k + 1) < l.length - x.k; omega, ?_⟩
      refine weak_by [] ?_; (conv => whnf); repeat (first | (refine And.intro rfl ?_; conv => whnf) | fail)
      have hw : IntKind.i64.wrap ((x.k : Int) + 1) = ((x.k + 1 : Nat) : Int) := by rw [IntWalk.i64_in _ (by omega)]; omega
      refine And.intro hw ?_
      conv => whnf
      exact ⟨fun i y hy => by rw [setG_twice, if_pos he, S_append, ← putsL_next hv]; exact hy, rfl, Nat.zero_le _, rfl, rfl⟩
    · have hb2 : (evE v != 0) = true := by simp [he]
      repeat' (first | (refine Sem.reg tt_ok ?_; conv => whnf) | refine Sem.seqS ?_ | (refine Sem.condS ?_; conv => whnf) | refine Sem.block ?_ | (refine Sem.regL tt_ok ?_; conv => whnf) | (refine Sem.skip tt_ok ?_; conv => whnf) | (refine Sem.exit tt_ok ?_; conv => whnf) | (refine Sem.ret tt_ok ?_; conv => whnf) | (refine BS_t (by assumption) ?_; conv => whnf) | (refine BS_f (by assumption) ?_; conv => whnf) | (refine atG (by first | assumption | exact setG_same _ _ _) ?_; conv => whnf) | (refine (nthK_iff _ _).2 ⟨_, (by assumption), ?_⟩; conv => whnf) | (refine Exists.intro _ (And.intro (And.intro (by omega) (by assumption)) ?_); conv => whnf) | (refine And.intro (by first | decide | omega) ?_; conv => whnf) | fail)
      refine ⟨G, new_sub hb, ?_, rfl⟩
      have hp : putsE l ≠ 0 := by rw [q2 he]; exact he
      unfold putT
      rw [if_neg (by omega), if_pos hp, q2 he]
  · have hks : x.k = l.length := by have := x.hk; simp at hk; omega
    have h0 := x.h0
    rw [hks, List.take_length] at h0
    repeat' (first | (refine Sem.reg tt_ok ?_; conv => whnf) | refine Sem.seqS ?_ | (refine Sem.condS ?_; conv => whnf) | refine Sem.block ?_ | (refine Sem.regL tt_ok ?_; conv => whnf) | (refine Sem.skip tt_ok ?_; conv => whnf) | (refine Sem.exit tt_ok ?_; conv => whnf) | (refine Sem.ret tt_ok ?_; conv => whnf) | (refine BS_t (by assumption) ?_; conv => whnf) | (refine BS_f (by assumption) ?_; conv => whnf) | (refine atG (by first | assumption | exact setG_same _ _ _) ?_; conv => whnf) | (refine (nthK_iff _ _).2 ⟨_, (by assumption), ?_⟩; conv => whnf) | (refine Exists.intro _ (And.intro (And.intro (by omega) (by assumption)) ?_); conv => whnf) | (refine And.intro (by first | decide | omega) ?_; conv => whnf) | fail)
    refine (bstring_ok _ b _ (setG_same _ _ _)).on ?_; conv => whnf
    repeat' (first | (refine Sem.reg tt_ok ?_; conv => whnf) | refine Sem.seqS ?_ | (refine Sem.condS ?_; conv => whnf) | refine Sem.block ?_ | (refine Sem.regL tt_ok ?_; conv => whnf) | (refine Sem.skip tt_ok ?_; conv => whnf) | (refine Sem.exit tt_ok ?_; conv => whnf) | (refine Sem.ret tt_ok ?_; conv => whnf) | (refine BS_t (by assumption) ?_; conv => whnf) | (refine BS_f (by assumption) ?_; conv => whnf) | (refine atG (by first | assumption | exact setG_same _ _ _) ?_; conv => whnf) | (refine (nthK_iff _ _).2 ⟨_, (by assumption), ?_⟩; conv => whnf) | (refine Exists.intro _ (And.intro (And.intro (by omega) (by assumption)) ?_); conv => whnf) | (refine And.intro (by first | decide | omega) ?_; conv => whnf) | fail)
    refine ⟨G, del_new hb, ?_, rfl⟩
    unfold putT
    rw [if_neg (by omega), if_neg (by simp [h0]), hks, List.take_length]
    rfl
end Go.Proofs.Ytmmmaekaoanceaa
