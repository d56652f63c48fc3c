/- script.Take and the document's Take, whole lists; are two lists the same? -/
import Derived.Test.YtmmmaekaoanceaaScrT
set_option maxRecDepth 100000
set_option linter.unusedSimpArgs false
namespace Go.Proofs.Ytmmmaekaoanceaa
open Go Go.RowKit Go.Proofs

theorem takesF_none (b : ByteArray) : ∀ (f a n : Nat), (takesF f b a n).2 ≠ 0 → (takesF f b a n).1 = []
  | 0, _, _, _ => rfl
  | f + 1, a, n, h => by
    unfold takesF at h ⊢
    by_cases h1 : b.size ≤ a
    · rw [if_pos h1]
    · rw [if_neg h1] at h ⊢
      by_cases h2 : n = 1024
      · rw [if_pos h2]
      · rw [if_neg h2] at h ⊢
        by_cases h3 : (evT b a).2.2 ≠ 0
        · rw [if_pos h3]
        · rw [if_neg h3] at h ⊢
          by_cases h4 : (takesF f b (evT b a).2.1 (n + 1)).2 ≠ 0
          · rw [if_pos h4]
          · rw [if_neg h4] at h
            exact absurd rfl h
/-- what is taken: from here on, behind what was taken -/
def takesR (b : ByteArray) (a : Nat) (out : List Ev) : List Ev × Int :=
  if (takesF (b.size + 1) b a out.length).2 ≠ 0 then ([], (takesF (b.size + 1) b a out.length).2) else (out ++ (takesF (b.size + 1) b a out.length).1, 0)
theorem takesR_start (b : ByteArray) : takesR b 0 [] = takesT b := by
  unfold takesR takesT
  show (if (takesF (b.size + 1) b 0 0).2 ≠ 0 then ([], (takesF (b.size + 1) b 0 0).2) else ([] ++ (takesF (b.size + 1) b 0 0).1, 0)) = _
  by_cases h : (takesF (b.size + 1) b 0 0).2 = 0
  · rw [if_neg (by simp [h]), List.nil_append]
    exact Prod.ext rfl h.symm
  · rw [if_pos h]
    exact Prod.ext (takesF_none _ _ _ _ h).symm rfl
theorem takesR_end {b : ByteArray} {a : Nat} (out : List Ev) (h : b.size ≤ a) : takesR b a out = (out, 0) := by
  unfold takesR
  rw [takesF_end h]
  simp
theorem takesR_many {b : ByteArray} {a : Nat} {out : List Ev} (h : ¬ b.size ≤ a) (hn : out.length = 1024) : takesR b a out = ([], 3) := by
  unfold takesR
  have : takesF (b.size + 1) b a out.length = ([], 3) := by unfold takesF; rw [if_neg h, if_pos hn]
  rw [this]; rfl
theorem takesR_bad {b : ByteArray} {a : Nat} {out : List Ev} (h : ¬ b.size ≤ a) (hn : ¬ out.length = 1024) (he : (evT b a).2.2 ≠ 0) : takesR b a out = ([], (evT b a).2.2) := by
  unfold takesR
  have : takesF (b.size + 1) b a out.length = ([], (evT b a).2.2) := by unfold takesF; rw [if_neg h, if_neg hn, if_pos he]
  rw [this]; simp [he]
theorem takesR_next {b : ByteArray} {a : Nat} {out : List Ev} (ha : a ≤ b.size) (h : ¬ b.size ≤ a) (hn : ¬ out.length = 1024) (he : (evT b a).2.2 = 0) : takesR b a out = takesR b (evT b a).2.1 (out ++ [(evT b a).1]) := by
  unfold takesR
  obtain ⟨m1, m2⟩ := evT_moves ha he
  have e1 : takesF (b.size + 1) b a out.length = if (takesF b.size b (evT b a).2.1 (out.length + 1)).2 ≠ 0 then ([], (takesF b.size b (evT b a).2.1 (out.length + 1)).2) else ((evT b a).1 :: (takesF b.size b (evT b a).2.1 (out.length + 1)).1, 0) := by
    show (if b.size ≤ a then _ else _) = _
    rw [if_neg h, if_neg hn, if_neg (by simp [he])]
  have e2 : (out ++ [(evT b a).1]).length = out.length + 1 := by simp
  rw [e1, e2, takesF_more (b.size + 1) b.size (evT b a).2.1 (out.length + 1) m2 (by omega) (by omega)]
  by_cases hq : (takesF b.size b (evT b a).2.1 (out.length + 1)).2 = 0
  · simp [hq]
  · simp [hq]
structure TI (b : ByteArray) where
  a : Nat
  out : List Ev
  ha : a ≤ b.size
  hl : out.length ≤ 1024
  h : takesT b = takesR b a out
def evsV (r : List Ev × Int) : AV := .tup [.slc 72 (r.1.map Ev.av), .int .i64 r.2]
theorem evs_weak {f : FuncId} {args : List AV} {G : Glob} {r : List Ev × Int} (h : CallOk Try.prog TT f args G (fun v G' => (v = evsV r ∨ v = .tup [.nils, .int .i64 r.2] ∧ r.1 = []) ∧ G' = G)) : CallOk Try.prog TT f args G (fun v G' => v = evsV r ∧ G' = G) := by
  refine h.weak fun v G' hv => ⟨evsV r, ⟨rfl, hv.2⟩, fun g w u hz => ?_⟩
  rcases hv.1 with rfl | ⟨rfl, h0⟩
  · exact hz
  · unfold evsV
    rw [h0]
    exact tup2_to (fun x hx => nils_dz _ hx) hz
theorem list_of (s : ByteArray) : s.toList = s.data.toList := by rw [← S_of s, S_toList, S_list]
theorem rest_end {b : ByteArray} {a : Nat} (h : b.size ≤ a) : rest b a = ⟨#[]⟩ := ba_ext (by rw [rest_data, List.drop_eq_nil_of_le (by simpa using h)])
theorem rest_test (b : ByteArray) (a : Nat) : (!(rest b a).toList == (⟨#[]⟩ : ByteArray).toList) = decide (a < b.size) := by
  rw [list_of, list_of]
  by_cases h : a < b.size
  · have : (rest b a).data.toList ≠ [] := fun e => by have := congrArg List.length e; rw [rest_list] at this; simp at this; omega
    rw [decide_eq_true h]
    cases hq : (rest b a).data.toList with
    | nil => exact absurd hq this
    | cons x r => rfl
  · rw [rest_end (by omega)]; simp; omega
theorem stakes_ok (b : ByteArray) (G : Glob) (hb : b.size ≤ maxLen) : CallOk Try.prog TT 60 [.str b] G (fun v G' => v = evsV (takesT b) ∧ G' = G) := by
  refine evs_weak ?_
  refine call_sem tt_ok Try.func60 rfl (by kernel_rfl) Try.ntmps60 Try.results60 ?_; conv => whnf
  repeat' (first | (refine Sem.reg tt_ok ?_; conv => whnf) | refine Sem.seqS ?_ | (refine Sem.condS ?_; conv => whnf) | refine Sem.block ?_ | (refine Sem.regL tt_ok ?_; conv => whnf) | (refine Sem.skip tt_ok ?_; conv => whnf) | (refine Sem.exit tt_ok ?_; conv => whnf) | (refine Sem.ret tt_ok ?_; conv => whnf) | (refine BS_t (by assumption) ?_; conv => whnf) | (refine BS_f (by assumption) ?_; conv => whnf) | (refine atG (by first | assumption | exact setG_same _ _ _) ?_; conv => whnf) | (refine (nthK_iff _ _).2 ⟨_, (by assumption), ?_⟩; conv => whnf) | (refine Exists.intro _ (And.intro (And.intro (by omega) (by assumption)) ?_); conv => whnf) | (refine And.intro (by first | decide | omega) ?_; conv => whnf) | fail)
  refine Sem.loop (ι := TI b) (fun x => ⟨(.str (rest b x.a) :: .top :: .nils :: .int .i64 0 :: .own 0 72 (x.out.map Ev.av) :: .top :: .top :: .top :: .top :: .top :: .top :: .top :: .top :: .top :: .top :: .top :: .top :: .top :: .top :: .top :: .top :: .top :: .top :: .top :: .top :: .top :: .top :: .top :: []), [], 0, 1, G⟩) (fun x => b.size - x.a) ⟨0, [], Nat.zero_le _, by simp, (takesR_start b).symm⟩ ?_ (fun x => ?_)
  · refine weak_by [none] ?_; (conv => whnf); repeat (first | (refine And.intro rfl ?_; conv => whnf) | fail)
    refine And.intro (ba_ext (by rw [rest_data]; rfl)) ?_
    (conv => whnf); repeat (first | (refine And.intro rfl ?_; conv => whnf) | fail)
    exact ⟨fun i y hy => hy, rfl, Nat.zero_le _, rfl, rfl⟩
  repeat' (first | (refine Sem.reg tt_ok ?_; conv => whnf) | refine Sem.seqS ?_ | (refine Sem.condS ?_; conv => whnf) | refine Sem.block ?_ | (refine Sem.regL tt_ok ?_; conv => whnf) | (refine Sem.skip tt_ok ?_; conv => whnf) | (refine Sem.exit tt_ok ?_; conv => whnf) | (refine Sem.ret tt_ok ?_; conv => whnf) | (refine BS_t (by assumption) ?_; conv => whnf) | (refine BS_f (by assumption) ?_; conv => whnf) | (refine atG (by first | assumption | exact setG_same _ _ _) ?_; conv => whnf) | (refine (nthK_iff _ _).2 ⟨_, (by assumption), ?_⟩; conv => whnf) | (refine Exists.intro _ (And.intro (And.intro (by omega) (by assumption)) ?_); conv => whnf) | (refine And.intro (by first | decide | omega) ?_; conv => whnf) | fail)
  rw [rest_test]
  by_cases hs : x.a < b.size
  · have hs0 : ¬ b.size ≤ x.a := by omega
    rw [decide_eq_true hs]
    repeat' (first | (refine Sem.reg tt_ok ?_; conv => whnf) | refine Sem.seqS ?_ | (refine Sem.condS ?_; conv => whnf) | refine Sem.block ?_ | (refine Sem.regL tt_ok ?_; conv => whnf) | (refine Sem.skip tt_ok ?_; conv => whnf) | (refine Sem.exit tt_ok ?_; conv => whnf) | (refine Sem.ret tt_ok ?_; conv => whnf) | (refine BS_t (by assumption) ?_; conv => whnf) | (refine BS_f (by assumption) ?_; conv => whnf) | (refine atG (by first | assumption | exact setG_same _ _ _) ?_; conv => whnf) | (refine (nthK_iff _ _).2 ⟨_, (by assumption), ?_⟩; conv => whnf) | (refine Exists.intro _ (And.intro (And.intro (by omega) (by assumption)) ?_); conv => whnf) | (refine And.intro (by first | decide | omega) ?_; conv => whnf) | fail)
    by_cases hm : x.out.length = 1024
    · have c1 : ((((x.out.map Ev.av).length : Nat) : Int) == 1024) = true := by simp [hm]
      repeat' (first | (refine Sem.reg tt_ok ?_; conv => whnf) | refine Sem.seqS ?_ | (refine Sem.condS ?_; conv => whnf) | refine Sem.block ?_ | (refine Sem.regL tt_ok ?_; conv => whnf) | (refine Sem.skip tt_ok ?_; conv => whnf) | (refine Sem.exit tt_ok ?_; conv => whnf) | (refine Sem.ret tt_ok ?_; conv => whnf) | (refine BS_t (by assumption) ?_; conv => whnf) | (refine BS_f (by assumption) ?_; conv => whnf) | (refine atG (by first | assumption | exact setG_same _ _ _) ?_; conv => whnf) | (refine (nthK_iff _ _).2 ⟨_, (by assumption), ?_⟩; conv => whnf) | (refine Exists.intro _ (And.intro (And.intro (by omega) (by assumption)) ?_); conv => whnf) | (refine And.intro (by first | decide | omega) ?_; conv => whnf) | fail)
      refine ⟨G, fun _ _ h => h, .inr ?_, rfl⟩
      rw [x.h, takesR_many hs0 hm]
      exact ⟨rfl, rfl⟩
    · have c1 : ((((x.out.map Ev.av).length : Nat) : Int) == 1024) = false := by rw [beq_eq_false_iff_ne]; simp; omega
      repeat' (first | (refine Sem.reg tt_ok ?_; conv => whnf) | refine Sem.seqS ?_ | (refine Sem.condS ?_; conv => whnf) | refine Sem.block ?_ | (refine Sem.regL tt_ok ?_; conv => whnf) | (refine Sem.skip tt_ok ?_; conv => whnf) | (refine Sem.exit tt_ok ?_; conv => whnf) | (refine Sem.ret tt_ok ?_; conv => whnf) | (refine BS_t (by assumption) ?_; conv => whnf) | (refine BS_f (by assumption) ?_; conv => whnf) | (refine atG (by first | assumption | exact setG_same _ _ _) ?_; conv => whnf) | (refine (nthK_iff _ _).2 ⟨_, (by assumption), ?_⟩; conv => whnf) | (refine Exists.intro _ (And.intro (And.intro (by omega) (by assumption)) ?_); conv => whnf) | (refine And.intro (by first | decide | omega) ?_; conv => whnf) | fail)
      refine (take_ok b x.a G hb x.ha).mono fun v G' hv => ?_
      obtain ⟨rfl, x1, x2, x3, x4, r, rfl, hr⟩ := hv
      conv => whnf
      by_cases he : (evT b x.a).2.2 = 0
      · have c2 : ((evT b x.a).2.2 != 0) = false := by simp [he]
        obtain ⟨hx, rfl⟩ := hr he
        have hm := x.hl
        repeat' (first | (refine Sem.reg tt_ok ?_; conv => whnf) | refine Sem.seqS ?_ | (refine Sem.condS ?_; conv => whnf) | refine Sem.block ?_ | (refine Sem.regL tt_ok ?_; conv => whnf) | (refine Sem.skip tt_ok ?_; conv => whnf) | (refine Sem.exit tt_ok ?_; conv => whnf) | (refine Sem.ret tt_ok ?_; conv => whnf) | (refine BS_t (by assumption) ?_; conv => whnf) | (refine BS_f (by assumption) ?_; conv => whnf) | (refine atG (by first | assumption | exact setG_same _ _ _) ?_; conv => whnf) | (refine (nthK_iff _ _).2 ⟨_, (by assumption), ?_⟩; conv => whnf) | (refine Exists.intro _ (And.intro (And.intro (by omega) (by assumption)) ?_); conv => whnf) | (refine And.intro (by first | decide | omega) ?_; conv => whnf) | fail)
        refine And.intro (app_le (by simp; omega) (by decide)) ?_; conv => whnf
        repeat' (first | (refine Sem.reg tt_ok ?_; conv => whnf) | refine Sem.seqS ?_ | (refine Sem.condS ?_; conv => whnf) | refine Sem.block ?_ | (refine Sem.regL tt_ok ?_; conv => whnf) | (refine Sem.skip tt_ok ?_; conv => whnf) | (refine Sem.exit tt_ok ?_; conv => whnf) | (refine Sem.ret tt_ok ?_; conv => whnf) | (refine BS_t (by assumption) ?_; conv => whnf) | (refine BS_f (by assumption) ?_; conv => whnf) | (refine atG (by first | assumption | exact setG_same _ _ _) ?_; conv => whnf) | (refine (nthK_iff _ _).2 ⟨_, (by assumption), ?_⟩; conv => whnf) | (refine Exists.intro _ (And.intro (And.intro (by omega) (by assumption)) ?_); conv => whnf) | (refine And.intro (by first | decide | omega) ?_; conv => whnf) | fail)
        have hmv := evT_moves x.ha he
        refine ⟨⟨(evT b x.a).2.1, x.out ++ [(evT b x.a).1], hmv.2, by simp; omega, x.h.trans (takesR_next x.ha hs0 (by assumption) he)⟩, by show b.size - (evT b x.a).2.1 < b.size - x.a; omega, ?_⟩
        refine weak_by [some 0] ?_; (conv => whnf); repeat (first | (refine And.intro rfl ?_; conv => whnf) | fail)
        refine And.intro (by simp [hx]) ?_
        (conv => whnf); repeat (first | (refine And.intro rfl ?_; conv => whnf) | fail)
        exact ⟨fun i y hy => hy, rfl, Nat.zero_le _, rfl, rfl⟩
      · have c2 : ((evT b x.a).2.2 != 0) = true := by simp [he]
        repeat' (first | (refine Sem.reg tt_ok ?_; conv => whnf) | refine Sem.seqS ?_ | (refine Sem.condS ?_; conv => whnf) | refine Sem.block ?_ | (refine Sem.regL tt_ok ?_; conv => whnf) | (refine Sem.skip tt_ok ?_; conv => whnf) | (refine Sem.exit tt_ok ?_; conv => whnf) | (refine Sem.ret tt_ok ?_; conv => whnf) | (refine BS_t (by assumption) ?_; conv => whnf) | (refine BS_f (by assumption) ?_; conv => whnf) | (refine atG (by first | assumption | exact setG_same _ _ _) ?_; conv => whnf) | (refine (nthK_iff _ _).2 ⟨_, (by assumption), ?_⟩; conv => whnf) | (refine Exists.intro _ (And.intro (And.intro (by omega) (by assumption)) ?_); conv => whnf) | (refine And.intro (by first | decide | omega) ?_; conv => whnf) | fail)
        refine ⟨_, fun _ _ h => h, .inr ?_, rfl⟩
        rw [x.h, takesR_bad hs0 hm he]
        exact ⟨rfl, rfl⟩
  · rw [decide_eq_false hs]
    repeat' (first | (refine Sem.reg tt_ok ?_; conv => whnf) | refine Sem.seqS ?_ | (refine Sem.condS ?_; conv => whnf) | refine Sem.block ?_ | (refine Sem.regL tt_ok ?_; conv => whnf) | (refine Sem.skip tt_ok ?_; conv => whnf) | (refine Sem.exit tt_ok ?_; conv => whnf) | (refine Sem.ret tt_ok ?_; conv => whnf) | (refine BS_t (by assumption) ?_; conv => whnf) | (refine BS_f (by assumption) ?_; conv => whnf) | (refine atG (by first | assumption | exact setG_same _ _ _) ?_; conv => whnf) | (refine (nthK_iff _ _).2 ⟨_, (by assumption), ?_⟩; conv => whnf) | (refine Exists.intro _ (And.intro (And.intro (by omega) (by assumption)) ?_); conv => whnf) | (refine And.intro (by first | decide | omega) ?_; conv => whnf) | fail)
    refine ⟨G, fun _ _ h => h, .inl ?_, rfl⟩
    rw [x.h, takesR_end _ (by omega)]
    rfl
end Go.Proofs.Ytmmmaekaoanceaa
