/- 'ScriptMany': whatever event, and however many of it: no script has more events than may be, put or taken, and as many may be as that: the law hands back true. Conditions: none. -/
import Derived.Test.YtmmmaekaoanceaaScrX
import Derived.Test.YtmmmaekaoanceaaScrW
set_option maxRecDepth 100000
set_option linter.unusedSimpArgs false
namespace Go.Proofs.Ytmmmaekaoanceaa
open Go Go.RowKit Go.ChangeShapes Go.WideShapes Go.ChangeAt Go.Proofs
open Go.ChangeMaps (open_string shut_string)

theorem rep_get (v : Ev) : ∀ n, putsE (List.replicate n v) = 0 ∨ evE v ≠ 0
  | 0 => .inl rfl
  | n + 1 => by
    by_cases h : evE v = 0
    · refine .inl ?_
      rw [List.replicate_succ]
      show (if evE v ≠ 0 then evE v else putsE (List.replicate n v)) = 0
      rw [if_neg (by simp [h])]
      exact (rep_get v n).resolve_right (by simp [h])
    · exact .inr h
theorem rep_next (v : Ev) (n : Nat) : putsL (List.replicate (n + 1) v) = putsL (List.replicate n v) ++ evL v := by
  rw [List.replicate_succ']; simp [putsL]
theorem putT_rep {v : Ev} (h : evE v = 0) (n : Nat) : putT (List.replicate n v) = if 1024 < n then (⟨#[]⟩, 3) else (S (putsL (List.replicate n v)), 0) := by
  have h0 := (rep_get v n).resolve_right (by simp [h])
  unfold putT
  rw [List.length_replicate, h0]
  rfl
theorem takesT_rep {v : Ev} (h : evE v = 0) (hn : v.num < 18446744073709551616) (n : Nat) : takesT (S (putsL (List.replicate n v))) = if 1024 < n then ([], 3) else (List.replicate n (plainE v), 0) := by
  have h0 := (rep_get v n).resolve_right (by simp [h])
  have hv : ∀ x ∈ List.replicate n v, x.num < 18446744073709551616 := fun x hx => by rw [(List.mem_replicate.1 hx).2]; exact hn
  by_cases hl : 1024 < n
  · rw [if_pos hl]
    exact takes_long _ _ 0 0 (by rw [S_list]; rfl) (Nat.zero_le _) h0 (by omega) (by rw [List.length_replicate]; omega) (by omega) hv
  · rw [if_neg hl]
    have := takes_put (b := S (putsL (List.replicate n v))) (List.replicate n v) _ 0 0 (by rw [S_list]; rfl) (Nat.zero_le _) h0 (by rw [List.length_replicate]; omega) (Nat.lt_succ_of_le (Nat.sub_le _ _)) hv
    rw [List.map_replicate] at this
    exact this
theorem rep_size {v : Ev} (h : evE v = 0) (hn : v.num < 18446744073709551616) (n : Nat) : (S (putsL (List.replicate n v))).size ≤ n * 1048616 := by
  have h0 := (rep_get v n).resolve_right (by simp [h])
  have := putsL_size (l := List.replicate n v) (fun x hx => by rw [(List.mem_replicate.1 hx).2]; exact hn) h0
  rw [List.length_replicate] at this
  rw [S_size]; exact this
theorem rep_map (v : Ev) (i : Nat) : (List.replicate i v).map Ev.av ++ [v.av] = (List.replicate (i + 1) v).map Ev.av := by
  rw [List.replicate_succ', List.map_append]; rfl
theorem rep_cat (v : Ev) (i : Nat) : S (putsL (List.replicate i v)) ++ S (evL v) = S (putsL (List.replicate (i + 1) v)) := by rw [rep_next, S_append]
set_option maxHeartbeats 4000000 in
theorem scriptMany_ok (k c : Int) (m : Nat) (t : ByteArray) (n : Int) (hm : m < 18446744073709551616) : CallOk Try.prog TT 17 [.agg (Ev.av ⟨k, c, m, t⟩), .int .i64 n] (fun _ => none) (fun v _ => v = .bool true) := by
  refine call_sem tt_ok Try.func17 rfl (by kernel_rfl) Try.ntmps17 Try.results17 ?_; conv => whnf
  repeat' (first | (refine Sem.reg tt_ok ?_; conv => whnf) | refine Sem.seqS ?_ | (refine Sem.condS ?_; conv => whnf) | refine Sem.block ?_ | (refine Sem.regL tt_ok ?_; conv => whnf) | (refine Sem.skip tt_ok ?_; conv => whnf) | (refine Sem.exit tt_ok ?_; conv => whnf) | (refine Sem.ret tt_ok ?_; conv => whnf) | (refine BS_t (by assumption) ?_; conv => whnf) | (refine BS_f (by assumption) ?_; conv => whnf) | (refine atG (by first | assumption | exact setG_same _ _ _) ?_; conv => whnf) | (refine (nthK_iff _ _).2 ⟨_, (by assumption), ?_⟩; conv => whnf) | (refine Exists.intro _ (And.intro (And.intro (by omega) (by assumption)) ?_); conv => whnf) | (refine And.intro (by first | decide | omega) ?_; conv => whnf) | fail)
  obtain ⟨N, hN, hE⟩ : ∃ N : Nat, N ≤ 1064 ∧ (if (if (1064 : Int) < n then 1064 else n) > 0 then (if (1064 : Int) < n then 1064 else n) else 0) = (N : Int) := by
    by_cases h1 : (1064 : Int) < n
    · exact ⟨1064, by omega, by rw [if_pos h1]; rfl⟩
    · by_cases h2 : n > 0
      · exact ⟨n.toNat, by omega, by rw [if_neg h1, if_pos h2]; omega⟩
      · exact ⟨0, by omega, by rw [if_neg h1, if_neg h2]; rfl⟩
  dsimp only
  rw [hE]
  by_cases ht : 200 < t.size
  · have c0 : decide (((t.size : Nat) : Int) > 200) = true := by simp; omega
    repeat' (first | (refine Sem.reg tt_ok ?_; conv => whnf) | refine Sem.seqS ?_ | (refine Sem.condS ?_; conv => whnf) | refine Sem.block ?_ | (refine Sem.regL tt_ok ?_; conv => whnf) | (refine Sem.skip tt_ok ?_; conv => whnf) | (refine Sem.exit tt_ok ?_; conv => whnf) | (refine Sem.ret tt_ok ?_; conv => whnf) | (refine BS_t (by assumption) ?_; conv => whnf) | (refine BS_f (by assumption) ?_; conv => whnf) | (refine atG (by first | assumption | exact setG_same _ _ _) ?_; conv => whnf) | (refine (nthK_iff _ _).2 ⟨_, (by assumption), ?_⟩; conv => whnf) | (refine Exists.intro _ (And.intro (And.intro (by omega) (by assumption)) ?_); conv => whnf) | (refine And.intro (by first | decide | omega) ?_; conv => whnf) | fail)
    refine (awake43_ok _).on ?_; conv => whnf
    repeat' (first | (refine Sem.reg tt_ok ?_; conv => whnf) | refine Sem.seqS ?_ | (refine Sem.condS ?_; conv => whnf) | refine Sem.block ?_ | (refine Sem.regL tt_ok ?_; conv => whnf) | (refine Sem.skip tt_ok ?_; conv => whnf) | (refine Sem.exit tt_ok ?_; conv => whnf) | (refine Sem.ret tt_ok ?_; conv => whnf) | (refine BS_t (by assumption) ?_; conv => whnf) | (refine BS_f (by assumption) ?_; conv => whnf) | (refine atG (by first | assumption | exact setG_same _ _ _) ?_; conv => whnf) | (refine (nthK_iff _ _).2 ⟨_, (by assumption), ?_⟩; conv => whnf) | (refine Exists.intro _ (And.intro (And.intro (by omega) (by assumption)) ?_); conv => whnf) | (refine And.intro (by first | decide | omega) ?_; conv => whnf) | fail)
    exact ⟨_, fun _ _ h => h, rfl⟩
  have c0 : decide (((t.size : Nat) : Int) > 200) = false := by simp; omega
  repeat' (first | (refine Sem.reg tt_ok ?_; conv => whnf) | refine Sem.seqS ?_ | (refine Sem.condS ?_; conv => whnf) | refine Sem.block ?_ | (refine Sem.regL tt_ok ?_; conv => whnf) | (refine Sem.skip tt_ok ?_; conv => whnf) | (refine Sem.exit tt_ok ?_; conv => whnf) | (refine Sem.ret tt_ok ?_; conv => whnf) | (refine BS_t (by assumption) ?_; conv => whnf) | (refine BS_f (by assumption) ?_; conv => whnf) | (refine atG (by first | assumption | exact setG_same _ _ _) ?_; conv => whnf) | (refine (nthK_iff _ _).2 ⟨_, (by assumption), ?_⟩; conv => whnf) | (refine Exists.intro _ (And.intro (And.intro (by omega) (by assumption)) ?_); conv => whnf) | (refine And.intro (by first | decide | omega) ?_; conv => whnf) | fail)
  have hp1 := sputs_ok [⟨k, c, m, t⟩] (fun _ => none) (by simpa using hm)
  by_cases he : evE ⟨k, c, m, t⟩ = 0
  · have hp : putT [⟨k, c, m, t⟩] = (S (evL ⟨k, c, m, t⟩), 0) := by
      have := putT_rep he 1
      simpa [putsL] using this
    rw [hp] at hp1
    refine hp1.on ?_; conv => whnf
    repeat' (first | (refine Sem.reg tt_ok ?_; conv => whnf) | refine Sem.seqS ?_ | (refine Sem.condS ?_; conv => whnf) | refine Sem.block ?_ | (refine Sem.regL tt_ok ?_; conv => whnf) | (refine Sem.skip tt_ok ?_; conv => whnf) | (refine Sem.exit tt_ok ?_; conv => whnf) | (refine Sem.ret tt_ok ?_; conv => whnf) | (refine BS_t (by assumption) ?_; conv => whnf) | (refine BS_f (by assumption) ?_; conv => whnf) | (refine atG (by first | assumption | exact setG_same _ _ _) ?_; conv => whnf) | (refine (nthK_iff _ _).2 ⟨_, (by assumption), ?_⟩; conv => whnf) | (refine Exists.intro _ (And.intro (And.intro (by omega) (by assumption)) ?_); conv => whnf) | (refine And.intro (by first | decide | omega) ?_; conv => whnf) | fail)
    have hsz := evL_size he hm
    refine Sem.loop (ι := {i : Nat // i ≤ N}) (fun x => ⟨(.top :: .int .i64 (N : Nat) :: .lptr 0 0 :: .top :: .bool false :: .str (S (evL ⟨k, c, m, t⟩)) :: .int .i64 0 :: .own 0 72 ((List.replicate x.1 (⟨k, c, m, t⟩ : Ev)).map Ev.av) :: .str (S (putsL (List.replicate x.1 ⟨k, c, m, t⟩))) :: .int .i64 (x.1 : Nat) :: .top :: .top :: .top :: .top :: .top :: .top :: .top :: .top :: .top :: .top :: .top :: .top :: .top :: .top :: .top :: .top :: .top :: .top :: .top :: .top :: .top :: .top :: .top :: .top :: .top :: .top :: .top :: .top :: .top :: .top :: .top :: .top :: .top :: .top :: .top :: .top :: .top :: .top :: .top :: .top :: .top :: .top :: .top :: .top :: .top :: .top :: .top :: .top :: .top :: .top :: .top :: .top :: .top :: .top :: .top :: .top :: .top :: .top :: .top :: .top :: .top :: .top :: .top :: .top :: .top :: .top :: .top :: .top :: .top :: .top :: .top :: .top :: .top :: .top :: .top :: .top :: .top :: .top :: .top :: .top :: .top :: .top :: .top :: .top :: .top :: .top :: .top :: .top :: .top :: .top :: .top :: .top :: .top :: .top :: .top :: []), [.live none (Ev.av ⟨k, c, m, t⟩)], 1, 1, fun _ => none⟩) (fun x => N - x.1) ⟨0, Nat.zero_le _⟩ ?_ (fun x => ?_)
    · refine weak_by [none] ?_; (conv => whnf); repeat (first | (refine And.intro rfl ?_; conv => whnf) | fail)
      exact ⟨fun i x hx => hx, rfl, Nat.le_refl _, rfl, rfl⟩
    obtain ⟨i, hi0⟩ := x
    have hsi := rep_size he hm i
    repeat' (first | (refine Sem.reg tt_ok ?_; conv => whnf) | refine Sem.seqS ?_ | (refine Sem.condS ?_; conv => whnf) | refine Sem.block ?_ | (refine Sem.regL tt_ok ?_; conv => whnf) | (refine Sem.skip tt_ok ?_; conv => whnf) | (refine Sem.exit tt_ok ?_; conv => whnf) | (refine Sem.ret tt_ok ?_; conv => whnf) | (refine BS_t (by assumption) ?_; conv => whnf) | (refine BS_f (by assumption) ?_; conv => whnf) | (refine atG (by first | assumption | exact setG_same _ _ _) ?_; conv => whnf) | (refine (nthK_iff _ _).2 ⟨_, (by assumption), ?_⟩; conv => whnf) | (refine Exists.intro _ (And.intro (And.intro (by omega) (by assumption)) ?_); conv => whnf) | (refine And.intro (by first | decide | omega) ?_; conv => whnf) | fail)
    refine BS_intro (fun hk => ?_) (fun hk => ?_) <;> conv => whnf
    · have hks : i < N := by simp at hk; omega
      clear hk
      repeat' (first | (refine Sem.reg tt_ok ?_; conv => whnf) | refine Sem.seqS ?_ | (refine Sem.condS ?_; conv => whnf) | refine Sem.block ?_ | (refine Sem.regL tt_ok ?_; conv => whnf) | (refine Sem.skip tt_ok ?_; conv => whnf) | (refine Sem.exit tt_ok ?_; conv => whnf) | (refine Sem.ret tt_ok ?_; conv => whnf) | (refine BS_t (by assumption) ?_; conv => whnf) | (refine BS_f (by assumption) ?_; conv => whnf) | (refine atG (by first | assumption | exact setG_same _ _ _) ?_; conv => whnf) | (refine (nthK_iff _ _).2 ⟨_, (by assumption), ?_⟩; conv => whnf) | (refine Exists.intro _ (And.intro (And.intro (by omega) (by assumption)) ?_); conv => whnf) | (refine And.intro (by first | decide | omega) ?_; conv => whnf) | fail)
      refine And.intro (app_le (by simp only [List.length_map, List.length_replicate, List.length_cons, List.length_nil]; omega) (by decide)) ?_; conv => whnf
      repeat' (first | (refine Sem.reg tt_ok ?_; conv => whnf) | refine Sem.seqS ?_ | (refine Sem.condS ?_; conv => whnf) | refine Sem.block ?_ | (refine Sem.regL tt_ok ?_; conv => whnf) | (refine Sem.skip tt_ok ?_; conv => whnf) | (refine Sem.exit tt_ok ?_; conv => whnf) | (refine Sem.ret tt_ok ?_; conv => whnf) | (refine BS_t (by assumption) ?_; conv => whnf) | (refine BS_f (by assumption) ?_; conv => whnf) | (refine atG (by first | assumption | exact setG_same _ _ _) ?_; conv => whnf) | (refine (nthK_iff _ _).2 ⟨_, (by assumption), ?_⟩; conv => whnf) | (refine Exists.intro _ (And.intro (And.intro (by omega) (by assumption)) ?_); conv => whnf) | (refine And.intro (by first | decide | omega) ?_; conv => whnf) | fail)
      refine And.intro (cat_le (by rw [S_size (evL _)]; show (S (putsL (List.replicate i ⟨k, c, m, t⟩))).size + _ ≤ _; omega)) ?_; conv => whnf
      repeat' (first | (refine Sem.reg tt_ok ?_; conv => whnf) | refine Sem.seqS ?_ | (refine Sem.condS ?_; conv => whnf) | refine Sem.block ?_ | (refine Sem.regL tt_ok ?_; conv => whnf) | (refine Sem.skip tt_ok ?_; conv => whnf) | (refine Sem.exit tt_ok ?_; conv => whnf) | (refine Sem.ret tt_ok ?_; conv => whnf) | (refine BS_t (by assumption) ?_; conv => whnf) | (refine BS_f (by assumption) ?_; conv => whnf) | (refine atG (by first | assumption | exact setG_same _ _ _) ?_; conv => whnf) | (refine (nthK_iff _ _).2 ⟨_, (by assumption), ?_⟩; conv => whnf) | (refine Exists.intro _ (And.intro (And.intro (by omega) (by assumption)) ?_); conv => whnf) | (refine And.intro (by first | decide | omega) ?_; conv => whnf) | fail)
      refine ⟨⟨i + 1, by omega⟩, by show N - (i + 1) < N - i; omega, ?_⟩
      refine weak_by [some 0] ?_; (conv => whnf); repeat (first | (refine And.intro rfl ?_; conv => whnf) | fail)
      refine And.intro (rep_map _ _) ?_
      (conv => whnf); repeat (first | (refine And.intro rfl ?_; conv => whnf) | fail)
      refine And.intro (rep_cat _ _) ?_
      (conv => whnf); repeat (first | (refine And.intro rfl ?_; conv => whnf) | fail)
      have hw : IntKind.i64.wrap ((i : Int) + 1) = ((i + 1 : Nat) : Int) := by rw [IntWalk.i64_in _ (by omega)]; omega
      refine And.intro hw ?_
      (conv => whnf); repeat (first | (refine And.intro rfl ?_; conv => whnf) | fail)
      exact ⟨fun i y hy => hy, rfl, Nat.le_refl _, rfl, rfl⟩
    · have hks : i = N := by simp at hk; omega
      subst hks
      have hp := sputs_ok (List.replicate i ⟨k, c, m, t⟩) (fun _ => none) (fun x hx => by rw [(List.mem_replicate.1 hx).2]; exact hm)
      have ht := stakes_ok (S (putsL (List.replicate i ⟨k, c, m, t⟩))) (fun _ => none) (by unfold maxLen; omega)
      rw [putT_rep he] at hp
      rw [takesT_rep he hm] at ht
      dsimp only
      generalize S (putsL (List.replicate i ⟨k, c, m, t⟩)) = all at hp ht ⊢
      clear hsi hsz hE hp1 he
      by_cases h1 : 1024 < i
      · rw [if_pos h1] at hp ht
        unfold evsV at ht
        simp only [List.map_nil, List.length_nil] at hp ht
        have d0 : decide (((i : Nat) : Int) > 1024) = true := by simp; omega
        have d1 : ((⟨#[]⟩ : ByteArray).toList == (⟨#[]⟩ : ByteArray).toList) = true := by simp
        repeat' (first | (refine Sem.reg tt_ok ?_; conv => whnf) | refine Sem.seqS ?_ | (refine Sem.condS ?_; conv => whnf) | refine Sem.block ?_ | (refine Sem.regL tt_ok ?_; conv => whnf) | (refine Sem.skip tt_ok ?_; conv => whnf) | (refine Sem.exit tt_ok ?_; conv => whnf) | (refine Sem.ret tt_ok ?_; conv => whnf) | (refine BS_t (by assumption) ?_; conv => whnf) | (refine BS_f (by assumption) ?_; conv => whnf) | (refine atG (by first | assumption | exact setG_same _ _ _) ?_; conv => whnf) | (refine (nthK_iff _ _).2 ⟨_, (by assumption), ?_⟩; conv => whnf) | (refine Exists.intro _ (And.intro (And.intro (by omega) (by assumption)) ?_); conv => whnf) | (refine And.intro (by first | decide | omega) ?_; conv => whnf) | fail)
        refine hp.on ?_; conv => whnf
        repeat' (first | (refine Sem.reg tt_ok ?_; conv => whnf) | refine Sem.seqS ?_ | (refine Sem.condS ?_; conv => whnf) | refine Sem.block ?_ | (refine Sem.regL tt_ok ?_; conv => whnf) | (refine Sem.skip tt_ok ?_; conv => whnf) | (refine Sem.exit tt_ok ?_; conv => whnf) | (refine Sem.ret tt_ok ?_; conv => whnf) | (refine BS_t (by assumption) ?_; conv => whnf) | (refine BS_f (by assumption) ?_; conv => whnf) | (refine atG (by first | assumption | exact setG_same _ _ _) ?_; conv => whnf) | (refine (nthK_iff _ _).2 ⟨_, (by assumption), ?_⟩; conv => whnf) | (refine Exists.intro _ (And.intro (And.intro (by omega) (by assumption)) ?_); conv => whnf) | (refine And.intro (by first | decide | omega) ?_; conv => whnf) | fail)
        refine ht.on ?_; conv => whnf
        refine Sem.seqS ?_
        refine Sem.reg tt_ok ?_
        conv => whnf
        refine Sem.condS ?_
        conv => whnf
        refine BS_t d0 ?_
        conv => whnf
        refine Sem.reg tt_ok ?_
        conv => whnf
        rw [d1]
        conv => whnf
        refine (awake43_ok _).on ?_; conv => whnf
        repeat' (first | (refine Sem.reg tt_ok ?_; conv => whnf) | refine Sem.seqS ?_ | (refine Sem.condS ?_; conv => whnf) | refine Sem.block ?_ | (refine Sem.regL tt_ok ?_; conv => whnf) | (refine Sem.skip tt_ok ?_; conv => whnf) | (refine Sem.exit tt_ok ?_; conv => whnf) | (refine Sem.ret tt_ok ?_; conv => whnf) | (refine BS_t (by assumption) ?_; conv => whnf) | (refine BS_f (by assumption) ?_; conv => whnf) | (refine atG (by first | assumption | exact setG_same _ _ _) ?_; conv => whnf) | (refine (nthK_iff _ _).2 ⟨_, (by assumption), ?_⟩; conv => whnf) | (refine Exists.intro _ (And.intro (And.intro (by omega) (by assumption)) ?_); conv => whnf) | (refine And.intro (by first | decide | omega) ?_; conv => whnf) | fail)
        exact ⟨_, fun _ _ h => h, rfl⟩
      · rw [if_neg h1] at hp ht
        unfold evsV at ht
        simp only at hp ht
        have d0 : decide (((i : Nat) : Int) > 1024) = false := by simp; omega
        have d1 : (all.toList == all.toList) = true := by simp
        have d2 : (((((List.replicate i (plainE ⟨k, c, m, t⟩)).map Ev.av).length : Nat) : Int) == ((i : Nat) : Int)) = true := by simp
        repeat' (first | (refine Sem.reg tt_ok ?_; conv => whnf) | refine Sem.seqS ?_ | (refine Sem.condS ?_; conv => whnf) | refine Sem.block ?_ | (refine Sem.regL tt_ok ?_; conv => whnf) | (refine Sem.skip tt_ok ?_; conv => whnf) | (refine Sem.exit tt_ok ?_; conv => whnf) | (refine Sem.ret tt_ok ?_; conv => whnf) | (refine BS_t (by assumption) ?_; conv => whnf) | (refine BS_f (by assumption) ?_; conv => whnf) | (refine atG (by first | assumption | exact setG_same _ _ _) ?_; conv => whnf) | (refine (nthK_iff _ _).2 ⟨_, (by assumption), ?_⟩; conv => whnf) | (refine Exists.intro _ (And.intro (And.intro (by omega) (by assumption)) ?_); conv => whnf) | (refine And.intro (by first | decide | omega) ?_; conv => whnf) | fail)
        refine hp.on ?_; conv => whnf
        repeat' (first | (refine Sem.reg tt_ok ?_; conv => whnf) | refine Sem.seqS ?_ | (refine Sem.condS ?_; conv => whnf) | refine Sem.block ?_ | (refine Sem.regL tt_ok ?_; conv => whnf) | (refine Sem.skip tt_ok ?_; conv => whnf) | (refine Sem.exit tt_ok ?_; conv => whnf) | (refine Sem.ret tt_ok ?_; conv => whnf) | (refine BS_t (by assumption) ?_; conv => whnf) | (refine BS_f (by assumption) ?_; conv => whnf) | (refine atG (by first | assumption | exact setG_same _ _ _) ?_; conv => whnf) | (refine (nthK_iff _ _).2 ⟨_, (by assumption), ?_⟩; conv => whnf) | (refine Exists.intro _ (And.intro (And.intro (by omega) (by assumption)) ?_); conv => whnf) | (refine And.intro (by first | decide | omega) ?_; conv => whnf) | fail)
        refine ht.on ?_; conv => whnf
        refine Sem.seqS ?_
        refine Sem.reg tt_ok ?_
        conv => whnf
        refine Sem.condS ?_
        conv => whnf
        refine BS_f d0 ?_
        conv => whnf
        refine Sem.skip tt_ok ?_
        conv => whnf
        refine Sem.reg tt_ok ?_
        conv => whnf
        rw [d1]
        conv => whnf
        rw [d2]
        conv => whnf
        refine (awake43_ok _).on ?_; conv => whnf
        repeat' (first | (refine Sem.reg tt_ok ?_; conv => whnf) | refine Sem.seqS ?_ | (refine Sem.condS ?_; conv => whnf) | refine Sem.block ?_ | (refine Sem.regL tt_ok ?_; conv => whnf) | (refine Sem.skip tt_ok ?_; conv => whnf) | (refine Sem.exit tt_ok ?_; conv => whnf) | (refine Sem.ret tt_ok ?_; conv => whnf) | (refine BS_t (by assumption) ?_; conv => whnf) | (refine BS_f (by assumption) ?_; conv => whnf) | (refine atG (by first | assumption | exact setG_same _ _ _) ?_; conv => whnf) | (refine (nthK_iff _ _).2 ⟨_, (by assumption), ?_⟩; conv => whnf) | (refine Exists.intro _ (And.intro (And.intro (by omega) (by assumption)) ?_); conv => whnf) | (refine And.intro (by first | decide | omega) ?_; conv => whnf) | fail)
        exact ⟨_, fun _ _ h => h, rfl⟩
  · have hp : putT [⟨k, c, m, t⟩] = (⟨#[]⟩, evE ⟨k, c, m, t⟩) := by
      have : putsE [⟨k, c, m, t⟩] = evE ⟨k, c, m, t⟩ := if_pos he
      unfold putT
      rw [if_neg (by simp), this, if_pos he]
    rw [hp] at hp1
    refine hp1.on ?_; conv => whnf
    have h41 : evE ⟨k, c, m, t⟩ = 4 ∨ evE ⟨k, c, m, t⟩ = 1 := by
      unfold evE at he ⊢
      split
      · exact .inl rfl
      · rename_i h1
        rw [if_neg h1] at he
        split
        · exact .inr rfl
        · rename_i h2; rw [if_neg h2] at he; exact absurd rfl he
    have c1 : (evE ⟨k, c, m, t⟩ != 0) = true := by simp [he]
    by_cases h4 : evE ⟨k, c, m, t⟩ = 4
    · have d0 : (evE ⟨k, c, m, t⟩ == 4) = true := by simp [h4]
      have d1 : ((⟨#[]⟩ : ByteArray).toList == (⟨#[]⟩ : ByteArray).toList) = true := by simp
      repeat' (first | (refine Sem.reg tt_ok ?_; conv => whnf) | refine Sem.seqS ?_ | (refine Sem.condS ?_; conv => whnf) | refine Sem.block ?_ | (refine Sem.regL tt_ok ?_; conv => whnf) | (refine Sem.skip tt_ok ?_; conv => whnf) | (refine Sem.exit tt_ok ?_; conv => whnf) | (refine Sem.ret tt_ok ?_; conv => whnf) | (refine BS_t (by assumption) ?_; conv => whnf) | (refine BS_f (by assumption) ?_; conv => whnf) | (refine atG (by first | assumption | exact setG_same _ _ _) ?_; conv => whnf) | (refine (nthK_iff _ _).2 ⟨_, (by assumption), ?_⟩; conv => whnf) | (refine Exists.intro _ (And.intro (And.intro (by omega) (by assumption)) ?_); conv => whnf) | (refine And.intro (by first | decide | omega) ?_; conv => whnf) | fail)
      refine (awake43_ok _).on ?_; conv => whnf
      repeat' (first | (refine Sem.reg tt_ok ?_; conv => whnf) | refine Sem.seqS ?_ | (refine Sem.condS ?_; conv => whnf) | refine Sem.block ?_ | (refine Sem.regL tt_ok ?_; conv => whnf) | (refine Sem.skip tt_ok ?_; conv => whnf) | (refine Sem.exit tt_ok ?_; conv => whnf) | (refine Sem.ret tt_ok ?_; conv => whnf) | (refine BS_t (by assumption) ?_; conv => whnf) | (refine BS_f (by assumption) ?_; conv => whnf) | (refine atG (by first | assumption | exact setG_same _ _ _) ?_; conv => whnf) | (refine (nthK_iff _ _).2 ⟨_, (by assumption), ?_⟩; conv => whnf) | (refine Exists.intro _ (And.intro (And.intro (by omega) (by assumption)) ?_); conv => whnf) | (refine And.intro (by first | decide | omega) ?_; conv => whnf) | fail)
      exact ⟨_, fun _ _ h => h, rfl⟩
    · have d0 : (evE ⟨k, c, m, t⟩ == 4) = false := by simp [h4]
      have d2 : (evE ⟨k, c, m, t⟩ == 1) = true := by simp [h41.resolve_left h4]
      have d1 : ((⟨#[]⟩ : ByteArray).toList == (⟨#[]⟩ : ByteArray).toList) = true := by simp
      repeat' (first | (refine Sem.reg tt_ok ?_; conv => whnf) | refine Sem.seqS ?_ | (refine Sem.condS ?_; conv => whnf) | refine Sem.block ?_ | (refine Sem.regL tt_ok ?_; conv => whnf) | (refine Sem.skip tt_ok ?_; conv => whnf) | (refine Sem.exit tt_ok ?_; conv => whnf) | (refine Sem.ret tt_ok ?_; conv => whnf) | (refine BS_t (by assumption) ?_; conv => whnf) | (refine BS_f (by assumption) ?_; conv => whnf) | (refine atG (by first | assumption | exact setG_same _ _ _) ?_; conv => whnf) | (refine (nthK_iff _ _).2 ⟨_, (by assumption), ?_⟩; conv => whnf) | (refine Exists.intro _ (And.intro (And.intro (by omega) (by assumption)) ?_); conv => whnf) | (refine And.intro (by first | decide | omega) ?_; conv => whnf) | fail)
      refine (awake43_ok _).on ?_; conv => whnf
      repeat' (first | (refine Sem.reg tt_ok ?_; conv => whnf) | refine Sem.seqS ?_ | (refine Sem.condS ?_; conv => whnf) | refine Sem.block ?_ | (refine Sem.regL tt_ok ?_; conv => whnf) | (refine Sem.skip tt_ok ?_; conv => whnf) | (refine Sem.exit tt_ok ?_; conv => whnf) | (refine Sem.ret tt_ok ?_; conv => whnf) | (refine BS_t (by assumption) ?_; conv => whnf) | (refine BS_f (by assumption) ?_; conv => whnf) | (refine atG (by first | assumption | exact setG_same _ _ _) ?_; conv => whnf) | (refine (nthK_iff _ _).2 ⟨_, (by assumption), ?_⟩; conv => whnf) | (refine Exists.intro _ (And.intro (And.intro (by omega) (by assumption)) ?_); conv => whnf) | (refine And.intro (by first | decide | omega) ?_; conv => whnf) | fail)
      exact ⟨_, fun _ _ h => h, rfl⟩
set_option linter.unusedVariables false in
theorem scriptMany_walk (k : Int) (k0 : -9223372036854775808 ≤ k) (k1 : k ≤ 9223372036854775807) (c : Int) (c0 : -9223372036854775808 ≤ c) (c1 : c ≤ 9223372036854775807) (m : Int) (m0 : 0 ≤ m) (m1 : m ≤ 18446744073709551615) (t : ByteArray) (ht : t.size ≤ 140737488351232) (n : Int) (n0 : -9223372036854775808 ≤ n) (n1 : n ≤ 9223372036854775807) (w : World) :
    Calls Try.prog 17 #[.agg #[.int .i64 k, .int .i64 c, .int .u64 m, .string t], .int .i64 n] w (Gives w (.bool true)) := by
  obtain ⟨m, rfl⟩ := Int.eq_ofNat_of_zero_le m0
  refine law_of (scriptMany_ok k c m t n (by omega)) (fun v G h => h) rfl fun i a u ha hu => ?_
  match i with
  | 0 =>
    simp at ha hu
    subst ha hu
    refine .agg _ _ rfl (fun u hu => by simp at hu; rcases hu with rfl | rfl | rfl | rfl <;> rfl) fun j x y hx hy => ?_
    match j with
    | 0 => simp [Ev.av] at hx hy; subst hx hy; exact .int _ _
    | 1 => simp [Ev.av] at hx hy; subst hx hy; exact .int _ _
    | 2 => simp [Ev.av] at hx hy; subst hx hy; exact .int _ _
    | 3 => simp [Ev.av] at hx hy; subst hx hy; exact .str _
    | j + 4 => simp [Ev.av] at hx
  | 1 => simp at ha hu; subst ha hu; exact .int _ _
  | i + 2 => simp at ha

set_option linter.unusedVariables false in
set_option maxRecDepth 100000 in
theorem scriptMany_contract (H : Type) (enc : TypeId × Value → H) (W : World) (base : Nat) (args : Array Value) (ds gs : List (DataW H)) (before : List MemPlace)
    (hval : ∀ (j : Nat) t v, Try.f17.params[j]? = some t → args[j]? = some v → Value.okWide Try.prog W .any base t v)
    (hW : DataW.Whole enc Try.prog Try.f17.params.toList Rows.scriptManySpec.vars false W args.toList ds gs before)
    (hsz : (DataW.weightsEach Try.prog (Try.f17.params.toList ++ (Rows.scriptManySpec).plain.varTypes Try.prog) (ds ++ gs)).all (· ≤ reachBytes) = true) :
    Calls Try.prog 17 args W fun e W' => ∃ v, e = .returned v ∧ Rows.scriptManySpec.post enc Try.prog Try.f17 false true false false W args v W' := by
  have hW' := hW
  obtain ⟨p, q, hA0, hV, rfl, hfz, hnd⟩ := hW
  have hA : DataW.TrodAll enc Try.prog W 0 (fun _ => true) true Try.f17.params.toList args.toList ds p := hA0
  rw [Try.params17] at hA hval hsz
  obtain ⟨v0, vs0, d0, ds0, p0, q0, hargs, rfl, rfl, h0, r0⟩ := trodAll_cons hA
  obtain ⟨v1, vs1, d1, ds1, p1, q1, rfl, rfl, rfl, h1, r1⟩ := trodAll_cons r0
  obtain ⟨rfl, rfl, rfl⟩ := trodAll_nil r1
  obtain rfl : args = #[v0, v1] := by cases args; simp_all
  obtain ⟨rfl, rfl⟩ := trodVars_none hV
  clear hA0
  obtain ⟨l0, ys0, n0, rfl, hl0, hy0, rfl, rfl, hf0⟩ := struct_arg Try.underlying72 (by kernel_rfl) (by kernel_rfl) (hval 0 72 v0 rfl rfl) h0
  obtain ⟨c0_0, c0_1, c0_2, c0_3, rfl⟩ := list4 hl0
  obtain ⟨y0_0, y0_1, y0_2, y0_3, rfl⟩ := list4 hy0
  obtain ⟨a0_0, rfl, rfl, w0_0⟩ := int_field Try.underlying3 (hf0 0 _ _ rfl rfl)
  have b0_0 := bounds_i64 w0_0
  obtain ⟨a0_1, rfl, rfl, w0_1⟩ := int_field Try.underlying3 (hf0 1 _ _ rfl rfl)
  have b0_1 := bounds_i64 w0_1
  obtain ⟨a0_2, rfl, rfl, w0_2⟩ := int_field Try.underlying29 (hf0 2 _ _ rfl rfl)
  have b0_2 := bounds_u64 w0_2
  obtain ⟨a0_3, rfl, rfl, w0_3⟩ := string_field Try.underlying9 (hf0 3 _ _ rfl rfl)
  obtain ⟨a1, rfl, rfl, rfl, w1⟩ := open_int Try.underlying3 (hval 1 3 v1 rfl rfl) h1
  have b1 := bounds_i64 w1
  have z0_3 : a0_3.size ≤ 140737488351232 := by have := sized_string (sized_part hsz (j := 0) (t := 72) rfl rfl Try.underlying72) (j := 3) (t := 9) rfl rfl; simpa [reachBytes] using this
  refine (scriptMany_walk a0_0 b0_0.1 b0_0.2 a0_1 b0_1.1 b0_1.2 a0_2 b0_2.1 b0_2.2 a0_3 z0_3 a1 b1.1 b1.2 W).mono fun e W' ⟨he, hu⟩ => ?_
  subst he
  exact ⟨_, rfl, post_true laidOut (by kernel_rfl) Try.underlying4 rfl rfl hW' rfl hu⟩

theorem scriptMany_closed : joinedFacts Try.prog 17 Try.f17 Rows.scriptManySpec Rows.scriptManyRow = true := by
  unfold joinedFacts
  rw [fact_mayEnter, fact_lifted, fact_make]
  kernel_rfl

set_option maxRecDepth 100000 in
theorem scriptMany_lifted (os : Os) (started : os.Started) (H : Type) (enc : TypeId × Value → H) :
    ReturnsInHanded {} Try.checked os 17 .any (Rows.scriptManySpec.pre6 enc Try.prog Try.f17 Rows.scriptManyRow.domain false) (Rows.scriptManySpec.post enc Try.prog Try.f17 false true false false) := by
  refine returnsInHanded_of_change_sized (C := Try.checked) own started (by kernel_rfl) Try.func17
    (ChangeSpec.witness6 (enc := enc) (C := Try.checked) false ⟨#[], #[.agg #[.int .i64 0, .int .i64 0, .int .u64 0, .string ⟨#[]⟩], .int .i64 0], []⟩ 8 (by kernel_rfl) (by kernel_rfl) (by kernel_rfl) (by kernel_rfl)) ?_
  intro W base args ds gs before hval hW _ hsz _
  exact scriptMany_contract H enc W base args ds gs before hval hW hsz

theorem scriptMany_holds : Rows.ScriptManySaid :=
  OpenClaim.holds_of_wide 17 Try.f17 rfl rfl rfl rfl rfl rfl rfl ⟨rfl, rfl, rfl, rfl, rfl⟩ rfl rfl rfl rfl rfl (by kernel_rfl) Try.func17 scriptMany_closed
    (of_decide_eq_true (by kernel_rfl)) (by unfold Func.isWrapper; rw [if_neg (by decide +kernel)]; exact ⟨rfl, rfl⟩)
    (fun os started H enc _ => scriptMany_lifted os started H enc)
end Go.Proofs.Ytmmmaekaoanceaa
