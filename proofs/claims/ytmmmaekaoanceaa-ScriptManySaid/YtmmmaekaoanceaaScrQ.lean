/- script and the document's layer 43 in the abstract run. -/
import Derived.Test.YtmmmaekaoanceaaShr
import Derived.Test.YtmmmaekaoanceaaBldb
import Derived.Test.YtmmmaekaoanceaaScrP
set_option maxRecDepth 100000
set_option linter.unusedSimpArgs false
namespace Go.Proofs.Ytmmmaekaoanceaa
open Go Go.RowKit Go.Proofs

def Ev.av (v : Ev) : List AV := [.int .i64 v.kind, .int .i64 v.conn, .int .u64 (v.num : Nat), .str v.bytes]
theorem splain_ok (v : Ev) (G : Glob) : CallOk Try.prog TT 40 [.agg v.av] G (fun x G' => x = .agg (plainE v).av ∧ G' = G) := by
  obtain ⟨k, c, n, t⟩ := v
  refine call_body tt_ok Try.func40 rfl (by kernel_rfl) Try.ntmps40 Try.results40 ?_; conv => whnf
  rcases kind_cases k with rfl | rfl | rfl | rfl | ⟨q1, q2, q3, q4⟩
  · repeat' (first | (refine BS_t (by assumption) ?_; conv => whnf) | (refine BS_f (by assumption) ?_; conv => whnf) | (refine atG (by first | assumption | exact setG_same _ _ _) ?_; conv => whnf) | (refine (nthK_iff _ _).2 ⟨_, (by assumption), ?_⟩; conv => whnf) | (refine Exists.intro _ (And.intro (And.intro (by omega) (by assumption)) ?_); conv => whnf) | (refine And.intro (by first | decide | omega) ?_; conv => whnf) | fail)
    exact ⟨_, fun _ _ h => h, rfl, rfl⟩
  · repeat' (first | (refine BS_t (by assumption) ?_; conv => whnf) | (refine BS_f (by assumption) ?_; conv => whnf) | (refine atG (by first | assumption | exact setG_same _ _ _) ?_; conv => whnf) | (refine (nthK_iff _ _).2 ⟨_, (by assumption), ?_⟩; conv => whnf) | (refine Exists.intro _ (And.intro (And.intro (by omega) (by assumption)) ?_); conv => whnf) | (refine And.intro (by first | decide | omega) ?_; conv => whnf) | fail)
    exact ⟨_, fun _ _ h => h, rfl, rfl⟩
  · repeat' (first | (refine BS_t (by assumption) ?_; conv => whnf) | (refine BS_f (by assumption) ?_; conv => whnf) | (refine atG (by first | assumption | exact setG_same _ _ _) ?_; conv => whnf) | (refine (nthK_iff _ _).2 ⟨_, (by assumption), ?_⟩; conv => whnf) | (refine Exists.intro _ (And.intro (And.intro (by omega) (by assumption)) ?_); conv => whnf) | (refine And.intro (by first | decide | omega) ?_; conv => whnf) | fail)
    exact ⟨_, fun _ _ h => h, rfl, rfl⟩
  · repeat' (first | (refine BS_t (by assumption) ?_; conv => whnf) | (refine BS_f (by assumption) ?_; conv => whnf) | (refine atG (by first | assumption | exact setG_same _ _ _) ?_; conv => whnf) | (refine (nthK_iff _ _).2 ⟨_, (by assumption), ?_⟩; conv => whnf) | (refine Exists.intro _ (And.intro (And.intro (by omega) (by assumption)) ?_); conv => whnf) | (refine And.intro (by first | decide | omega) ?_; conv => whnf) | fail)
    exact ⟨_, fun _ _ h => h, rfl, rfl⟩
  · have b1 : (k == 4) = false := by simpa using q1
    have b2 : (k == 2) = false := by simpa using q2
    have b3 : (k == 6) = false := by simpa using q3
    have b4 : (k == 7) = false := by simpa using q4
    repeat' (first | (refine BS_t (by assumption) ?_; conv => whnf) | (refine BS_f (by assumption) ?_; conv => whnf) | (refine atG (by first | assumption | exact setG_same _ _ _) ?_; conv => whnf) | (refine (nthK_iff _ _).2 ⟨_, (by assumption), ?_⟩; conv => whnf) | (refine Exists.intro _ (And.intro (And.intro (by omega) (by assumption)) ?_); conv => whnf) | (refine And.intro (by first | decide | omega) ?_; conv => whnf) | fail)
    refine ⟨_, fun _ _ h => h, ?_, rfl⟩
    simp [plainE, Ev.av, hasC, hasN, hasB, q1, q2, q3, q4]
theorem has_ok (k : Int) (G : Glob) : CallOk Try.prog TT 78 [.int .i64 k] G (fun x G' => x = .tup [.bool (hasC k), .bool (hasN k), .bool (hasB k)] ∧ G' = G) := by
  refine call_body tt_ok Try.func78 rfl (by kernel_rfl) Try.ntmps78 Try.results78 ?_; conv => whnf
  repeat' (first | (refine BS_t (by assumption) ?_; conv => whnf) | (refine BS_f (by assumption) ?_; conv => whnf) | (refine BS_intro (fun _ => ?_) (fun _ => ?_) <;> conv => whnf))
  all_goals (refine ⟨_, fun _ _ h => h, ?_, rfl⟩; (simp_all [hasC, hasN, hasB] <;> exact ⟨rfl, rfl⟩))
theorem cat_le {a b : Nat} (h : a + b ≤ 9223372036854775807) : ((a + b : Nat) : Int) ≤ IntKind.i64.max := by show _ ≤ (9223372036854775807 : Int); omega
theorem app_nil (s : ByteArray) : s ++ ⟨#[]⟩ = s := by rw [← S_of s, ← S_nil, S_append, List.append_nil]
theorem u64_in {n : Int} (h0 : 0 ≤ n) (h1 : n ≤ 18446744073709551615) : IntKind.u64.wrap n = n := by rw [IntKind.wrap_u64]; omega
theorem sput_bad (v : Ev) (G : Glob) (hk : v.kind < 1 ∨ 7 < v.kind) : CallOk Try.prog TT 75 [.agg v.av] G (fun x G' => x = .tup [.str ⟨#[]⟩, .int .i64 4] ∧ G' = G) := by
  obtain ⟨k, c, n, t⟩ := v
  simp only at hk
  refine call_body tt_ok Try.func75 rfl (by kernel_rfl) Try.ntmps75 Try.results75 ?_; conv => whnf
  refine (splain_ok ⟨k, c, n, t⟩ G).on ?_; conv => whnf
  repeat' (first | (refine BS_t (by assumption) ?_; conv => whnf) | (refine BS_f (by assumption) ?_; conv => whnf) | (refine BS_intro (fun _ => ?_) (fun _ => ?_) <;> conv => whnf))
  all_goals first | (exfalso; simp_all; omega) | exact ⟨_, fun _ _ h => h, rfl, rfl⟩
theorem sput_plain (k c : Int) (n : Nat) (t : ByteArray) (G : Glob) (hk : k = 1 ∨ k = 3 ∨ k = 5) : CallOk Try.prog TT 75 [.agg (Ev.av ⟨k, c, n, t⟩)] G (fun x G' => x = .tup [.str (S (putL k.toNat)), .int .i64 0] ∧ G' = G) := by
  have sp : CallOk Try.prog TT 40 [.agg (Ev.av ⟨k, c, n, t⟩)] G (fun x G' => x = .agg [.int .i64 k, .int .i64 0, .int .u64 0, .str ⟨#[]⟩] ∧ G' = G) := by
    have := splain_ok ⟨k, c, n, t⟩ G
    rcases hk with rfl | rfl | rfl <;> exact this
  have b0 : decide (k < 1) = false := by simp; omega
  have b1 : decide (k > 7) = false := by simp; omega
  have b2 : (k == 4) = false := by rw [beq_eq_false_iff_ne]; omega
  have b3 : (k == 2) = false := by rw [beq_eq_false_iff_ne]; omega
  have b4 : (k == 6) = false := by rw [beq_eq_false_iff_ne]; omega
  have b5 : (k == 7) = false := by rw [beq_eq_false_iff_ne]; omega
  refine call_body tt_ok Try.func75 rfl (by kernel_rfl) Try.ntmps75 Try.results75 ?_; conv => whnf
  refine sp.on ?_; conv => whnf
  repeat' (first | (refine BS_t (by assumption) ?_; conv => whnf) | (refine BS_f (by assumption) ?_; conv => whnf) | (refine atG (by first | assumption | exact setG_same _ _ _) ?_; conv => whnf) | (refine (nthK_iff _ _).2 ⟨_, (by assumption), ?_⟩; conv => whnf) | (refine Exists.intro _ (And.intro (And.intro (by omega) (by assumption)) ?_); conv => whnf) | (refine And.intro (by first | decide | omega) ?_; conv => whnf) | fail)
  refine CallOk.eqArgs (args' := [.int .u64 k]) (by rw [u64_in (by omega) (by omega)]; rfl) ((q_varput k G (by omega) (by omega)).on ?_)
  conv => whnf
  have hl : (S (putL k.toNat)).size ≤ 10 := by rw [S_size]; exact putL_ten (by omega)
  repeat' (first | (refine BS_t (by assumption) ?_; conv => whnf) | (refine BS_f (by assumption) ?_; conv => whnf) | (refine atG (by first | assumption | exact setG_same _ _ _) ?_; conv => whnf) | (refine (nthK_iff _ _).2 ⟨_, (by assumption), ?_⟩; conv => whnf) | (refine Exists.intro _ (And.intro (And.intro (by omega) (by assumption)) ?_); conv => whnf) | (refine And.intro (by first | decide | omega) ?_; conv => whnf) | fail)
  refine And.intro (cat_le (by show _ + 0 ≤ _; omega)) ?_; conv => whnf
  exact ⟨_, fun _ _ h => h, by rw [app_nil], rfl⟩
theorem sput_four (c : Int) (n : Nat) (t : ByteArray) (G : Glob) (hn : n < 18446744073709551616) : CallOk Try.prog TT 75 [.agg (Ev.av ⟨4, c, n, t⟩)] G (fun x G' => x = .tup [.str (S (putL 4 ++ putL n)), .int .i64 0] ∧ G' = G) := by
  have sp : CallOk Try.prog TT 40 [.agg (Ev.av ⟨4, c, n, t⟩)] G (fun x G' => x = .agg [.int .i64 4, .int .i64 0, .int .u64 n, .str ⟨#[]⟩] ∧ G' = G) := splain_ok ⟨4, c, n, t⟩ G
  refine call_body tt_ok Try.func75 rfl (by kernel_rfl) Try.ntmps75 Try.results75 ?_; conv => whnf
  refine sp.on ?_; conv => whnf
  repeat' (first | (refine BS_t (by assumption) ?_; conv => whnf) | (refine BS_f (by assumption) ?_; conv => whnf) | (refine atG (by first | assumption | exact setG_same _ _ _) ?_; conv => whnf) | (refine (nthK_iff _ _).2 ⟨_, (by assumption), ?_⟩; conv => whnf) | (refine Exists.intro _ (And.intro (And.intro (by omega) (by assumption)) ?_); conv => whnf) | (refine And.intro (by first | decide | omega) ?_; conv => whnf) | fail)
  refine (q_varput 4 G (by omega) (by omega)).on ?_; conv => whnf
  repeat' (first | (refine BS_t (by assumption) ?_; conv => whnf) | (refine BS_f (by assumption) ?_; conv => whnf) | (refine atG (by first | assumption | exact setG_same _ _ _) ?_; conv => whnf) | (refine (nthK_iff _ _).2 ⟨_, (by assumption), ?_⟩; conv => whnf) | (refine Exists.intro _ (And.intro (And.intro (by omega) (by assumption)) ?_); conv => whnf) | (refine And.intro (by first | decide | omega) ?_; conv => whnf) | fail)
  refine (q_varput n G (by omega) (by omega)).on ?_; conv => whnf
  repeat' (first | (refine BS_t (by assumption) ?_; conv => whnf) | (refine BS_f (by assumption) ?_; conv => whnf) | (refine atG (by first | assumption | exact setG_same _ _ _) ?_; conv => whnf) | (refine (nthK_iff _ _).2 ⟨_, (by assumption), ?_⟩; conv => whnf) | (refine Exists.intro _ (And.intro (And.intro (by omega) (by assumption)) ?_); conv => whnf) | (refine And.intro (by first | decide | omega) ?_; conv => whnf) | fail)
  have h1 : (S (putL (Int.toNat 4))).size ≤ 10 := by rw [S_size]; exact putL_ten (by decide)
  have h2 : (S (putL ((n : Int)).toNat)).size ≤ 10 := by rw [S_size]; exact putL_ten (by omega)
  refine And.intro (cat_le (by omega)) ?_; conv => whnf
  exact ⟨_, fun _ _ h => h, by rw [S_append]; rfl, rfl⟩
theorem sput_conn (k c : Int) (n : Nat) (t : ByteArray) (G : Glob) (hk : k = 6 ∨ k = 7) : CallOk Try.prog TT 75 [.agg (Ev.av ⟨k, c, n, t⟩)] G (fun x G' => x = .tup [.str (if 0 ≤ c ∧ c ≤ 15 then S (putL k.toNat ++ putL c.toNat) else ⟨#[]⟩), .int .i64 (if 0 ≤ c ∧ c ≤ 15 then 0 else 1)] ∧ G' = G) := by
  have sp : CallOk Try.prog TT 40 [.agg (Ev.av ⟨k, c, n, t⟩)] G (fun x G' => x = .agg [.int .i64 k, .int .i64 c, .int .u64 0, .str ⟨#[]⟩] ∧ G' = G) := by
    have := splain_ok ⟨k, c, n, t⟩ G
    rcases hk with rfl | rfl <;> exact this
  have b0 : decide (k < 1) = false := by simp; omega
  have b1 : decide (k > 7) = false := by simp; omega
  have b2 : (k == 4) = false := by rw [beq_eq_false_iff_ne]; omega
  have b3 : (k == 2) = false := by rw [beq_eq_false_iff_ne]; omega
  have h1 : (S (putL k.toNat)).size ≤ 10 := by rw [S_size]; exact putL_ten (by omega)
  refine call_body tt_ok Try.func75 rfl (by kernel_rfl) Try.ntmps75 Try.results75 ?_; conv => whnf
  refine sp.on ?_; conv => whnf
  by_cases hc : 0 ≤ c ∧ c ≤ 15
  · have d0 : decide (c < 0) = false := by simp; omega
    have d1 : decide (c ≥ 16) = false := by simp; omega
    have h2 : (S (putL c.toNat)).size ≤ 10 := by rw [S_size]; exact putL_ten (by omega)
    repeat' (first | (refine BS_t (by assumption) ?_; conv => whnf) | (refine BS_f (by assumption) ?_; conv => whnf) | (refine atG (by first | assumption | exact setG_same _ _ _) ?_; conv => whnf) | (refine (nthK_iff _ _).2 ⟨_, (by assumption), ?_⟩; conv => whnf) | (refine Exists.intro _ (And.intro (And.intro (by omega) (by assumption)) ?_); conv => whnf) | (refine And.intro (by first | decide | omega) ?_; conv => whnf) | fail)
    refine CallOk.eqArgs (args' := [.int .u64 k]) (by rw [u64_in (by omega) (by omega)]; rfl) ((q_varput k G (by omega) (by omega)).on ?_)
    conv => whnf
    repeat' (first | (refine BS_t (by assumption) ?_; conv => whnf) | (refine BS_f (by assumption) ?_; conv => whnf) | (refine atG (by first | assumption | exact setG_same _ _ _) ?_; conv => whnf) | (refine (nthK_iff _ _).2 ⟨_, (by assumption), ?_⟩; conv => whnf) | (refine Exists.intro _ (And.intro (And.intro (by omega) (by assumption)) ?_); conv => whnf) | (refine And.intro (by first | decide | omega) ?_; conv => whnf) | fail)
    rcases hk with rfl | rfl
    all_goals (
      repeat' (first | (refine BS_t (by assumption) ?_; conv => whnf) | (refine BS_f (by assumption) ?_; conv => whnf) | (refine atG (by first | assumption | exact setG_same _ _ _) ?_; conv => whnf) | (refine (nthK_iff _ _).2 ⟨_, (by assumption), ?_⟩; conv => whnf) | (refine Exists.intro _ (And.intro (And.intro (by omega) (by assumption)) ?_); conv => whnf) | (refine And.intro (by first | decide | omega) ?_; conv => whnf) | fail)
      refine CallOk.eqArgs (args' := [.int .u64 c]) (by rw [u64_in (by omega) (by omega)]; rfl) ((q_varput c G (by omega) (by omega)).on ?_)
      conv => whnf
      repeat' (first | (refine BS_t (by assumption) ?_; conv => whnf) | (refine BS_f (by assumption) ?_; conv => whnf) | (refine atG (by first | assumption | exact setG_same _ _ _) ?_; conv => whnf) | (refine (nthK_iff _ _).2 ⟨_, (by assumption), ?_⟩; conv => whnf) | (refine Exists.intro _ (And.intro (And.intro (by omega) (by assumption)) ?_); conv => whnf) | (refine And.intro (by first | decide | omega) ?_; conv => whnf) | fail)
      refine And.intro (cat_le (by show _ + 0 ≤ _; omega)) ?_; conv => whnf
      repeat' (first | (refine BS_t (by assumption) ?_; conv => whnf) | (refine BS_f (by assumption) ?_; conv => whnf) | (refine atG (by first | assumption | exact setG_same _ _ _) ?_; conv => whnf) | (refine (nthK_iff _ _).2 ⟨_, (by assumption), ?_⟩; conv => whnf) | (refine Exists.intro _ (And.intro (And.intro (by omega) (by assumption)) ?_); conv => whnf) | (refine And.intro (by first | decide | omega) ?_; conv => whnf) | fail)
      refine And.intro (cat_le (by rw [app_nil]; omega)) ?_; conv => whnf
      exact ⟨_, fun _ _ h => h, by rw [app_nil, S_append, if_pos hc, if_pos hc], rfl⟩)
  · by_cases d0 : decide (c < 0) = true
    · repeat' (first | (refine BS_t (by assumption) ?_; conv => whnf) | (refine BS_f (by assumption) ?_; conv => whnf) | (refine atG (by first | assumption | exact setG_same _ _ _) ?_; conv => whnf) | (refine (nthK_iff _ _).2 ⟨_, (by assumption), ?_⟩; conv => whnf) | (refine Exists.intro _ (And.intro (And.intro (by omega) (by assumption)) ?_); conv => whnf) | (refine And.intro (by first | decide | omega) ?_; conv => whnf) | fail)
      exact ⟨_, fun _ _ h => h, by rw [if_neg hc, if_neg hc], rfl⟩
    · rw [Bool.not_eq_true] at d0
      have d1 : decide (c ≥ 16) = true := by simp at d0 ⊢; omega
      repeat' (first | (refine BS_t (by assumption) ?_; conv => whnf) | (refine BS_f (by assumption) ?_; conv => whnf) | (refine atG (by first | assumption | exact setG_same _ _ _) ?_; conv => whnf) | (refine (nthK_iff _ _).2 ⟨_, (by assumption), ?_⟩; conv => whnf) | (refine Exists.intro _ (And.intro (And.intro (by omega) (by assumption)) ?_); conv => whnf) | (refine And.intro (by first | decide | omega) ?_; conv => whnf) | fail)
      exact ⟨_, fun _ _ h => h, by rw [if_neg hc, if_neg hc], rfl⟩
theorem sput_two (c : Int) (n : Nat) (t : ByteArray) (G : Glob) : CallOk Try.prog TT 75 [.agg (Ev.av ⟨2, c, n, t⟩)] G (fun x G' => x = .tup [.str (if (0 ≤ c ∧ c ≤ 15) ∧ t.size ≤ 1048576 then S (putL 2 ++ (putL c.toNat ++ spanL t)) else ⟨#[]⟩), .int .i64 (if (0 ≤ c ∧ c ≤ 15) ∧ t.size ≤ 1048576 then 0 else 1)] ∧ G' = G) := by
  have sp : CallOk Try.prog TT 40 [.agg (Ev.av ⟨2, c, n, t⟩)] G (fun x G' => x = .agg [.int .i64 2, .int .i64 c, .int .u64 0, .str t] ∧ G' = G) := splain_ok ⟨2, c, n, t⟩ G
  have h1 : (S (putL (Int.toNat 2))).size ≤ 10 := by rw [S_size]; exact putL_ten (by decide)
  refine call_body tt_ok Try.func75 rfl (by kernel_rfl) Try.ntmps75 Try.results75 ?_; conv => whnf
  refine sp.on ?_; conv => whnf
  by_cases hc : 0 ≤ c ∧ c ≤ 15
  · have d0 : decide (c < 0) = false := by simp; omega
    have d1 : decide (c ≥ 16) = false := by simp; omega
    by_cases hs : t.size ≤ 1048576
    · have d2 : decide (((t.size : Nat) : Int) > 1048576) = false := by simp; omega
      have h2 : (S (putL c.toNat)).size ≤ 10 := by rw [S_size]; exact putL_ten (by omega)
      have h3 : (S (spanL t)).size ≤ 1048586 := by
        rw [S_size]; unfold spanL; rw [List.length_append]; have := putL_ten (n := t.size) (by omega); have : t.data.toList.length = t.size := by simp
        omega
      repeat' (first | (refine BS_t (by assumption) ?_; conv => whnf) | (refine BS_f (by assumption) ?_; conv => whnf) | (refine atG (by first | assumption | exact setG_same _ _ _) ?_; conv => whnf) | (refine (nthK_iff _ _).2 ⟨_, (by assumption), ?_⟩; conv => whnf) | (refine Exists.intro _ (And.intro (And.intro (by omega) (by assumption)) ?_); conv => whnf) | (refine And.intro (by first | decide | omega) ?_; conv => whnf) | fail)
      refine (q_varput 2 G (by omega) (by omega)).on ?_; conv => whnf
      repeat' (first | (refine BS_t (by assumption) ?_; conv => whnf) | (refine BS_f (by assumption) ?_; conv => whnf) | (refine atG (by first | assumption | exact setG_same _ _ _) ?_; conv => whnf) | (refine (nthK_iff _ _).2 ⟨_, (by assumption), ?_⟩; conv => whnf) | (refine Exists.intro _ (And.intro (And.intro (by omega) (by assumption)) ?_); conv => whnf) | (refine And.intro (by first | decide | omega) ?_; conv => whnf) | fail)
      refine (q_spanput t G (by omega)).on ?_; conv => whnf
      repeat' (first | (refine BS_t (by assumption) ?_; conv => whnf) | (refine BS_f (by assumption) ?_; conv => whnf) | (refine atG (by first | assumption | exact setG_same _ _ _) ?_; conv => whnf) | (refine (nthK_iff _ _).2 ⟨_, (by assumption), ?_⟩; conv => whnf) | (refine Exists.intro _ (And.intro (And.intro (by omega) (by assumption)) ?_); conv => whnf) | (refine And.intro (by first | decide | omega) ?_; conv => whnf) | fail)
      refine CallOk.eqArgs (args' := [.int .u64 c]) (by rw [u64_in (by omega) (by omega)]; rfl) ((q_varput c G (by omega) (by omega)).on ?_)
      conv => whnf
      repeat' (first | (refine BS_t (by assumption) ?_; conv => whnf) | (refine BS_f (by assumption) ?_; conv => whnf) | (refine atG (by first | assumption | exact setG_same _ _ _) ?_; conv => whnf) | (refine (nthK_iff _ _).2 ⟨_, (by assumption), ?_⟩; conv => whnf) | (refine Exists.intro _ (And.intro (And.intro (by omega) (by assumption)) ?_); conv => whnf) | (refine And.intro (by first | decide | omega) ?_; conv => whnf) | fail)
      refine And.intro (cat_le (by omega)) ?_; conv => whnf
      repeat' (first | (refine BS_t (by assumption) ?_; conv => whnf) | (refine BS_f (by assumption) ?_; conv => whnf) | (refine atG (by first | assumption | exact setG_same _ _ _) ?_; conv => whnf) | (refine (nthK_iff _ _).2 ⟨_, (by assumption), ?_⟩; conv => whnf) | (refine Exists.intro _ (And.intro (And.intro (by omega) (by assumption)) ?_); conv => whnf) | (refine And.intro (by first | decide | omega) ?_; conv => whnf) | fail)
      refine And.intro (cat_le (by rw [ByteArray.size_append]; omega)) ?_; conv => whnf
      exact ⟨_, fun _ _ h => h, by rw [S_append, S_append, if_pos ⟨hc, hs⟩, if_pos ⟨hc, hs⟩]; rfl, rfl⟩
    · have d2 : decide (((t.size : Nat) : Int) > 1048576) = true := by simp; omega
      repeat' (first | (refine BS_t (by assumption) ?_; conv => whnf) | (refine BS_f (by assumption) ?_; conv => whnf) | (refine atG (by first | assumption | exact setG_same _ _ _) ?_; conv => whnf) | (refine (nthK_iff _ _).2 ⟨_, (by assumption), ?_⟩; conv => whnf) | (refine Exists.intro _ (And.intro (And.intro (by omega) (by assumption)) ?_); conv => whnf) | (refine And.intro (by first | decide | omega) ?_; conv => whnf) | fail)
      exact ⟨_, fun _ _ h => h, by rw [if_neg (fun h => hs h.2), if_neg (fun h => hs h.2)], rfl⟩
  · by_cases d0 : decide (c < 0) = true
    · repeat' (first | (refine BS_t (by assumption) ?_; conv => whnf) | (refine BS_f (by assumption) ?_; conv => whnf) | (refine atG (by first | assumption | exact setG_same _ _ _) ?_; conv => whnf) | (refine (nthK_iff _ _).2 ⟨_, (by assumption), ?_⟩; conv => whnf) | (refine Exists.intro _ (And.intro (And.intro (by omega) (by assumption)) ?_); conv => whnf) | (refine And.intro (by first | decide | omega) ?_; conv => whnf) | fail)
      exact ⟨_, fun _ _ h => h, by rw [if_neg (fun h => hc h.1), if_neg (fun h => hc h.1)], rfl⟩
    · rw [Bool.not_eq_true] at d0
      have d1 : decide (c ≥ 16) = true := by simp at d0 ⊢; omega
      repeat' (first | (refine BS_t (by assumption) ?_; conv => whnf) | (refine BS_f (by assumption) ?_; conv => whnf) | (refine atG (by first | assumption | exact setG_same _ _ _) ?_; conv => whnf) | (refine (nthK_iff _ _).2 ⟨_, (by assumption), ?_⟩; conv => whnf) | (refine Exists.intro _ (And.intro (And.intro (by omega) (by assumption)) ?_); conv => whnf) | (refine And.intro (by first | decide | omega) ?_; conv => whnf) | fail)
      exact ⟨_, fun _ _ h => h, by rw [if_neg (fun h => hc h.1), if_neg (fun h => hc h.1)], rfl⟩
def putV (v : Ev) : AV := .tup [.str (if evE v = 0 then S (evL v) else ⟨#[]⟩), .int .i64 (evE v)]
theorem sput_ok (v : Ev) (G : Glob) (hn : v.num < 18446744073709551616) : CallOk Try.prog TT 75 [.agg v.av] G (fun x G' => x = putV v ∧ G' = G) := by
  obtain ⟨k, c, n, t⟩ := v
  by_cases hk : k < 1 ∨ 7 < k
  · refine (sput_bad ⟨k, c, n, t⟩ G hk).mono fun x G' h => ⟨h.1.trans ?_, h.2⟩
    have he : evE ⟨k, c, n, t⟩ = 4 := by unfold evE; rw [if_pos hk]
    unfold putV; rw [he, if_neg (by decide)]
  · have hk : k = 1 ∨ k = 3 ∨ k = 5 ∨ k = 4 ∨ k = 6 ∨ k = 7 ∨ k = 2 := by omega
    rcases hk with hk | hk | hk | rfl | hk | hk | rfl
    iterate 3 (
      refine (sput_plain k c n t G (by omega)).mono fun x G' h => ⟨h.1.trans ?_, h.2⟩
      subst hk
      simp [putV, evE, evL, hasC, hasN, hasB])
    · refine (sput_four c n t G hn).mono fun x G' h => ⟨h.1.trans ?_, h.2⟩
      simp [putV, evE, evL, hasC, hasN, hasB]
    iterate 2 (
      refine (sput_conn k c n t G (by omega)).mono fun x G' h => ⟨h.1.trans ?_, h.2⟩
      subst hk
      by_cases hc : 0 ≤ c ∧ c ≤ 15
      · have e : ¬ (c < 0 ∨ 15 < c) := by omega
        simp [putV, evE, evL, hasC, hasN, hasB, hc, e]
      · have e : c < 0 ∨ 15 < c := by omega
        simp [putV, evE, evL, hasC, hasN, hasB, hc, e])
    · refine (sput_two c n t G).mono fun x G' h => ⟨h.1.trans ?_, h.2⟩
      by_cases hc : (0 ≤ c ∧ c ≤ 15) ∧ t.size ≤ 1048576
      · have e : ¬ ((c < 0 ∨ 15 < c) ∨ 1048576 < t.size) := by omega
        simp [putV, evE, evL, hasC, hasN, hasB, hc, e]
      · have e : (c < 0 ∨ 15 < c) ∨ 1048576 < t.size := by omega
        simp [putV, evE, evL, hasC, hasN, hasB, hc, e]
end Go.Proofs.Ytmmmaekaoanceaa
