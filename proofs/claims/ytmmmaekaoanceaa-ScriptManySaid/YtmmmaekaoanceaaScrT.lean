/- script.Take and the document's, in the abstract run. -/
import Derived.Test.YtmmmaekaoanceaaScrQ
set_option maxRecDepth 100000
set_option linter.unusedSimpArgs false
namespace Go.Proofs.Ytmmmaekaoanceaa
open Go Go.RowKit Go.Proofs

def numT (b : ByteArray) (most : Nat) (beyond : Int) : Nat × ByteArray × Int :=
  if (takeL b.data.toList).2.2 ≠ 0 then (0, b, (takeL b.data.toList).2.2) else if most < (takeL b.data.toList).1 then (0, b, beyond) else ((takeL b.data.toList).1, rest b (takeL b.data.toList).2.1, 0)
theorem number_ok (b : ByteArray) (most : Nat) (beyond : Int) (G : Glob) (hb : b.size ≤ maxLen) : CallOk Try.prog TT 107 [.str b, .int .u64 most, .int .i64 beyond] G (fun v G' => v = .tup [.int .u64 (numT b most beyond).1, .str (numT b most beyond).2.1, .int .i64 (numT b most beyond).2.2] ∧ G' = G) := by
  have ht := q_vartake b G hb
  obtain ⟨n, k, e, h⟩ : ∃ n k e, takeL b.data.toList = (n, k, e) := ⟨_, _, _, rfl⟩
  have hbd := takeL_bd b.data.toList
  unfold numT
  rw [h] at ht hbd ⊢
  refine call_body tt_ok Try.func107 rfl (by kernel_rfl) Try.ntmps107 Try.results107 ?_; conv => whnf
  refine ht.on ?_; conv => whnf
  by_cases he : e = 0
  · subst he
    by_cases hn : most < n
    · have c0 : decide ((n : Int) > (most : Int)) = true := by simp; omega
      repeat' (first | (refine BS_t (by assumption) ?_; conv => whnf) | (refine BS_f (by assumption) ?_; conv => whnf) | (refine atG (by first | assumption | exact setG_same _ _ _) ?_; conv => whnf) | (refine (nthK_iff _ _).2 ⟨_, (by assumption), ?_⟩; conv => whnf) | (refine Exists.intro _ (And.intro (And.intro (by omega) (by assumption)) ?_); conv => whnf) | (refine And.intro (by first | decide | omega) ?_; conv => whnf) | fail)
      exact ⟨_, fun _ _ h => h, by simp [hn], rfl⟩
    · have c0 : decide ((n : Int) > (most : Int)) = false := by simp; omega
      repeat' (first | (refine BS_t (by assumption) ?_; conv => whnf) | (refine BS_f (by assumption) ?_; conv => whnf) | (refine atG (by first | assumption | exact setG_same _ _ _) ?_; conv => whnf) | (refine (nthK_iff _ _).2 ⟨_, (by assumption), ?_⟩; conv => whnf) | (refine Exists.intro _ (And.intro (And.intro (by omega) (by assumption)) ?_); conv => whnf) | (refine And.intro (by first | decide | omega) ?_; conv => whnf) | fail)
      refine draw_sound (eff := []) tt_ok (by kernel_rfl) (by kernel_rfl) ?_; conv => whnf
      refine And.intro (by simp at hbd ⊢; omega) ?_; conv => whnf
      repeat' (first | (refine BS_t (by assumption) ?_; conv => whnf) | (refine BS_f (by assumption) ?_; conv => whnf) | (refine atG (by first | assumption | exact setG_same _ _ _) ?_; conv => whnf) | (refine (nthK_iff _ _).2 ⟨_, (by assumption), ?_⟩; conv => whnf) | (refine Exists.intro _ (And.intro (And.intro (by omega) (by assumption)) ?_); conv => whnf) | (refine And.intro (by first | decide | omega) ?_; conv => whnf) | fail)
      exact ⟨_, fun _ _ h => h, by simp [hn, rest], rfl⟩
  · have c0 : (e != 0) = true := by simpa using he
    repeat' (first | (refine BS_t (by assumption) ?_; conv => whnf) | (refine BS_f (by assumption) ?_; conv => whnf) | (refine atG (by first | assumption | exact setG_same _ _ _) ?_; conv => whnf) | (refine (nthK_iff _ _).2 ⟨_, (by assumption), ?_⟩; conv => whnf) | (refine Exists.intro _ (And.intro (And.intro (by omega) (by assumption)) ?_); conv => whnf) | (refine And.intro (by first | decide | omega) ?_; conv => whnf) | fail)
    exact ⟨_, fun _ _ h => h, by simp [he], rfl⟩
theorem ba_ext {a b : ByteArray} (h : a.data.toList = b.data.toList) : a = b := by rw [← S_of a, ← S_of b, h]
theorem rest_rest (b : ByteArray) (a k : Nat) : rest (rest b a) k = rest b (a + k) := ba_ext (by rw [rest_data, rest_data, rest_data, List.drop_drop])
set_option maxHeartbeats 2000000 in
theorem take_ok (b : ByteArray) (a : Nat) (G : Glob) (hb : b.size ≤ maxLen) (ha : a ≤ b.size) : CallOk Try.prog TT 87 [.str (rest b a)] G (fun v G' => G' = G ∧ ∃ (x1 x2 x3 : Int) (x4 r : ByteArray), v = .tup [.agg [.int .i64 x1, .int .i64 x2, .int .u64 x3, .str x4], .str r, .int .i64 (evT b a).2.2] ∧ ((evT b a).2.2 = 0 → [.int .i64 x1, .int .i64 x2, .int .u64 x3, .str x4] = Ev.av (evT b a).1 ∧ r = rest b (evT b a).2.1)) := by
  have hr : ∀ a, (rest b a).size ≤ maxLen := fun a => by rw [rest_size]; omega
  obtain ⟨n, k, e, h⟩ : ∃ n k e, takeL (rest b a).data.toList = (n, k, e) := ⟨_, _, _, rfl⟩
  have hbd := takeL_bd (rest b a).data.toList
  rw [rest_list] at hbd
  have hnS : numS b a 0 = (n, a + k, e) := by simp [numS, h]
  have h1 := number_ok (rest b a) 7 4 G (hr a)
  unfold numT at h1
  rw [h] at h1 hbd
  simp only at h1 hbd
  refine call_body tt_ok Try.func87 rfl (by kernel_rfl) Try.ntmps87 Try.results87 ?_; conv => whnf
  by_cases he : e = 0
  · subst he
    by_cases h7 : 7 < n
    · have hT : evT b a = (ev0, a + k, 4) := by simp [evT, hnS, h7]
      rw [hT]
      rw [if_neg (by simp), if_pos h7] at h1
      refine h1.on ?_; conv => whnf
      repeat' (first | (refine BS_t (by assumption) ?_; conv => whnf) | (refine BS_f (by assumption) ?_; conv => whnf) | (refine atG (by first | assumption | exact setG_same _ _ _) ?_; conv => whnf) | (refine (nthK_iff _ _).2 ⟨_, (by assumption), ?_⟩; conv => whnf) | (refine Exists.intro _ (And.intro (And.intro (by omega) (by assumption)) ?_); conv => whnf) | (refine And.intro (by first | decide | omega) ?_; conv => whnf) | fail)
      exact ⟨_, fun _ _ h => h, rfl, _, _, _, _, _, rfl, fun h => by cases h⟩
    · rw [if_neg (by simp), if_neg h7, rest_rest] at h1
      refine h1.on ?_; conv => whnf
      have hn : n = 0 ∨ n = 1 ∨ n = 3 ∨ n = 5 ∨ n = 4 ∨ n = 6 ∨ n = 7 ∨ n = 2 := by omega
      have hak : a + k ≤ b.size := by omega
      obtain ⟨c, k2, e2, hc⟩ : ∃ c k2 e2, takeL (rest b (a + k)).data.toList = (c, k2, e2) := ⟨_, _, _, rfl⟩
      rcases hn with rfl | rfl | rfl | rfl | rfl | rfl | rfl | rfl
      · have hT : evT b a = (ev0, a + k, 4) := by simp [evT, hnS]
        rw [hT]
        repeat' (first | (refine BS_t (by assumption) ?_; conv => whnf) | (refine BS_f (by assumption) ?_; conv => whnf) | (refine atG (by first | assumption | exact setG_same _ _ _) ?_; conv => whnf) | (refine (nthK_iff _ _).2 ⟨_, (by assumption), ?_⟩; conv => whnf) | (refine Exists.intro _ (And.intro (And.intro (by omega) (by assumption)) ?_); conv => whnf) | (refine And.intro (by first | decide | omega) ?_; conv => whnf) | fail)
        exact ⟨_, fun _ _ h => h, rfl, _, _, _, _, _, rfl, fun h => by cases h⟩
      · have hT : evT b a = (⟨1, 0, 0, ⟨#[]⟩⟩, a + k, 0) := by simp [evT, hnS]
        rw [hT]
        repeat' (first | (refine BS_t (by assumption) ?_; conv => whnf) | (refine BS_f (by assumption) ?_; conv => whnf) | (refine atG (by first | assumption | exact setG_same _ _ _) ?_; conv => whnf) | (refine (nthK_iff _ _).2 ⟨_, (by assumption), ?_⟩; conv => whnf) | (refine Exists.intro _ (And.intro (And.intro (by omega) (by assumption)) ?_); conv => whnf) | (refine And.intro (by first | decide | omega) ?_; conv => whnf) | fail)
        exact ⟨_, fun _ _ h => h, rfl, _, _, _, _, _, rfl, fun _ => ⟨rfl, rfl⟩⟩
      · have hT : evT b a = (⟨3, 0, 0, ⟨#[]⟩⟩, a + k, 0) := by simp [evT, hnS]
        rw [hT]
        repeat' (first | (refine BS_t (by assumption) ?_; conv => whnf) | (refine BS_f (by assumption) ?_; conv => whnf) | (refine atG (by first | assumption | exact setG_same _ _ _) ?_; conv => whnf) | (refine (nthK_iff _ _).2 ⟨_, (by assumption), ?_⟩; conv => whnf) | (refine Exists.intro _ (And.intro (And.intro (by omega) (by assumption)) ?_); conv => whnf) | (refine And.intro (by first | decide | omega) ?_; conv => whnf) | fail)
        exact ⟨_, fun _ _ h => h, rfl, _, _, _, _, _, rfl, fun _ => ⟨rfl, rfl⟩⟩
      · have hT : evT b a = (⟨5, 0, 0, ⟨#[]⟩⟩, a + k, 0) := by simp [evT, hnS]
        rw [hT]
        repeat' (first | (refine BS_t (by assumption) ?_; conv => whnf) | (refine BS_f (by assumption) ?_; conv => whnf) | (refine atG (by first | assumption | exact setG_same _ _ _) ?_; conv => whnf) | (refine (nthK_iff _ _).2 ⟨_, (by assumption), ?_⟩; conv => whnf) | (refine Exists.intro _ (And.intro (And.intro (by omega) (by assumption)) ?_); conv => whnf) | (refine And.intro (by first | decide | omega) ?_; conv => whnf) | fail)
        exact ⟨_, fun _ _ h => h, rfl, _, _, _, _, _, rfl, fun _ => ⟨rfl, rfl⟩⟩
      · have hcS : numS b (a + k) 0 = (c, a + k + k2, e2) := by simp [numS, hc]
        have hT : evT b a = (⟨4, 0, c, ⟨#[]⟩⟩, a + k + k2, e2) := by simp [evT, hnS, hcS]
        rw [hT]
        have h2 := number_ok (rest b (a + k)) 18446744073709551615 0 G (hr _)
        have hc0 := (numS_bd (b := b) (a := a + k) (e := 0) hak (by omega) (by omega)).2.2.2
        rw [hcS] at hc0
        unfold numT at h2
        rw [hc] at h2
        simp only at h2 hc0
        rw [show ((18446744073709551615 : Nat) : Int) = 18446744073709551615 from rfl] at h2
        repeat' (first | (refine BS_t (by assumption) ?_; conv => whnf) | (refine BS_f (by assumption) ?_; conv => whnf) | (refine atG (by first | assumption | exact setG_same _ _ _) ?_; conv => whnf) | (refine (nthK_iff _ _).2 ⟨_, (by assumption), ?_⟩; conv => whnf) | (refine Exists.intro _ (And.intro (And.intro (by omega) (by assumption)) ?_); conv => whnf) | (refine And.intro (by first | decide | omega) ?_; conv => whnf) | fail)
        by_cases he2 : e2 = 0
        · subst he2
          rw [if_neg (by simp), if_neg (by omega), rest_rest] at h2
          refine h2.on ?_; conv => whnf
          repeat' (first | (refine BS_t (by assumption) ?_; conv => whnf) | (refine BS_f (by assumption) ?_; conv => whnf) | (refine atG (by first | assumption | exact setG_same _ _ _) ?_; conv => whnf) | (refine (nthK_iff _ _).2 ⟨_, (by assumption), ?_⟩; conv => whnf) | (refine Exists.intro _ (And.intro (And.intro (by omega) (by assumption)) ?_); conv => whnf) | (refine And.intro (by first | decide | omega) ?_; conv => whnf) | fail)
          exact ⟨_, fun _ _ h => h, rfl, _, _, _, _, _, rfl, fun _ => ⟨rfl, rfl⟩⟩
        · rw [if_pos he2] at h2
          refine h2.on ?_; conv => whnf
          repeat' (first | (refine BS_t (by assumption) ?_; conv => whnf) | (refine BS_f (by assumption) ?_; conv => whnf) | (refine atG (by first | assumption | exact setG_same _ _ _) ?_; conv => whnf) | (refine (nthK_iff _ _).2 ⟨_, (by assumption), ?_⟩; conv => whnf) | (refine Exists.intro _ (And.intro (And.intro (by omega) (by assumption)) ?_); conv => whnf) | (refine And.intro (by first | decide | omega) ?_; conv => whnf) | fail)
          exact ⟨_, fun _ _ h => h, rfl, _, _, _, _, _, rfl, fun h => absurd h he2⟩
      · have h2 := number_ok (rest b (a + k)) 15 3 G (hr _)
        unfold numT at h2
        rw [hc] at h2
        simp only at h2
        repeat' (first | (refine BS_t (by assumption) ?_; conv => whnf) | (refine BS_f (by assumption) ?_; conv => whnf) | (refine atG (by first | assumption | exact setG_same _ _ _) ?_; conv => whnf) | (refine (nthK_iff _ _).2 ⟨_, (by assumption), ?_⟩; conv => whnf) | (refine Exists.intro _ (And.intro (And.intro (by omega) (by assumption)) ?_); conv => whnf) | (refine And.intro (by first | decide | omega) ?_; conv => whnf) | fail)
        by_cases he2 : e2 = 0
        · subst he2
          by_cases h15 : 15 < c
          · rw [if_neg (by simp), if_pos h15] at h2
            have hcS : intS b (a + k) 0 15 = (0, a + k, 3) := by
              have : max (15 : Int) 0 < (c : Int) := by omega
              simp [intS, intT, hc, this]
            have hT : (evT b a).2.2 = 3 := by simp [evT, hnS, hcS]
            rw [hT]
            refine h2.on ?_; conv => whnf
            repeat' (first | (refine BS_t (by assumption) ?_; conv => whnf) | (refine BS_f (by assumption) ?_; conv => whnf) | (refine atG (by first | assumption | exact setG_same _ _ _) ?_; conv => whnf) | (refine (nthK_iff _ _).2 ⟨_, (by assumption), ?_⟩; conv => whnf) | (refine Exists.intro _ (And.intro (And.intro (by omega) (by assumption)) ?_); conv => whnf) | (refine And.intro (by first | decide | omega) ?_; conv => whnf) | fail)
            exact ⟨_, fun _ _ h => h, rfl, _, _, _, _, _, rfl, fun h => by cases h⟩
          · rw [if_neg (by simp), if_neg h15, rest_rest] at h2
            have hcS : intS b (a + k) 0 15 = (c, a + k + k2, 0) := by
              have : ¬ max (15 : Int) 0 < (c : Int) := by omega
              simp [intS, intT, hc, this]
            have hT : evT b a = (⟨6, c, 0, ⟨#[]⟩⟩, a + k + k2, 0) := by simp [evT, hnS, hcS]
            rw [hT]
            have hw : IntKind.i64.wrap (c : Int) = c := by rw [IntWalk.i64_in _ (by omega)]
            refine h2.on ?_; conv => whnf
            rw [hw]
            repeat' (first | (refine BS_t (by assumption) ?_; conv => whnf) | (refine BS_f (by assumption) ?_; conv => whnf) | (refine atG (by first | assumption | exact setG_same _ _ _) ?_; conv => whnf) | (refine (nthK_iff _ _).2 ⟨_, (by assumption), ?_⟩; conv => whnf) | (refine Exists.intro _ (And.intro (And.intro (by omega) (by assumption)) ?_); conv => whnf) | (refine And.intro (by first | decide | omega) ?_; conv => whnf) | fail)
            exact ⟨_, fun _ _ h => h, rfl, _, _, _, _, _, rfl, fun _ => ⟨rfl, rfl⟩⟩
        · have he20 : e2 ≠ 0 := he2
          rw [if_pos he2] at h2
          have c1 : (e2 != 0) = true := by simpa using he2
          have hcS : intS b (a + k) 0 15 = (0, a + k, e2) := by simp [intS, intT, hc, he2]
          have hT : (evT b a).2.2 = e2 := by simp [evT, hnS, hcS]
          rw [hT]
          refine h2.on ?_; conv => whnf
          repeat' (first | (refine BS_t (by assumption) ?_; conv => whnf) | (refine BS_f (by assumption) ?_; conv => whnf) | (refine atG (by first | assumption | exact setG_same _ _ _) ?_; conv => whnf) | (refine (nthK_iff _ _).2 ⟨_, (by assumption), ?_⟩; conv => whnf) | (refine Exists.intro _ (And.intro (And.intro (by omega) (by assumption)) ?_); conv => whnf) | (refine And.intro (by first | decide | omega) ?_; conv => whnf) | fail)
          exact ⟨_, fun _ _ h => h, rfl, _, _, _, _, _, rfl, fun h => absurd h he20⟩
      · have h2 := number_ok (rest b (a + k)) 15 3 G (hr _)
        unfold numT at h2
        rw [hc] at h2
        simp only at h2
        repeat' (first | (refine BS_t (by assumption) ?_; conv => whnf) | (refine BS_f (by assumption) ?_; conv => whnf) | (refine atG (by first | assumption | exact setG_same _ _ _) ?_; conv => whnf) | (refine (nthK_iff _ _).2 ⟨_, (by assumption), ?_⟩; conv => whnf) | (refine Exists.intro _ (And.intro (And.intro (by omega) (by assumption)) ?_); conv => whnf) | (refine And.intro (by first | decide | omega) ?_; conv => whnf) | fail)
        by_cases he2 : e2 = 0
        · subst he2
          by_cases h15 : 15 < c
          · rw [if_neg (by simp), if_pos h15] at h2
            have hcS : intS b (a + k) 0 15 = (0, a + k, 3) := by
              have : max (15 : Int) 0 < (c : Int) := by omega
              simp [intS, intT, hc, this]
            have hT : (evT b a).2.2 = 3 := by simp [evT, hnS, hcS]
            rw [hT]
            refine h2.on ?_; conv => whnf
            repeat' (first | (refine BS_t (by assumption) ?_; conv => whnf) | (refine BS_f (by assumption) ?_; conv => whnf) | (refine atG (by first | assumption | exact setG_same _ _ _) ?_; conv => whnf) | (refine (nthK_iff _ _).2 ⟨_, (by assumption), ?_⟩; conv => whnf) | (refine Exists.intro _ (And.intro (And.intro (by omega) (by assumption)) ?_); conv => whnf) | (refine And.intro (by first | decide | omega) ?_; conv => whnf) | fail)
            exact ⟨_, fun _ _ h => h, rfl, _, _, _, _, _, rfl, fun h => by cases h⟩
          · rw [if_neg (by simp), if_neg h15, rest_rest] at h2
            have hcS : intS b (a + k) 0 15 = (c, a + k + k2, 0) := by
              have : ¬ max (15 : Int) 0 < (c : Int) := by omega
              simp [intS, intT, hc, this]
            have hT : evT b a = (⟨7, c, 0, ⟨#[]⟩⟩, a + k + k2, 0) := by simp [evT, hnS, hcS]
            rw [hT]
            have hw : IntKind.i64.wrap (c : Int) = c := by rw [IntWalk.i64_in _ (by omega)]
            refine h2.on ?_; conv => whnf
            rw [hw]
            repeat' (first | (refine BS_t (by assumption) ?_; conv => whnf) | (refine BS_f (by assumption) ?_; conv => whnf) | (refine atG (by first | assumption | exact setG_same _ _ _) ?_; conv => whnf) | (refine (nthK_iff _ _).2 ⟨_, (by assumption), ?_⟩; conv => whnf) | (refine Exists.intro _ (And.intro (And.intro (by omega) (by assumption)) ?_); conv => whnf) | (refine And.intro (by first | decide | omega) ?_; conv => whnf) | fail)
            exact ⟨_, fun _ _ h => h, rfl, _, _, _, _, _, rfl, fun _ => ⟨rfl, rfl⟩⟩
        · have he20 : e2 ≠ 0 := he2
          rw [if_pos he2] at h2
          have c1 : (e2 != 0) = true := by simpa using he2
          have hcS : intS b (a + k) 0 15 = (0, a + k, e2) := by simp [intS, intT, hc, he2]
          have hT : (evT b a).2.2 = e2 := by simp [evT, hnS, hcS]
          rw [hT]
          refine h2.on ?_; conv => whnf
          repeat' (first | (refine BS_t (by assumption) ?_; conv => whnf) | (refine BS_f (by assumption) ?_; conv => whnf) | (refine atG (by first | assumption | exact setG_same _ _ _) ?_; conv => whnf) | (refine (nthK_iff _ _).2 ⟨_, (by assumption), ?_⟩; conv => whnf) | (refine Exists.intro _ (And.intro (And.intro (by omega) (by assumption)) ?_); conv => whnf) | (refine And.intro (by first | decide | omega) ?_; conv => whnf) | fail)
          exact ⟨_, fun _ _ h => h, rfl, _, _, _, _, _, rfl, fun h => absurd h he20⟩
      · have h2 := number_ok (rest b (a + k)) 15 3 G (hr _)
        unfold numT at h2
        rw [hc] at h2
        simp only at h2
        repeat' (first | (refine BS_t (by assumption) ?_; conv => whnf) | (refine BS_f (by assumption) ?_; conv => whnf) | (refine atG (by first | assumption | exact setG_same _ _ _) ?_; conv => whnf) | (refine (nthK_iff _ _).2 ⟨_, (by assumption), ?_⟩; conv => whnf) | (refine Exists.intro _ (And.intro (And.intro (by omega) (by assumption)) ?_); conv => whnf) | (refine And.intro (by first | decide | omega) ?_; conv => whnf) | fail)
        by_cases he2 : e2 = 0
        · subst he2
          by_cases h15 : 15 < c
          · rw [if_neg (by simp), if_pos h15] at h2
            have hcS : intS b (a + k) 0 15 = (0, a + k, 3) := by
              have : max (15 : Int) 0 < (c : Int) := by omega
              simp [intS, intT, hc, this]
            have hT : (evT b a).2.2 = 3 := by simp [evT, hnS, hcS, textS]
            rw [hT]
            refine h2.on ?_; conv => whnf
            repeat' (first | (refine BS_t (by assumption) ?_; conv => whnf) | (refine BS_f (by assumption) ?_; conv => whnf) | (refine atG (by first | assumption | exact setG_same _ _ _) ?_; conv => whnf) | (refine (nthK_iff _ _).2 ⟨_, (by assumption), ?_⟩; conv => whnf) | (refine Exists.intro _ (And.intro (And.intro (by omega) (by assumption)) ?_); conv => whnf) | (refine And.intro (by first | decide | omega) ?_; conv => whnf) | fail)
            exact ⟨_, fun _ _ h => h, rfl, _, _, _, _, _, rfl, fun h => by cases h⟩
          · rw [if_neg (by simp), if_neg h15, rest_rest] at h2
            have hcS : intS b (a + k) 0 15 = (c, a + k + k2, 0) := by
              have : ¬ max (15 : Int) 0 < (c : Int) := by omega
              simp [intS, intT, hc, this]
            have hak2 : a + k + k2 ≤ b.size := by
              have := takeL_bd (rest b (a + k)).data.toList
              rw [rest_list, hc] at this
              simp only at this
              omega
            obtain ⟨t, k3, e3, ht⟩ : ∃ t k3 e3, spanT (rest b (a + k + k2)) 1048576 = (t, k3, e3) := ⟨_, _, _, rfl⟩
            have h3 := q_spantake (rest b (a + k + k2)) 1048576 G (hr _) (by omega) (by omega)
            have hbt := spanT_bd' (rest b (a + k + k2)) 1048576
            rw [ht] at h3 hbt
            simp only [rest_size] at hbt
            have htS : textS b (a + k + k2) 0 1048576 = (t, a + k + k2 + k3, e3) := by simp [textS, ht]
            have hT : evT b a = (⟨2, c, 0, t⟩, a + k + k2 + k3, e3) := by simp [evT, hnS, hcS, htS]
            rw [hT]
            have hw : IntKind.i64.wrap (c : Int) = c := by rw [IntWalk.i64_in _ (by omega)]
            refine h2.on ?_; conv => whnf
            rw [hw]
            repeat' (first | (refine BS_t (by assumption) ?_; conv => whnf) | (refine BS_f (by assumption) ?_; conv => whnf) | (refine atG (by first | assumption | exact setG_same _ _ _) ?_; conv => whnf) | (refine (nthK_iff _ _).2 ⟨_, (by assumption), ?_⟩; conv => whnf) | (refine Exists.intro _ (And.intro (And.intro (by omega) (by assumption)) ?_); conv => whnf) | (refine And.intro (by first | decide | omega) ?_; conv => whnf) | fail)
            refine h3.on ?_; conv => whnf
            repeat' (first | (refine BS_t (by assumption) ?_; conv => whnf) | (refine BS_f (by assumption) ?_; conv => whnf) | (refine atG (by first | assumption | exact setG_same _ _ _) ?_; conv => whnf) | (refine (nthK_iff _ _).2 ⟨_, (by assumption), ?_⟩; conv => whnf) | (refine Exists.intro _ (And.intro (And.intro (by omega) (by assumption)) ?_); conv => whnf) | (refine And.intro (by first | decide | omega) ?_; conv => whnf) | fail)
            refine draw_sound (eff := []) tt_ok (by kernel_rfl) (by kernel_rfl) ?_; conv => whnf
            refine And.intro (by rw [rest_size]; simp only; omega) ?_; conv => whnf
            repeat' (first | (refine BS_t (by assumption) ?_; conv => whnf) | (refine BS_f (by assumption) ?_; conv => whnf) | (refine atG (by first | assumption | exact setG_same _ _ _) ?_; conv => whnf) | (refine (nthK_iff _ _).2 ⟨_, (by assumption), ?_⟩; conv => whnf) | (refine Exists.intro _ (And.intro (And.intro (by omega) (by assumption)) ?_); conv => whnf) | (refine And.intro (by first | decide | omega) ?_; conv => whnf) | fail)
            exact ⟨_, fun _ _ h => h, rfl, _, _, _, _, _, rfl, fun _ => ⟨rfl, rest_rest b (a + k + k2) k3⟩⟩
        · have he20 : e2 ≠ 0 := he2
          rw [if_pos he2] at h2
          have c1 : (e2 != 0) = true := by simpa using he2
          have hcS : intS b (a + k) 0 15 = (0, a + k, e2) := by simp [intS, intT, hc, he2]
          have hT : (evT b a).2.2 = e2 := by simp [evT, hnS, hcS, textS, he2]
          rw [hT]
          refine h2.on ?_; conv => whnf
          repeat' (first | (refine BS_t (by assumption) ?_; conv => whnf) | (refine BS_f (by assumption) ?_; conv => whnf) | (refine atG (by first | assumption | exact setG_same _ _ _) ?_; conv => whnf) | (refine (nthK_iff _ _).2 ⟨_, (by assumption), ?_⟩; conv => whnf) | (refine Exists.intro _ (And.intro (And.intro (by omega) (by assumption)) ?_); conv => whnf) | (refine And.intro (by first | decide | omega) ?_; conv => whnf) | fail)
          exact ⟨_, fun _ _ h => h, rfl, _, _, _, _, _, rfl, fun h => absurd h he20⟩
  · have hT : (evT b a).2.2 = e := by simp [evT, hnS, he]
    have he0 : e ≠ 0 := he
    rw [hT]
    rw [if_pos he] at h1
    have c0 : (e != 0) = true := by simpa using he
    refine h1.on ?_; conv => whnf
    repeat' (first | (refine BS_t (by assumption) ?_; conv => whnf) | (refine BS_f (by assumption) ?_; conv => whnf) | (refine atG (by first | assumption | exact setG_same _ _ _) ?_; conv => whnf) | (refine (nthK_iff _ _).2 ⟨_, (by assumption), ?_⟩; conv => whnf) | (refine Exists.intro _ (And.intro (And.intro (by omega) (by assumption)) ?_); conv => whnf) | (refine And.intro (by first | decide | omega) ?_; conv => whnf) | fail)
    exact ⟨_, fun _ _ h => h, rfl, _, _, _, _, _, rfl, fun h => absurd h he0⟩
end Go.Proofs.Ytmmmaekaoanceaa
