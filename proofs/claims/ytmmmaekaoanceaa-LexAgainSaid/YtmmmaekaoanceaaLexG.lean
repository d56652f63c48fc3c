/- The document's lexer. -/
import Derived.Test.YtmmmaekaoanceaaLexF
set_option maxRecDepth 100000
set_option linter.unusedSimpArgs false
namespace Go.Proofs.Ytmmmaekaoanceaa
open Go Go.RowKit Go.Proofs Go.Shelf

def clsN (c : UInt8) : Nat := if isLet c = true then 1 else if isDig c = true then 2 else if c.toNat = 95 then 3 else if isSgn c = true then 4 else if isBl c = true then 5 else 0
def sgnL : List Int := [123, 125, 40, 41, 60, 62, 58, 59, 44, 63]
theorem sgn_mem (c : UInt8) : isSgn c = true ↔ ∃ i : Nat, sgnL[i]? = some (c.toNat : Int) := by
  constructor
  · intro h
    unfold isSgn at h
    simp only [decide_eq_true_eq] at h
    rcases h with h | h | h | h | h | h | h | h | h | h <;> rw [h]
    all_goals first | exact ⟨0, rfl⟩ | exact ⟨1, rfl⟩ | exact ⟨2, rfl⟩ | exact ⟨3, rfl⟩ | exact ⟨4, rfl⟩ | exact ⟨5, rfl⟩ | exact ⟨6, rfl⟩ | exact ⟨7, rfl⟩ | exact ⟨8, rfl⟩ | exact ⟨9, rfl⟩
  · rintro ⟨i, h⟩
    unfold isSgn
    simp only [decide_eq_true_eq]
    match i, h with
    | 0, h => simp [sgnL] at h; omega
    | 1, h => simp [sgnL] at h; omega
    | 2, h => simp [sgnL] at h; omega
    | 3, h => simp [sgnL] at h; omega
    | 4, h => simp [sgnL] at h; omega
    | 5, h => simp [sgnL] at h; omega
    | 6, h => simp [sgnL] at h; omega
    | 7, h => simp [sgnL] at h; omega
    | 8, h => simp [sgnL] at h; omega
    | 9, h => simp [sgnL] at h; omega
    | i + 10, h => simp [sgnL] at h
structure CI (n : Int) where
  k : Nat
  hk : k ≤ 10
  h : ∀ i, i < k → sgnL[i]? ≠ some n

theorem class_0 (c : UInt8) {n : Int} (hn : n = (c.toNat : Int)) (hr : n < 48) (G : Glob) : CallOk Try.prog TT 104 [.int .u8 n] G (fun v G' => v = .int .i64 (clsN c : Nat) ∧ G' = G) := by
    have hsm := sgn_mem c
    rw [← hn] at hsm
    refine call_sem tt_ok Try.func104 rfl (by kernel_rfl) Try.ntmps104 Try.results104 ?_; conv => whnf
    have t0 : decide (n ≥ 97) = false := decide_eq_false (by omega)
    have t1 : decide (n ≥ 65) = false := decide_eq_false (by omega)
    have t2 : decide (n ≥ 48) = false := decide_eq_false (by omega)
    have t3 : (n == 95) = false := by rw [beq_eq_false_iff_ne]; omega
    have hcls : clsN c = if isSgn c = true then 4 else if isBl c = true then 5 else 0 := by unfold clsN; rw [if_neg (by unfold isLet; simp only [decide_eq_true_eq]; omega), if_neg (by unfold isDig; simp only [decide_eq_true_eq]; omega), if_neg (by omega)]
    rw [hcls]
    repeat' (first | ((first | refine Sem.reg tt_ok ?_ | refine Sem.condS ?_ | refine Sem.regL tt_ok ?_ | refine Sem.skip tt_ok ?_ | refine Sem.exit tt_ok ?_ | refine Sem.ret tt_ok ?_ | refine BS_t (by assumption) ?_ | refine BS_f (by assumption) ?_ | refine (nthK_iff _ _).2 ⟨_, (by assumption), ?_⟩ | refine ⟨_, ⟨(by omega), (by assumption)⟩, ?_⟩ | refine And.intro (by first | decide | omega) ?_ | fail); conv => whnf) | refine Sem.seqS ?_ | refine Sem.block ?_ | fail)
    refine Sem.loop (ι := CI n) (fun x => ⟨(.int .u8 n :: .top :: .int .i64 0 :: .own 0 5 (sgnL.map fun x => [.int .u8 x]) :: .int .i64 (x.k : Nat) :: .top :: .top :: .top :: .top :: .top :: .top :: .top :: .top :: .top :: .top :: .top :: .top :: .top :: .top :: .top :: .top :: .top :: .top :: .top :: .top :: .top :: .top :: .top :: .top :: .top :: .top :: .top :: .top :: .top :: .top :: .top :: .top :: .top :: .top :: .top :: .top :: .top :: .top :: .top :: .top :: .top :: .top :: .top :: .top :: .top :: .top :: .top :: .top :: .top :: []), [], 0, 1, G⟩) (fun x => 10 - x.k) ⟨0, by omega, fun i h => by omega⟩ ?_ (fun x => ?_)
    · refine weak_by [some 0] ?_; (conv => whnf); repeat (first | (refine And.intro rfl ?_; conv => whnf) | fail)
      exact ⟨fun i y hy => hy, rfl, Nat.le_refl _, rfl, rfl⟩
    have hk := x.hk
    have hnot := x.h
    generalize x.k = k at hk hnot ⊢
    repeat' (first | ((first | refine Sem.reg tt_ok ?_ | refine Sem.condS ?_ | refine Sem.regL tt_ok ?_ | refine Sem.skip tt_ok ?_ | refine Sem.exit tt_ok ?_ | refine Sem.ret tt_ok ?_ | refine BS_t (by assumption) ?_ | refine BS_f (by assumption) ?_ | refine (nthK_iff _ _).2 ⟨_, (by assumption), ?_⟩ | refine ⟨_, ⟨(by omega), (by assumption)⟩, ?_⟩ | refine And.intro (by first | decide | omega) ?_ | fail); conv => whnf) | refine Sem.seqS ?_ | refine Sem.block ?_ | fail)
    by_cases hlt : k < 10
    · have c0 : decide (((k : Nat) : Int) < (((sgnL.map fun x => [AV.int IntKind.u8 x]).length : Nat) : Int)) = true := decide_eq_true (by show (k : Int) < (10 : Nat); omega)
      have hxk : sgnL[k]? = some (sgnL[k]'hlt) := List.getElem?_eq_getElem hlt
      generalize sgnL[k]'hlt = x0 at hxk
      have hel : (sgnL.map fun x => [AV.int IntKind.u8 x])[((k : Nat) : Int).toNat]? = some [.int .u8 x0] := by rw [Int.toNat_natCast, List.getElem?_map, hxk]; rfl
      by_cases hxn : x0 = n
      · have c1 : (x0 == n) = true := by simpa using hxn
        have hs := hsm.2 ⟨k, by rw [hxk, hxn]⟩
        rw [if_pos hs]
        repeat' (first | ((first | refine Sem.reg tt_ok ?_ | refine Sem.condS ?_ | refine Sem.regL tt_ok ?_ | refine Sem.skip tt_ok ?_ | refine Sem.exit tt_ok ?_ | refine Sem.ret tt_ok ?_ | refine BS_t (by assumption) ?_ | refine BS_f (by assumption) ?_ | refine (nthK_iff _ _).2 ⟨_, (by assumption), ?_⟩ | refine ⟨_, ⟨(by omega), (by assumption)⟩, ?_⟩ | refine And.intro (by first | decide | omega) ?_ | fail); conv => whnf) | refine Sem.seqS ?_ | refine Sem.block ?_ | fail)
        exact ⟨_, fun _ _ h => h, rfl, rfl⟩
      · have c1 : (x0 == n) = false := by simpa using hxn
        repeat' (first | ((first | refine Sem.reg tt_ok ?_ | refine Sem.condS ?_ | refine Sem.regL tt_ok ?_ | refine Sem.skip tt_ok ?_ | refine Sem.exit tt_ok ?_ | refine Sem.ret tt_ok ?_ | refine BS_t (by assumption) ?_ | refine BS_f (by assumption) ?_ | refine (nthK_iff _ _).2 ⟨_, (by assumption), ?_⟩ | refine ⟨_, ⟨(by omega), (by assumption)⟩, ?_⟩ | refine And.intro (by first | decide | omega) ?_ | fail); conv => whnf) | refine Sem.seqS ?_ | refine Sem.block ?_ | fail)
        refine ⟨⟨k + 1, hlt, fun i hi => ?_⟩, by show 10 - (k + 1) < 10 - k; omega, ?_⟩
        · rcases Nat.lt_or_ge i k with h | h
          · exact hnot i h
          · rw [show i = k by omega, hxk]; simpa using hxn
        refine weak_by [some 0] ?_; (conv => whnf); repeat (first | (refine And.intro rfl ?_; conv => whnf) | fail)
        refine And.intro (show _ = (((k + 1 : Nat)) : Int) from by rw [IntWalk.i64_in _ (by omega)]; omega) ?_
        (conv => whnf); repeat (first | (refine And.intro rfl ?_; conv => whnf) | fail)
        exact ⟨fun i y hy => hy, rfl, Nat.le_refl _, rfl, rfl⟩
    · have c0 : decide (((k : Nat) : Int) < (((sgnL.map fun x => [AV.int IntKind.u8 x]).length : Nat) : Int)) = false := decide_eq_false (by show ¬ (k : Int) < (10 : Nat); omega)
      have hs : isSgn c = false := by
        cases hh : isSgn c with
        | false => rfl
        | true =>
          obtain ⟨i, hi⟩ := hsm.1 hh
          have : i < 10 := (List.getElem?_eq_some_iff.1 hi).1
          exact absurd hi (hnot i (by omega))
      rw [if_neg (by simp [hs])]
      cases hbl : isBl c with
      | true =>
        rw [if_pos rfl]
        unfold isBl at hbl
        simp only [decide_eq_true_eq] at hbl
        rcases hbl with h | h | h | h
        · have b1 : (n == 32) = true := by simp; omega
          repeat' (first | ((first | refine Sem.reg tt_ok ?_ | refine Sem.condS ?_ | refine Sem.regL tt_ok ?_ | refine Sem.skip tt_ok ?_ | refine Sem.exit tt_ok ?_ | refine Sem.ret tt_ok ?_ | refine BS_t (by assumption) ?_ | refine BS_f (by assumption) ?_ | refine (nthK_iff _ _).2 ⟨_, (by assumption), ?_⟩ | refine ⟨_, ⟨(by omega), (by assumption)⟩, ?_⟩ | refine And.intro (by first | decide | omega) ?_ | fail); conv => whnf) | refine Sem.seqS ?_ | refine Sem.block ?_ | fail)
          exact ⟨_, fun _ _ h => h, rfl, rfl⟩
        · have b1 : (n == 32) = false := by rw [beq_eq_false_iff_ne]; omega
          have b2 : (n == 9) = true := by simp; omega
          repeat' (first | ((first | refine Sem.reg tt_ok ?_ | refine Sem.condS ?_ | refine Sem.regL tt_ok ?_ | refine Sem.skip tt_ok ?_ | refine Sem.exit tt_ok ?_ | refine Sem.ret tt_ok ?_ | refine BS_t (by assumption) ?_ | refine BS_f (by assumption) ?_ | refine (nthK_iff _ _).2 ⟨_, (by assumption), ?_⟩ | refine ⟨_, ⟨(by omega), (by assumption)⟩, ?_⟩ | refine And.intro (by first | decide | omega) ?_ | fail); conv => whnf) | refine Sem.seqS ?_ | refine Sem.block ?_ | fail)
          exact ⟨_, fun _ _ h => h, rfl, rfl⟩
        · have b1 : (n == 32) = false := by rw [beq_eq_false_iff_ne]; omega
          have b2 : (n == 9) = false := by rw [beq_eq_false_iff_ne]; omega
          have b3 : (n == 10) = true := by simp; omega
          repeat' (first | ((first | refine Sem.reg tt_ok ?_ | refine Sem.condS ?_ | refine Sem.regL tt_ok ?_ | refine Sem.skip tt_ok ?_ | refine Sem.exit tt_ok ?_ | refine Sem.ret tt_ok ?_ | refine BS_t (by assumption) ?_ | refine BS_f (by assumption) ?_ | refine (nthK_iff _ _).2 ⟨_, (by assumption), ?_⟩ | refine ⟨_, ⟨(by omega), (by assumption)⟩, ?_⟩ | refine And.intro (by first | decide | omega) ?_ | fail); conv => whnf) | refine Sem.seqS ?_ | refine Sem.block ?_ | fail)
          exact ⟨_, fun _ _ h => h, rfl, rfl⟩
        · have b1 : (n == 32) = false := by rw [beq_eq_false_iff_ne]; omega
          have b2 : (n == 9) = false := by rw [beq_eq_false_iff_ne]; omega
          have b3 : (n == 10) = false := by rw [beq_eq_false_iff_ne]; omega
          have b4 : (n == 13) = true := by simp; omega
          repeat' (first | ((first | refine Sem.reg tt_ok ?_ | refine Sem.condS ?_ | refine Sem.regL tt_ok ?_ | refine Sem.skip tt_ok ?_ | refine Sem.exit tt_ok ?_ | refine Sem.ret tt_ok ?_ | refine BS_t (by assumption) ?_ | refine BS_f (by assumption) ?_ | refine (nthK_iff _ _).2 ⟨_, (by assumption), ?_⟩ | refine ⟨_, ⟨(by omega), (by assumption)⟩, ?_⟩ | refine And.intro (by first | decide | omega) ?_ | fail); conv => whnf) | refine Sem.seqS ?_ | refine Sem.block ?_ | fail)
          exact ⟨_, fun _ _ h => h, rfl, rfl⟩
      | false =>
        rw [if_neg (by simp)]
        unfold isBl at hbl
        simp only [decide_eq_false_iff_not] at hbl
        have b1 : (n == 32) = false := by rw [beq_eq_false_iff_ne]; omega
        have b2 : (n == 9) = false := by rw [beq_eq_false_iff_ne]; omega
        have b3 : (n == 10) = false := by rw [beq_eq_false_iff_ne]; omega
        have b4 : (n == 13) = false := by rw [beq_eq_false_iff_ne]; omega
        repeat' (first | ((first | refine Sem.reg tt_ok ?_ | refine Sem.condS ?_ | refine Sem.regL tt_ok ?_ | refine Sem.skip tt_ok ?_ | refine Sem.exit tt_ok ?_ | refine Sem.ret tt_ok ?_ | refine BS_t (by assumption) ?_ | refine BS_f (by assumption) ?_ | refine (nthK_iff _ _).2 ⟨_, (by assumption), ?_⟩ | refine ⟨_, ⟨(by omega), (by assumption)⟩, ?_⟩ | refine And.intro (by first | decide | omega) ?_ | fail); conv => whnf) | refine Sem.seqS ?_ | refine Sem.block ?_ | fail)
        exact ⟨_, fun _ _ h => h, rfl, rfl⟩
theorem class_1 (c : UInt8) {n : Int} (hn : n = (c.toNat : Int)) (hr : 48 ≤ n ∧ n ≤ 57) (G : Glob) : CallOk Try.prog TT 104 [.int .u8 n] G (fun v G' => v = .int .i64 (clsN c : Nat) ∧ G' = G) := by
    have hsm := sgn_mem c
    rw [← hn] at hsm
    refine call_sem tt_ok Try.func104 rfl (by kernel_rfl) Try.ntmps104 Try.results104 ?_; conv => whnf
    have t0 : decide (n ≥ 97) = false := decide_eq_false (by omega)
    have t1 : decide (n ≥ 65) = false := decide_eq_false (by omega)
    have t2 : decide (n ≥ 48) = true := decide_eq_true (by omega)
    have t3 : decide (n ≤ 57) = true := decide_eq_true (by omega)
    have hcls : clsN c = 2 := by unfold clsN; rw [if_neg (by unfold isLet; simp only [decide_eq_true_eq]; omega), if_pos (by unfold isDig; simp only [decide_eq_true_eq]; omega)]
    rw [hcls]
    repeat' (first | ((first | refine Sem.reg tt_ok ?_ | refine Sem.condS ?_ | refine Sem.regL tt_ok ?_ | refine Sem.skip tt_ok ?_ | refine Sem.exit tt_ok ?_ | refine Sem.ret tt_ok ?_ | refine BS_t (by assumption) ?_ | refine BS_f (by assumption) ?_ | refine (nthK_iff _ _).2 ⟨_, (by assumption), ?_⟩ | refine ⟨_, ⟨(by omega), (by assumption)⟩, ?_⟩ | refine And.intro (by first | decide | omega) ?_ | fail); conv => whnf) | refine Sem.seqS ?_ | refine Sem.block ?_ | fail)
    exact ⟨_, fun _ _ h => h, rfl, rfl⟩
theorem class_2 (c : UInt8) {n : Int} (hn : n = (c.toNat : Int)) (hr : 58 ≤ n ∧ n ≤ 64) (G : Glob) : CallOk Try.prog TT 104 [.int .u8 n] G (fun v G' => v = .int .i64 (clsN c : Nat) ∧ G' = G) := by
    have hsm := sgn_mem c
    rw [← hn] at hsm
    refine call_sem tt_ok Try.func104 rfl (by kernel_rfl) Try.ntmps104 Try.results104 ?_; conv => whnf
    have t0 : decide (n ≥ 97) = false := decide_eq_false (by omega)
    have t1 : decide (n ≥ 65) = false := decide_eq_false (by omega)
    have t2 : decide (n ≥ 48) = true := decide_eq_true (by omega)
    have t3 : decide (n ≤ 57) = false := decide_eq_false (by omega)
    have t4 : (n == 95) = false := by rw [beq_eq_false_iff_ne]; omega
    have hcls : clsN c = if isSgn c = true then 4 else if isBl c = true then 5 else 0 := by unfold clsN; rw [if_neg (by unfold isLet; simp only [decide_eq_true_eq]; omega), if_neg (by unfold isDig; simp only [decide_eq_true_eq]; omega), if_neg (by omega)]
    rw [hcls]
    repeat' (first | ((first | refine Sem.reg tt_ok ?_ | refine Sem.condS ?_ | refine Sem.regL tt_ok ?_ | refine Sem.skip tt_ok ?_ | refine Sem.exit tt_ok ?_ | refine Sem.ret tt_ok ?_ | refine BS_t (by assumption) ?_ | refine BS_f (by assumption) ?_ | refine (nthK_iff _ _).2 ⟨_, (by assumption), ?_⟩ | refine ⟨_, ⟨(by omega), (by assumption)⟩, ?_⟩ | refine And.intro (by first | decide | omega) ?_ | fail); conv => whnf) | refine Sem.seqS ?_ | refine Sem.block ?_ | fail)
    refine Sem.loop (ι := CI n) (fun x => ⟨(.int .u8 n :: .top :: .int .i64 0 :: .own 0 5 (sgnL.map fun x => [.int .u8 x]) :: .int .i64 (x.k : Nat) :: .top :: .top :: .top :: .top :: .top :: .top :: .top :: .top :: .top :: .top :: .top :: .top :: .top :: .top :: .top :: .top :: .top :: .top :: .top :: .top :: .top :: .top :: .top :: .top :: .top :: .top :: .top :: .top :: .top :: .top :: .top :: .top :: .top :: .top :: .top :: .top :: .top :: .top :: .top :: .top :: .top :: .top :: .top :: .top :: .top :: .top :: .top :: .top :: .top :: []), [], 0, 1, G⟩) (fun x => 10 - x.k) ⟨0, by omega, fun i h => by omega⟩ ?_ (fun x => ?_)
    · refine weak_by [some 0] ?_; (conv => whnf); repeat (first | (refine And.intro rfl ?_; conv => whnf) | fail)
      exact ⟨fun i y hy => hy, rfl, Nat.le_refl _, rfl, rfl⟩
    have hk := x.hk
    have hnot := x.h
    generalize x.k = k at hk hnot ⊢
    repeat' (first | ((first | refine Sem.reg tt_ok ?_ | refine Sem.condS ?_ | refine Sem.regL tt_ok ?_ | refine Sem.skip tt_ok ?_ | refine Sem.exit tt_ok ?_ | refine Sem.ret tt_ok ?_ | refine BS_t (by assumption) ?_ | refine BS_f (by assumption) ?_ | refine (nthK_iff _ _).2 ⟨_, (by assumption), ?_⟩ | refine ⟨_, ⟨(by omega), (by assumption)⟩, ?_⟩ | refine And.intro (by first | decide | omega) ?_ | fail); conv => whnf) | refine Sem.seqS ?_ | refine Sem.block ?_ | fail)
    by_cases hlt : k < 10
    · have c0 : decide (((k : Nat) : Int) < (((sgnL.map fun x => [AV.int IntKind.u8 x]).length : Nat) : Int)) = true := decide_eq_true (by show (k : Int) < (10 : Nat); omega)
      have hxk : sgnL[k]? = some (sgnL[k]'hlt) := List.getElem?_eq_getElem hlt
      generalize sgnL[k]'hlt = x0 at hxk
      have hel : (sgnL.map fun x => [AV.int IntKind.u8 x])[((k : Nat) : Int).toNat]? = some [.int .u8 x0] := by rw [Int.toNat_natCast, List.getElem?_map, hxk]; rfl
      by_cases hxn : x0 = n
      · have c1 : (x0 == n) = true := by simpa using hxn
        have hs := hsm.2 ⟨k, by rw [hxk, hxn]⟩
        rw [if_pos hs]
        repeat' (first | ((first | refine Sem.reg tt_ok ?_ | refine Sem.condS ?_ | refine Sem.regL tt_ok ?_ | refine Sem.skip tt_ok ?_ | refine Sem.exit tt_ok ?_ | refine Sem.ret tt_ok ?_ | refine BS_t (by assumption) ?_ | refine BS_f (by assumption) ?_ | refine (nthK_iff _ _).2 ⟨_, (by assumption), ?_⟩ | refine ⟨_, ⟨(by omega), (by assumption)⟩, ?_⟩ | refine And.intro (by first | decide | omega) ?_ | fail); conv => whnf) | refine Sem.seqS ?_ | refine Sem.block ?_ | fail)
        exact ⟨_, fun _ _ h => h, rfl, rfl⟩
      · have c1 : (x0 == n) = false := by simpa using hxn
        repeat' (first | ((first | refine Sem.reg tt_ok ?_ | refine Sem.condS ?_ | refine Sem.regL tt_ok ?_ | refine Sem.skip tt_ok ?_ | refine Sem.exit tt_ok ?_ | refine Sem.ret tt_ok ?_ | refine BS_t (by assumption) ?_ | refine BS_f (by assumption) ?_ | refine (nthK_iff _ _).2 ⟨_, (by assumption), ?_⟩ | refine ⟨_, ⟨(by omega), (by assumption)⟩, ?_⟩ | refine And.intro (by first | decide | omega) ?_ | fail); conv => whnf) | refine Sem.seqS ?_ | refine Sem.block ?_ | fail)
        refine ⟨⟨k + 1, hlt, fun i hi => ?_⟩, by show 10 - (k + 1) < 10 - k; omega, ?_⟩
        · rcases Nat.lt_or_ge i k with h | h
          · exact hnot i h
          · rw [show i = k by omega, hxk]; simpa using hxn
        refine weak_by [some 0] ?_; (conv => whnf); repeat (first | (refine And.intro rfl ?_; conv => whnf) | fail)
        refine And.intro (show _ = (((k + 1 : Nat)) : Int) from by rw [IntWalk.i64_in _ (by omega)]; omega) ?_
        (conv => whnf); repeat (first | (refine And.intro rfl ?_; conv => whnf) | fail)
        exact ⟨fun i y hy => hy, rfl, Nat.le_refl _, rfl, rfl⟩
    · have c0 : decide (((k : Nat) : Int) < (((sgnL.map fun x => [AV.int IntKind.u8 x]).length : Nat) : Int)) = false := decide_eq_false (by show ¬ (k : Int) < (10 : Nat); omega)
      have hs : isSgn c = false := by
        cases hh : isSgn c with
        | false => rfl
        | true =>
          obtain ⟨i, hi⟩ := hsm.1 hh
          have : i < 10 := (List.getElem?_eq_some_iff.1 hi).1
          exact absurd hi (hnot i (by omega))
      rw [if_neg (by simp [hs])]
      cases hbl : isBl c with
      | true =>
        rw [if_pos rfl]
        unfold isBl at hbl
        simp only [decide_eq_true_eq] at hbl
        rcases hbl with h | h | h | h
        · have b1 : (n == 32) = true := by simp; omega
          repeat' (first | ((first | refine Sem.reg tt_ok ?_ | refine Sem.condS ?_ | refine Sem.regL tt_ok ?_ | refine Sem.skip tt_ok ?_ | refine Sem.exit tt_ok ?_ | refine Sem.ret tt_ok ?_ | refine BS_t (by assumption) ?_ | refine BS_f (by assumption) ?_ | refine (nthK_iff _ _).2 ⟨_, (by assumption), ?_⟩ | refine ⟨_, ⟨(by omega), (by assumption)⟩, ?_⟩ | refine And.intro (by first | decide | omega) ?_ | fail); conv => whnf) | refine Sem.seqS ?_ | refine Sem.block ?_ | fail)
          exact ⟨_, fun _ _ h => h, rfl, rfl⟩
        · have b1 : (n == 32) = false := by rw [beq_eq_false_iff_ne]; omega
          have b2 : (n == 9) = true := by simp; omega
          repeat' (first | ((first | refine Sem.reg tt_ok ?_ | refine Sem.condS ?_ | refine Sem.regL tt_ok ?_ | refine Sem.skip tt_ok ?_ | refine Sem.exit tt_ok ?_ | refine Sem.ret tt_ok ?_ | refine BS_t (by assumption) ?_ | refine BS_f (by assumption) ?_ | refine (nthK_iff _ _).2 ⟨_, (by assumption), ?_⟩ | refine ⟨_, ⟨(by omega), (by assumption)⟩, ?_⟩ | refine And.intro (by first | decide | omega) ?_ | fail); conv => whnf) | refine Sem.seqS ?_ | refine Sem.block ?_ | fail)
          exact ⟨_, fun _ _ h => h, rfl, rfl⟩
        · have b1 : (n == 32) = false := by rw [beq_eq_false_iff_ne]; omega
          have b2 : (n == 9) = false := by rw [beq_eq_false_iff_ne]; omega
          have b3 : (n == 10) = true := by simp; omega
          repeat' (first | ((first | refine Sem.reg tt_ok ?_ | refine Sem.condS ?_ | refine Sem.regL tt_ok ?_ | refine Sem.skip tt_ok ?_ | refine Sem.exit tt_ok ?_ | refine Sem.ret tt_ok ?_ | refine BS_t (by assumption) ?_ | refine BS_f (by assumption) ?_ | refine (nthK_iff _ _).2 ⟨_, (by assumption), ?_⟩ | refine ⟨_, ⟨(by omega), (by assumption)⟩, ?_⟩ | refine And.intro (by first | decide | omega) ?_ | fail); conv => whnf) | refine Sem.seqS ?_ | refine Sem.block ?_ | fail)
          exact ⟨_, fun _ _ h => h, rfl, rfl⟩
        · have b1 : (n == 32) = false := by rw [beq_eq_false_iff_ne]; omega
          have b2 : (n == 9) = false := by rw [beq_eq_false_iff_ne]; omega
          have b3 : (n == 10) = false := by rw [beq_eq_false_iff_ne]; omega
          have b4 : (n == 13) = true := by simp; omega
          repeat' (first | ((first | refine Sem.reg tt_ok ?_ | refine Sem.condS ?_ | refine Sem.regL tt_ok ?_ | refine Sem.skip tt_ok ?_ | refine Sem.exit tt_ok ?_ | refine Sem.ret tt_ok ?_ | refine BS_t (by assumption) ?_ | refine BS_f (by assumption) ?_ | refine (nthK_iff _ _).2 ⟨_, (by assumption), ?_⟩ | refine ⟨_, ⟨(by omega), (by assumption)⟩, ?_⟩ | refine And.intro (by first | decide | omega) ?_ | fail); conv => whnf) | refine Sem.seqS ?_ | refine Sem.block ?_ | fail)
          exact ⟨_, fun _ _ h => h, rfl, rfl⟩
      | false =>
        rw [if_neg (by simp)]
        unfold isBl at hbl
        simp only [decide_eq_false_iff_not] at hbl
        have b1 : (n == 32) = false := by rw [beq_eq_false_iff_ne]; omega
        have b2 : (n == 9) = false := by rw [beq_eq_false_iff_ne]; omega
        have b3 : (n == 10) = false := by rw [beq_eq_false_iff_ne]; omega
        have b4 : (n == 13) = false := by rw [beq_eq_false_iff_ne]; omega
        repeat' (first | ((first | refine Sem.reg tt_ok ?_ | refine Sem.condS ?_ | refine Sem.regL tt_ok ?_ | refine Sem.skip tt_ok ?_ | refine Sem.exit tt_ok ?_ | refine Sem.ret tt_ok ?_ | refine BS_t (by assumption) ?_ | refine BS_f (by assumption) ?_ | refine (nthK_iff _ _).2 ⟨_, (by assumption), ?_⟩ | refine ⟨_, ⟨(by omega), (by assumption)⟩, ?_⟩ | refine And.intro (by first | decide | omega) ?_ | fail); conv => whnf) | refine Sem.seqS ?_ | refine Sem.block ?_ | fail)
        exact ⟨_, fun _ _ h => h, rfl, rfl⟩
theorem class_3 (c : UInt8) {n : Int} (hn : n = (c.toNat : Int)) (hr : 65 ≤ n ∧ n ≤ 90) (G : Glob) : CallOk Try.prog TT 104 [.int .u8 n] G (fun v G' => v = .int .i64 (clsN c : Nat) ∧ G' = G) := by
    have hsm := sgn_mem c
    rw [← hn] at hsm
    refine call_sem tt_ok Try.func104 rfl (by kernel_rfl) Try.ntmps104 Try.results104 ?_; conv => whnf
    have t0 : decide (n ≥ 97) = false := decide_eq_false (by omega)
    have t1 : decide (n ≥ 65) = true := decide_eq_true (by omega)
    have t2 : decide (n ≤ 90) = true := decide_eq_true (by omega)
    have hcls : clsN c = 1 := by unfold clsN; rw [if_pos (by unfold isLet; simp only [decide_eq_true_eq]; omega)]
    rw [hcls]
    repeat' (first | ((first | refine Sem.reg tt_ok ?_ | refine Sem.condS ?_ | refine Sem.regL tt_ok ?_ | refine Sem.skip tt_ok ?_ | refine Sem.exit tt_ok ?_ | refine Sem.ret tt_ok ?_ | refine BS_t (by assumption) ?_ | refine BS_f (by assumption) ?_ | refine (nthK_iff _ _).2 ⟨_, (by assumption), ?_⟩ | refine ⟨_, ⟨(by omega), (by assumption)⟩, ?_⟩ | refine And.intro (by first | decide | omega) ?_ | fail); conv => whnf) | refine Sem.seqS ?_ | refine Sem.block ?_ | fail)
    exact ⟨_, fun _ _ h => h, rfl, rfl⟩
theorem class_4 (c : UInt8) {n : Int} (hn : n = (c.toNat : Int)) (hr : 91 ≤ n ∧ n ≤ 96 ∧ n ≠ 95) (G : Glob) : CallOk Try.prog TT 104 [.int .u8 n] G (fun v G' => v = .int .i64 (clsN c : Nat) ∧ G' = G) := by
    have hsm := sgn_mem c
    rw [← hn] at hsm
    refine call_sem tt_ok Try.func104 rfl (by kernel_rfl) Try.ntmps104 Try.results104 ?_; conv => whnf
    have t0 : decide (n ≥ 97) = false := decide_eq_false (by omega)
    have t1 : decide (n ≥ 65) = true := decide_eq_true (by omega)
    have t2 : decide (n ≤ 90) = false := decide_eq_false (by omega)
    have t3 : decide (n ≥ 48) = true := decide_eq_true (by omega)
    have t4 : decide (n ≤ 57) = false := decide_eq_false (by omega)
    have t5 : (n == 95) = false := by rw [beq_eq_false_iff_ne]; omega
    have hcls : clsN c = if isSgn c = true then 4 else if isBl c = true then 5 else 0 := by unfold clsN; rw [if_neg (by unfold isLet; simp only [decide_eq_true_eq]; omega), if_neg (by unfold isDig; simp only [decide_eq_true_eq]; omega), if_neg (by omega)]
    rw [hcls]
    repeat' (first | ((first | refine Sem.reg tt_ok ?_ | refine Sem.condS ?_ | refine Sem.regL tt_ok ?_ | refine Sem.skip tt_ok ?_ | refine Sem.exit tt_ok ?_ | refine Sem.ret tt_ok ?_ | refine BS_t (by assumption) ?_ | refine BS_f (by assumption) ?_ | refine (nthK_iff _ _).2 ⟨_, (by assumption), ?_⟩ | refine ⟨_, ⟨(by omega), (by assumption)⟩, ?_⟩ | refine And.intro (by first | decide | omega) ?_ | fail); conv => whnf) | refine Sem.seqS ?_ | refine Sem.block ?_ | fail)
    refine Sem.loop (ι := CI n) (fun x => ⟨(.int .u8 n :: .top :: .int .i64 0 :: .own 0 5 (sgnL.map fun x => [.int .u8 x]) :: .int .i64 (x.k : Nat) :: .top :: .top :: .top :: .top :: .top :: .top :: .top :: .top :: .top :: .top :: .top :: .top :: .top :: .top :: .top :: .top :: .top :: .top :: .top :: .top :: .top :: .top :: .top :: .top :: .top :: .top :: .top :: .top :: .top :: .top :: .top :: .top :: .top :: .top :: .top :: .top :: .top :: .top :: .top :: .top :: .top :: .top :: .top :: .top :: .top :: .top :: .top :: .top :: .top :: []), [], 0, 1, G⟩) (fun x => 10 - x.k) ⟨0, by omega, fun i h => by omega⟩ ?_ (fun x => ?_)
    · refine weak_by [some 0] ?_; (conv => whnf); repeat (first | (refine And.intro rfl ?_; conv => whnf) | fail)
      exact ⟨fun i y hy => hy, rfl, Nat.le_refl _, rfl, rfl⟩
    have hk := x.hk
    have hnot := x.h
    generalize x.k = k at hk hnot ⊢
    repeat' (first | ((first | refine Sem.reg tt_ok ?_ | refine Sem.condS ?_ | refine Sem.regL tt_ok ?_ | refine Sem.skip tt_ok ?_ | refine Sem.exit tt_ok ?_ | refine Sem.ret tt_ok ?_ | refine BS_t (by assumption) ?_ | refine BS_f (by assumption) ?_ | refine (nthK_iff _ _).2 ⟨_, (by assumption), ?_⟩ | refine ⟨_, ⟨(by omega), (by assumption)⟩, ?_⟩ | refine And.intro (by first | decide | omega) ?_ | fail); conv => whnf) | refine Sem.seqS ?_ | refine Sem.block ?_ | fail)
    by_cases hlt : k < 10
    · have c0 : decide (((k : Nat) : Int) < (((sgnL.map fun x => [AV.int IntKind.u8 x]).length : Nat) : Int)) = true := decide_eq_true (by show (k : Int) < (10 : Nat); omega)
      have hxk : sgnL[k]? = some (sgnL[k]'hlt) := List.getElem?_eq_getElem hlt
      generalize sgnL[k]'hlt = x0 at hxk
      have hel : (sgnL.map fun x => [AV.int IntKind.u8 x])[((k : Nat) : Int).toNat]? = some [.int .u8 x0] := by rw [Int.toNat_natCast, List.getElem?_map, hxk]; rfl
      by_cases hxn : x0 = n
      · have c1 : (x0 == n) = true := by simpa using hxn
        have hs := hsm.2 ⟨k, by rw [hxk, hxn]⟩
        rw [if_pos hs]
        repeat' (first | ((first | refine Sem.reg tt_ok ?_ | refine Sem.condS ?_ | refine Sem.regL tt_ok ?_ | refine Sem.skip tt_ok ?_ | refine Sem.exit tt_ok ?_ | refine Sem.ret tt_ok ?_ | refine BS_t (by assumption) ?_ | refine BS_f (by assumption) ?_ | refine (nthK_iff _ _).2 ⟨_, (by assumption), ?_⟩ | refine ⟨_, ⟨(by omega), (by assumption)⟩, ?_⟩ | refine And.intro (by first | decide | omega) ?_ | fail); conv => whnf) | refine Sem.seqS ?_ | refine Sem.block ?_ | fail)
        exact ⟨_, fun _ _ h => h, rfl, rfl⟩
      · have c1 : (x0 == n) = false := by simpa using hxn
        repeat' (first | ((first | refine Sem.reg tt_ok ?_ | refine Sem.condS ?_ | refine Sem.regL tt_ok ?_ | refine Sem.skip tt_ok ?_ | refine Sem.exit tt_ok ?_ | refine Sem.ret tt_ok ?_ | refine BS_t (by assumption) ?_ | refine BS_f (by assumption) ?_ | refine (nthK_iff _ _).2 ⟨_, (by assumption), ?_⟩ | refine ⟨_, ⟨(by omega), (by assumption)⟩, ?_⟩ | refine And.intro (by first | decide | omega) ?_ | fail); conv => whnf) | refine Sem.seqS ?_ | refine Sem.block ?_ | fail)
        refine ⟨⟨k + 1, hlt, fun i hi => ?_⟩, by show 10 - (k + 1) < 10 - k; omega, ?_⟩
        · rcases Nat.lt_or_ge i k with h | h
          · exact hnot i h
          · rw [show i = k by omega, hxk]; simpa using hxn
        refine weak_by [some 0] ?_; (conv => whnf); repeat (first | (refine And.intro rfl ?_; conv => whnf) | fail)
        refine And.intro (show _ = (((k + 1 : Nat)) : Int) from by rw [IntWalk.i64_in _ (by omega)]; omega) ?_
        (conv => whnf); repeat (first | (refine And.intro rfl ?_; conv => whnf) | fail)
        exact ⟨fun i y hy => hy, rfl, Nat.le_refl _, rfl, rfl⟩
    · have c0 : decide (((k : Nat) : Int) < (((sgnL.map fun x => [AV.int IntKind.u8 x]).length : Nat) : Int)) = false := decide_eq_false (by show ¬ (k : Int) < (10 : Nat); omega)
      have hs : isSgn c = false := by
        cases hh : isSgn c with
        | false => rfl
        | true =>
          obtain ⟨i, hi⟩ := hsm.1 hh
          have : i < 10 := (List.getElem?_eq_some_iff.1 hi).1
          exact absurd hi (hnot i (by omega))
      rw [if_neg (by simp [hs])]
      cases hbl : isBl c with
      | true =>
        rw [if_pos rfl]
        unfold isBl at hbl
        simp only [decide_eq_true_eq] at hbl
        rcases hbl with h | h | h | h
        · have b1 : (n == 32) = true := by simp; omega
          repeat' (first | ((first | refine Sem.reg tt_ok ?_ | refine Sem.condS ?_ | refine Sem.regL tt_ok ?_ | refine Sem.skip tt_ok ?_ | refine Sem.exit tt_ok ?_ | refine Sem.ret tt_ok ?_ | refine BS_t (by assumption) ?_ | refine BS_f (by assumption) ?_ | refine (nthK_iff _ _).2 ⟨_, (by assumption), ?_⟩ | refine ⟨_, ⟨(by omega), (by assumption)⟩, ?_⟩ | refine And.intro (by first | decide | omega) ?_ | fail); conv => whnf) | refine Sem.seqS ?_ | refine Sem.block ?_ | fail)
          exact ⟨_, fun _ _ h => h, rfl, rfl⟩
        · have b1 : (n == 32) = false := by rw [beq_eq_false_iff_ne]; omega
          have b2 : (n == 9) = true := by simp; omega
          repeat' (first | ((first | refine Sem.reg tt_ok ?_ | refine Sem.condS ?_ | refine Sem.regL tt_ok ?_ | refine Sem.skip tt_ok ?_ | refine Sem.exit tt_ok ?_ | refine Sem.ret tt_ok ?_ | refine BS_t (by assumption) ?_ | refine BS_f (by assumption) ?_ | refine (nthK_iff _ _).2 ⟨_, (by assumption), ?_⟩ | refine ⟨_, ⟨(by omega), (by assumption)⟩, ?_⟩ | refine And.intro (by first | decide | omega) ?_ | fail); conv => whnf) | refine Sem.seqS ?_ | refine Sem.block ?_ | fail)
          exact ⟨_, fun _ _ h => h, rfl, rfl⟩
        · have b1 : (n == 32) = false := by rw [beq_eq_false_iff_ne]; omega
          have b2 : (n == 9) = false := by rw [beq_eq_false_iff_ne]; omega
          have b3 : (n == 10) = true := by simp; omega
          repeat' (first | ((first | refine Sem.reg tt_ok ?_ | refine Sem.condS ?_ | refine Sem.regL tt_ok ?_ | refine Sem.skip tt_ok ?_ | refine Sem.exit tt_ok ?_ | refine Sem.ret tt_ok ?_ | refine BS_t (by assumption) ?_ | refine BS_f (by assumption) ?_ | refine (nthK_iff _ _).2 ⟨_, (by assumption), ?_⟩ | refine ⟨_, ⟨(by omega), (by assumption)⟩, ?_⟩ | refine And.intro (by first | decide | omega) ?_ | fail); conv => whnf) | refine Sem.seqS ?_ | refine Sem.block ?_ | fail)
          exact ⟨_, fun _ _ h => h, rfl, rfl⟩
        · have b1 : (n == 32) = false := by rw [beq_eq_false_iff_ne]; omega
          have b2 : (n == 9) = false := by rw [beq_eq_false_iff_ne]; omega
          have b3 : (n == 10) = false := by rw [beq_eq_false_iff_ne]; omega
          have b4 : (n == 13) = true := by simp; omega
          repeat' (first | ((first | refine Sem.reg tt_ok ?_ | refine Sem.condS ?_ | refine Sem.regL tt_ok ?_ | refine Sem.skip tt_ok ?_ | refine Sem.exit tt_ok ?_ | refine Sem.ret tt_ok ?_ | refine BS_t (by assumption) ?_ | refine BS_f (by assumption) ?_ | refine (nthK_iff _ _).2 ⟨_, (by assumption), ?_⟩ | refine ⟨_, ⟨(by omega), (by assumption)⟩, ?_⟩ | refine And.intro (by first | decide | omega) ?_ | fail); conv => whnf) | refine Sem.seqS ?_ | refine Sem.block ?_ | fail)
          exact ⟨_, fun _ _ h => h, rfl, rfl⟩
      | false =>
        rw [if_neg (by simp)]
        unfold isBl at hbl
        simp only [decide_eq_false_iff_not] at hbl
        have b1 : (n == 32) = false := by rw [beq_eq_false_iff_ne]; omega
        have b2 : (n == 9) = false := by rw [beq_eq_false_iff_ne]; omega
        have b3 : (n == 10) = false := by rw [beq_eq_false_iff_ne]; omega
        have b4 : (n == 13) = false := by rw [beq_eq_false_iff_ne]; omega
        repeat' (first | ((first | refine Sem.reg tt_ok ?_ | refine Sem.condS ?_ | refine Sem.regL tt_ok ?_ | refine Sem.skip tt_ok ?_ | refine Sem.exit tt_ok ?_ | refine Sem.ret tt_ok ?_ | refine BS_t (by assumption) ?_ | refine BS_f (by assumption) ?_ | refine (nthK_iff _ _).2 ⟨_, (by assumption), ?_⟩ | refine ⟨_, ⟨(by omega), (by assumption)⟩, ?_⟩ | refine And.intro (by first | decide | omega) ?_ | fail); conv => whnf) | refine Sem.seqS ?_ | refine Sem.block ?_ | fail)
        exact ⟨_, fun _ _ h => h, rfl, rfl⟩
theorem class_5 (c : UInt8) {n : Int} (hn : n = (c.toNat : Int)) (hr : n = 95) (G : Glob) : CallOk Try.prog TT 104 [.int .u8 n] G (fun v G' => v = .int .i64 (clsN c : Nat) ∧ G' = G) := by
    have hsm := sgn_mem c
    rw [← hn] at hsm
    refine call_sem tt_ok Try.func104 rfl (by kernel_rfl) Try.ntmps104 Try.results104 ?_; conv => whnf
    have t0 : decide (n ≥ 97) = false := decide_eq_false (by omega)
    have t1 : decide (n ≥ 65) = true := decide_eq_true (by omega)
    have t2 : decide (n ≤ 90) = false := decide_eq_false (by omega)
    have t3 : decide (n ≥ 48) = true := decide_eq_true (by omega)
    have t4 : decide (n ≤ 57) = false := decide_eq_false (by omega)
    have t5 : (n == 95) = true := by simp; omega
    have hcls : clsN c = 3 := by unfold clsN; rw [if_neg (by unfold isLet; simp only [decide_eq_true_eq]; omega), if_neg (by unfold isDig; simp only [decide_eq_true_eq]; omega), if_pos (by omega)]
    rw [hcls]
    repeat' (first | ((first | refine Sem.reg tt_ok ?_ | refine Sem.condS ?_ | refine Sem.regL tt_ok ?_ | refine Sem.skip tt_ok ?_ | refine Sem.exit tt_ok ?_ | refine Sem.ret tt_ok ?_ | refine BS_t (by assumption) ?_ | refine BS_f (by assumption) ?_ | refine (nthK_iff _ _).2 ⟨_, (by assumption), ?_⟩ | refine ⟨_, ⟨(by omega), (by assumption)⟩, ?_⟩ | refine And.intro (by first | decide | omega) ?_ | fail); conv => whnf) | refine Sem.seqS ?_ | refine Sem.block ?_ | fail)
    exact ⟨_, fun _ _ h => h, rfl, rfl⟩
theorem class_6 (c : UInt8) {n : Int} (hn : n = (c.toNat : Int)) (hr : 97 ≤ n ∧ n ≤ 122) (G : Glob) : CallOk Try.prog TT 104 [.int .u8 n] G (fun v G' => v = .int .i64 (clsN c : Nat) ∧ G' = G) := by
    have hsm := sgn_mem c
    rw [← hn] at hsm
    refine call_sem tt_ok Try.func104 rfl (by kernel_rfl) Try.ntmps104 Try.results104 ?_; conv => whnf
    have t0 : decide (n ≥ 97) = true := decide_eq_true (by omega)
    have t1 : decide (n ≤ 122) = true := decide_eq_true (by omega)
    have hcls : clsN c = 1 := by unfold clsN; rw [if_pos (by unfold isLet; simp only [decide_eq_true_eq]; omega)]
    rw [hcls]
    repeat' (first | ((first | refine Sem.reg tt_ok ?_ | refine Sem.condS ?_ | refine Sem.regL tt_ok ?_ | refine Sem.skip tt_ok ?_ | refine Sem.exit tt_ok ?_ | refine Sem.ret tt_ok ?_ | refine BS_t (by assumption) ?_ | refine BS_f (by assumption) ?_ | refine (nthK_iff _ _).2 ⟨_, (by assumption), ?_⟩ | refine ⟨_, ⟨(by omega), (by assumption)⟩, ?_⟩ | refine And.intro (by first | decide | omega) ?_ | fail); conv => whnf) | refine Sem.seqS ?_ | refine Sem.block ?_ | fail)
    exact ⟨_, fun _ _ h => h, rfl, rfl⟩
theorem class_7 (c : UInt8) {n : Int} (hn : n = (c.toNat : Int)) (hr : 122 < n) (G : Glob) : CallOk Try.prog TT 104 [.int .u8 n] G (fun v G' => v = .int .i64 (clsN c : Nat) ∧ G' = G) := by
    have hsm := sgn_mem c
    rw [← hn] at hsm
    refine call_sem tt_ok Try.func104 rfl (by kernel_rfl) Try.ntmps104 Try.results104 ?_; conv => whnf
    have t0 : decide (n ≥ 97) = true := decide_eq_true (by omega)
    have t1 : decide (n ≤ 122) = false := decide_eq_false (by omega)
    have t2 : decide (n ≥ 65) = true := decide_eq_true (by omega)
    have t3 : decide (n ≤ 90) = false := decide_eq_false (by omega)
    have t4 : decide (n ≥ 48) = true := decide_eq_true (by omega)
    have t5 : decide (n ≤ 57) = false := decide_eq_false (by omega)
    have t6 : (n == 95) = false := by rw [beq_eq_false_iff_ne]; omega
    have hcls : clsN c = if isSgn c = true then 4 else if isBl c = true then 5 else 0 := by unfold clsN; rw [if_neg (by unfold isLet; simp only [decide_eq_true_eq]; omega), if_neg (by unfold isDig; simp only [decide_eq_true_eq]; omega), if_neg (by omega)]
    rw [hcls]
    repeat' (first | ((first | refine Sem.reg tt_ok ?_ | refine Sem.condS ?_ | refine Sem.regL tt_ok ?_ | refine Sem.skip tt_ok ?_ | refine Sem.exit tt_ok ?_ | refine Sem.ret tt_ok ?_ | refine BS_t (by assumption) ?_ | refine BS_f (by assumption) ?_ | refine (nthK_iff _ _).2 ⟨_, (by assumption), ?_⟩ | refine ⟨_, ⟨(by omega), (by assumption)⟩, ?_⟩ | refine And.intro (by first | decide | omega) ?_ | fail); conv => whnf) | refine Sem.seqS ?_ | refine Sem.block ?_ | fail)
    refine Sem.loop (ι := CI n) (fun x => ⟨(.int .u8 n :: .top :: .int .i64 0 :: .own 0 5 (sgnL.map fun x => [.int .u8 x]) :: .int .i64 (x.k : Nat) :: .top :: .top :: .top :: .top :: .top :: .top :: .top :: .top :: .top :: .top :: .top :: .top :: .top :: .top :: .top :: .top :: .top :: .top :: .top :: .top :: .top :: .top :: .top :: .top :: .top :: .top :: .top :: .top :: .top :: .top :: .top :: .top :: .top :: .top :: .top :: .top :: .top :: .top :: .top :: .top :: .top :: .top :: .top :: .top :: .top :: .top :: .top :: .top :: .top :: []), [], 0, 1, G⟩) (fun x => 10 - x.k) ⟨0, by omega, fun i h => by omega⟩ ?_ (fun x => ?_)
    · refine weak_by [some 0] ?_; (conv => whnf); repeat (first | (refine And.intro rfl ?_; conv => whnf) | fail)
      exact ⟨fun i y hy => hy, rfl, Nat.le_refl _, rfl, rfl⟩
    have hk := x.hk
    have hnot := x.h
    generalize x.k = k at hk hnot ⊢
    repeat' (first | ((first | refine Sem.reg tt_ok ?_ | refine Sem.condS ?_ | refine Sem.regL tt_ok ?_ | refine Sem.skip tt_ok ?_ | refine Sem.exit tt_ok ?_ | refine Sem.ret tt_ok ?_ | refine BS_t (by assumption) ?_ | refine BS_f (by assumption) ?_ | refine (nthK_iff _ _).2 ⟨_, (by assumption), ?_⟩ | refine ⟨_, ⟨(by omega), (by assumption)⟩, ?_⟩ | refine And.intro (by first | decide | omega) ?_ | fail); conv => whnf) | refine Sem.seqS ?_ | refine Sem.block ?_ | fail)
    by_cases hlt : k < 10
    · have c0 : decide (((k : Nat) : Int) < (((sgnL.map fun x => [AV.int IntKind.u8 x]).length : Nat) : Int)) = true := decide_eq_true (by show (k : Int) < (10 : Nat); omega)
      have hxk : sgnL[k]? = some (sgnL[k]'hlt) := List.getElem?_eq_getElem hlt
      generalize sgnL[k]'hlt = x0 at hxk
      have hel : (sgnL.map fun x => [AV.int IntKind.u8 x])[((k : Nat) : Int).toNat]? = some [.int .u8 x0] := by rw [Int.toNat_natCast, List.getElem?_map, hxk]; rfl
      by_cases hxn : x0 = n
      · have c1 : (x0 == n) = true := by simpa using hxn
        have hs := hsm.2 ⟨k, by rw [hxk, hxn]⟩
        rw [if_pos hs]
        repeat' (first | ((first | refine Sem.reg tt_ok ?_ | refine Sem.condS ?_ | refine Sem.regL tt_ok ?_ | refine Sem.skip tt_ok ?_ | refine Sem.exit tt_ok ?_ | refine Sem.ret tt_ok ?_ | refine BS_t (by assumption) ?_ | refine BS_f (by assumption) ?_ | refine (nthK_iff _ _).2 ⟨_, (by assumption), ?_⟩ | refine ⟨_, ⟨(by omega), (by assumption)⟩, ?_⟩ | refine And.intro (by first | decide | omega) ?_ | fail); conv => whnf) | refine Sem.seqS ?_ | refine Sem.block ?_ | fail)
        exact ⟨_, fun _ _ h => h, rfl, rfl⟩
      · have c1 : (x0 == n) = false := by simpa using hxn
        repeat' (first | ((first | refine Sem.reg tt_ok ?_ | refine Sem.condS ?_ | refine Sem.regL tt_ok ?_ | refine Sem.skip tt_ok ?_ | refine Sem.exit tt_ok ?_ | refine Sem.ret tt_ok ?_ | refine BS_t (by assumption) ?_ | refine BS_f (by assumption) ?_ | refine (nthK_iff _ _).2 ⟨_, (by assumption), ?_⟩ | refine ⟨_, ⟨(by omega), (by assumption)⟩, ?_⟩ | refine And.intro (by first | decide | omega) ?_ | fail); conv => whnf) | refine Sem.seqS ?_ | refine Sem.block ?_ | fail)
        refine ⟨⟨k + 1, hlt, fun i hi => ?_⟩, by show 10 - (k + 1) < 10 - k; omega, ?_⟩
        · rcases Nat.lt_or_ge i k with h | h
          · exact hnot i h
          · rw [show i = k by omega, hxk]; simpa using hxn
        refine weak_by [some 0] ?_; (conv => whnf); repeat (first | (refine And.intro rfl ?_; conv => whnf) | fail)
        refine And.intro (show _ = (((k + 1 : Nat)) : Int) from by rw [IntWalk.i64_in _ (by omega)]; omega) ?_
        (conv => whnf); repeat (first | (refine And.intro rfl ?_; conv => whnf) | fail)
        exact ⟨fun i y hy => hy, rfl, Nat.le_refl _, rfl, rfl⟩
    · have c0 : decide (((k : Nat) : Int) < (((sgnL.map fun x => [AV.int IntKind.u8 x]).length : Nat) : Int)) = false := decide_eq_false (by show ¬ (k : Int) < (10 : Nat); omega)
      have hs : isSgn c = false := by
        cases hh : isSgn c with
        | false => rfl
        | true =>
          obtain ⟨i, hi⟩ := hsm.1 hh
          have : i < 10 := (List.getElem?_eq_some_iff.1 hi).1
          exact absurd hi (hnot i (by omega))
      rw [if_neg (by simp [hs])]
      cases hbl : isBl c with
      | true =>
        rw [if_pos rfl]
        unfold isBl at hbl
        simp only [decide_eq_true_eq] at hbl
        rcases hbl with h | h | h | h
        · have b1 : (n == 32) = true := by simp; omega
          repeat' (first | ((first | refine Sem.reg tt_ok ?_ | refine Sem.condS ?_ | refine Sem.regL tt_ok ?_ | refine Sem.skip tt_ok ?_ | refine Sem.exit tt_ok ?_ | refine Sem.ret tt_ok ?_ | refine BS_t (by assumption) ?_ | refine BS_f (by assumption) ?_ | refine (nthK_iff _ _).2 ⟨_, (by assumption), ?_⟩ | refine ⟨_, ⟨(by omega), (by assumption)⟩, ?_⟩ | refine And.intro (by first | decide | omega) ?_ | fail); conv => whnf) | refine Sem.seqS ?_ | refine Sem.block ?_ | fail)
          exact ⟨_, fun _ _ h => h, rfl, rfl⟩
        · have b1 : (n == 32) = false := by rw [beq_eq_false_iff_ne]; omega
          have b2 : (n == 9) = true := by simp; omega
          repeat' (first | ((first | refine Sem.reg tt_ok ?_ | refine Sem.condS ?_ | refine Sem.regL tt_ok ?_ | refine Sem.skip tt_ok ?_ | refine Sem.exit tt_ok ?_ | refine Sem.ret tt_ok ?_ | refine BS_t (by assumption) ?_ | refine BS_f (by assumption) ?_ | refine (nthK_iff _ _).2 ⟨_, (by assumption), ?_⟩ | refine ⟨_, ⟨(by omega), (by assumption)⟩, ?_⟩ | refine And.intro (by first | decide | omega) ?_ | fail); conv => whnf) | refine Sem.seqS ?_ | refine Sem.block ?_ | fail)
          exact ⟨_, fun _ _ h => h, rfl, rfl⟩
        · have b1 : (n == 32) = false := by rw [beq_eq_false_iff_ne]; omega
          have b2 : (n == 9) = false := by rw [beq_eq_false_iff_ne]; omega
          have b3 : (n == 10) = true := by simp; omega
          repeat' (first | ((first | refine Sem.reg tt_ok ?_ | refine Sem.condS ?_ | refine Sem.regL tt_ok ?_ | refine Sem.skip tt_ok ?_ | refine Sem.exit tt_ok ?_ | refine Sem.ret tt_ok ?_ | refine BS_t (by assumption) ?_ | refine BS_f (by assumption) ?_ | refine (nthK_iff _ _).2 ⟨_, (by assumption), ?_⟩ | refine ⟨_, ⟨(by omega), (by assumption)⟩, ?_⟩ | refine And.intro (by first | decide | omega) ?_ | fail); conv => whnf) | refine Sem.seqS ?_ | refine Sem.block ?_ | fail)
          exact ⟨_, fun _ _ h => h, rfl, rfl⟩
        · have b1 : (n == 32) = false := by rw [beq_eq_false_iff_ne]; omega
          have b2 : (n == 9) = false := by rw [beq_eq_false_iff_ne]; omega
          have b3 : (n == 10) = false := by rw [beq_eq_false_iff_ne]; omega
          have b4 : (n == 13) = true := by simp; omega
          repeat' (first | ((first | refine Sem.reg tt_ok ?_ | refine Sem.condS ?_ | refine Sem.regL tt_ok ?_ | refine Sem.skip tt_ok ?_ | refine Sem.exit tt_ok ?_ | refine Sem.ret tt_ok ?_ | refine BS_t (by assumption) ?_ | refine BS_f (by assumption) ?_ | refine (nthK_iff _ _).2 ⟨_, (by assumption), ?_⟩ | refine ⟨_, ⟨(by omega), (by assumption)⟩, ?_⟩ | refine And.intro (by first | decide | omega) ?_ | fail); conv => whnf) | refine Sem.seqS ?_ | refine Sem.block ?_ | fail)
          exact ⟨_, fun _ _ h => h, rfl, rfl⟩
      | false =>
        rw [if_neg (by simp)]
        unfold isBl at hbl
        simp only [decide_eq_false_iff_not] at hbl
        have b1 : (n == 32) = false := by rw [beq_eq_false_iff_ne]; omega
        have b2 : (n == 9) = false := by rw [beq_eq_false_iff_ne]; omega
        have b3 : (n == 10) = false := by rw [beq_eq_false_iff_ne]; omega
        have b4 : (n == 13) = false := by rw [beq_eq_false_iff_ne]; omega
        repeat' (first | ((first | refine Sem.reg tt_ok ?_ | refine Sem.condS ?_ | refine Sem.regL tt_ok ?_ | refine Sem.skip tt_ok ?_ | refine Sem.exit tt_ok ?_ | refine Sem.ret tt_ok ?_ | refine BS_t (by assumption) ?_ | refine BS_f (by assumption) ?_ | refine (nthK_iff _ _).2 ⟨_, (by assumption), ?_⟩ | refine ⟨_, ⟨(by omega), (by assumption)⟩, ?_⟩ | refine And.intro (by first | decide | omega) ?_ | fail); conv => whnf) | refine Sem.seqS ?_ | refine Sem.block ?_ | fail)
        exact ⟨_, fun _ _ h => h, rfl, rfl⟩
theorem class_ok (c : UInt8) {n : Int} (hn : n = (c.toNat : Int)) (G : Glob) : CallOk Try.prog TT 104 [.int .u8 n] G (fun v G' => v = .int .i64 (clsN c : Nat) ∧ G' = G) := by
  rcases (show (n < 48) ∨ (48 ≤ n ∧ n ≤ 57) ∨ (58 ≤ n ∧ n ≤ 64) ∨ (65 ≤ n ∧ n ≤ 90) ∨ (91 ≤ n ∧ n ≤ 96 ∧ n ≠ 95) ∨ (n = 95) ∨ (97 ≤ n ∧ n ≤ 122) ∨ (122 < n) by omega) with hr | hr | hr | hr | hr | hr | hr | hr
  · exact class_0 c hn hr G
  · exact class_1 c hn hr G
  · exact class_2 c hn hr G
  · exact class_3 c hn hr G
  · exact class_4 c hn hr G
  · exact class_5 c hn hr G
  · exact class_6 c hn hr G
  · exact class_7 c hn hr G
end Go.Proofs.Ytmmmaekaoanceaa
