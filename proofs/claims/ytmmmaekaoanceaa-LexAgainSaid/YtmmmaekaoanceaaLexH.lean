/- The document's lexer: rows of bytes of some classes, numbers, one token. -/
import Derived.Test.YtmmmaekaoanceaaLexG
set_option maxRecDepth 100000
set_option linter.unusedSimpArgs false
namespace Go.Proofs.Ytmmmaekaoanceaa
open Go Go.RowKit Go.Proofs Go.Shelf

def clsP (A B C : Nat) (c : UInt8) : Bool := decide (clsN c = A) || (decide (clsN c = B) || decide (clsN c = C))
theorem cls_in (c : UInt8) : clsP 1 2 3 c = isIn c := by
  rw [isIn_of, Bool.eq_iff_iff]
  unfold clsP clsN
  simp only [Bool.or_eq_true, decide_eq_true_eq, beq_iff_eq]
  by_cases h1 : isLet c = true
  · simp [h1]
  · by_cases h2 : isDig c = true
    · simp [h1, h2]
    · by_cases h3 : c.toNat = 95
      · simp [h1, h2, h3]
      · have h3' : ¬ (c.toNat : Int) = 95 := by omega
        rw [if_neg h1, if_neg h2, if_neg h3]
        split <;> (try split) <;> simp [h1, h2, h3']
theorem dig_let {c : UInt8} (h : isDig c = true) : isLet c = false := by
  unfold isDig at h; unfold isLet
  simp only [decide_eq_true_eq, decide_eq_false_iff_not] at *; omega
theorem cls_dig (c : UInt8) : clsP 2 2 2 c = isDig c := by
  rw [Bool.eq_iff_iff]
  unfold clsP clsN
  simp only [Bool.or_eq_true, decide_eq_true_eq]
  by_cases h2 : isDig c = true
  · simp [dig_let h2, h2]
  · by_cases h1 : isLet c = true
    · simp [h1, h2]
    · rw [if_neg h1, if_neg h2]
      split
      · simp [h2]
      · split
        · simp [h2]
        · split <;> simp [h2]
theorem run_congr {p q : UInt8 → Bool} (h : ∀ c, p c = q c) (s : List UInt8) (a : Nat) : runL p s a = runL q s a := by
  have : p = q := funext h
  rw [this]
theorem end_ok (s : List UInt8) (a A B C : Nat) (G : Glob) (ha : a ≤ s.length) (hs : s.length ≤ 1048576) : CallOk Try.prog TT 105 [.str (S s), .int .i64 (a : Nat), .int .i64 (A : Nat), .int .i64 (B : Nat), .int .i64 (C : Nat)] G
    (fun v G' => v = .int .i64 ((a + (runL (clsP A B C) s a).length : Nat) : Int) ∧ G' = G) := by
  have hsz := S_size s
  have hle := runL_le (clsP A B C) s ha
  refine call_sem tt_ok Try.func105 rfl (by kernel_rfl) Try.ntmps105 Try.results105 ?_; conv => whnf
  repeat' (first | ((first | refine Sem.reg tt_ok ?_ | refine Sem.condS ?_ | refine Sem.regL tt_ok ?_ | refine Sem.skip tt_ok ?_ | refine Sem.exit tt_ok ?_ | refine Sem.ret tt_ok ?_ | refine BS_t (by assumption) ?_ | refine BS_f (by assumption) ?_ | refine (nthK_iff _ _).2 ⟨_, (by assumption), ?_⟩ | refine ⟨_, ⟨(by omega), (by assumption)⟩, ?_⟩ | refine And.intro (by first | decide | omega) ?_ | fail); conv => whnf) | refine Sem.seqS ?_ | refine Sem.block ?_ | fail)
  refine Sem.loop (ι := WI (clsP A B C) s a) (fun x => ⟨(.str (S s) :: .int .i64 ((a + x.k : Nat) : Int) :: .int .i64 (A : Nat) :: .int .i64 (B : Nat) :: .int .i64 (C : Nat) :: .top :: .top :: .top :: .top :: .top :: .top :: .top :: .top :: .top :: .top :: .top :: .top :: .top :: .top :: .top :: .top :: .top :: .top :: .top :: .top :: .top :: .top :: .top :: .top :: .top :: .top :: .top :: .top :: .top :: .top :: .top :: .top :: .top :: .top :: .top :: .top :: .top :: []), [], 0, 0, G⟩) (fun x => (runL (clsP A B C) s a).length - x.k) ⟨0, Nat.zero_le _⟩ ?_ (fun x => ?_)
  · refine weak_by [] ?_; (conv => whnf); repeat (first | (refine And.intro rfl ?_; conv => whnf) | fail)
    exact ⟨fun i y hy => hy, rfl, Nat.le_refl _, rfl, rfl⟩
  have hk := x.hk
  generalize x.k = k at hk ⊢
  repeat' (first | ((first | refine Sem.reg tt_ok ?_ | refine Sem.condS ?_ | refine Sem.regL tt_ok ?_ | refine Sem.skip tt_ok ?_ | refine Sem.exit tt_ok ?_ | refine Sem.ret tt_ok ?_ | refine BS_t (by assumption) ?_ | refine BS_f (by assumption) ?_ | refine (nthK_iff _ _).2 ⟨_, (by assumption), ?_⟩ | refine ⟨_, ⟨(by omega), (by assumption)⟩, ?_⟩ | refine And.intro (by first | decide | omega) ?_ | fail); conv => whnf) | refine Sem.seqS ?_ | refine Sem.block ?_ | fail)
  by_cases hlt : a + k < s.length
  · have c0 : decide (((a + k : Nat) : Int) < ((S s).size : Nat)) = true := by simp; omega
    have hc : s[a + k]? = some s[a + k] := List.getElem?_eq_getElem hlt
    have hm := run_more hk hc
    generalize s[a + k] = c at hc hm
    have hb := byteAt_S (j := ((a + k : Nat) : Int)) hc rfl
    have hw : IntKind.i64.wrap (((a + k : Nat) : Int) + 1) = ((a + (k + 1) : Nat) : Int) := by rw [IntWalk.i64_in _ (by omega)]; omega
    repeat' (first | ((first | refine Sem.reg tt_ok ?_ | refine Sem.condS ?_ | refine Sem.regL tt_ok ?_ | refine Sem.skip tt_ok ?_ | refine Sem.exit tt_ok ?_ | refine Sem.ret tt_ok ?_ | refine BS_t (by assumption) ?_ | refine BS_f (by assumption) ?_ | refine (nthK_iff _ _).2 ⟨_, (by assumption), ?_⟩ | refine ⟨_, ⟨(by omega), (by assumption)⟩, ?_⟩ | refine And.intro (by first | decide | omega) ?_ | fail); conv => whnf) | refine Sem.seqS ?_ | refine Sem.block ?_ | fail)
    refine (class_ok c hb G).on ?_; conv => whnf
    by_cases h1 : clsN c = A
    · have d1 : (((clsN c : Nat) : Int) == ((A : Nat) : Int)) = true := by simp [h1]
      have hp : clsP A B C c = true := by unfold clsP; simp [h1]
      repeat' (first | ((first | refine Sem.reg tt_ok ?_ | refine Sem.condS ?_ | refine Sem.regL tt_ok ?_ | refine Sem.skip tt_ok ?_ | refine Sem.exit tt_ok ?_ | refine Sem.ret tt_ok ?_ | refine BS_t (by assumption) ?_ | refine BS_f (by assumption) ?_ | refine (nthK_iff _ _).2 ⟨_, (by assumption), ?_⟩ | refine ⟨_, ⟨(by omega), (by assumption)⟩, ?_⟩ | refine And.intro (by first | decide | omega) ?_ | fail); conv => whnf) | refine Sem.seqS ?_ | refine Sem.block ?_ | fail)
      refine ⟨⟨k + 1, hm.1 hp⟩, by show (runL (clsP A B C) s a).length - (k + 1) < (runL (clsP A B C) s a).length - k; have := hm.1 hp; omega, ?_⟩
      refine weak_by [] ?_; (conv => whnf); repeat (first | (refine And.intro rfl ?_; conv => whnf) | fail)
      refine And.intro hw ?_
      (conv => whnf); repeat (first | (refine And.intro rfl ?_; conv => whnf) | fail)
      exact ⟨fun i y hy => hy, rfl, Nat.le_refl _, rfl, rfl⟩
    have d1 : (((clsN c : Nat) : Int) == ((A : Nat) : Int)) = false := by rw [beq_eq_false_iff_ne]; omega
    repeat' (first | ((first | refine Sem.reg tt_ok ?_ | refine Sem.condS ?_ | refine Sem.regL tt_ok ?_ | refine Sem.skip tt_ok ?_ | refine Sem.exit tt_ok ?_ | refine Sem.ret tt_ok ?_ | refine BS_t (by assumption) ?_ | refine BS_f (by assumption) ?_ | refine (nthK_iff _ _).2 ⟨_, (by assumption), ?_⟩ | refine ⟨_, ⟨(by omega), (by assumption)⟩, ?_⟩ | refine And.intro (by first | decide | omega) ?_ | fail); conv => whnf) | refine Sem.seqS ?_ | refine Sem.block ?_ | fail)
    refine (class_ok c hb G).on ?_; conv => whnf
    by_cases h2 : clsN c = B
    · have d2 : (((clsN c : Nat) : Int) == ((B : Nat) : Int)) = true := by simp [h2]
      have hp : clsP A B C c = true := by unfold clsP; simp [h2]
      repeat' (first | ((first | refine Sem.reg tt_ok ?_ | refine Sem.condS ?_ | refine Sem.regL tt_ok ?_ | refine Sem.skip tt_ok ?_ | refine Sem.exit tt_ok ?_ | refine Sem.ret tt_ok ?_ | refine BS_t (by assumption) ?_ | refine BS_f (by assumption) ?_ | refine (nthK_iff _ _).2 ⟨_, (by assumption), ?_⟩ | refine ⟨_, ⟨(by omega), (by assumption)⟩, ?_⟩ | refine And.intro (by first | decide | omega) ?_ | fail); conv => whnf) | refine Sem.seqS ?_ | refine Sem.block ?_ | fail)
      refine ⟨⟨k + 1, hm.1 hp⟩, by show (runL (clsP A B C) s a).length - (k + 1) < (runL (clsP A B C) s a).length - k; have := hm.1 hp; omega, ?_⟩
      refine weak_by [] ?_; (conv => whnf); repeat (first | (refine And.intro rfl ?_; conv => whnf) | fail)
      refine And.intro hw ?_
      (conv => whnf); repeat (first | (refine And.intro rfl ?_; conv => whnf) | fail)
      exact ⟨fun i y hy => hy, rfl, Nat.le_refl _, rfl, rfl⟩
    have d2 : (((clsN c : Nat) : Int) == ((B : Nat) : Int)) = false := by rw [beq_eq_false_iff_ne]; omega
    repeat' (first | ((first | refine Sem.reg tt_ok ?_ | refine Sem.condS ?_ | refine Sem.regL tt_ok ?_ | refine Sem.skip tt_ok ?_ | refine Sem.exit tt_ok ?_ | refine Sem.ret tt_ok ?_ | refine BS_t (by assumption) ?_ | refine BS_f (by assumption) ?_ | refine (nthK_iff _ _).2 ⟨_, (by assumption), ?_⟩ | refine ⟨_, ⟨(by omega), (by assumption)⟩, ?_⟩ | refine And.intro (by first | decide | omega) ?_ | fail); conv => whnf) | refine Sem.seqS ?_ | refine Sem.block ?_ | fail)
    refine (class_ok c hb G).on ?_; conv => whnf
    by_cases h3 : clsN c = C
    · have d3 : (((clsN c : Nat) : Int) == ((C : Nat) : Int)) = true := by simp [h3]
      have hp : clsP A B C c = true := by unfold clsP; simp [h3]
      repeat' (first | ((first | refine Sem.reg tt_ok ?_ | refine Sem.condS ?_ | refine Sem.regL tt_ok ?_ | refine Sem.skip tt_ok ?_ | refine Sem.exit tt_ok ?_ | refine Sem.ret tt_ok ?_ | refine BS_t (by assumption) ?_ | refine BS_f (by assumption) ?_ | refine (nthK_iff _ _).2 ⟨_, (by assumption), ?_⟩ | refine ⟨_, ⟨(by omega), (by assumption)⟩, ?_⟩ | refine And.intro (by first | decide | omega) ?_ | fail); conv => whnf) | refine Sem.seqS ?_ | refine Sem.block ?_ | fail)
      refine ⟨⟨k + 1, hm.1 hp⟩, by show (runL (clsP A B C) s a).length - (k + 1) < (runL (clsP A B C) s a).length - k; have := hm.1 hp; omega, ?_⟩
      refine weak_by [] ?_; (conv => whnf); repeat (first | (refine And.intro rfl ?_; conv => whnf) | fail)
      refine And.intro hw ?_
      (conv => whnf); repeat (first | (refine And.intro rfl ?_; conv => whnf) | fail)
      exact ⟨fun i y hy => hy, rfl, Nat.le_refl _, rfl, rfl⟩
    have d3 : (((clsN c : Nat) : Int) == ((C : Nat) : Int)) = false := by rw [beq_eq_false_iff_ne]; omega
    have hp : clsP A B C c = false := by unfold clsP; simp [h1, h2, h3]
    have hk2 : k = (runL (clsP A B C) s a).length := by
      rcases Nat.lt_or_ge k (runL (clsP A B C) s a).length with h | h
      · have := hm.2 h; rw [hp] at this; cases this
      · omega
    repeat' (first | ((first | refine Sem.reg tt_ok ?_ | refine Sem.condS ?_ | refine Sem.regL tt_ok ?_ | refine Sem.skip tt_ok ?_ | refine Sem.exit tt_ok ?_ | refine Sem.ret tt_ok ?_ | refine BS_t (by assumption) ?_ | refine BS_f (by assumption) ?_ | refine (nthK_iff _ _).2 ⟨_, (by assumption), ?_⟩ | refine ⟨_, ⟨(by omega), (by assumption)⟩, ?_⟩ | refine And.intro (by first | decide | omega) ?_ | fail); conv => whnf) | refine Sem.seqS ?_ | refine Sem.block ?_ | fail)
    exact ⟨_, fun _ _ h => h, by rw [← hk2], rfl⟩
  · have c0 : decide (((a + k : Nat) : Int) < ((S s).size : Nat)) = false := by simp; omega
    have hk2 := run_end hk hlt ha
    repeat' (first | ((first | refine Sem.reg tt_ok ?_ | refine Sem.condS ?_ | refine Sem.regL tt_ok ?_ | refine Sem.skip tt_ok ?_ | refine Sem.exit tt_ok ?_ | refine Sem.ret tt_ok ?_ | refine BS_t (by assumption) ?_ | refine BS_f (by assumption) ?_ | refine (nthK_iff _ _).2 ⟨_, (by assumption), ?_⟩ | refine ⟨_, ⟨(by omega), (by assumption)⟩, ?_⟩ | refine And.intro (by first | decide | omega) ?_ | fail); conv => whnf) | refine Sem.seqS ?_ | refine Sem.block ?_ | fail)
    exact ⟨_, fun _ _ h => h, by rw [← hk2], rfl⟩
def refNum (r : List UInt8) (c : UInt8) : Nat × Nat := if 1 < r.length ∧ c.toNat = 48 then (0, 1) else if 4 < r.length then (0, 3) else (digN r 0, 0)
theorem refnum_ok (r : List UInt8) (c : UInt8) (h0 : r[0]? = some c) (hall : ∀ c ∈ r, isDig c = true) (hs : r.length ≤ 1048576) (G : Glob) : CallOk Try.prog TT 106 [.str (S r)] G (fun v G' => v = .tup [.int .i64 ((refNum r c).1 : Nat), .int .i64 ((refNum r c).2 : Nat)] ∧ G' = G) := by
  have hsz := S_size r
  have hb0 := byteAt_S (j := 0) h0 rfl
  have hpos : 0 < r.length := (List.getElem?_eq_some_iff.1 h0).1
  unfold refNum
  refine call_sem tt_ok Try.func106 rfl (by kernel_rfl) Try.ntmps106 Try.results106 ?_; conv => whnf
  repeat' (first | ((first | refine Sem.reg tt_ok ?_ | refine Sem.condS ?_ | refine Sem.regL tt_ok ?_ | refine Sem.skip tt_ok ?_ | refine Sem.exit tt_ok ?_ | refine Sem.ret tt_ok ?_ | refine BS_t (by assumption) ?_ | refine BS_f (by assumption) ?_ | refine (nthK_iff _ _).2 ⟨_, (by assumption), ?_⟩ | refine ⟨_, ⟨(by omega), (by assumption)⟩, ?_⟩ | refine And.intro (by first | decide | omega) ?_ | fail); conv => whnf) | refine Sem.seqS ?_ | refine Sem.block ?_ | fail)
  by_cases hz : 1 < r.length ∧ c.toNat = 48
  · have t1 : decide (((S r).size : Int) > 1) = true := by simp; omega
    have t2 : (byteAt (S r) (0 : Int).toNat == 48) = true := by rw [hb0]; simp; omega
    rw [if_pos hz]
    repeat' (first | ((first | refine Sem.reg tt_ok ?_ | refine Sem.condS ?_ | refine Sem.regL tt_ok ?_ | refine Sem.skip tt_ok ?_ | refine Sem.exit tt_ok ?_ | refine Sem.ret tt_ok ?_ | refine BS_t (by assumption) ?_ | refine BS_f (by assumption) ?_ | refine (nthK_iff _ _).2 ⟨_, (by assumption), ?_⟩ | refine ⟨_, ⟨(by omega), (by assumption)⟩, ?_⟩ | refine And.intro (by first | decide | omega) ?_ | fail); conv => whnf) | refine Sem.seqS ?_ | refine Sem.block ?_ | fail)
    exact ⟨_, fun _ _ h => h, rfl, rfl⟩
  · rw [if_neg hz]
    by_cases h4 : 4 < r.length
    · have t1 : decide (((S r).size : Int) > 1) = true := by simp; omega
      have t2 : (byteAt (S r) (0 : Int).toNat == 48) = false := by rw [hb0, beq_eq_false_iff_ne]; omega
      have t3 : decide (((S r).size : Int) > 4) = true := by simp; omega
      rw [if_pos h4]
      repeat' (first | ((first | refine Sem.reg tt_ok ?_ | refine Sem.condS ?_ | refine Sem.regL tt_ok ?_ | refine Sem.skip tt_ok ?_ | refine Sem.exit tt_ok ?_ | refine Sem.ret tt_ok ?_ | refine BS_t (by assumption) ?_ | refine BS_f (by assumption) ?_ | refine (nthK_iff _ _).2 ⟨_, (by assumption), ?_⟩ | refine ⟨_, ⟨(by omega), (by assumption)⟩, ?_⟩ | refine And.intro (by first | decide | omega) ?_ | fail); conv => whnf) | refine Sem.seqS ?_ | refine Sem.block ?_ | fail)
      exact ⟨_, fun _ _ h => h, rfl, rfl⟩
    rw [if_neg h4]
    have t3 : decide (((S r).size : Int) > 4) = false := by simp; omega
    by_cases h1 : 1 < r.length
    · have t1 : decide (((S r).size : Int) > 1) = true := by simp; omega
      have t2 : (byteAt (S r) (0 : Int).toNat == 48) = false := by rw [hb0, beq_eq_false_iff_ne]; omega
      repeat' (first | ((first | refine Sem.reg tt_ok ?_ | refine Sem.condS ?_ | refine Sem.regL tt_ok ?_ | refine Sem.skip tt_ok ?_ | refine Sem.exit tt_ok ?_ | refine Sem.ret tt_ok ?_ | refine BS_t (by assumption) ?_ | refine BS_f (by assumption) ?_ | refine (nthK_iff _ _).2 ⟨_, (by assumption), ?_⟩ | refine ⟨_, ⟨(by omega), (by assumption)⟩, ?_⟩ | refine And.intro (by first | decide | omega) ?_ | fail); conv => whnf) | refine Sem.seqS ?_ | refine Sem.block ?_ | fail)
      refine Sem.loop (ι := NI r) (fun x => ⟨(.str (S r) :: .top :: .int .i64 0 :: .int .i64 0 :: .int .i64 (digN (r.take x.k) 0 : Nat) :: .int .i64 (x.k : Nat) :: .top :: .top :: .top :: .top :: .top :: .top :: .top :: .top :: .top :: .top :: .top :: .top :: .top :: .top :: .top :: .top :: .top :: .top :: .top :: .top :: .top :: .top :: .top :: .top :: .top :: .top :: []), [], 0, 0, G⟩) (fun x => r.length - x.k) ⟨0, Nat.zero_le _⟩ ?_ (fun x => ?_)
      · refine weak_by [] ?_; (conv => whnf); repeat (first | (refine And.intro rfl ?_; conv => whnf) | fail)
        exact ⟨fun i y hy => hy, rfl, Nat.le_refl _, rfl, rfl⟩
      have hk := x.hk
      generalize x.k = k at hk ⊢
      have hn := digN_lt (r.take k) (fun c hc => hall c (List.mem_of_mem_take hc)) (by rw [List.length_take]; omega)
      repeat' (first | ((first | refine Sem.reg tt_ok ?_ | refine Sem.condS ?_ | refine Sem.regL tt_ok ?_ | refine Sem.skip tt_ok ?_ | refine Sem.exit tt_ok ?_ | refine Sem.ret tt_ok ?_ | refine BS_t (by assumption) ?_ | refine BS_f (by assumption) ?_ | refine (nthK_iff _ _).2 ⟨_, (by assumption), ?_⟩ | refine ⟨_, ⟨(by omega), (by assumption)⟩, ?_⟩ | refine And.intro (by first | decide | omega) ?_ | fail); conv => whnf) | refine Sem.seqS ?_ | refine Sem.block ?_ | fail)
      by_cases hlt : k < r.length
      · have c0 : decide (((k : Nat) : Int) < ((S r).size : Nat)) = true := by simp; omega
        have hck : r[k]? = some r[k] := List.getElem?_eq_getElem hlt
        have hbk := byteAt_S (j := (k : Int)) hck rfl
        have hdk := hall r[k] (List.getElem_mem hlt)
        have htk : r.take (k + 1) = r.take k ++ [r[k]] := by rw [List.take_add_one, hck]; rfl
        generalize r[k] = d at hck hbk hdk htk
        have hsn := digN_snoc (r.take k) d 0
        rw [← htk] at hsn
        unfold isDig at hdk
        simp only [decide_eq_true_eq] at hdk
        repeat' (first | ((first | refine Sem.reg tt_ok ?_ | refine Sem.condS ?_ | refine Sem.regL tt_ok ?_ | refine Sem.skip tt_ok ?_ | refine Sem.exit tt_ok ?_ | refine Sem.ret tt_ok ?_ | refine BS_t (by assumption) ?_ | refine BS_f (by assumption) ?_ | refine (nthK_iff _ _).2 ⟨_, (by assumption), ?_⟩ | refine ⟨_, ⟨(by omega), (by assumption)⟩, ?_⟩ | refine And.intro (by first | decide | omega) ?_ | fail); conv => whnf) | refine Sem.seqS ?_ | refine Sem.block ?_ | fail)
        refine ⟨⟨k + 1, hlt⟩, by show r.length - (k + 1) < r.length - k; omega, ?_⟩
        refine weak_by [] ?_; (conv => whnf); repeat (first | (refine And.intro rfl ?_; conv => whnf) | fail)
        refine And.intro (by rw [hbk, hsn, IntWalk.i64_in (10 * ((digN (r.take k) 0 : Nat) : Int)) (by omega), IntWalk.i64_in ((d.toNat : Int)) (by omega), IntWalk.i64_in (10 * ((digN (r.take k) 0 : Nat) : Int) + (d.toNat : Int)) (by omega), IntWalk.i64_in _ (by omega)]; omega) ?_
        (conv => whnf); repeat (first | (refine And.intro rfl ?_; conv => whnf) | fail)
        refine And.intro (show _ = (((k + 1 : Nat)) : Int) from by rw [IntWalk.i64_in _ (by omega)]; omega) ?_
        (conv => whnf); repeat (first | (refine And.intro rfl ?_; conv => whnf) | fail)
        exact ⟨fun i y hy => hy, rfl, Nat.le_refl _, rfl, rfl⟩
      · have c0 : decide (((k : Nat) : Int) < ((S r).size : Nat)) = false := by simp; omega
        have hlt : k = r.length := by omega
        subst hlt
        rw [List.take_length]
        repeat' (first | ((first | refine Sem.reg tt_ok ?_ | refine Sem.condS ?_ | refine Sem.regL tt_ok ?_ | refine Sem.skip tt_ok ?_ | refine Sem.exit tt_ok ?_ | refine Sem.ret tt_ok ?_ | refine BS_t (by assumption) ?_ | refine BS_f (by assumption) ?_ | refine (nthK_iff _ _).2 ⟨_, (by assumption), ?_⟩ | refine ⟨_, ⟨(by omega), (by assumption)⟩, ?_⟩ | refine And.intro (by first | decide | omega) ?_ | fail); conv => whnf) | refine Sem.seqS ?_ | refine Sem.block ?_ | fail)
        exact ⟨_, fun _ _ h => h, rfl, rfl⟩
    · have t1 : decide (((S r).size : Int) > 1) = false := by simp; omega
      repeat' (first | ((first | refine Sem.reg tt_ok ?_ | refine Sem.condS ?_ | refine Sem.regL tt_ok ?_ | refine Sem.skip tt_ok ?_ | refine Sem.exit tt_ok ?_ | refine Sem.ret tt_ok ?_ | refine BS_t (by assumption) ?_ | refine BS_f (by assumption) ?_ | refine (nthK_iff _ _).2 ⟨_, (by assumption), ?_⟩ | refine ⟨_, ⟨(by omega), (by assumption)⟩, ?_⟩ | refine And.intro (by first | decide | omega) ?_ | fail); conv => whnf) | refine Sem.seqS ?_ | refine Sem.block ?_ | fail)
      refine Sem.loop (ι := NI r) (fun x => ⟨(.str (S r) :: .top :: .int .i64 0 :: .int .i64 0 :: .int .i64 (digN (r.take x.k) 0 : Nat) :: .int .i64 (x.k : Nat) :: .top :: .top :: .top :: .top :: .top :: .top :: .top :: .top :: .top :: .top :: .top :: .top :: .top :: .top :: .top :: .top :: .top :: .top :: .top :: .top :: .top :: .top :: .top :: .top :: .top :: .top :: []), [], 0, 0, G⟩) (fun x => r.length - x.k) ⟨0, Nat.zero_le _⟩ ?_ (fun x => ?_)
      · refine weak_by [] ?_; (conv => whnf); repeat (first | (refine And.intro rfl ?_; conv => whnf) | fail)
        exact ⟨fun i y hy => hy, rfl, Nat.le_refl _, rfl, rfl⟩
      have hk := x.hk
      generalize x.k = k at hk ⊢
      have hn := digN_lt (r.take k) (fun c hc => hall c (List.mem_of_mem_take hc)) (by rw [List.length_take]; omega)
      repeat' (first | ((first | refine Sem.reg tt_ok ?_ | refine Sem.condS ?_ | refine Sem.regL tt_ok ?_ | refine Sem.skip tt_ok ?_ | refine Sem.exit tt_ok ?_ | refine Sem.ret tt_ok ?_ | refine BS_t (by assumption) ?_ | refine BS_f (by assumption) ?_ | refine (nthK_iff _ _).2 ⟨_, (by assumption), ?_⟩ | refine ⟨_, ⟨(by omega), (by assumption)⟩, ?_⟩ | refine And.intro (by first | decide | omega) ?_ | fail); conv => whnf) | refine Sem.seqS ?_ | refine Sem.block ?_ | fail)
      by_cases hlt : k < r.length
      · have c0 : decide (((k : Nat) : Int) < ((S r).size : Nat)) = true := by simp; omega
        have hck : r[k]? = some r[k] := List.getElem?_eq_getElem hlt
        have hbk := byteAt_S (j := (k : Int)) hck rfl
        have hdk := hall r[k] (List.getElem_mem hlt)
        have htk : r.take (k + 1) = r.take k ++ [r[k]] := by rw [List.take_add_one, hck]; rfl
        generalize r[k] = d at hck hbk hdk htk
        have hsn := digN_snoc (r.take k) d 0
        rw [← htk] at hsn
        unfold isDig at hdk
        simp only [decide_eq_true_eq] at hdk
        repeat' (first | ((first | refine Sem.reg tt_ok ?_ | refine Sem.condS ?_ | refine Sem.regL tt_ok ?_ | refine Sem.skip tt_ok ?_ | refine Sem.exit tt_ok ?_ | refine Sem.ret tt_ok ?_ | refine BS_t (by assumption) ?_ | refine BS_f (by assumption) ?_ | refine (nthK_iff _ _).2 ⟨_, (by assumption), ?_⟩ | refine ⟨_, ⟨(by omega), (by assumption)⟩, ?_⟩ | refine And.intro (by first | decide | omega) ?_ | fail); conv => whnf) | refine Sem.seqS ?_ | refine Sem.block ?_ | fail)
        refine ⟨⟨k + 1, hlt⟩, by show r.length - (k + 1) < r.length - k; omega, ?_⟩
        refine weak_by [] ?_; (conv => whnf); repeat (first | (refine And.intro rfl ?_; conv => whnf) | fail)
        refine And.intro (by rw [hbk, hsn, IntWalk.i64_in (10 * ((digN (r.take k) 0 : Nat) : Int)) (by omega), IntWalk.i64_in ((d.toNat : Int)) (by omega), IntWalk.i64_in (10 * ((digN (r.take k) 0 : Nat) : Int) + (d.toNat : Int)) (by omega), IntWalk.i64_in _ (by omega)]; omega) ?_
        (conv => whnf); repeat (first | (refine And.intro rfl ?_; conv => whnf) | fail)
        refine And.intro (show _ = (((k + 1 : Nat)) : Int) from by rw [IntWalk.i64_in _ (by omega)]; omega) ?_
        (conv => whnf); repeat (first | (refine And.intro rfl ?_; conv => whnf) | fail)
        exact ⟨fun i y hy => hy, rfl, Nat.le_refl _, rfl, rfl⟩
      · have c0 : decide (((k : Nat) : Int) < ((S r).size : Nat)) = false := by simp; omega
        have hlt : k = r.length := by omega
        subst hlt
        rw [List.take_length]
        repeat' (first | ((first | refine Sem.reg tt_ok ?_ | refine Sem.condS ?_ | refine Sem.regL tt_ok ?_ | refine Sem.skip tt_ok ?_ | refine Sem.exit tt_ok ?_ | refine Sem.ret tt_ok ?_ | refine BS_t (by assumption) ?_ | refine BS_f (by assumption) ?_ | refine (nthK_iff _ _).2 ⟨_, (by assumption), ?_⟩ | refine ⟨_, ⟨(by omega), (by assumption)⟩, ?_⟩ | refine And.intro (by first | decide | omega) ?_ | fail); conv => whnf) | refine Sem.seqS ?_ | refine Sem.block ?_ | fail)
        exact ⟨_, fun _ _ h => h, rfl, rfl⟩
end Go.Proofs.Ytmmmaekaoanceaa
