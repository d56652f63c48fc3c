/- The tokens of two texts, a line's end between. -/
import Derived.Test.YtofhakbmmgpgdaaLexP
namespace Go.Proofs.Ytofhakbmmgpgdaa
open Go Go.RowKit

theorem run_join {p : UInt8 → Bool} (hp : p 10 = false) (a b : List UInt8) {i : Nat} (hi : i ≤ a.length) : runL p (a ++ 10 :: b) i = runL p a i := by
  unfold runL
  rw [List.drop_append_of_le_length hi]
  generalize a.drop i = l
  induction l with
  | nil => simp [hp]
  | cons x r ih => rw [List.cons_append, List.takeWhile_cons, List.takeWhile_cons, ih]
theorem oneL_join (a b : List UInt8) {i : Nat} (hi : i < a.length) : oneL (a ++ 10 :: b) i = oneL a i := by
  have h0 : (a ++ 10 :: b)[i]? = a[i]? := List.getElem?_append_left hi
  have h1 : ((a ++ 10 :: b)[i + 1]? = some 47) = (a[i + 1]? = some 47) := by
    by_cases h : i + 1 < a.length
    · rw [List.getElem?_append_left h]
    · rw [List.getElem?_append_right (by omega), show i + 1 - a.length = 0 by omega, List.getElem?_eq_none (by omega : a.length ≤ i + 1)]
      simp
  unfold oneL
  rw [h0]
  cases a[i]? with
  | none => rfl
  | some c =>
    simp only
    unfold oneC
    rw [run_join (by decide) a b (Nat.le_of_lt hi), run_join (by decide) a b (Nat.le_of_lt hi), run_join (by decide) a b (Nat.le_of_lt hi)]
    simp only [h1]
theorem run_shift (p : UInt8 → Bool) (pre b : List UInt8) (i : Nat) : runL p (pre ++ b) (pre.length + i) = runL p b i := by
  unfold runL
  rw [← List.drop_drop, List.drop_left]
def upT (n : Nat) (t : Tok) : Tok := { t with at_ := t.at_ + n }
theorem oneL_shift (pre b : List UInt8) (i : Nat) : oneL (pre ++ b) (pre.length + i) = ((oneL b i).1.map (upT pre.length), pre.length + (oneL b i).2.1, (oneL b i).2.2) := by
  have h0 : ∀ j, (pre ++ b)[pre.length + j]? = b[j]? := fun j => by rw [List.getElem?_append_right (by omega), show pre.length + j - pre.length = j by omega]
  have h1 := h0 (i + 1)
  unfold oneL
  rw [h0]
  cases b[i]? with
  | none => rfl
  | some c =>
    simp only
    unfold oneC
    simp only [run_shift, ← Nat.add_assoc] at h1 ⊢
    rw [h1]
    repeat' split
    all_goals simp [upT]
    all_goals omega
theorem lex_shift (pre b : List UInt8) (i : Nat) : lexN b i = lexN b i ∧ lexN (pre ++ b) (pre.length + i) = if (lexN b i).2.1 = 0 then ((lexN b i).1.map (upT pre.length), 0, 0) else ([], (lexN b i).2.1, pre.length + (lexN b i).2.2) := by
  refine ⟨rfl, lex_ind (s := b) (Q := fun i r => lexN (pre ++ b) (pre.length + i) = if r.2.1 = 0 then (r.1.map (upT pre.length), 0, 0) else ([], r.2.1, pre.length + r.2.2)) (fun a h => ?_) (fun a h he => ?_) (fun a h he ih => ?_) _ i (Nat.lt_succ_self _)⟩
  · rw [lex_end (by simp; omega)]
    simp [upT, Nat.add_comm]
  · rw [lex_bad (by simp; omega) (by rw [oneL_shift]; exact he), if_neg (by exact he), oneL_shift]
  · rw [lex_next (by simp; omega) (by rw [oneL_shift]; exact he), oneL_shift]
    simp only
    rw [ih]
    unfold comb
    by_cases h0 : (lexN b (oneL b a).2.1).2.1 = 0
    · simp only [if_pos h0]
      cases (oneL b a).1 <;> simp
    · simp only [if_neg h0]
/-- what stands ahead of the end -/
theorem lex_ahead (a b : List UInt8) (i : Nat) : (lexN a i).2.1 = 0 → i ≤ a.length → ∃ m, (lexN a i).1 = m ++ [⟨4, [], 0, a.length⟩] ∧ lexN (a ++ 10 :: b) i = comb m (lexN (a ++ 10 :: b) (a.length + 1)) :=
  lex_ind (s := a) (Q := fun i r => r.2.1 = 0 → i ≤ a.length → ∃ m, r.1 = m ++ [⟨4, [], 0, a.length⟩] ∧ lexN (a ++ 10 :: b) i = comb m (lexN (a ++ 10 :: b) (a.length + 1)))
    (fun i h _ hi => by
      refine ⟨[], rfl, ?_⟩
      have e : i = a.length := by omega
      subst e
      have h0 : (a ++ 10 :: b)[a.length]? = some 10 := by rw [List.getElem?_append_right (Nat.le_refl _), Nat.sub_self]; rfl
      have h1 : oneL (a ++ 10 :: b) a.length = (none, a.length + 1, 0) := by rw [oneL_of h0]; rfl
      rw [lex_next (by simp) (by rw [h1]), h1]; rfl)
    (fun i h he h0 => absurd h0 he)
    (fun i h he ih h0 _ => by
      have hm := oneL_moves h he
      rw [comb_err] at h0
      obtain ⟨m, h1, h2⟩ := ih h0 hm.2
      refine ⟨(oneL a i).1.toList ++ m, ?_, ?_⟩
      · unfold comb; rw [if_pos h0, h1]; simp
      · rw [lex_next (by simp; omega) (by rw [oneL_join a b h]; exact he), oneL_join a b h, h2, comb_comb]) _ i (Nat.lt_succ_self _)
theorem lex_join {a b : List UInt8} (ha : (lexN a 0).2.1 = 0) (hb : (lexN b 0).2.1 = 0) : ∃ m, (lexN a 0).1 = m ++ [⟨4, [], 0, a.length⟩] ∧ lexN (a ++ 10 :: b) 0 = (m ++ (lexN b 0).1.map (upT (a.length + 1)), 0, 0) := by
  obtain ⟨m, h1, h2⟩ := lex_ahead a b 0 ha (Nat.zero_le _)
  refine ⟨m, h1, ?_⟩
  rw [h2]
  have h3 := (lex_shift (a ++ [10]) b 0).2
  rw [if_pos hb] at h3
  have e : (a ++ [10]).length = a.length + 1 := by simp
  have e2 : a ++ [10] ++ b = a ++ 10 :: b := by simp
  rw [e, e2, Nat.add_zero] at h3
  rw [h3]
  unfold comb
  simp
end Go.Proofs.Ytofhakbmmgpgdaa
