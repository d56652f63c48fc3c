/- Declarations, one behind the other: how the parser's plain words go on. -/
import Derived.Test.YtofhakbmmgpgdaaPrsP
namespace Go.Proofs.Ytofhakbmmgpgdaa
open Go Go.RowKit

theorem decls_stop {L : List Tok} {f n : Nat} {p : PS} (h : ¬ (p.err = 0) ∨ (cur L p).kind = 4) : declsP L f n p = ([], p) := by
  cases f with
  | zero => rfl
  | succ f => rw [declsP, if_pos h]
theorem decls_full {L : List Tok} {f : Nat} {p : PS} (h0 : p.err = 0) (hk : (cur L p).kind ≠ 4) : declsP L (f + 1) 16 p = ([], failP L p 3) := by
  rw [declsP, if_neg (by simp [h0, hk]), if_pos rfl]
theorem decls_step {L : List Tok} {f n : Nat} {p : PS} (h0 : p.err = 0) (hk : (cur L p).kind ≠ 4) (hn : n ≠ 16) : declsP L (f + 1) n p = ((declP L p).1 :: (declsP L f (n + 1) (declP L p).2).1, (declsP L f (n + 1) (declP L p).2).2) := by
  rw [declsP, if_neg (by simp [h0, hk]), if_neg hn]
theorem decls_len (L : List Tok) : ∀ (f n : Nat) (p : PS), n ≤ 16 → (declsP L f n p).1.length + n ≤ 16
  | 0, n, p, h => by show 0 + n ≤ 16; omega
  | f + 1, n, p, h => by
    by_cases h1 : ¬ (p.err = 0) ∨ (cur L p).kind = 4
    · rw [decls_stop h1]; show 0 + n ≤ 16; omega
    · have h0 : p.err = 0 := Classical.not_not.1 fun h => h1 (.inl h)
      have hk : (cur L p).kind ≠ 4 := fun h => h1 (.inr h)
      by_cases hn : n = 16
      · subst hn; rw [decls_full h0 hk]; show 0 + 16 ≤ 16; omega
      · rw [decls_step h0 hk hn]
        have := decls_len L f (n + 1) (declP L p).2 (by omega)
        simp only [List.length_cons]; omega
theorem decls_end {L : List Tok} (hL : TL L) : ∀ (f n : Nat) (p : PS), (declsP L f n p).2.err = 0 → 17 ≤ f + n → n ≤ 16 → p.at_ < L.length → (cur L (declsP L f n p).2).kind = 4 ∧ (declsP L f n p).2.at_ < L.length
  | 0, n, p, _, h1, h2, _ => by omega
  | f + 1, n, p, he, h1, h2, hp => by
    by_cases h3 : ¬ (p.err = 0) ∨ (cur L p).kind = 4
    · rw [decls_stop h3] at he ⊢
      rcases h3 with h3 | h3
      · exact absurd he h3
      · exact ⟨h3, hp⟩
    · have h0 : p.err = 0 := Classical.not_not.1 fun h => h3 (.inl h)
      have hk : (cur L p).kind ≠ 4 := fun h => h3 (.inr h)
      by_cases hn : n = 16
      · subst hn
        rw [decls_full h0 hk] at he
        exact absurd he (fail_err (by decide))
      · rw [decls_step h0 hk hn] at he ⊢
        exact decls_end hL f (n + 1) _ he (by omega) (by omega) (decl_at hL hp)
theorem decls_err {L : List Tok} {f n : Nat} {p : PS} (h : (declsP L f n p).2.err = 0) : p.err = 0 := by
  rcases Nat.eq_zero_or_pos p.err with h0 | h0
  · exact h0
  · rw [decls_stop (.inl (by omega))] at h; exact h
end Go.Proofs.Ytofhakbmmgpgdaa
