/- The lexer in plain words: which tokens a text has; that they rise; that what is joined has the same. -/
import Derived.Test.YtofhakbmmgpgdaaBase
namespace Go.Proofs.Ytofhakbmmgpgdaa
open Go Go.RowKit

def isLet (c : UInt8) : Bool := decide (97 ≤ c.toNat ∧ c.toNat ≤ 122 ∨ 65 ≤ c.toNat ∧ c.toNat ≤ 90)
def isDig (c : UInt8) : Bool := decide (48 ≤ c.toNat ∧ c.toNat ≤ 57)
def isIn (c : UInt8) : Bool := decide (97 ≤ c.toNat ∧ c.toNat ≤ 122 ∨ 65 ≤ c.toNat ∧ c.toNat ≤ 90 ∨ 48 ≤ c.toNat ∧ c.toNat ≤ 57 ∨ c.toNat = 95)
def isSgn (c : UInt8) : Bool := decide (c.toNat = 123 ∨ c.toNat = 125 ∨ c.toNat = 40 ∨ c.toNat = 41 ∨ c.toNat = 60 ∨ c.toNat = 62 ∨ c.toNat = 58 ∨ c.toNat = 59 ∨ c.toNat = 44 ∨ c.toNat = 63)
def isBl (c : UInt8) : Bool := decide (c.toNat = 32 ∨ c.toNat = 9 ∨ c.toNat = 10 ∨ c.toNat = 13)
def noNl (c : UInt8) : Bool := decide (c.toNat ≠ 10)
def runL (p : UInt8 → Bool) (s : List UInt8) (a : Nat) : List UInt8 := (s.drop a).takeWhile p
structure Tok where
  kind : Nat
  text : List UInt8
  num : Nat
  at_ : Nat
def digN : List UInt8 → Nat → Nat
  | [], n => n
  | c :: r, n => digN r (10 * n + (c.toNat - 48))
def oneC (s : List UInt8) (a : Nat) (c : UInt8) : Option Tok × Nat × Nat :=
  if isLet c = true then (if 16 < (runL isIn s a).length then (none, a, 6) else (some ⟨1, runL isIn s a, 0, a⟩, a + (runL isIn s a).length, 0))
  else if isDig c = true then (if 1 < (runL isDig s a).length ∧ c.toNat = 48 then (none, a, 1) else if 4 < (runL isDig s a).length then (none, a, 3) else (some ⟨2, runL isDig s a, digN (runL isDig s a) 0, a⟩, a + (runL isDig s a).length, 0))
  else if c.toNat = 47 then (if s[a + 1]? = some 47 then (none, a + (runL noNl s a).length, 0) else (none, a, 5))
  else if isBl c = true then (none, a + 1, 0)
  else if isSgn c = true then (some ⟨3, [c], 0, a⟩, a + 1, 0)
  else (none, a, 5)
def oneL (s : List UInt8) (a : Nat) : Option Tok × Nat × Nat := match s[a]? with | some c => oneC s a c | none => (none, a, 0)
def comb (o : List Tok) (r : List Tok × Nat × Nat) : List Tok × Nat × Nat := if r.2.1 = 0 then (o ++ r.1, r.2) else ([], r.2)
def lexN (s : List UInt8) (a : Nat) : List Tok × Nat × Nat :=
  if a < s.length then
    if (oneL s a).2.2 ≠ 0 then ([], (oneL s a).2.2, a)
    else if _h2 : a < (oneL s a).2.1 then comb (oneL s a).1.toList (lexN s (oneL s a).2.1) else ([], 0, 0)
  else ([⟨4, [], 0, s.length⟩], 0, 0)
termination_by s.length - a
decreasing_by omega
def tokT (s : List UInt8) : List Tok × Nat × Nat := if 1024 < s.length then ([], 3, 0) else lexN s 0

theorem runL_le (p : UInt8 → Bool) (s : List UInt8) {a : Nat} (h : a ≤ s.length) : a + (runL p s a).length ≤ s.length := by
  have := (List.takeWhile_sublist p (l := s.drop a)).length_le
  rw [List.length_drop] at this
  unfold runL; omega
theorem drop_at {s : List UInt8} {a : Nat} {c : UInt8} (h : s[a]? = some c) : s.drop a = c :: s.drop (a + 1) := by
  obtain ⟨h1, rfl⟩ := List.getElem?_eq_some_iff.1 h
  exact List.drop_eq_getElem_cons h1
theorem runL_pos {p : UInt8 → Bool} {s : List UInt8} {a : Nat} {c : UInt8} (h : s[a]? = some c) (hp : p c = true) : 0 < (runL p s a).length := by
  unfold runL; rw [drop_at h, List.takeWhile_cons, if_pos hp]; simp
theorem isLet_in {c : UInt8} (h : isLet c = true) : isIn c = true := by unfold isLet isIn at *; simp only [decide_eq_true_eq] at *; omega
theorem oneL_of {s : List UInt8} {a : Nat} {c : UInt8} (h : s[a]? = some c) : oneL s a = oneC s a c := by unfold oneL; rw [h]
theorem oneL_moves {s : List UInt8} {a : Nat} (ha : a < s.length) (h : (oneL s a).2.2 = 0) : a < (oneL s a).2.1 ∧ (oneL s a).2.1 ≤ s.length := by
  have hc : s[a]? = some s[a] := List.getElem?_eq_getElem ha
  rw [oneL_of hc] at h ⊢
  generalize s[a] = c at *
  unfold oneC at *
  by_cases h1 : isLet c = true
  · simp only [if_pos h1] at h ⊢
    by_cases h2 : 16 < (runL isIn s a).length
    · simp only [if_pos h2] at h; cases h
    · simp only [if_neg h2]
      have := runL_pos hc (isLet_in h1)
      have := runL_le isIn s (Nat.le_of_lt ha)
      omega
  · simp only [if_neg h1] at h ⊢
    by_cases h2 : isDig c = true
    · simp only [if_pos h2] at h ⊢
      by_cases h3 : 1 < (runL isDig s a).length ∧ c.toNat = 48
      · simp only [if_pos h3] at h; cases h
      · simp only [if_neg h3] at h ⊢
        by_cases h4 : 4 < (runL isDig s a).length
        · simp only [if_pos h4] at h; cases h
        · simp only [if_neg h4]
          have := runL_pos hc h2
          have := runL_le isDig s (Nat.le_of_lt ha)
          omega
    · simp only [if_neg h2] at h ⊢
      by_cases h3 : c.toNat = 47
      · simp only [if_pos h3] at h ⊢
        by_cases h4 : s[a + 1]? = some 47
        · simp only [if_pos h4]
          have := runL_pos (p := noNl) hc (by unfold noNl; simp only [decide_eq_true_eq]; omega)
          have := runL_le noNl s (Nat.le_of_lt ha)
          omega
        · simp only [if_neg h4] at h; cases h
      · simp only [if_neg h3] at h ⊢
        by_cases h4 : isBl c = true
        · simp only [if_pos h4]; omega
        · simp only [if_neg h4] at h ⊢
          by_cases h5 : isSgn c = true
          · simp only [if_pos h5]; omega
          · simp only [if_neg h5] at h; cases h
theorem lex_end {s : List UInt8} {a : Nat} (h : ¬ a < s.length) : lexN s a = ([⟨4, [], 0, s.length⟩], 0, 0) := by rw [lexN, if_neg h]
theorem lex_bad {s : List UInt8} {a : Nat} (h : a < s.length) (he : (oneL s a).2.2 ≠ 0) : lexN s a = ([], (oneL s a).2.2, a) := by rw [lexN, if_pos h, if_pos he]
theorem lex_next {s : List UInt8} {a : Nat} (h : a < s.length) (he : (oneL s a).2.2 = 0) : lexN s a = comb (oneL s a).1.toList (lexN s (oneL s a).2.1) := by
  rw [lexN, if_pos h, if_neg (by simp [he]), dif_pos (oneL_moves h he).1]
theorem comb_comb (o t : List Tok) (r : List Tok × Nat × Nat) : comb o (comb t r) = comb (o ++ t) r := by
  unfold comb
  by_cases h : r.2.1 = 0
  · simp only [if_pos h, List.append_assoc]
  · simp only [if_neg h]
theorem comb_err (o : List Tok) (r : List Tok × Nat × Nat) : (comb o r).2 = r.2 := by unfold comb; split <;> rfl
/-- where things go on -/
theorem lex_ind {s : List UInt8} {Q : Nat → List Tok × Nat × Nat → Prop} (h1 : ∀ a, ¬ a < s.length → Q a ([⟨4, [], 0, s.length⟩], 0, 0)) (h2 : ∀ a, a < s.length → (oneL s a).2.2 ≠ 0 → Q a ([], (oneL s a).2.2, a))
    (h3 : ∀ a, a < s.length → (oneL s a).2.2 = 0 → Q (oneL s a).2.1 (lexN s (oneL s a).2.1) → Q a (comb (oneL s a).1.toList (lexN s (oneL s a).2.1))) : ∀ (f a : Nat), s.length - a < f → Q a (lexN s a)
  | 0, a, h => by omega
  | f + 1, a, h => by
    by_cases ha : a < s.length
    · by_cases he : (oneL s a).2.2 = 0
      · rw [lex_next ha he]
        have hm := oneL_moves ha he
        exact h3 a ha he (lex_ind h1 h2 h3 f _ (by omega))
      · rw [lex_bad ha he]; exact h2 a ha he
    · rw [lex_end ha]; exact h1 a ha
theorem lex_fault (s : List UInt8) (a : Nat) : (lexN s a).2.1 ≠ 0 → (lexN s a).1 = [] ∧ (lexN s a).2.2 < s.length :=
  lex_ind (Q := fun _ r => r.2.1 ≠ 0 → r.1 = [] ∧ r.2.2 < s.length) (fun a _ h => absurd rfl h) (fun a ha _ _ => ⟨rfl, ha⟩) (fun a ha he ih h => by
    rw [comb_err] at h
    have := ih h
    refine ⟨?_, by rw [comb_err]; exact this.2⟩
    unfold comb; rw [if_neg h]) _ _ (Nat.lt_succ_self _)
theorem lex_well (s : List UInt8) (a : Nat) : (lexN s a).2.1 = 0 → (lexN s a).2.2 = 0 :=
  lex_ind (Q := fun _ r => r.2.1 = 0 → r.2.2 = 0) (fun a _ h => rfl) (fun a ha he h => absurd h he) (fun a ha he ih h => by
    rw [comb_err] at h ⊢
    exact ih h) _ _ (Nat.lt_succ_self _)
/-- a token, as it comes out of a text -/
def TokOk (t : Tok) : Prop :=
  (t.kind = 1 ∧ t.num = 0 ∧ t.text.length ≤ 16 ∧ (∀ c ∈ t.text, isIn c = true) ∧ ∃ c r, t.text = c :: r ∧ isLet c = true) ∨
  (t.kind = 2 ∧ t.num = digN t.text 0 ∧ t.text.length ≤ 4 ∧ (∀ c ∈ t.text, isDig c = true) ∧ ∃ c r, t.text = c :: r ∧ isDig c = true ∧ isLet c = false ∧ ¬ (1 < t.text.length ∧ c.toNat = 48)) ∨
  (t.kind = 3 ∧ t.num = 0 ∧ ∃ c, t.text = [c] ∧ isLet c = false ∧ isDig c = false ∧ c.toNat ≠ 47 ∧ isBl c = false ∧ isSgn c = true)
theorem mem_run {p : UInt8 → Bool} {s : List UInt8} {a : Nat} : ∀ c ∈ runL p s a, p c = true := fun c hc => by
  unfold runL at hc
  generalize s.drop a = l at hc
  induction l with
  | nil => simp at hc
  | cons x r ih =>
    rw [List.takeWhile_cons] at hc
    split at hc
    · rename_i hx
      rcases List.mem_cons.1 hc with rfl | h
      · exact hx
      · exact ih h
    · simp at hc
theorem run_cons {p : UInt8 → Bool} {s : List UInt8} {a : Nat} {c : UInt8} (h : s[a]? = some c) (hp : p c = true) : ∃ r, runL p s a = c :: r := by
  unfold runL; rw [drop_at h, List.takeWhile_cons, if_pos hp]; exact ⟨_, rfl⟩
theorem run_take (p : UInt8 → Bool) (s : List UInt8) (a : Nat) : (s.drop a).take (runL p s a).length = runL p s a := by
  unfold runL
  generalize s.drop a = l
  induction l with
  | nil => simp
  | cons x r ih =>
    rw [List.takeWhile_cons]
    split
    · simp [ih]
    · simp
theorem oneL_tok {s : List UInt8} {a : Nat} {t : Tok} (h : (oneL s a).1 = some t) : TokOk t ∧ t.at_ = a ∧ (oneL s a).2.1 = a + t.text.length ∧ (s.drop a).take t.text.length = t.text := by
  cases hc : s[a]? with
  | none => unfold oneL at h; rw [hc] at h; cases h
  | some c =>
    rw [oneL_of hc] at h ⊢
    unfold oneC at h ⊢
    by_cases h1 : isLet c = true
    · simp only [if_pos h1] at h ⊢
      by_cases h2 : 16 < (runL isIn s a).length
      · simp only [if_pos h2] at h; cases h
      · simp only [if_neg h2, Option.some.injEq] at h ⊢
        subst h
        obtain ⟨r, hr⟩ := run_cons hc (isLet_in h1)
        exact ⟨.inl ⟨rfl, rfl, by simp only; omega, mem_run, c, r, hr, h1⟩, rfl, rfl, run_take _ _ _⟩
    · simp only [if_neg h1] at h ⊢
      by_cases h2 : isDig c = true
      · simp only [if_pos h2] at h ⊢
        by_cases h3 : 1 < (runL isDig s a).length ∧ c.toNat = 48
        · simp only [if_pos h3] at h; cases h
        · simp only [if_neg h3] at h ⊢
          by_cases h4 : 4 < (runL isDig s a).length
          · simp only [if_pos h4] at h; cases h
          · simp only [if_neg h4, Option.some.injEq] at h ⊢
            subst h
            obtain ⟨r, hr⟩ := run_cons hc h2
            exact ⟨.inr (.inl ⟨rfl, rfl, by simp only; omega, mem_run, c, r, hr, h2, by simpa using h1, h3⟩), rfl, rfl, run_take _ _ _⟩
      · simp only [if_neg h2] at h ⊢
        by_cases h3 : c.toNat = 47
        · simp only [if_pos h3] at h; split at h <;> cases h
        · simp only [if_neg h3] at h ⊢
          by_cases h4 : isBl c = true
          · simp only [if_pos h4] at h; cases h
          · simp only [if_neg h4] at h ⊢
            by_cases h5 : isSgn c = true
            · simp only [if_pos h5, Option.some.injEq] at h ⊢
              subst h
              exact ⟨.inr (.inr ⟨rfl, rfl, c, rfl, by simpa using h1, by simpa using h2, h3, by simpa using h4, h5⟩), rfl, rfl, by simp only [drop_at hc]; rfl⟩
            · simp only [if_neg h5] at h; cases h
theorem TokOk.kind4 {t : Tok} (h : TokOk t) : t.kind ≠ 4 := by rcases h with h | h | h <;> rw [h.1] <;> decide
theorem TokOk.num {t : Tok} (h : TokOk t) : t.num ≤ 9999 := by
  have key : ∀ (l : List UInt8) (n : Nat), (∀ c ∈ l, isDig c = true) → digN l n ≤ n * 10 ^ l.length + (10 ^ l.length - 1) := by
    intro l
    induction l with
    | nil => intro n _; simp [digN]
    | cons c r ih =>
      intro n hd
      have h1 := ih (10 * n + (c.toNat - 48)) (fun x hx => hd x (by simp [hx]))
      have h2 := hd c (by simp)
      unfold isDig at h2
      simp only [decide_eq_true_eq] at h2
      have h3 : c.toNat - 48 ≤ 9 := by omega
      have h4 : 1 ≤ 10 ^ r.length := Nat.pow_pos (by omega)
      unfold digN
      rw [List.length_cons, Nat.pow_succ]
      generalize 10 ^ r.length = q at *
      have : (10 * n + (c.toNat - 48)) * q ≤ (10 * n + 9) * q := Nat.mul_le_mul_right _ (by omega)
      have e : (10 * n + 9) * q = n * (q * 10) + 9 * q := by rw [Nat.add_mul, Nat.mul_comm 10 n, Nat.mul_assoc, Nat.mul_comm 10 q]
      omega
  rcases h with h | h | h
  · rw [h.2.1]; omega
  · rw [h.2.1]
    refine Nat.le_trans (key _ 0 h.2.2.2.1) ?_
    have : 10 ^ t.text.length ≤ 10 ^ 4 := Nat.pow_le_pow_right (by omega) h.2.2.1
    omega
  · rw [h.2.1]; omega
theorem TokOk.len {t : Tok} (h : TokOk t) : t.text.length ≤ 16 := by
  rcases h with h | h | h
  · exact h.2.2.1
  · exact Nat.le_trans h.2.2.1 (by omega)
  · obtain ⟨c, hc, _⟩ := h.2.2; rw [hc]; simp
/-- tokens that rise -/
def Rise (s : List UInt8) : Nat → List Tok → Prop
  | e, [] => e = s.length
  | e, t :: r => e ≤ t.at_ ∧ t.at_ + t.text.length ≤ s.length ∧ (s.drop t.at_).take t.text.length = t.text ∧ (t.kind = 4 ↔ r = []) ∧ Rise s (t.at_ + t.text.length) r
theorem lex_rise (s : List UInt8) (a : Nat) : (lexN s a).2.1 = 0 → a ≤ s.length → (lexN s a).1 ≠ [] ∧ ∀ e, e ≤ a → Rise s e (lexN s a).1 :=
  lex_ind (Q := fun a r => r.2.1 = 0 → a ≤ s.length → r.1 ≠ [] ∧ ∀ e, e ≤ a → Rise s e r.1)
    (fun a h _ ha => ⟨by simp, fun e he => ⟨by simp only; omega, by simp, by simp, by simp, by simp [Rise]⟩⟩)
    (fun a ha he h => absurd h he)
    (fun a ha he ih h _ => by
      rw [comb_err] at h
      have hm := oneL_moves ha he
      obtain ⟨i1, i2⟩ := ih h hm.2
      unfold comb
      rw [if_pos h]
      refine ⟨by simp [i1], fun e hea => ?_⟩
      cases ht : (oneL s a).1 with
      | none => exact i2 e (by omega)
      | some t =>
        obtain ⟨k1, k2, k3, k4⟩ := oneL_tok ht
        refine ⟨by omega, by omega, by rw [k2]; exact k4, ⟨fun h => absurd h k1.kind4, fun h => absurd h i1⟩, ?_⟩
        rw [k2, ← k3]
        exact i2 _ (Nat.le_refl _)) _ _ (Nat.lt_succ_self _)
/-- all but the last are tokens, the last is the end -/
theorem lex_toks (s : List UInt8) (a : Nat) : (lexN s a).2.1 = 0 → ∃ m, (lexN s a).1 = m ++ [⟨4, [], 0, s.length⟩] ∧ (∀ t ∈ m, TokOk t ∧ t.at_ < s.length) ∧ m.length ≤ s.length - a :=
  lex_ind (Q := fun a r => r.2.1 = 0 → ∃ m, r.1 = m ++ [⟨4, [], 0, s.length⟩] ∧ (∀ t ∈ m, TokOk t ∧ t.at_ < s.length) ∧ m.length ≤ s.length - a)
    (by intro a _ _; exact ⟨[], rfl, by simp, by simp⟩)
    (fun a ha he h => absurd h he)
    (fun a ha he ih h => by
      rw [comb_err] at h
      have hm := oneL_moves ha he
      obtain ⟨m, i1, i2, i3⟩ := ih h
      unfold comb
      rw [if_pos h]
      refine ⟨(oneL s a).1.toList ++ m, by simp [i1], fun t ht => ?_, ?_⟩
      · rcases List.mem_append.1 ht with h | h
        · obtain ⟨k1, k2, _⟩ := oneL_tok (t := t) (by simpa using h)
          exact ⟨k1, by omega⟩
        · exact i2 t h
      · cases (oneL s a).1 <;> simp <;> omega) _ _ (Nat.lt_succ_self _)
/-- texts, a blank behind each -/
def blanks (m : List Tok) : List UInt8 := m.flatMap fun t => t.text ++ [32]
def relab : List Tok → Nat → List Tok
  | [], _ => []
  | t :: r, a => { t with at_ := a } :: relab r (a + t.text.length + 1)
theorem relab_cons (t : Tok) (r : List Tok) (a : Nat) : relab (t :: r) a = { t with at_ := a } :: relab r (a + t.text.length + 1) := rfl
theorem run_pre {p : UInt8 → Bool} {pre w r : List UInt8} (hw : ∀ c ∈ w, p c = true) (hp : p 32 = false) : runL p (pre ++ (w ++ 32 :: r)) pre.length = w := by
  unfold runL
  rw [List.drop_left]
  induction w with
  | nil => simp [hp]
  | cons x t ih => rw [List.cons_append, List.takeWhile_cons, if_pos (hw x (by simp)), ih (fun c hc => hw c (by simp [hc]))]
theorem one_tok {pre r : List UInt8} {t : Tok} (ht : TokOk t) : oneL (pre ++ (t.text ++ 32 :: r)) pre.length = (some { t with at_ := pre.length }, pre.length + t.text.length, 0) := by
  have at0 : ∀ (c : UInt8) (w : List UInt8), t.text = c :: w → (pre ++ (t.text ++ 32 :: r))[pre.length]? = some c := fun c w h => by
    rw [List.getElem?_append_right (Nat.le_refl _), Nat.sub_self, h]; rfl
  obtain ⟨kind, text, num, at_⟩ := t
  simp only at *
  unfold oneL
  rcases ht with ⟨h1, h2, h3, h4, c, w, hc, h5⟩ | ⟨h1, h2, h3, h4, c, w, hc, h5, h6, h7⟩ | ⟨h1, h2, c, hc, h3, h4, h5, h6, h7⟩ <;> simp only at *
  · rw [at0 c w hc]
    simp only
    have hr := run_pre (p := isIn) (pre := pre) (w := text) (r := r) h4 (by decide)
    unfold oneC
    rw [if_pos h5, hr, if_neg (by omega), h1, h2]
  · rw [at0 c w hc]
    simp only
    have hr := run_pre (p := isDig) (pre := pre) (w := text) (r := r) h4 (by decide)
    unfold oneC
    rw [if_neg (by simp [h6]), if_pos h5, hr, if_neg h7, if_neg (by omega), h1, h2]
  · rw [at0 c [] hc]
    simp only
    unfold oneC
    rw [if_neg (by simp [h3]), if_neg (by simp [h4]), if_neg h5, if_neg (by simp [h6]), if_pos h7, h1, h2, hc]
    rfl
theorem one_blank {pre r : List UInt8} : oneL (pre ++ 32 :: r) pre.length = (none, pre.length + 1, 0) := by
  have at0 : (pre ++ 32 :: r)[pre.length]? = some 32 := by
    rw [List.getElem?_append_right (Nat.le_refl _), Nat.sub_self]; rfl
  unfold oneL
  rw [at0]
  rfl
theorem lex_blanks : ∀ (m : List Tok) (pre : List UInt8), (∀ t ∈ m, TokOk t) → lexN (pre ++ blanks m) pre.length = (relab m pre.length ++ [⟨4, [], 0, (pre ++ blanks m).length⟩], 0, 0)
  | [], pre, _ => by rw [lex_end (by simp [blanks])]; rfl
  | t :: m, pre, h => by
    have e1 : pre ++ blanks (t :: m) = pre ++ (t.text ++ 32 :: blanks m) := by simp [blanks]
    have e2 : pre ++ blanks (t :: m) = (pre ++ t.text) ++ 32 :: blanks m := by simp [blanks]
    have e3 : pre ++ blanks (t :: m) = (pre ++ (t.text ++ [32])) ++ blanks m := by simp [blanks]
    have ih := lex_blanks m (pre ++ (t.text ++ [32])) (fun x hx => h x (by simp [hx]))
    rw [← e3] at ih
    have o1 := one_tok (pre := pre) (r := blanks m) (h t (by simp))
    rw [← e1] at o1
    have o2 := one_blank (pre := pre ++ t.text) (r := blanks m)
    rw [← e2] at o2
    have l1 : (pre ++ blanks (t :: m)).length = pre.length + t.text.length + 1 + (blanks m).length := by rw [e2]; simp; omega
    rw [List.length_append] at o2
    rw [lex_next (by omega) (by rw [o1]), o1]
    simp only
    rw [lex_next (by omega) (by rw [o2]), o2]
    simp only
    rw [show pre.length + t.text.length + 1 = (pre ++ (t.text ++ [32])).length from by simp; omega, ih]
    unfold comb
    rw [relab_cons]
    simp [Nat.add_assoc]
end Go.Proofs.Ytofhakbmmgpgdaa
