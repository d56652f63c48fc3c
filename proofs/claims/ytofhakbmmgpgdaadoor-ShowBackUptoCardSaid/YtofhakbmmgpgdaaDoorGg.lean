/- One text out of several: LexP, PrsP, JoiA, JoiB, PrsQ, JoiC. -/
import Derived.Test.YtofhakbmmgpgdaaDoorBase

section
/- The lexer in plain words: which tokens a text has; that they rise; that what is joined has the same. -/
namespace Go.Proofs.YtofhakbmmgpgdaaDoor
open Go Go.RowKit

def isLet (c : UInt8) : Bool := decide (97 ≤ c.toNat ∧ c.toNat ≤ 122 ∨ 65 ≤ c.toNat ∧ c.toNat ≤ 90)
def isDig (c : UInt8) : Bool := decide (48 ≤ c.toNat ∧ c.toNat ≤ 57)
def isIn (c : UInt8) : Bool := decide (97 ≤ c.toNat ∧ c.toNat ≤ 122 ∨ 65 ≤ c.toNat ∧ c.toNat ≤ 90 ∨ 48 ≤ c.toNat ∧ c.toNat ≤ 57 ∨ c.toNat = 95)
def isSgn (c : UInt8) : Bool := decide (c.toNat = 123 ∨ c.toNat = 125 ∨ c.toNat = 40 ∨ c.toNat = 41 ∨ c.toNat = 60 ∨ c.toNat = 62 ∨ c.toNat = 58 ∨ c.toNat = 59 ∨ c.toNat = 44 ∨ c.toNat = 63)
def isBl (c : UInt8) : Bool := decide (c.toNat = 32 ∨ c.toNat = 9 ∨ c.toNat = 10 ∨ c.toNat = 13)
def noNl (c : UInt8) : Bool := decide (c.toNat ≠ 10)
def runL (p : UInt8 → Bool) (s : List UInt8) (a : Nat) : List UInt8 := (s.drop a).takeWhile p
structure Tok where
  kind : Nat
  text : List UInt8
  num : Nat
  at_ : Nat
def digN : List UInt8 → Nat → Nat
  | [], n => n
  | c :: r, n => digN r (10 * n + (c.toNat - 48))
def oneC (s : List UInt8) (a : Nat) (c : UInt8) : Option Tok × Nat × Nat :=
  if isLet c = true then (if 16 < (runL isIn s a).length then (none, a, 6) else (some ⟨1, runL isIn s a, 0, a⟩, a + (runL isIn s a).length, 0))
  else if isDig c = true then (if 1 < (runL isDig s a).length ∧ c.toNat = 48 then (none, a, 1) else if 4 < (runL isDig s a).length then (none, a, 3) else (some ⟨2, runL isDig s a, digN (runL isDig s a) 0, a⟩, a + (runL isDig s a).length, 0))
  else if c.toNat = 47 then (if s[a + 1]? = some 47 then (none, a + (runL noNl s a).length, 0) else (none, a, 5))
  else if isBl c = true then (none, a + 1, 0)
  else if isSgn c = true then (some ⟨3, [c], 0, a⟩, a + 1, 0)
  else (none, a, 5)
def oneL (s : List UInt8) (a : Nat) : Option Tok × Nat × Nat := match s[a]? with | some c => oneC s a c | none => (none, a, 0)
def comb (o : List Tok) (r : List Tok × Nat × Nat) : List Tok × Nat × Nat := if r.2.1 = 0 then (o ++ r.1, r.2) else ([], r.2)
def lexN (s : List UInt8) (a : Nat) : List Tok × Nat × Nat :=
  if a < s.length then
    if (oneL s a).2.2 ≠ 0 then ([], (oneL s a).2.2, a)
    else if _h2 : a < (oneL s a).2.1 then comb (oneL s a).1.toList (lexN s (oneL s a).2.1) else ([], 0, 0)
  else ([⟨4, [], 0, s.length⟩], 0, 0)
termination_by s.length - a
decreasing_by omega
def tokT (s : List UInt8) : List Tok × Nat × Nat := if 1024 < s.length then ([], 3, 0) else lexN s 0

theorem runL_le (p : UInt8 → Bool) (s : List UInt8) {a : Nat} (h : a ≤ s.length) : a + (runL p s a).length ≤ s.length := by
  have := (List.takeWhile_sublist p (l := s.drop a)).length_le
  rw [List.length_drop] at this
  unfold runL; omega
theorem drop_at {s : List UInt8} {a : Nat} {c : UInt8} (h : s[a]? = some c) : s.drop a = c :: s.drop (a + 1) := by
  obtain ⟨h1, rfl⟩ := List.getElem?_eq_some_iff.1 h
  exact List.drop_eq_getElem_cons h1
theorem runL_pos {p : UInt8 → Bool} {s : List UInt8} {a : Nat} {c : UInt8} (h : s[a]? = some c) (hp : p c = true) : 0 < (runL p s a).length := by
  unfold runL; rw [drop_at h, List.takeWhile_cons, if_pos hp]; simp
theorem isLet_in {c : UInt8} (h : isLet c = true) : isIn c = true := by unfold isLet isIn at *; simp only [decide_eq_true_eq] at *; omega
theorem oneL_of {s : List UInt8} {a : Nat} {c : UInt8} (h : s[a]? = some c) : oneL s a = oneC s a c := by unfold oneL; rw [h]
theorem oneL_moves {s : List UInt8} {a : Nat} (ha : a < s.length) (h : (oneL s a).2.2 = 0) : a < (oneL s a).2.1 ∧ (oneL s a).2.1 ≤ s.length := by
  have hc : s[a]? = some s[a] := List.getElem?_eq_getElem ha
  rw [oneL_of hc] at h ⊢
  generalize s[a] = c at *
  unfold oneC at *
  by_cases h1 : isLet c = true
  · simp only [if_pos h1] at h ⊢
    by_cases h2 : 16 < (runL isIn s a).length
    · simp only [if_pos h2] at h; cases h
    · simp only [if_neg h2]
      have := runL_pos hc (isLet_in h1)
      have := runL_le isIn s (Nat.le_of_lt ha)
      omega
  · simp only [if_neg h1] at h ⊢
    by_cases h2 : isDig c = true
    · simp only [if_pos h2] at h ⊢
      by_cases h3 : 1 < (runL isDig s a).length ∧ c.toNat = 48
      · simp only [if_pos h3] at h; cases h
      · simp only [if_neg h3] at h ⊢
        by_cases h4 : 4 < (runL isDig s a).length
        · simp only [if_pos h4] at h; cases h
        · simp only [if_neg h4]
          have := runL_pos hc h2
          have := runL_le isDig s (Nat.le_of_lt ha)
          omega
    · simp only [if_neg h2] at h ⊢
      by_cases h3 : c.toNat = 47
      · simp only [if_pos h3] at h ⊢
        by_cases h4 : s[a + 1]? = some 47
        · simp only [if_pos h4]
          have := runL_pos (p := noNl) hc (by unfold noNl; simp only [decide_eq_true_eq]; omega)
          have := runL_le noNl s (Nat.le_of_lt ha)
          omega
        · simp only [if_neg h4] at h; cases h
      · simp only [if_neg h3] at h ⊢
        by_cases h4 : isBl c = true
        · simp only [if_pos h4]; omega
        · simp only [if_neg h4] at h ⊢
          by_cases h5 : isSgn c = true
          · simp only [if_pos h5]; omega
          · simp only [if_neg h5] at h; cases h
theorem lex_end {s : List UInt8} {a : Nat} (h : ¬ a < s.length) : lexN s a = ([⟨4, [], 0, s.length⟩], 0, 0) := by rw [lexN, if_neg h]
theorem lex_bad {s : List UInt8} {a : Nat} (h : a < s.length) (he : (oneL s a).2.2 ≠ 0) : lexN s a = ([], (oneL s a).2.2, a) := by rw [lexN, if_pos h, if_pos he]
theorem lex_next {s : List UInt8} {a : Nat} (h : a < s.length) (he : (oneL s a).2.2 = 0) : lexN s a = comb (oneL s a).1.toList (lexN s (oneL s a).2.1) := by
  rw [lexN, if_pos h, if_neg (by simp [he]), dif_pos (oneL_moves h he).1]
theorem comb_comb (o t : List Tok) (r : List Tok × Nat × Nat) : comb o (comb t r) = comb (o ++ t) r := by
  unfold comb
  by_cases h : r.2.1 = 0
  · simp only [if_pos h, List.append_assoc]
  · simp only [if_neg h]
theorem comb_err (o : List Tok) (r : List Tok × Nat × Nat) : (comb o r).2 = r.2 := by unfold comb; split <;> rfl
/-- where things go on -/
theorem lex_ind {s : List UInt8} {Q : Nat → List Tok × Nat × Nat → Prop} (h1 : ∀ a, ¬ a < s.length → Q a ([⟨4, [], 0, s.length⟩], 0, 0)) (h2 : ∀ a, a < s.length → (oneL s a).2.2 ≠ 0 → Q a ([], (oneL s a).2.2, a))
    (h3 : ∀ a, a < s.length → (oneL s a).2.2 = 0 → Q (oneL s a).2.1 (lexN s (oneL s a).2.1) → Q a (comb (oneL s a).1.toList (lexN s (oneL s a).2.1))) : ∀ (f a : Nat), s.length - a < f → Q a (lexN s a)
  | 0, a, h => by omega
  | f + 1, a, h => by
    by_cases ha : a < s.length
    · by_cases he : (oneL s a).2.2 = 0
      · rw [lex_next ha he]
        have hm := oneL_moves ha he
        exact h3 a ha he (lex_ind h1 h2 h3 f _ (by omega))
      · rw [lex_bad ha he]; exact h2 a ha he
    · rw [lex_end ha]; exact h1 a ha
theorem lex_fault (s : List UInt8) (a : Nat) : (lexN s a).2.1 ≠ 0 → (lexN s a).1 = [] ∧ (lexN s a).2.2 < s.length :=
  lex_ind (Q := fun _ r => r.2.1 ≠ 0 → r.1 = [] ∧ r.2.2 < s.length) (fun a _ h => absurd rfl h) (fun a ha _ _ => ⟨rfl, ha⟩) (fun a ha he ih h => by
    rw [comb_err] at h
    have := ih h
    refine ⟨?_, by rw [comb_err]; exact this.2⟩
    unfold comb; rw [if_neg h]) _ _ (Nat.lt_succ_self _)
theorem lex_well (s : List UInt8) (a : Nat) : (lexN s a).2.1 = 0 → (lexN s a).2.2 = 0 :=
  lex_ind (Q := fun _ r => r.2.1 = 0 → r.2.2 = 0) (fun a _ h => rfl) (fun a ha he h => absurd h he) (fun a ha he ih h => by
    rw [comb_err] at h ⊢
    exact ih h) _ _ (Nat.lt_succ_self _)
/-- a token, as it comes out of a text -/
def TokOk (t : Tok) : Prop :=
  (t.kind = 1 ∧ t.num = 0 ∧ t.text.length ≤ 16 ∧ (∀ c ∈ t.text, isIn c = true) ∧ ∃ c r, t.text = c :: r ∧ isLet c = true) ∨
  (t.kind = 2 ∧ t.num = digN t.text 0 ∧ t.text.length ≤ 4 ∧ (∀ c ∈ t.text, isDig c = true) ∧ ∃ c r, t.text = c :: r ∧ isDig c = true ∧ isLet c = false ∧ ¬ (1 < t.text.length ∧ c.toNat = 48)) ∨
  (t.kind = 3 ∧ t.num = 0 ∧ ∃ c, t.text = [c] ∧ isLet c = false ∧ isDig c = false ∧ c.toNat ≠ 47 ∧ isBl c = false ∧ isSgn c = true)
theorem mem_run {p : UInt8 → Bool} {s : List UInt8} {a : Nat} : ∀ c ∈ runL p s a, p c = true := fun c hc => by
  unfold runL at hc
  generalize s.drop a = l at hc
  induction l with
  | nil => simp at hc
  | cons x r ih =>
    rw [List.takeWhile_cons] at hc
    split at hc
    · rename_i hx
      rcases List.mem_cons.1 hc with rfl | h
      · exact hx
      · exact ih h
    · simp at hc
theorem run_cons {p : UInt8 → Bool} {s : List UInt8} {a : Nat} {c : UInt8} (h : s[a]? = some c) (hp : p c = true) : ∃ r, runL p s a = c :: r := by
  unfold runL; rw [drop_at h, List.takeWhile_cons, if_pos hp]; exact ⟨_, rfl⟩
theorem run_take (p : UInt8 → Bool) (s : List UInt8) (a : Nat) : (s.drop a).take (runL p s a).length = runL p s a := by
  unfold runL
  generalize s.drop a = l
  induction l with
  | nil => simp
  | cons x r ih =>
    rw [List.takeWhile_cons]
    split
    · simp [ih]
    · simp
theorem oneL_tok {s : List UInt8} {a : Nat} {t : Tok} (h : (oneL s a).1 = some t) : TokOk t ∧ t.at_ = a ∧ (oneL s a).2.1 = a + t.text.length ∧ (s.drop a).take t.text.length = t.text := by
  cases hc : s[a]? with
  | none => unfold oneL at h; rw [hc] at h; cases h
  | some c =>
    rw [oneL_of hc] at h ⊢
    unfold oneC at h ⊢
    by_cases h1 : isLet c = true
    · simp only [if_pos h1] at h ⊢
      by_cases h2 : 16 < (runL isIn s a).length
      · simp only [if_pos h2] at h; cases h
      · simp only [if_neg h2, Option.some.injEq] at h ⊢
        subst h
        obtain ⟨r, hr⟩ := run_cons hc (isLet_in h1)
        exact ⟨.inl ⟨rfl, rfl, by simp only; omega, mem_run, c, r, hr, h1⟩, rfl, rfl, run_take _ _ _⟩
    · simp only [if_neg h1] at h ⊢
      by_cases h2 : isDig c = true
      · simp only [if_pos h2] at h ⊢
        by_cases h3 : 1 < (runL isDig s a).length ∧ c.toNat = 48
        · simp only [if_pos h3] at h; cases h
        · simp only [if_neg h3] at h ⊢
          by_cases h4 : 4 < (runL isDig s a).length
          · simp only [if_pos h4] at h; cases h
          · simp only [if_neg h4, Option.some.injEq] at h ⊢
            subst h
            obtain ⟨r, hr⟩ := run_cons hc h2
            exact ⟨.inr (.inl ⟨rfl, rfl, by simp only; omega, mem_run, c, r, hr, h2, by simpa using h1, h3⟩), rfl, rfl, run_take _ _ _⟩
      · simp only [if_neg h2] at h ⊢
        by_cases h3 : c.toNat = 47
        · simp only [if_pos h3] at h; split at h <;> cases h
        · simp only [if_neg h3] at h ⊢
          by_cases h4 : isBl c = true
          · simp only [if_pos h4] at h; cases h
          · simp only [if_neg h4] at h ⊢
            by_cases h5 : isSgn c = true
            · simp only [if_pos h5, Option.some.injEq] at h ⊢
              subst h
              exact ⟨.inr (.inr ⟨rfl, rfl, c, rfl, by simpa using h1, by simpa using h2, h3, by simpa using h4, h5⟩), rfl, rfl, by simp only [drop_at hc]; rfl⟩
            · simp only [if_neg h5] at h; cases h
theorem TokOk.kind4 {t : Tok} (h : TokOk t) : t.kind ≠ 4 := by rcases h with h | h | h <;> rw [h.1] <;> decide
theorem TokOk.num {t : Tok} (h : TokOk t) : t.num ≤ 9999 := by
  have key : ∀ (l : List UInt8) (n : Nat), (∀ c ∈ l, isDig c = true) → digN l n ≤ n * 10 ^ l.length + (10 ^ l.length - 1) := by
    intro l
    induction l with
    | nil => intro n _; simp [digN]
    | cons c r ih =>
      intro n hd
      have h1 := ih (10 * n + (c.toNat - 48)) (fun x hx => hd x (by simp [hx]))
      have h2 := hd c (by simp)
      unfold isDig at h2
      simp only [decide_eq_true_eq] at h2
      have h3 : c.toNat - 48 ≤ 9 := by omega
      have h4 : 1 ≤ 10 ^ r.length := Nat.pow_pos (by omega)
      unfold digN
      rw [List.length_cons, Nat.pow_succ]
      generalize 10 ^ r.length = q at *
      have : (10 * n + (c.toNat - 48)) * q ≤ (10 * n + 9) * q := Nat.mul_le_mul_right _ (by omega)
      have e : (10 * n + 9) * q = n * (q * 10) + 9 * q := by rw [Nat.add_mul, Nat.mul_comm 10 n, Nat.mul_assoc, Nat.mul_comm 10 q]
      omega
  rcases h with h | h | h
  · rw [h.2.1]; omega
  · rw [h.2.1]
    refine Nat.le_trans (key _ 0 h.2.2.2.1) ?_
    have : 10 ^ t.text.length ≤ 10 ^ 4 := Nat.pow_le_pow_right (by omega) h.2.2.1
    omega
  · rw [h.2.1]; omega
theorem TokOk.len {t : Tok} (h : TokOk t) : t.text.length ≤ 16 := by
  rcases h with h | h | h
  · exact h.2.2.1
  · exact Nat.le_trans h.2.2.1 (by omega)
  · obtain ⟨c, hc, _⟩ := h.2.2; rw [hc]; simp
/-- tokens that rise -/
def Rise (s : List UInt8) : Nat → List Tok → Prop
  | e, [] => e = s.length
  | e, t :: r => e ≤ t.at_ ∧ t.at_ + t.text.length ≤ s.length ∧ (s.drop t.at_).take t.text.length = t.text ∧ (t.kind = 4 ↔ r = []) ∧ Rise s (t.at_ + t.text.length) r
theorem lex_rise (s : List UInt8) (a : Nat) : (lexN s a).2.1 = 0 → a ≤ s.length → (lexN s a).1 ≠ [] ∧ ∀ e, e ≤ a → Rise s e (lexN s a).1 :=
  lex_ind (Q := fun a r => r.2.1 = 0 → a ≤ s.length → r.1 ≠ [] ∧ ∀ e, e ≤ a → Rise s e r.1)
    (fun a h _ ha => ⟨by simp, fun e he => ⟨by simp only; omega, by simp, by simp, by simp, by simp [Rise]⟩⟩)
    (fun a ha he h => absurd h he)
    (fun a ha he ih h _ => by
      rw [comb_err] at h
      have hm := oneL_moves ha he
      obtain ⟨i1, i2⟩ := ih h hm.2
      unfold comb
      rw [if_pos h]
      refine ⟨by simp [i1], fun e hea => ?_⟩
      cases ht : (oneL s a).1 with
      | none => exact i2 e (by omega)
      | some t =>
        obtain ⟨k1, k2, k3, k4⟩ := oneL_tok ht
        refine ⟨by omega, by omega, by rw [k2]; exact k4, ⟨fun h => absurd h k1.kind4, fun h => absurd h i1⟩, ?_⟩
        rw [k2, ← k3]
        exact i2 _ (Nat.le_refl _)) _ _ (Nat.lt_succ_self _)
/-- all but the last are tokens, the last is the end -/
theorem lex_toks (s : List UInt8) (a : Nat) : (lexN s a).2.1 = 0 → ∃ m, (lexN s a).1 = m ++ [⟨4, [], 0, s.length⟩] ∧ (∀ t ∈ m, TokOk t ∧ t.at_ < s.length) ∧ m.length ≤ s.length - a :=
  lex_ind (Q := fun a r => r.2.1 = 0 → ∃ m, r.1 = m ++ [⟨4, [], 0, s.length⟩] ∧ (∀ t ∈ m, TokOk t ∧ t.at_ < s.length) ∧ m.length ≤ s.length - a)
    (by intro a _ _; exact ⟨[], rfl, by simp, by simp⟩)
    (fun a ha he h => absurd h he)
    (fun a ha he ih h => by
      rw [comb_err] at h
      have hm := oneL_moves ha he
      obtain ⟨m, i1, i2, i3⟩ := ih h
      unfold comb
      rw [if_pos h]
      refine ⟨(oneL s a).1.toList ++ m, by simp [i1], fun t ht => ?_, ?_⟩
      · rcases List.mem_append.1 ht with h | h
        · obtain ⟨k1, k2, _⟩ := oneL_tok (t := t) (by simpa using h)
          exact ⟨k1, by omega⟩
        · exact i2 t h
      · cases (oneL s a).1 <;> simp <;> omega) _ _ (Nat.lt_succ_self _)
/-- texts, a blank behind each -/
def blanks (m : List Tok) : List UInt8 := m.flatMap fun t => t.text ++ [32]
def relab : List Tok → Nat → List Tok
  | [], _ => []
  | t :: r, a => { t with at_ := a } :: relab r (a + t.text.length + 1)
theorem relab_cons (t : Tok) (r : List Tok) (a : Nat) : relab (t :: r) a = { t with at_ := a } :: relab r (a + t.text.length + 1) := rfl
theorem run_pre {p : UInt8 → Bool} {pre w r : List UInt8} (hw : ∀ c ∈ w, p c = true) (hp : p 32 = false) : runL p (pre ++ (w ++ 32 :: r)) pre.length = w := by
  unfold runL
  rw [List.drop_left]
  induction w with
  | nil => simp [hp]
  | cons x t ih => rw [List.cons_append, List.takeWhile_cons, if_pos (hw x (by simp)), ih (fun c hc => hw c (by simp [hc]))]
theorem one_tok {pre r : List UInt8} {t : Tok} (ht : TokOk t) : oneL (pre ++ (t.text ++ 32 :: r)) pre.length = (some { t with at_ := pre.length }, pre.length + t.text.length, 0) := by
  have at0 : ∀ (c : UInt8) (w : List UInt8), t.text = c :: w → (pre ++ (t.text ++ 32 :: r))[pre.length]? = some c := fun c w h => by
    rw [List.getElem?_append_right (Nat.le_refl _), Nat.sub_self, h]; rfl
  obtain ⟨kind, text, num, at_⟩ := t
  simp only at *
  unfold oneL
  rcases ht with ⟨h1, h2, h3, h4, c, w, hc, h5⟩ | ⟨h1, h2, h3, h4, c, w, hc, h5, h6, h7⟩ | ⟨h1, h2, c, hc, h3, h4, h5, h6, h7⟩ <;> simp only at *
  · rw [at0 c w hc]
    simp only
    have hr := run_pre (p := isIn) (pre := pre) (w := text) (r := r) h4 (by decide)
    unfold oneC
    rw [if_pos h5, hr, if_neg (by omega), h1, h2]
  · rw [at0 c w hc]
    simp only
    have hr := run_pre (p := isDig) (pre := pre) (w := text) (r := r) h4 (by decide)
    unfold oneC
    rw [if_neg (by simp [h6]), if_pos h5, hr, if_neg h7, if_neg (by omega), h1, h2]
  · rw [at0 c [] hc]
    simp only
    unfold oneC
    rw [if_neg (by simp [h3]), if_neg (by simp [h4]), if_neg h5, if_neg (by simp [h6]), if_pos h7, h1, h2, hc]
    rfl
theorem one_blank {pre r : List UInt8} : oneL (pre ++ 32 :: r) pre.length = (none, pre.length + 1, 0) := by
  have at0 : (pre ++ 32 :: r)[pre.length]? = some 32 := by
    rw [List.getElem?_append_right (Nat.le_refl _), Nat.sub_self]; rfl
  unfold oneL
  rw [at0]
  rfl
theorem lex_blanks : ∀ (m : List Tok) (pre : List UInt8), (∀ t ∈ m, TokOk t) → lexN (pre ++ blanks m) pre.length = (relab m pre.length ++ [⟨4, [], 0, (pre ++ blanks m).length⟩], 0, 0)
  | [], pre, _ => by rw [lex_end (by simp [blanks])]; rfl
  | t :: m, pre, h => by
    have e1 : pre ++ blanks (t :: m) = pre ++ (t.text ++ 32 :: blanks m) := by simp [blanks]
    have e2 : pre ++ blanks (t :: m) = (pre ++ t.text) ++ 32 :: blanks m := by simp [blanks]
    have e3 : pre ++ blanks (t :: m) = (pre ++ (t.text ++ [32])) ++ blanks m := by simp [blanks]
    have ih := lex_blanks m (pre ++ (t.text ++ [32])) (fun x hx => h x (by simp [hx]))
    rw [← e3] at ih
    have o1 := one_tok (pre := pre) (r := blanks m) (h t (by simp))
    rw [← e1] at o1
    have o2 := one_blank (pre := pre ++ t.text) (r := blanks m)
    rw [← e2] at o2
    have l1 : (pre ++ blanks (t :: m)).length = pre.length + t.text.length + 1 + (blanks m).length := by rw [e2]; simp; omega
    rw [List.length_append] at o2
    rw [lex_next (by omega) (by rw [o1]), o1]
    simp only
    rw [lex_next (by omega) (by rw [o2]), o2]
    simp only
    rw [show pre.length + t.text.length + 1 = (pre ++ (t.text ++ [32])).length from by simp; omega, ih]
    unfold comb
    rw [relab_cons]
    simp [Nat.add_assoc]
end Go.Proofs.YtofhakbmmgpgdaaDoor
end

section
/- The parser in plain words: which declarations tokens are. -/
namespace Go.Proofs.YtofhakbmmgpgdaaDoor
open Go Go.RowKit

inductive Ty where
  | leaf (k : Nat)
  | named (s : List UInt8)
  | list (t : Ty)
  | map (k v : Ty)
  | opt (t : Ty)
structure Fd where
  tag : Nat
  name : List UInt8
  ty : Ty
structure Md where
  tag : Nat
  name : List UInt8
  inn : List UInt8
  out : List UInt8
  oneway : Bool
structure Dc where
  kind : Nat
  name : List UInt8
  fields : List Fd
  methods : List Md
  at_ : Nat
/-- where the parser is, and what is wrong -/
structure PS where
  at_ : Nat
  err : Nat
  eat : Nat
/-- the words of the language -/
def wordsL : List (List UInt8) := [[115, 116, 114, 117, 99, 116], [117, 110, 105, 111, 110], [101, 110, 117, 109], [115, 101, 114, 118, 105, 99, 101], [98, 111, 111, 108], [105, 110, 116], [117, 105, 110, 116], [116, 101, 120, 116], [98, 121, 116, 101, 115], [108, 105, 115, 116], [109, 97, 112], [111, 110, 101, 119, 97, 121]]
def wordB (s : List UInt8) : Bool := decide (s ∈ wordsL)
def cur (L : List Tok) (p : PS) : Tok := L.getD p.at_ ⟨4, [], 0, 0⟩
def failP (L : List Tok) (p : PS) (e : Nat) : PS := if p.err = 0 then ⟨p.at_, e, (cur L p).at_⟩ else p
def mayB (L : List Tok) (p : PS) (s : List UInt8) : Bool := decide (p.err = 0 ∧ (cur L p).text = s ∧ s ≠ [])
def mayP (L : List Tok) (p : PS) (s : List UInt8) : PS := if mayB L p s = true then { p with at_ := p.at_ + 1 } else p
def needP (L : List Tok) (p : PS) (s : List UInt8) : PS := if mayB L p s = true then { p with at_ := p.at_ + 1 } else failP L p 5
def nameB (L : List Tok) (p : PS) : Bool := decide (p.err = 0 ∧ (cur L p).kind = 1) && !(wordB (cur L p).text)
def nameP (L : List Tok) (p : PS) : PS := if nameB L p = true then { p with at_ := p.at_ + 1 } else failP L p 5
def nameV (L : List Tok) (p : PS) : List UInt8 := if nameB L p = true then (cur L p).text else []
def numB (L : List Tok) (p : PS) : Bool := decide (p.err = 0 ∧ (cur L p).kind = 2)
def numP (L : List Tok) (p : PS) : PS := if numB L p = true then { p with at_ := p.at_ + 1 } else failP L p 5
def numV (L : List Tok) (p : PS) : Nat := if numB L p = true then (cur L p).num else 0
def plainN (s : List UInt8) : Nat := if s = [98, 111, 111, 108] then 1 else if s = [105, 110, 116] then 2 else if s = [117, 105, 110, 116] then 3 else if s = [116, 101, 120, 116] then 4 else if s = [98, 121, 116, 101, 115] then 5 else 0
/-- a type: n deep at most -/
def typP (L : List Tok) : Nat → PS → Ty × PS
  | 0, p => (.leaf 0, failP L p 10)
  | n + 1, p => if p.err ≠ 0 then (.leaf 0, p) else
    let r : Ty × PS :=
      if 0 < plainN (cur L p).text then (.leaf (plainN (cur L p).text), { p with at_ := p.at_ + 1 })
      else if mayB L p [108, 105, 115, 116] = true then
        let a := typP L n (needP L { p with at_ := p.at_ + 1 } [60])
        (.list a.1, needP L a.2 [62])
      else if mayB L p [109, 97, 112] = true then
        let a := typP L n (needP L { p with at_ := p.at_ + 1 } [60])
        let b := typP L n (needP L a.2 [44])
        (.map a.1 b.1, needP L b.2 [62])
      else (.named (nameV L p), nameP L p)
    if mayB L r.2 [63] = true then (.opt r.1, { r.2 with at_ := r.2.at_ + 1 }) else r
def baseP (L : List Tok) (n : Nat) (p : PS) : Ty × PS :=
  if 0 < plainN (cur L p).text then (.leaf (plainN (cur L p).text), { p with at_ := p.at_ + 1 })
  else if mayB L p [108, 105, 115, 116] = true then
    let a := typP L n (needP L { p with at_ := p.at_ + 1 } [60])
    (.list a.1, needP L a.2 [62])
  else if mayB L p [109, 97, 112] = true then
    let a := typP L n (needP L { p with at_ := p.at_ + 1 } [60])
    let b := typP L n (needP L a.2 [44])
    (.map a.1 b.1, needP L b.2 [62])
  else (.named (nameV L p), nameP L p)
theorem typP_succ (L : List Tok) (n : Nat) (p : PS) : typP L (n + 1) p = if p.err ≠ 0 then (.leaf 0, p) else if mayB L (baseP L n p).2 [63] = true then (.opt (baseP L n p).1, { (baseP L n p).2 with at_ := (baseP L n p).2.at_ + 1 }) else baseP L n p := by
  rw [typP]; rfl
def fieldP (L : List Tok) (p : PS) : Fd × PS :=
  let q := needP L (nameP L (numP L p)) [58]
  (⟨numV L p, nameV L (numP L p), (typP L 9 q).1⟩, (typP L 9 q).2)
def valueP (L : List Tok) (p : PS) : Fd × PS := (⟨numV L p, nameV L (numP L p), .leaf 0⟩, nameP L (numP L p))
def methodP (L : List Tok) (p : PS) : Md × PS :=
  let p1 := mayP L p [111, 110, 101, 119, 97, 121]
  let p2 := numP L p1
  let p3 := needP L (nameP L p2) [40]
  let p4 := needP L (needP L (nameP L p3) [41]) [58]
  (⟨numV L p1, nameV L p2, nameV L p3, nameV L p4, mayB L p [111, 110, 101, 119, 97, 121]⟩, nameP L p4)
/-- rows: f more rounds at most, n rounds ahead -/
def rowsP {α : Type} (L : List Tok) (row : PS → α × PS) : Nat → Nat → PS → List α × PS
  | 0, _, p => ([], p)
  | f + 1, n, p =>
    if ¬ (p.err = 0) then ([], p)
    else if mayB L p [125] = true then ([], { p with at_ := p.at_ + 1 })
    else
      let q := if n = 16 ∧ (cur L p).kind ≠ 4 then failP L p 3 else p
      if q.err = 0 then
        let r := row q
        let s := rowsP L row f (n + 1) (needP L r.2 [59])
        (r.1 :: s.1, s.2)
      else rowsP L row f (n + 1) q
def kindP (L : List Tok) (p : PS) : Nat := if mayB L p [115, 116, 114, 117, 99, 116] = true then 1 else if mayB L p [117, 110, 105, 111, 110] = true then 2 else if mayB L p [101, 110, 117, 109] = true then 3 else if mayB L p [115, 101, 114, 118, 105, 99, 101] = true then 4 else 0
def kindQ (L : List Tok) (p : PS) : PS := if kindP L p = 0 then failP L p 5 else { p with at_ := p.at_ + 1 }
def declP (L : List Tok) (p : PS) : Dc × PS :=
  let p1 := kindQ L p
  let p2 := needP L (nameP L p1) [123]
  if kindP L p = 4 then
    let r := rowsP L (methodP L) 18 0 p2
    (⟨4, nameV L p1, [], r.1, (cur L p).at_⟩, r.2)
  else
    let r := rowsP L (if kindP L p = 3 then valueP L else fieldP L) 18 0 p2
    (⟨kindP L p, nameV L p1, r.1, [], (cur L p).at_⟩, r.2)
/-- declarations: f more at most, k ahead -/
def declsP (L : List Tok) : Nat → Nat → PS → List Dc × PS
  | 0, _, p => ([], p)
  | f + 1, k, p =>
    if ¬ (p.err = 0) ∨ (cur L p).kind = 4 then ([], p)
    else if k = 16 then ([], failP L p 3)
    else
      let r := declP L p
      let s := declsP L f (k + 1) r.2
      (r.1 :: s.1, s.2)
def parseT (s : List UInt8) : List Dc × Nat × Nat :=
  let t := tokT s
  if t.2.1 ≠ 0 then ([], t.2)
  else
    let r := declsP t.1 17 0 ⟨0, 0, 0⟩
    if r.2.err ≠ 0 then ([], r.2.err, r.2.eat) else (r.1, 0, 0)

/-- tokens as the lexer gives them: what may be taken is not the last -/
structure TL (L : List Tok) : Prop where
  pos : 0 < L.length
  len : L.length ≤ 1025
  more : ∀ (i : Nat) (t : Tok), L[i]? = some t → (t.text ≠ [] ∨ t.kind = 1 ∨ t.kind = 2) → i + 1 < L.length
  num : ∀ t ∈ L, t.num ≤ 9999 ∧ t.text.length ≤ 16 ∧ t.kind ≤ 4
theorem tl_of {s : List UInt8} (h : (tokT s).2.1 = 0) : TL (tokT s).1 := by
  unfold tokT at *
  by_cases hl : 1024 < s.length
  · rw [if_pos hl] at h; cases h
  · rw [if_neg hl] at *
    obtain ⟨m, h1, h2, h3⟩ := lex_toks s 0 h
    rw [h1]
    refine ⟨by simp, by simp; omega, fun i t hi hk => ?_, fun t ht => ?_⟩
    · rcases Nat.lt_or_ge i m.length with hm | hm
      · simp; omega
      · rw [List.getElem?_append_right hm] at hi
        have : i - m.length = 0 := by
          have := (List.getElem?_eq_some_iff.1 hi).1
          simp at this; omega
        rw [this] at hi
        simp at hi
        subst hi
        simp at hk
    · rcases List.mem_append.1 ht with ht | ht
      · obtain ⟨h4, _⟩ := h2 t ht
        refine ⟨h4.num, h4.len, ?_⟩
        rcases h4 with h | h | h <;> omega
      · rw [List.mem_singleton.1 ht]; simp
theorem cur_at {L : List Tok} {p : PS} (h : p.at_ < L.length) : L[p.at_]? = some (cur L p) := by
  unfold cur
  rw [List.getD_eq_getElem?_getD, List.getElem?_eq_getElem h]; rfl
theorem cur_mem {L : List Tok} {p : PS} (h : p.at_ < L.length) : cur L p ∈ L := List.mem_of_getElem? (cur_at h)
theorem may_lt {L : List Tok} (hL : TL L) {p : PS} (h : p.at_ < L.length) {s : List UInt8} (hb : mayB L p s = true) : p.at_ + 1 < L.length := by
  unfold mayB at hb
  simp only [decide_eq_true_eq] at hb
  exact hL.more _ _ (cur_at h) (.inl (by rw [hb.2.1]; exact hb.2.2))
theorem fail_at (L : List Tok) (p : PS) (e : Nat) : (failP L p e).at_ = p.at_ := by unfold failP; split <;> rfl
theorem may_at {L : List Tok} (hL : TL L) {p : PS} (h : p.at_ < L.length) (s : List UInt8) : (mayP L p s).at_ < L.length := by
  unfold mayP
  split
  · rename_i hb; exact may_lt hL h hb
  · exact h
theorem need_at {L : List Tok} (hL : TL L) {p : PS} (h : p.at_ < L.length) (s : List UInt8) : (needP L p s).at_ < L.length := by
  unfold needP
  split
  · rename_i hb; exact may_lt hL h hb
  · rw [fail_at]; exact h
theorem name_at {L : List Tok} (hL : TL L) {p : PS} (h : p.at_ < L.length) : (nameP L p).at_ < L.length := by
  unfold nameP
  split
  · rename_i hb
    unfold nameB at hb
    simp only [Bool.and_eq_true, decide_eq_true_eq] at hb
    exact hL.more _ _ (cur_at h) (.inr (.inl hb.1.2))
  · rw [fail_at]; exact h
theorem num_at {L : List Tok} (hL : TL L) {p : PS} (h : p.at_ < L.length) : (numP L p).at_ < L.length := by
  unfold numP
  split
  · rename_i hb
    unfold numB at hb
    simp only [decide_eq_true_eq] at hb
    exact hL.more _ _ (cur_at h) (.inr (.inr hb.2))
  · rw [fail_at]; exact h
theorem plainN_pos {s : List UInt8} (h : 0 < plainN s) : s ≠ [] := by
  rintro rfl
  simp [plainN] at h
theorem plain_lt {L : List Tok} (hL : TL L) {p : PS} (h : p.at_ < L.length) (hp : 0 < plainN (cur L p).text) : p.at_ + 1 < L.length :=
  hL.more _ _ (cur_at h) (.inl (plainN_pos hp))
theorem base_at' {L : List Tok} (hL : TL L) {n : Nat} (ih : ∀ {p : PS}, p.at_ < L.length → (typP L n p).2.at_ < L.length) {p : PS} (h : p.at_ < L.length) : (baseP L n p).2.at_ < L.length := by
  unfold baseP
  split
  · rename_i hp; exact plain_lt hL h hp
  · split
    · rename_i hb
      exact need_at hL (ih (need_at hL (may_lt hL h hb) _)) _
    · split
      · rename_i hb
        exact need_at hL (ih (need_at hL (ih (need_at hL (may_lt hL h hb) _)) _)) _
      · exact name_at hL h
theorem typ_at {L : List Tok} (hL : TL L) : ∀ (n : Nat) {p : PS}, p.at_ < L.length → (typP L n p).2.at_ < L.length
  | 0, p, h => by rw [typP]; show (failP L p 10).at_ < _; rw [fail_at]; exact h
  | n + 1, p, h => by
    rw [typP_succ]
    split
    · exact h
    · have hb := base_at' hL (typ_at hL n) h
      split
      · rename_i hm; exact may_lt hL hb hm
      · exact hb
theorem base_at {L : List Tok} (hL : TL L) (n : Nat) {p : PS} (h : p.at_ < L.length) : (baseP L n p).2.at_ < L.length := base_at' hL (typ_at hL n) h
theorem field_at {L : List Tok} (hL : TL L) {p : PS} (h : p.at_ < L.length) : (fieldP L p).2.at_ < L.length := typ_at hL _ (need_at hL (name_at hL (num_at hL h)) _)
theorem value_at {L : List Tok} (hL : TL L) {p : PS} (h : p.at_ < L.length) : (valueP L p).2.at_ < L.length := name_at hL (num_at hL h)
theorem method_at {L : List Tok} (hL : TL L) {p : PS} (h : p.at_ < L.length) : (methodP L p).2.at_ < L.length :=
  name_at hL (need_at hL (need_at hL (name_at hL (need_at hL (name_at hL (num_at hL (may_at hL h _))) _)) _) _)
theorem rows_at {α : Type} {L : List Tok} (hL : TL L) {row : PS → α × PS} (hr : ∀ p, p.at_ < L.length → (row p).2.at_ < L.length) : ∀ (f n : Nat) {p : PS}, p.at_ < L.length → (rowsP L row f n p).2.at_ < L.length
  | 0, n, p, h => h
  | f + 1, n, p, h => by
    rw [rowsP]
    split
    · exact h
    · split
      · rename_i hb; exact may_lt hL h hb
      · have hq : (if n = 16 ∧ (cur L p).kind ≠ 4 then failP L p 3 else p).at_ < L.length := by
          split
          · rw [fail_at]; exact h
          · exact h
        generalize (if n = 16 ∧ (cur L p).kind ≠ 4 then failP L p 3 else p) = q at hq
        simp only
        split
        · exact rows_at hL hr f (n + 1) (need_at hL (hr q hq) _)
        · exact rows_at hL hr f (n + 1) hq
theorem kindQ_at {L : List Tok} (hL : TL L) {p : PS} (h : p.at_ < L.length) : (kindQ L p).at_ < L.length := by
  unfold kindQ
  split
  · rw [fail_at]; exact h
  · rename_i hk
    unfold kindP at hk
    split at hk
    · rename_i hb; exact may_lt hL h hb
    · split at hk
      · rename_i hb; exact may_lt hL h hb
      · split at hk
        · rename_i hb; exact may_lt hL h hb
        · split at hk
          · rename_i hb; exact may_lt hL h hb
          · exact absurd rfl hk
theorem decl_at {L : List Tok} (hL : TL L) {p : PS} (h : p.at_ < L.length) : (declP L p).2.at_ < L.length := by
  have h2 := need_at hL (name_at hL (kindQ_at hL h)) [123]
  unfold declP
  simp only
  split
  · exact rows_at hL (fun p h => method_at hL h) _ _ h2
  · refine rows_at hL (fun p h => ?_) _ _ h2
    split
    · exact value_at hL h
    · exact field_at hL h
/-- what is wrong stays so -/
theorem fail_err {L : List Tok} {p : PS} {e : Nat} (he : e ≠ 0) : (failP L p e).err ≠ 0 := by
  unfold failP; split
  · exact he
  · assumption
theorem may_no {L : List Tok} {p : PS} (h : p.err ≠ 0) (s : List UInt8) : mayB L p s = false := by unfold mayB; simp [h]
theorem fail_no {L : List Tok} {p : PS} (h : p.err ≠ 0) (e : Nat) : failP L p e = p := by unfold failP; rw [if_neg h]
theorem need_no {L : List Tok} {p : PS} (h : p.err ≠ 0) (s : List UInt8) : needP L p s = p := by unfold needP; rw [may_no h, if_neg (by decide), fail_no h]
theorem mayP_no {L : List Tok} {p : PS} (h : p.err ≠ 0) (s : List UInt8) : mayP L p s = p := by unfold mayP; rw [may_no h, if_neg (by decide)]
theorem name_no {L : List Tok} {p : PS} (h : p.err ≠ 0) : nameP L p = p := by unfold nameP nameB; simp [h, fail_no]
theorem num_no {L : List Tok} {p : PS} (h : p.err ≠ 0) : numP L p = p := by unfold numP numB; simp [h, fail_no]
theorem typ_no {L : List Tok} {p : PS} (h : p.err ≠ 0) : ∀ n, (typP L n p).2 = p
  | 0 => by rw [typP]; exact fail_no h 10
  | n + 1 => by rw [typP_succ, if_pos h]
/-- at the end nothing is a row -/
theorem num_end {L : List Tok} {p : PS} (h : (cur L p).kind = 4) : (numP L p).err ≠ 0 := by
  unfold numP numB
  rw [h]
  simp only [show ¬ ((4 : Nat) = 2) by decide, and_false, decide_false, Bool.false_eq_true, if_false]
  exact fail_err (by decide)
theorem field_end {L : List Tok} {p : PS} (h : (cur L p).kind = 4) : (fieldP L p).2.err ≠ 0 := by
  have h1 := num_end h
  unfold fieldP
  simp only
  rw [name_no h1, need_no h1, typ_no h1]; exact h1
theorem value_end {L : List Tok} {p : PS} (h : (cur L p).kind = 4) : (valueP L p).2.err ≠ 0 := by
  have h1 := num_end h
  unfold valueP
  simp only
  rw [name_no h1]; exact h1
theorem method_end {L : List Tok} {p : PS} (hp : p.at_ < L.length) (hlast : ∀ (i : Nat) (t : Tok), L[i]? = some t → t.kind = 4 → t.text = []) (h : (cur L p).kind = 4) : (methodP L p).2.err ≠ 0 := by
  have ht := hlast _ _ (cur_at hp) h
  have hm : mayB L p [111, 110, 101, 119, 97, 121] = false := by unfold mayB; rw [ht]; simp
  have h0 : mayP L p [111, 110, 101, 119, 97, 121] = p := by unfold mayP; rw [hm, if_neg (by decide)]
  have h1 := num_end h
  unfold methodP
  simp only
  rw [h0, name_no h1, need_no h1, name_no h1, need_no h1, need_no h1, name_no h1]; exact h1
end Go.Proofs.YtofhakbmmgpgdaaDoor
end

section
/- The tokens of two texts, a line's end between. -/
namespace Go.Proofs.YtofhakbmmgpgdaaDoor
open Go Go.RowKit

theorem run_join {p : UInt8 → Bool} (hp : p 10 = false) (a b : List UInt8) {i : Nat} (hi : i ≤ a.length) : runL p (a ++ 10 :: b) i = runL p a i := by
  unfold runL
  rw [List.drop_append_of_le_length hi]
  generalize a.drop i = l
  induction l with
  | nil => simp [hp]
  | cons x r ih => rw [List.cons_append, List.takeWhile_cons, List.takeWhile_cons, ih]
theorem oneL_join (a b : List UInt8) {i : Nat} (hi : i < a.length) : oneL (a ++ 10 :: b) i = oneL a i := by
  have h0 : (a ++ 10 :: b)[i]? = a[i]? := List.getElem?_append_left hi
  have h1 : ((a ++ 10 :: b)[i + 1]? = some 47) = (a[i + 1]? = some 47) := by
    by_cases h : i + 1 < a.length
    · rw [List.getElem?_append_left h]
    · rw [List.getElem?_append_right (by omega), show i + 1 - a.length = 0 by omega, List.getElem?_eq_none (by omega : a.length ≤ i + 1)]
      simp
  unfold oneL
  rw [h0]
  cases a[i]? with
  | none => rfl
  | some c =>
    simp only
    unfold oneC
    rw [run_join (by decide) a b (Nat.le_of_lt hi), run_join (by decide) a b (Nat.le_of_lt hi), run_join (by decide) a b (Nat.le_of_lt hi)]
    simp only [h1]
theorem run_shift (p : UInt8 → Bool) (pre b : List UInt8) (i : Nat) : runL p (pre ++ b) (pre.length + i) = runL p b i := by
  unfold runL
  rw [← List.drop_drop, List.drop_left]
def upT (n : Nat) (t : Tok) : Tok := { t with at_ := t.at_ + n }
theorem oneL_shift (pre b : List UInt8) (i : Nat) : oneL (pre ++ b) (pre.length + i) = ((oneL b i).1.map (upT pre.length), pre.length + (oneL b i).2.1, (oneL b i).2.2) := by
  have h0 : ∀ j, (pre ++ b)[pre.length + j]? = b[j]? := fun j => by rw [List.getElem?_append_right (by omega), show pre.length + j - pre.length = j by omega]
  have h1 := h0 (i + 1)
  unfold oneL
  rw [h0]
  cases b[i]? with
  | none => rfl
  | some c =>
    simp only
    unfold oneC
    simp only [run_shift, ← Nat.add_assoc] at h1 ⊢
    rw [h1]
    repeat' split
    all_goals simp [upT]
    all_goals omega
theorem lex_shift (pre b : List UInt8) (i : Nat) : lexN b i = lexN b i ∧ lexN (pre ++ b) (pre.length + i) = if (lexN b i).2.1 = 0 then ((lexN b i).1.map (upT pre.length), 0, 0) else ([], (lexN b i).2.1, pre.length + (lexN b i).2.2) := by
  refine ⟨rfl, lex_ind (s := b) (Q := fun i r => lexN (pre ++ b) (pre.length + i) = if r.2.1 = 0 then (r.1.map (upT pre.length), 0, 0) else ([], r.2.1, pre.length + r.2.2)) (fun a h => ?_) (fun a h he => ?_) (fun a h he ih => ?_) _ i (Nat.lt_succ_self _)⟩
  · rw [lex_end (by simp; omega)]
    simp [upT, Nat.add_comm]
  · rw [lex_bad (by simp; omega) (by rw [oneL_shift]; exact he), if_neg (by exact he), oneL_shift]
  · rw [lex_next (by simp; omega) (by rw [oneL_shift]; exact he), oneL_shift]
    simp only
    rw [ih]
    unfold comb
    by_cases h0 : (lexN b (oneL b a).2.1).2.1 = 0
    · simp only [if_pos h0]
      cases (oneL b a).1 <;> simp
    · simp only [if_neg h0]
/-- what stands ahead of the end -/
theorem lex_ahead (a b : List UInt8) (i : Nat) : (lexN a i).2.1 = 0 → i ≤ a.length → ∃ m, (lexN a i).1 = m ++ [⟨4, [], 0, a.length⟩] ∧ lexN (a ++ 10 :: b) i = comb m (lexN (a ++ 10 :: b) (a.length + 1)) :=
  lex_ind (s := a) (Q := fun i r => r.2.1 = 0 → i ≤ a.length → ∃ m, r.1 = m ++ [⟨4, [], 0, a.length⟩] ∧ lexN (a ++ 10 :: b) i = comb m (lexN (a ++ 10 :: b) (a.length + 1)))
    (fun i h _ hi => by
      refine ⟨[], rfl, ?_⟩
      have e : i = a.length := by omega
      subst e
      have h0 : (a ++ 10 :: b)[a.length]? = some 10 := by rw [List.getElem?_append_right (Nat.le_refl _), Nat.sub_self]; rfl
      have h1 : oneL (a ++ 10 :: b) a.length = (none, a.length + 1, 0) := by rw [oneL_of h0]; rfl
      rw [lex_next (by simp) (by rw [h1]), h1]; rfl)
    (fun i h he h0 => absurd h0 he)
    (fun i h he ih h0 _ => by
      have hm := oneL_moves h he
      rw [comb_err] at h0
      obtain ⟨m, h1, h2⟩ := ih h0 hm.2
      refine ⟨(oneL a i).1.toList ++ m, ?_, ?_⟩
      · unfold comb; rw [if_pos h0, h1]; simp
      · rw [lex_next (by simp; omega) (by rw [oneL_join a b h]; exact he), oneL_join a b h, h2, comb_comb]) _ i (Nat.lt_succ_self _)
theorem lex_join {a b : List UInt8} (ha : (lexN a 0).2.1 = 0) (hb : (lexN b 0).2.1 = 0) : ∃ m, (lexN a 0).1 = m ++ [⟨4, [], 0, a.length⟩] ∧ lexN (a ++ 10 :: b) 0 = (m ++ (lexN b 0).1.map (upT (a.length + 1)), 0, 0) := by
  obtain ⟨m, h1, h2⟩ := lex_ahead a b 0 ha (Nat.zero_le _)
  refine ⟨m, h1, ?_⟩
  rw [h2]
  have h3 := (lex_shift (a ++ [10]) b 0).2
  rw [if_pos hb] at h3
  have e : (a ++ [10]).length = a.length + 1 := by simp
  have e2 : a ++ [10] ++ b = a ++ 10 :: b := by simp
  rw [e, e2, Nat.add_zero] at h3
  rw [h3]
  unfold comb
  simp
end Go.Proofs.YtofhakbmmgpgdaaDoor
end

section
/- The declarations of two rows of tokens, one behind the other. -/
namespace Go.Proofs.YtofhakbmmgpgdaaDoor
open Go Go.RowKit

def likeT (u v : Tok) : Prop := u.kind = v.kind ∧ u.text = v.text ∧ u.num = v.num
/-- from lo to hi the tokens of the one are those of the other, k on -/
def Agr (L L' : List Tok) (k lo hi : Nat) : Prop := ∀ i, lo ≤ i → i ≤ hi → likeT (L.getD i ⟨4, [], 0, 0⟩) (L'.getD (i + k) ⟨4, [], 0, 0⟩)
theorem Agr.sub {L L' : List Tok} {k lo hi lo' hi' : Nat} (h : Agr L L' k lo hi) (h1 : lo ≤ lo') (h2 : hi' ≤ hi) : Agr L L' k lo' hi' := fun i a b => h i (by omega) (by omega)
def onP (p : PS) (k e : Nat) : PS := ⟨p.at_ + k, 0, e⟩
section
variable {L L' : List Tok} {k e : Nat}
theorem Agr.cur {lo hi : Nat} (h : Agr L L' k lo hi) {p : PS} (h1 : lo ≤ p.at_) (h2 : p.at_ ≤ hi) : likeT (cur L p) (cur L' (onP p k e)) := h p.at_ h1 h2
/-- a function of the parser goes the same way where it goes well; d: it looks at the token behind what it takes too -/
def Alike {α : Type} (f : List Tok → PS → α × PS) (d : Nat) : Prop := ∀ (L L' : List Tok) (k e hi : Nat) (p : PS), (f L p).2.err = 0 → p.err = 0 ∧ p.at_ ≤ (f L p).2.at_ ∧ ((f L p).2.at_ + d ≤ hi + 1 → Agr L L' k p.at_ hi → f L' (onP p k e) = ((f L p).1, onP (f L p).2 k e))
theorem fail_e {p : PS} {n : Nat} (hn : n ≠ 0) (h : (failP L p n).err = 0) : False := fail_err hn h
theorem may_like {hi : Nat} {p : PS} (h : Agr L L' k p.at_ hi) (h2 : p.at_ ≤ hi) (h0 : p.err = 0) (s : List UInt8) : mayB L' (onP p k e) s = mayB L p s := by
  have hc := h.cur (e := e) (p := p) (Nat.le_refl _) h2
  unfold mayB onP at *
  rw [← hc.2.1, h0]
theorem need_like (s : List UInt8) {hi : Nat} {p : PS} (he : (needP L p s).err = 0) : p.err = 0 ∧ p.at_ + 1 = (needP L p s).at_ ∧ (p.at_ ≤ hi → Agr L L' k p.at_ hi → needP L' (onP p k e) s = onP (needP L p s) k e) := by
  cases hb : mayB L p s with
  | false => unfold needP at he; rw [hb, if_neg (by decide)] at he; exact absurd he (fail_err (by decide))
  | true =>
    have h0 : p.err = 0 := by unfold mayB at hb; simp only [decide_eq_true_eq] at hb; exact hb.1
    unfold needP at he ⊢
    rw [hb, if_pos rfl] at he ⊢
    refine ⟨h0, rfl, fun h1 h2 => ?_⟩
    rw [may_like h2 h1 h0, hb, if_pos rfl]
    unfold onP
    simp only
    congr 1; omega
theorem name_like {hi : Nat} {p : PS} (he : (nameP L p).err = 0) : p.err = 0 ∧ p.at_ + 1 = (nameP L p).at_ ∧ (p.at_ ≤ hi → Agr L L' k p.at_ hi → nameP L' (onP p k e) = onP (nameP L p) k e ∧ nameV L' (onP p k e) = nameV L p) := by
  cases hb : nameB L p with
  | false => unfold nameP at he; rw [hb, if_neg (by decide)] at he; exact absurd he (fail_err (by decide))
  | true =>
    have h0 : p.err = 0 := by unfold nameB at hb; simp only [Bool.and_eq_true, decide_eq_true_eq] at hb; exact hb.1.1
    have hb' := hb
    unfold nameP nameV at *
    rw [hb, if_pos rfl] at he ⊢
    refine ⟨h0, rfl, fun h1 h2 => ?_⟩
    have hc := h2.cur (e := e) (p := p) (Nat.le_refl _) h1
    have hb2 : nameB L' (onP p k e) = true := by
      rw [← hb]
      unfold nameB
      rw [← hc.1, ← hc.2.1, h0]
      rfl
    rw [hb2, if_pos rfl, if_pos rfl, if_pos rfl, ← hc.2.1]
    refine ⟨?_, rfl⟩
    unfold onP
    simp only
    congr 1; omega
theorem num_like {hi : Nat} {p : PS} (he : (numP L p).err = 0) : p.err = 0 ∧ p.at_ + 1 = (numP L p).at_ ∧ (p.at_ ≤ hi → Agr L L' k p.at_ hi → numP L' (onP p k e) = onP (numP L p) k e ∧ numV L' (onP p k e) = numV L p) := by
  cases hb : numB L p with
  | false => unfold numP at he; rw [hb, if_neg (by decide)] at he; exact absurd he (fail_err (by decide))
  | true =>
    have h0 : p.err = 0 := by unfold numB at hb; simp only [decide_eq_true_eq] at hb; exact hb.1
    unfold numP numV at *
    rw [hb, if_pos rfl] at he ⊢
    refine ⟨h0, rfl, fun h1 h2 => ?_⟩
    have hc := h2.cur (e := e) (p := p) (Nat.le_refl _) h1
    have hb2 : numB L' (onP p k e) = true := by
      rw [← hb]
      unfold numB
      rw [← hc.1, h0]
      rfl
    rw [hb2, if_pos rfl, if_pos rfl, if_pos rfl, ← hc.2.2]
    refine ⟨?_, rfl⟩
    unfold onP
    simp only
    congr 1; omega
theorem onP_at (p : PS) (k e : Nat) : (onP p k e).at_ = p.at_ + k := rfl
theorem onP_up {p : PS} : onP { p with at_ := p.at_ + 1 } k e = { onP p k e with at_ := (onP p k e).at_ + 1 } := by
  unfold onP; simp only; congr 1; omega
theorem may_e {p : PS} {s : List UInt8} (h : mayB L p s = true) : p.err = 0 := by unfold mayB at h; simp only [decide_eq_true_eq] at h; exact h.1
end
theorem typ_alike : ∀ n, Alike (fun L p => typP L n p) 1
  | 0 => fun L L' k e hi p he => by
    simp only [typP] at he
    exact absurd he (fail_err (by decide))
  | n + 1 => fun L L' k e hi p he => by
    simp only at he ⊢
    have ih := typ_alike n
    have hp0 : p.err = 0 := by
      rcases Nat.eq_zero_or_pos p.err with h | h
      · exact h
      · exfalso
        rw [typP_succ, if_pos (by omega)] at he
        simp only at he
        omega
    -- base first
    have base : (baseP L n p).2.err = 0 → p.at_ ≤ (baseP L n p).2.at_ ∧ ((baseP L n p).2.at_ ≤ hi → Agr L L' k p.at_ hi → baseP L' n (onP p k e) = ((baseP L n p).1, onP (baseP L n p).2 k e)) := by
      intro hb
      by_cases h1 : 0 < plainN (cur L p).text
      · have e1 : baseP L n p = (.leaf (plainN (cur L p).text), { p with at_ := p.at_ + 1 }) := by unfold baseP; rw [if_pos h1]
        rw [e1] at hb ⊢
        refine ⟨Nat.le_succ _, fun q1 q2 => ?_⟩
        have q1 : p.at_ + 1 ≤ hi := q1
        have hc := q2.cur (e := e) (p := p) (Nat.le_refl _) (by omega)
        unfold baseP
        rw [← hc.2.1, if_pos h1, onP_up]
      · by_cases h2 : mayB L p [108, 105, 115, 116] = true
        · have e1 : baseP L n p = (.list (typP L n (needP L { p with at_ := p.at_ + 1 } [60])).1, needP L (typP L n (needP L { p with at_ := p.at_ + 1 } [60])).2 [62]) := by unfold baseP; rw [if_neg h1, if_pos h2]
          rw [e1] at hb ⊢
          simp only at hb ⊢
          obtain ⟨a1, a2, a3⟩ := need_like (L' := L') (k := k) (e := e) [62] (hi := hi) hb
          obtain ⟨b1, b2, b3⟩ := ih L L' k e hi _ a1
          simp only at b2 b3
          obtain ⟨c1, c2, c3⟩ := need_like (L' := L') (k := k) (e := e) [60] (hi := hi) b1
          have c2 : p.at_ + 1 + 1 = _ := c2
          refine ⟨by omega, fun q1 q2 => ?_⟩
          have hc := q2.cur (e := e) (p := p) (Nat.le_refl _) (by omega)
          have hm := may_like (e := e) q2 (by omega) hp0 [108, 105, 115, 116]
          unfold baseP
          rw [← hc.2.1, if_neg h1, hm, if_pos h2]
          simp only
          rw [← onP_up, c3 (by show p.at_ + 1 ≤ hi; omega) (q2.sub (by show p.at_ ≤ p.at_ + 1; omega) (Nat.le_refl _)), b3 (by omega) (q2.sub (by omega) (Nat.le_refl _))]
          simp only
          rw [a3 (by omega) (q2.sub (by omega) (Nat.le_refl _))]
        · by_cases h3 : mayB L p [109, 97, 112] = true
          · have e1 : baseP L n p = (.map (typP L n (needP L { p with at_ := p.at_ + 1 } [60])).1 (typP L n (needP L (typP L n (needP L { p with at_ := p.at_ + 1 } [60])).2 [44])).1, needP L (typP L n (needP L (typP L n (needP L { p with at_ := p.at_ + 1 } [60])).2 [44])).2 [62]) := by unfold baseP; rw [if_neg h1, if_neg h2, if_pos h3]
            rw [e1] at hb ⊢
            simp only at hb ⊢
            obtain ⟨a1, a2, a3⟩ := need_like (L' := L') (k := k) (e := e) [62] (hi := hi) hb
            obtain ⟨b1, b2, b3⟩ := ih L L' k e hi _ a1
            simp only at b2 b3
            obtain ⟨c1, c2, c3⟩ := need_like (L' := L') (k := k) (e := e) [44] (hi := hi) b1
            obtain ⟨d1, d2, d3⟩ := ih L L' k e hi _ c1
            simp only at d2 d3
            obtain ⟨f1, f2, f3⟩ := need_like (L' := L') (k := k) (e := e) [60] (hi := hi) d1
            have f2 : p.at_ + 1 + 1 = _ := f2
            refine ⟨by omega, fun q1 q2 => ?_⟩
            have hc := q2.cur (e := e) (p := p) (Nat.le_refl _) (by omega)
            have hm := may_like (e := e) q2 (by omega) hp0 [108, 105, 115, 116]
            have hm2 := may_like (e := e) q2 (by omega) hp0 [109, 97, 112]
            unfold baseP
            rw [← hc.2.1, if_neg h1, hm, if_neg h2, hm2, if_pos h3]
            simp only
            rw [← onP_up, f3 (by show p.at_ + 1 ≤ hi; omega) (q2.sub (by show p.at_ ≤ p.at_ + 1; omega) (Nat.le_refl _)), d3 (by omega) (q2.sub (by omega) (Nat.le_refl _))]
            simp only
            rw [c3 (by omega) (q2.sub (by omega) (Nat.le_refl _)), b3 (by omega) (q2.sub (by omega) (Nat.le_refl _))]
            simp only
            rw [a3 (by omega) (q2.sub (by omega) (Nat.le_refl _))]
          · have e1 : baseP L n p = (.named (nameV L p), nameP L p) := by unfold baseP; rw [if_neg h1, if_neg h2, if_neg h3]
            rw [e1] at hb ⊢
            simp only at hb ⊢
            obtain ⟨a1, a2, a3⟩ := name_like (L' := L') (k := k) (e := e) (hi := hi) hb
            refine ⟨by omega, fun q1 q2 => ?_⟩
            have hc := q2.cur (e := e) (p := p) (Nat.le_refl _) (by omega)
            have hm := may_like (e := e) q2 (by omega) hp0 [108, 105, 115, 116]
            have hm2 := may_like (e := e) q2 (by omega) hp0 [109, 97, 112]
            obtain ⟨a4, a5⟩ := a3 (by omega) q2
            unfold baseP
            rw [← hc.2.1, if_neg h1, hm, if_neg h2, hm2, if_neg h3, a4, a5]
    rw [typP_succ, if_neg (by omega)] at he ⊢
    refine ⟨hp0, ?_⟩
    by_cases hm : mayB L (baseP L n p).2 [63] = true
    · rw [if_pos hm] at he ⊢
      have hb0 := may_e hm
      obtain ⟨b1, b2⟩ := base hb0
      refine ⟨by show p.at_ ≤ (baseP L n p).2.at_ + 1; omega, fun q1 q2 => ?_⟩
      have q1 : (baseP L n p).2.at_ + 1 + 1 ≤ hi + 1 := q1
      rw [typP_succ, if_neg (by show ¬ (0 ≠ 0); decide), b2 (by omega) q2]
      simp only
      rw [may_like (q2.sub b1 (Nat.le_refl _)) (by omega) hb0, if_pos hm, onP_up]
    · rw [if_neg hm] at he ⊢
      obtain ⟨b1, b2⟩ := base he
      refine ⟨b1, fun q1 q2 => ?_⟩
      rw [typP_succ, if_neg (by show ¬ (0 ≠ 0); decide), b2 (by omega) q2]
      simp only
      rw [may_like (q2.sub b1 (Nat.le_refl _)) (by omega) he, if_neg hm]
theorem field_alike : Alike fieldP 1 := fun L L' k e hi p he => by
  obtain ⟨a1, a2, a3⟩ := typ_alike 9 L L' k e hi _ he
  obtain ⟨b1, b2, b3⟩ := need_like (L' := L') (k := k) (e := e) [58] (hi := hi) a1
  obtain ⟨c1, c2, c3⟩ := name_like (L' := L') (k := k) (e := e) (hi := hi) b1
  obtain ⟨d1, d2, d3⟩ := num_like (L' := L') (k := k) (e := e) (hi := hi) c1
  refine ⟨d1, ?_, fun q1 q2 => ?_⟩
  · show p.at_ ≤ (typP L 9 (needP L (nameP L (numP L p)) [58])).2.at_
    simp only at a2; omega
  · have q1 : (typP L 9 (needP L (nameP L (numP L p)) [58])).2.at_ + 1 ≤ hi + 1 := q1
    simp only at a2 a3
    obtain ⟨d4, d5⟩ := d3 (by omega) q2
    obtain ⟨c4, c5⟩ := c3 (by omega) (q2.sub (by omega) (Nat.le_refl _))
    have b4 := b3 (by omega) (q2.sub (by omega) (Nat.le_refl _))
    have a4 := a3 (by omega) (q2.sub (by omega) (Nat.le_refl _))
    unfold fieldP
    simp only
    rw [d4, d5, c4, c5, b4, a4]
theorem value_alike : Alike valueP 1 := fun L L' k e hi p he => by
  obtain ⟨c1, c2, c3⟩ := name_like (L' := L') (k := k) (e := e) (hi := hi) he
  obtain ⟨d1, d2, d3⟩ := num_like (L' := L') (k := k) (e := e) (hi := hi) c1
  refine ⟨d1, ?_, fun q1 q2 => ?_⟩
  · show p.at_ ≤ (nameP L (numP L p)).at_
    omega
  · have q1 : (nameP L (numP L p)).at_ + 1 ≤ hi + 1 := q1
    obtain ⟨d4, d5⟩ := d3 (by omega) q2
    obtain ⟨c4, c5⟩ := c3 (by omega) (q2.sub (by omega) (Nat.le_refl _))
    unfold valueP
    simp only
    rw [d4, d5, c4, c5]
theorem mayP_like {L L' : List Tok} {k e hi : Nat} {p : PS} (s : List UInt8) (he : p.err = 0) : (mayP L p s).err = 0 ∧ p.at_ ≤ (mayP L p s).at_ ∧ (p.at_ ≤ hi → Agr L L' k p.at_ hi → mayP L' (onP p k e) s = onP (mayP L p s) k e) := by
  unfold mayP
  refine ⟨by split <;> exact he, by split <;> simp, fun q1 q2 => ?_⟩
  rw [may_like q2 q1 he]
  split
  · rw [onP_up]
  · rfl
theorem mayP_err {L : List Tok} {p : PS} {s : List UInt8} : (mayP L p s).err = p.err := by unfold mayP; split <;> rfl
theorem method_alike : Alike methodP 1 := fun L L' k e hi p he => by
  obtain ⟨a1, a2, a3⟩ := name_like (L' := L') (k := k) (e := e) (hi := hi) he
  obtain ⟨b1, b2, b3⟩ := need_like (L' := L') (k := k) (e := e) [58] (hi := hi) a1
  obtain ⟨c1, c2, c3⟩ := need_like (L' := L') (k := k) (e := e) [41] (hi := hi) b1
  obtain ⟨d1, d2, d3⟩ := name_like (L' := L') (k := k) (e := e) (hi := hi) c1
  obtain ⟨f1, f2, f3⟩ := need_like (L' := L') (k := k) (e := e) [40] (hi := hi) d1
  obtain ⟨g1, g2, g3⟩ := name_like (L' := L') (k := k) (e := e) (hi := hi) f1
  obtain ⟨h1, h2, h3⟩ := num_like (L' := L') (k := k) (e := e) (hi := hi) g1
  rw [mayP_err] at h1
  obtain ⟨i1, i2, i3⟩ := mayP_like (L := L) (L' := L') (k := k) (e := e) (hi := hi) [111, 110, 101, 119, 97, 121] h1
  have hat : p.at_ + 7 ≤ (methodP L p).2.at_ := by
    show p.at_ + 7 ≤ (nameP L (needP L (needP L (nameP L (needP L (nameP L (numP L (mayP L p [111, 110, 101, 119, 97, 121]))) [40])) [41]) [58])).at_
    omega
  refine ⟨h1, by omega, fun q1 q2 => ?_⟩
  have q1 : (nameP L (needP L (needP L (nameP L (needP L (nameP L (numP L (mayP L p [111, 110, 101, 119, 97, 121]))) [40])) [41]) [58])).at_ + 1 ≤ hi + 1 := q1
  have i4 := i3 (by omega) q2
  have j := may_like (e := e) q2 (by omega) h1 [111, 110, 101, 119, 97, 121]
  obtain ⟨h4, h5⟩ := h3 (by omega) (q2.sub (by omega) (Nat.le_refl _))
  obtain ⟨g4, g5⟩ := g3 (by omega) (q2.sub (by omega) (Nat.le_refl _))
  have f4 := f3 (by omega) (q2.sub (by omega) (Nat.le_refl _))
  obtain ⟨d4, d5⟩ := d3 (by omega) (q2.sub (by omega) (Nat.le_refl _))
  have c4 := c3 (by omega) (q2.sub (by omega) (Nat.le_refl _))
  have b4 := b3 (by omega) (q2.sub (by omega) (Nat.le_refl _))
  obtain ⟨a4, a5⟩ := a3 (by omega) (q2.sub (by omega) (Nat.le_refl _))
  unfold methodP
  simp only
  rw [i4, j, h4, h5, g4, g5, f4, d4, d5, c4, b4, a4, a5]
theorem rows_alike {α : Type} {row : List Tok → PS → α × PS} (hr : Alike row 1) : ∀ f n, Alike (fun L p => rowsP L (row L) f n p) 0
  | 0, n => fun L L' k e hi p he => ⟨he, Nat.le_refl _, fun _ _ => rfl⟩
  | f + 1, n => fun L L' k e hi p he => by
    have ih := rows_alike hr f (n + 1)
    simp only at he ⊢
    by_cases h0 : p.err = 0
    · by_cases h1 : mayB L p [125] = true
      · have e1 : rowsP L (row L) (f + 1) n p = ([], { p with at_ := p.at_ + 1 }) := by rw [rowsP, if_neg (by simp [h0]), if_pos h1]
        rw [e1]
        refine ⟨h0, Nat.le_succ _, fun q1 q2 => ?_⟩
        have q1 : p.at_ + 1 + 0 ≤ hi + 1 := q1
        rw [rowsP, if_neg (by show ¬ ¬ 0 = 0; simp), may_like q2 (by omega) h0, if_pos h1, onP_up]
      · by_cases h2 : n = 16 ∧ (cur L p).kind ≠ 4
        · exfalso
          have hf : (failP L p 3).err ≠ 0 := fail_err (by decide)
          have e1 : rowsP L (row L) (f + 1) n p = rowsP L (row L) f (n + 1) (failP L p 3) := by
            rw [rowsP, if_neg (by simp [h0]), if_neg h1]
            simp only [if_pos h2]
            rw [if_neg hf]
          rw [e1] at he
          exact hf (ih L L' k e hi _ he).1
        · have e1 : rowsP L (row L) (f + 1) n p = ((row L p).1 :: (rowsP L (row L) f (n + 1) (needP L (row L p).2 [59])).1, (rowsP L (row L) f (n + 1) (needP L (row L p).2 [59])).2) := by
            rw [rowsP, if_neg (by simp [h0]), if_neg h1]
            simp only [if_neg h2]
            rw [if_pos h0]
          rw [e1] at he ⊢
          simp only at he ⊢
          obtain ⟨a1, a2, a3⟩ := ih L L' k e hi _ he
          simp only at a2 a3
          obtain ⟨b1, b2, b3⟩ := need_like (L' := L') (k := k) (e := e) [59] (hi := hi) a1
          obtain ⟨c1, c2, c3⟩ := hr L L' k e hi _ b1
          refine ⟨h0, by omega, fun q1 q2 => ?_⟩
          have hc := q2.cur (e := e) (p := p) (Nat.le_refl _) (by omega)
          have c4 := c3 (by omega) q2
          have b4 := b3 (by omega) (q2.sub (by omega) (Nat.le_refl _))
          have a4 := a3 (by omega) (q2.sub (by omega) (Nat.le_refl _))
          rw [rowsP, if_neg (by show ¬ ¬ 0 = 0; simp), may_like q2 (by omega) h0, if_neg h1]
          simp only
          rw [← hc.1, if_neg h2, if_pos (by show 0 = 0; rfl), c4]
          simp only
          rw [b4, a4]
    · exfalso
      rw [rowsP, if_pos h0] at he
      exact h0 he
/-- the same declaration, but for its place -/
def likeD (x y : Dc) : Prop := x.kind = y.kind ∧ x.name = y.name ∧ x.fields = y.fields ∧ x.methods = y.methods
theorem kindP_like {L L' : List Tok} {k e hi : Nat} {p : PS} (h : Agr L L' k p.at_ hi) (h2 : p.at_ ≤ hi) (h0 : p.err = 0) : kindP L' (onP p k e) = kindP L p := by
  unfold kindP
  rw [may_like h h2 h0, may_like h h2 h0, may_like h h2 h0, may_like h h2 h0]
theorem rowsP_err {α : Type} {L : List Tok} {row : PS → α × PS} {f n : Nat} {p : PS} (h : p.err ≠ 0) : (rowsP L row f n p).2 = p := by
  cases f with
  | zero => rfl
  | succ f => rw [rowsP, if_pos h]
theorem decl_alike (L L' : List Tok) (k e hi : Nat) (p : PS) (he : (declP L p).2.err = 0) : p.err = 0 ∧ p.at_ + 1 ≤ (declP L p).2.at_ ∧ ((declP L p).2.at_ ≤ hi + 1 → Agr L L' k p.at_ hi → likeD (declP L' (onP p k e)).1 (declP L p).1 ∧ (declP L' (onP p k e)).2 = onP (declP L p).2 k e) := by
  have hp2 : (needP L (nameP L (kindQ L p)) [123]).err = 0 := by
    rcases Nat.eq_zero_or_pos (needP L (nameP L (kindQ L p)) [123]).err with h | h
    · exact h
    · exfalso
      unfold declP at he
      simp only at he
      split at he
      · simp only [rowsP_err (show (needP L (nameP L (kindQ L p)) [123]).err ≠ 0 by omega)] at he; omega
      · simp only [rowsP_err (show (needP L (nameP L (kindQ L p)) [123]).err ≠ 0 by omega)] at he; omega
  obtain ⟨a1, a2, a3⟩ := need_like (L' := L') (k := k) (e := e) [123] (hi := hi) hp2
  obtain ⟨b1, b2, b3⟩ := name_like (L' := L') (k := k) (e := e) (hi := hi) a1
  have hk0 : kindP L p ≠ 0 := fun h => by
    unfold kindQ at b1
    rw [if_pos h] at b1
    exact fail_err (by decide) b1
  have eq : kindQ L p = { p with at_ := p.at_ + 1 } := by unfold kindQ; rw [if_neg hk0]
  have h0 : p.err = 0 := by rw [eq] at b1; exact b1
  have b2' : p.at_ + 1 + 1 = (nameP L (kindQ L p)).at_ := by rw [eq] at b2 ⊢; exact b2
  have b1' : (kindQ L p).at_ = p.at_ + 1 := by rw [eq]
  -- what the head is in the other
  have head : (needP L (nameP L (kindQ L p)) [123]).at_ ≤ hi + 1 → Agr L L' k p.at_ hi → kindP L' (onP p k e) = kindP L p ∧ kindQ L' (onP p k e) = onP (kindQ L p) k e ∧ nameV L' (kindQ L' (onP p k e)) = nameV L (kindQ L p) ∧ needP L' (nameP L' (kindQ L' (onP p k e))) [123] = onP (needP L (nameP L (kindQ L p)) [123]) k e := by
    intro q1 q2
    have r1 := kindP_like (e := e) q2 (by omega) h0
    have r2 : kindQ L' (onP p k e) = onP (kindQ L p) k e := by
      unfold kindQ
      rw [r1, if_neg hk0, if_neg hk0, onP_up]
    obtain ⟨r3, r4⟩ := b3 (by omega) (q2.sub (by omega) (Nat.le_refl _))
    refine ⟨r1, r2, by rw [r2, r4], ?_⟩
    rw [r2, r3, a3 (by omega) (q2.sub (by omega) (Nat.le_refl _))]
  by_cases h4 : kindP L p = 4
  · have e1 : declP L p = (⟨4, nameV L (kindQ L p), [], (rowsP L (methodP L) 18 0 (needP L (nameP L (kindQ L p)) [123])).1, (cur L p).at_⟩, (rowsP L (methodP L) 18 0 (needP L (nameP L (kindQ L p)) [123])).2) := by
      unfold declP; simp only [if_pos h4]
    rw [e1] at he ⊢
    simp only at he ⊢
    obtain ⟨c1, c2, c3⟩ := rows_alike method_alike 18 0 L L' k e hi _ he
    simp only at c2 c3
    refine ⟨h0, by omega, fun q1 q2 => ?_⟩
    obtain ⟨r1, r2, r3, r4⟩ := head (by omega) q2
    have c4 := c3 (by omega) (q2.sub (by omega) (Nat.le_refl _))
    unfold declP
    simp only [r1, if_pos h4, r4, c4, r3]
    exact ⟨⟨rfl, rfl, rfl, rfl⟩, by trivial⟩
  · by_cases h3 : kindP L p = 3
    · have e1 : declP L p = (⟨kindP L p, nameV L (kindQ L p), (rowsP L (valueP L) 18 0 (needP L (nameP L (kindQ L p)) [123])).1, [], (cur L p).at_⟩, (rowsP L (valueP L) 18 0 (needP L (nameP L (kindQ L p)) [123])).2) := by
        unfold declP; simp only [if_neg h4, if_pos h3]
      rw [e1] at he ⊢
      simp only at he ⊢
      obtain ⟨c1, c2, c3⟩ := rows_alike value_alike 18 0 L L' k e hi _ he
      simp only at c2 c3
      refine ⟨h0, by omega, fun q1 q2 => ?_⟩
      obtain ⟨r1, r2, r3, r4⟩ := head (by omega) q2
      have c4 := c3 (by omega) (q2.sub (by omega) (Nat.le_refl _))
      unfold declP
      simp only [r1, if_neg h4, if_pos h3, r4, c4, r3]
      exact ⟨⟨rfl, rfl, rfl, rfl⟩, by trivial⟩
    · have e1 : declP L p = (⟨kindP L p, nameV L (kindQ L p), (rowsP L (fieldP L) 18 0 (needP L (nameP L (kindQ L p)) [123])).1, [], (cur L p).at_⟩, (rowsP L (fieldP L) 18 0 (needP L (nameP L (kindQ L p)) [123])).2) := by
        unfold declP; simp only [if_neg h4, if_neg h3]
      rw [e1] at he ⊢
      simp only at he ⊢
      obtain ⟨c1, c2, c3⟩ := rows_alike field_alike 18 0 L L' k e hi _ he
      simp only at c2 c3
      refine ⟨h0, by omega, fun q1 q2 => ?_⟩
      obtain ⟨r1, r2, r3, r4⟩ := head (by omega) q2
      have c4 := c3 (by omega) (q2.sub (by omega) (Nat.le_refl _))
      unfold declP
      simp only [r1, if_neg h4, if_neg h3, r4, c4, r3]
      exact ⟨⟨rfl, rfl, rfl, rfl⟩, by trivial⟩
end Go.Proofs.YtofhakbmmgpgdaaDoor
end

section
/- Declarations, one behind the other: how the parser's plain words go on. -/
namespace Go.Proofs.YtofhakbmmgpgdaaDoor
open Go Go.RowKit

theorem decls_stop {L : List Tok} {f n : Nat} {p : PS} (h : ¬ (p.err = 0) ∨ (cur L p).kind = 4) : declsP L f n p = ([], p) := by
  cases f with
  | zero => rfl
  | succ f => rw [declsP, if_pos h]
theorem decls_full {L : List Tok} {f : Nat} {p : PS} (h0 : p.err = 0) (hk : (cur L p).kind ≠ 4) : declsP L (f + 1) 16 p = ([], failP L p 3) := by
  rw [declsP, if_neg (by simp [h0, hk]), if_pos rfl]
theorem decls_step {L : List Tok} {f n : Nat} {p : PS} (h0 : p.err = 0) (hk : (cur L p).kind ≠ 4) (hn : n ≠ 16) : declsP L (f + 1) n p = ((declP L p).1 :: (declsP L f (n + 1) (declP L p).2).1, (declsP L f (n + 1) (declP L p).2).2) := by
  rw [declsP, if_neg (by simp [h0, hk]), if_neg hn]
theorem decls_len (L : List Tok) : ∀ (f n : Nat) (p : PS), n ≤ 16 → (declsP L f n p).1.length + n ≤ 16
  | 0, n, p, h => by show 0 + n ≤ 16; omega
  | f + 1, n, p, h => by
    by_cases h1 : ¬ (p.err = 0) ∨ (cur L p).kind = 4
    · rw [decls_stop h1]; show 0 + n ≤ 16; omega
    · have h0 : p.err = 0 := Classical.not_not.1 fun h => h1 (.inl h)
      have hk : (cur L p).kind ≠ 4 := fun h => h1 (.inr h)
      by_cases hn : n = 16
      · subst hn; rw [decls_full h0 hk]; show 0 + 16 ≤ 16; omega
      · rw [decls_step h0 hk hn]
        have := decls_len L f (n + 1) (declP L p).2 (by omega)
        simp only [List.length_cons]; omega
theorem decls_end {L : List Tok} (hL : TL L) : ∀ (f n : Nat) (p : PS), (declsP L f n p).2.err = 0 → 17 ≤ f + n → n ≤ 16 → p.at_ < L.length → (cur L (declsP L f n p).2).kind = 4 ∧ (declsP L f n p).2.at_ < L.length
  | 0, n, p, _, h1, h2, _ => by omega
  | f + 1, n, p, he, h1, h2, hp => by
    by_cases h3 : ¬ (p.err = 0) ∨ (cur L p).kind = 4
    · rw [decls_stop h3] at he ⊢
      rcases h3 with h3 | h3
      · exact absurd he h3
      · exact ⟨h3, hp⟩
    · have h0 : p.err = 0 := Classical.not_not.1 fun h => h3 (.inl h)
      have hk : (cur L p).kind ≠ 4 := fun h => h3 (.inr h)
      by_cases hn : n = 16
      · subst hn
        rw [decls_full h0 hk] at he
        exact absurd he (fail_err (by decide))
      · rw [decls_step h0 hk hn] at he ⊢
        exact decls_end hL f (n + 1) _ he (by omega) (by omega) (decl_at hL hp)
theorem decls_err {L : List Tok} {f n : Nat} {p : PS} (h : (declsP L f n p).2.err = 0) : p.err = 0 := by
  rcases Nat.eq_zero_or_pos p.err with h0 | h0
  · exact h0
  · rw [decls_stop (.inl (by omega))] at h; exact h
end Go.Proofs.YtofhakbmmgpgdaaDoor
end

section
/- The declarations of two texts, a line's end between, are those of both. -/
namespace Go.Proofs.YtofhakbmmgpgdaaDoor
open Go Go.RowKit

/-- the same declarations, but for their places -/
def LikeDs : List Dc → List Dc → Prop
  | [], [] => True
  | x :: r, y :: s => likeD x y ∧ LikeDs r s
  | _, _ => False
theorem LikeDs.app : ∀ {a b c d : List Dc}, LikeDs a b → LikeDs c d → LikeDs (a ++ c) (b ++ d)
  | [], [], _, _, _, h => h
  | _ :: _, _ :: _, _, _, h, h2 => ⟨h.1, LikeDs.app h.2 h2⟩
theorem LikeDs.len : ∀ {a b : List Dc}, LikeDs a b → a.length = b.length
  | [], [], _ => rfl
  | _ :: _, _ :: _, h => by simp [LikeDs.len h.2]
/-- the declarations of the one stand in the other -/
theorem decls_join {L L' : List Tok} {k e hi : Nat} : ∀ (f n : Nat) (p : PS), (declsP L f n p).2.err = 0 → p.at_ ≤ (declsP L f n p).2.at_ ∧ ((declsP L f n p).2.at_ ≤ hi + 1 → Agr L L' k p.at_ hi → ∀ n',
    (n' + (declsP L f n p).1.length ≤ 16 → ∃ ds, LikeDs ds (declsP L f n p).1 ∧ ∀ g, declsP L' ((declsP L f n p).1.length + g) n' (onP p k e) = (ds ++ (declsP L' g (n' + (declsP L f n p).1.length) (onP (declsP L f n p).2 k e)).1, (declsP L' g (n' + (declsP L f n p).1.length) (onP (declsP L f n p).2 k e)).2)) ∧
    (16 < n' + (declsP L f n p).1.length → n' ≤ 16 → ∀ g, 17 ≤ g + n' → (declsP L' g n' (onP p k e)).2.err = 3))
  | f, n, p, he => by
    have stop : declsP L f n p = ([], p) → p.at_ ≤ (declsP L f n p).2.at_ ∧ ((declsP L f n p).2.at_ ≤ hi + 1 → Agr L L' k p.at_ hi → ∀ n',
        (n' + (declsP L f n p).1.length ≤ 16 → ∃ ds, LikeDs ds (declsP L f n p).1 ∧ ∀ g, declsP L' ((declsP L f n p).1.length + g) n' (onP p k e) = (ds ++ (declsP L' g (n' + (declsP L f n p).1.length) (onP (declsP L f n p).2 k e)).1, (declsP L' g (n' + (declsP L f n p).1.length) (onP (declsP L f n p).2 k e)).2)) ∧
        (16 < n' + (declsP L f n p).1.length → n' ≤ 16 → ∀ g, 17 ≤ g + n' → (declsP L' g n' (onP p k e)).2.err = 3)) := fun h => by
      rw [h]
      refine ⟨Nat.le_refl _, fun _ _ n' => ⟨fun _ => ⟨[], trivial, fun g => ?_⟩, fun h1 h2 => ?_⟩⟩
      · simp
      · simp only [List.length_nil] at h1; omega
    cases f with
    | zero => exact stop rfl
    | succ f =>
      by_cases h3 : ¬ (p.err = 0) ∨ (cur L p).kind = 4
      · exact stop (decls_stop h3)
      · have h0 : p.err = 0 := Classical.not_not.1 fun h => h3 (.inl h)
        have hk : (cur L p).kind ≠ 4 := fun h => h3 (.inr h)
        by_cases hn : n = 16
        · subst hn
          rw [decls_full h0 hk] at he
          exact absurd he (fail_err (by decide))
        · rw [decls_step h0 hk hn] at he ⊢
          simp only at he ⊢
          obtain ⟨i1, i2⟩ := decls_join (L := L) (L' := L') (k := k) (e := e) (hi := hi) f (n + 1) (declP L p).2 he
          obtain ⟨d1, d2, d3⟩ := decl_alike L L' k e hi p (decls_err he)
          refine ⟨by omega, fun q1 q2 n' => ?_⟩
          have hc := q2.cur (e := e) (p := p) (Nat.le_refl _) (by omega)
          have hk' : (cur L' (onP p k e)).kind ≠ 4 := by rw [← hc.1]; exact hk
          have h0' : (onP p k e).err = 0 := rfl
          obtain ⟨d4, d5⟩ := d3 (by omega) q2
          obtain ⟨j1, j2⟩ := i2 q1 (q2.sub (by omega) (Nat.le_refl _)) (n' + 1)
          generalize (declsP L f (n + 1) (declP L p).2).1 = ds1 at *
          generalize (declsP L f (n + 1) (declP L p).2).2 = q at *
          refine ⟨fun h => ?_, fun h h' g hg => ?_⟩
          · simp only [List.length_cons] at h
            obtain ⟨ds, k1, k2⟩ := j1 (by omega)
            refine ⟨(declP L' (onP p k e)).1 :: ds, ⟨d4, k1⟩, fun g => ?_⟩
            have := k2 g
            rw [List.length_cons, show ds1.length + 1 + g = (ds1.length + g) + 1 by omega, decls_step h0' hk' (by omega), d5, this, show n' + 1 + ds1.length = n' + (ds1.length + 1) by omega]
            rfl
          · simp only [List.length_cons] at h
            obtain ⟨g, rfl⟩ : ∃ x, g = x + 1 := ⟨g - 1, by omega⟩
            by_cases hn' : n' = 16
            · subst hn'
              rw [decls_full h0' hk']
              show (failP L' (onP p k e) 3).err = 3
              unfold failP
              rw [if_pos h0']
            · rw [decls_step h0' hk' hn', d5]
              exact j2 (by omega) (by omega) g (by omega)
theorem parse_ok {s : List UInt8} (h : (parseT s).2.1 = 0) : (tokT s).2.1 = 0 ∧ (declsP (tokT s).1 17 0 ⟨0, 0, 0⟩).2.err = 0 ∧ parseT s = ((declsP (tokT s).1 17 0 ⟨0, 0, 0⟩).1, 0, 0) := by
  unfold parseT at *
  by_cases h1 : (tokT s).2.1 = 0
  · simp only [h1, ne_eq, not_true_eq_false, if_false] at h ⊢
    by_cases h2 : (declsP (tokT s).1 17 0 ⟨0, 0, 0⟩).2.err = 0
    · simp only [h2, not_true_eq_false, if_false] at h ⊢
      exact ⟨trivial, trivial, trivial⟩
    · simp only [if_pos h2] at h
      exact absurd h h2
  · simp only [ne_eq, h1, not_false_eq_true, if_true] at h
theorem parse_bad {s : List UInt8} (h : (parseT s).2.1 ≠ 0) : (parseT s).1 = [] := by
  unfold parseT at *
  by_cases h1 : (tokT s).2.1 = 0
  · simp only [h1, ne_eq, not_true_eq_false, if_false] at h ⊢
    by_cases h2 : (declsP (tokT s).1 17 0 ⟨0, 0, 0⟩).2.err = 0
    · simp only [h2, not_true_eq_false, if_false] at h
    · simp only [if_pos h2]
  · simp only [ne_eq, h1, not_false_eq_true, if_true]
theorem getD_app {m : List Tok} {r : List Tok} {i : Nat} (d : Tok) (h : i < m.length) : (m ++ r).getD i d = m.getD i d := by
  simp [List.getD_eq_getElem?_getD, List.getElem?_append_left h]
theorem parse_join {a b : List UInt8} (ha : (parseT a).2.1 = 0) (hb : (parseT b).2.1 = 0) :
    (1024 < a.length + b.length + 1 ∨ 16 < (parseT a).1.length + (parseT b).1.length → (parseT (a ++ 10 :: b)).2.1 = 3) ∧
    (a.length + b.length + 1 ≤ 1024 → (parseT a).1.length + (parseT b).1.length ≤ 16 → ∃ ds, parseT (a ++ 10 :: b) = (ds, 0, 0) ∧ LikeDs ds ((parseT a).1 ++ (parseT b).1)) := by
  have hl : (a ++ 10 :: b).length = a.length + b.length + 1 := by simp; omega
  by_cases hlong : 1024 < a.length + b.length + 1
  · refine ⟨fun _ => ?_, fun h => by omega⟩
    have e : tokT (a ++ 10 :: b) = ([], 3, 0) := if_pos (by omega)
    unfold parseT
    rw [e]
    rfl
  obtain ⟨a1, a2, a3⟩ := parse_ok ha
  obtain ⟨b1, b2, b3⟩ := parse_ok hb
  have ta : tokT a = lexN a 0 := if_neg (by omega)
  have tb : tokT b = lexN b 0 := if_neg (by omega)
  have tz : tokT (a ++ 10 :: b) = lexN (a ++ 10 :: b) 0 := if_neg (by omega)
  have hLa := tl_of a1
  have hLb := tl_of b1
  rw [ta] at a1 a2 a3 hLa
  rw [tb] at b1 b2 b3 hLb
  obtain ⟨m, h1, h2⟩ := lex_join a1 b1
  obtain ⟨m', h1', h3, _⟩ := lex_toks a 0 a1
  have hmm : m' = m := by rw [h1] at h1'; exact (List.append_cancel_right h1').symm
  subst hmm
  -- where the first ends
  obtain ⟨f1, f2⟩ := decls_end hLa 17 0 ⟨0, 0, 0⟩ a2 (by omega) (by omega) hLa.pos
  have hq : (declsP (lexN a 0).1 17 0 ⟨0, 0, 0⟩).2.at_ = m'.length := by
    have f2' := f2
    rw [h1] at f2'
    simp only [List.length_append, List.length_singleton] at f2'
    rcases Nat.lt_or_ge (declsP (lexN a 0).1 17 0 ⟨0, 0, 0⟩).2.at_ m'.length with h | h
    · exfalso
      have hm := cur_mem f2
      have hat := cur_at f2
      generalize cur (lexN a 0).1 (declsP (lexN a 0).1 17 0 ⟨0, 0, 0⟩).2 = t at *
      rw [h1, List.getElem?_append_left (by rw [h1] at h; exact h)] at hat
      exact (h3 t (List.mem_of_getElem? hat)).1.kind4 f1
    · rw [h1] at h ⊢; omega
  have agA : Agr (lexN a 0).1 (m' ++ (lexN b 0).1.map (upT (a.length + 1))) 0 0 (m'.length - 1) ∨ m'.length = 0 := by
    rcases Nat.eq_zero_or_pos m'.length with h | h
    · exact .inr h
    · refine .inl fun i _ hi => ?_
      rw [Nat.add_zero, h1, getD_app _ (by omega), getD_app _ (by omega)]
      exact ⟨rfl, rfl, rfl⟩
  have agB : ∀ hi, Agr (lexN b 0).1 (m' ++ (lexN b 0).1.map (upT (a.length + 1))) m'.length 0 hi := fun hi i _ _ => by
    rw [show (m' ++ (lexN b 0).1.map (upT (a.length + 1))).getD (i + m'.length) ⟨4, [], 0, 0⟩ = ((lexN b 0).1.map (upT (a.length + 1))).getD i ⟨4, [], 0, 0⟩ by
      rw [List.getD_eq_getElem?_getD, List.getD_eq_getElem?_getD, List.getElem?_append_right (by omega), show i + m'.length - m'.length = i by omega]]
    rw [List.getD_eq_getElem?_getD, List.getD_eq_getElem?_getD, List.getElem?_map]
    cases (lexN b 0).1[i]? with
    | none => exact ⟨rfl, rfl, rfl⟩
    | some t => exact ⟨rfl, rfl, rfl⟩
  have la := decls_len (lexN a 0).1 17 0 ⟨0, 0, 0⟩ (by omega)
  obtain ⟨g1, g2⟩ := decls_end hLb 17 0 ⟨0, 0, 0⟩ b2 (by omega) (by omega) hLb.pos
  have lb := decls_len (lexN b 0).1 17 0 ⟨0, 0, 0⟩ (by omega)
  generalize hda : declsP (lexN a 0).1 17 0 ⟨0, 0, 0⟩ = da at *
  generalize hdb : declsP (lexN b 0).1 17 0 ⟨0, 0, 0⟩ = db at *
  have first : ∃ ds, LikeDs ds da.1 ∧ ∀ g, declsP (m' ++ (lexN b 0).1.map (upT (a.length + 1))) (da.1.length + g) 0 ⟨0, 0, 0⟩ = (ds ++ (declsP (m' ++ (lexN b 0).1.map (upT (a.length + 1))) g da.1.length ⟨m'.length, 0, 0⟩).1, (declsP (m' ++ (lexN b 0).1.map (upT (a.length + 1))) g da.1.length ⟨m'.length, 0, 0⟩).2) := by
    rcases agA with ag | hm0
    · obtain ⟨_, j⟩ := decls_join (L := (lexN a 0).1) (L' := m' ++ (lexN b 0).1.map (upT (a.length + 1))) (k := 0) (e := 0) (hi := m'.length - 1) 17 0 ⟨0, 0, 0⟩ (by rw [hda]; exact a2)
      rw [hda] at j
      obtain ⟨ds, k1, k2⟩ := (j (by omega) ag 0).1 (by omega)
      refine ⟨ds, k1, fun g => ?_⟩
      have := k2 g
      rw [show onP ⟨0, 0, 0⟩ 0 0 = ⟨0, 0, 0⟩ from rfl, show onP da.2 0 0 = ⟨m'.length, 0, 0⟩ by unfold onP; rw [hq]; rfl, Nat.zero_add] at this
      exact this
    · have hm0' : m' = [] := List.length_eq_zero_iff.1 hm0
      have : da = ([], ⟨0, 0, 0⟩) := by
        rw [← hda, h1, hm0']
        exact decls_stop (.inr rfl)
      refine ⟨[], by rw [this]; trivial, fun g => ?_⟩
      rw [this, hm0]
      simp
  obtain ⟨ds1, k1, k2⟩ := first
  obtain ⟨_, j⟩ := decls_join (L := (lexN b 0).1) (L' := m' ++ (lexN b 0).1.map (upT (a.length + 1))) (k := m'.length) (e := 0) (hi := db.2.at_) 17 0 ⟨0, 0, 0⟩ (by rw [hdb]; exact b2)
  rw [hdb] at j
  obtain ⟨j1, j2⟩ := j (Nat.le_succ _) (agB _) da.1.length
  rw [show onP ⟨0, 0, 0⟩ m'.length 0 = ⟨m'.length, 0, 0⟩ by unfold onP; simp] at j1 j2
  have hz : parseT (a ++ 10 :: b) = if (declsP (m' ++ (lexN b 0).1.map (upT (a.length + 1))) 17 0 ⟨0, 0, 0⟩).2.err ≠ 0 then ([], (declsP (m' ++ (lexN b 0).1.map (upT (a.length + 1))) 17 0 ⟨0, 0, 0⟩).2.err, (declsP (m' ++ (lexN b 0).1.map (upT (a.length + 1))) 17 0 ⟨0, 0, 0⟩).2.eat) else ((declsP (m' ++ (lexN b 0).1.map (upT (a.length + 1))) 17 0 ⟨0, 0, 0⟩).1, 0, 0) := by
    unfold parseT
    rw [tz, h2]
    rfl
  have e17 : 17 = da.1.length + (17 - da.1.length) := by omega
  have hfst := k2 (17 - da.1.length)
  rw [← e17] at hfst
  rw [a3, b3, hz, hfst]
  simp only
  refine ⟨fun h => ?_, fun _ h => ?_⟩
  · have h : 16 < da.1.length + db.1.length := by rcases h with h | h; omega; exact h
    have := j2 h (by omega) (17 - da.1.length) (by omega)
    rw [if_pos (by rw [this]; decide)]
    exact this
  · obtain ⟨ds2, l1, l2⟩ := j1 h
    have hs := l2 (17 - da.1.length - db.1.length)
    rw [show db.1.length + (17 - da.1.length - db.1.length) = 17 - da.1.length by omega] at hs
    have hlast : declsP (m' ++ (lexN b 0).1.map (upT (a.length + 1))) (17 - da.1.length - db.1.length) (da.1.length + db.1.length) (onP db.2 m'.length 0) = ([], onP db.2 m'.length 0) := by
      refine decls_stop (.inr ?_)
      have := (agB db.2.at_).cur (e := 0) (p := db.2) (Nat.zero_le _) (Nat.le_refl _)
      rw [← this.1]; exact g1
    rw [hs, hlast]
    simp only [List.append_nil]
    refine ⟨ds1 ++ ds2, ?_, k1.app l1⟩
    rw [if_neg (by show ¬ 0 ≠ 0; simp)]
end Go.Proofs.YtofhakbmmgpgdaaDoor
end
