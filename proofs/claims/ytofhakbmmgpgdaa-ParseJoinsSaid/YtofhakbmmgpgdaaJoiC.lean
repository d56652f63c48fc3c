/- The declarations of two texts, a line's end between, are those of both. -/
import Derived.Test.YtofhakbmmgpgdaaJoiB
import Derived.Test.YtofhakbmmgpgdaaPrsQ
namespace Go.Proofs.Ytofhakbmmgpgdaa
open Go Go.RowKit

/-- the same declarations, but for their places -/
def LikeDs : List Dc → List Dc → Prop
  | [], [] => True
  | x :: r, y :: s => likeD x y ∧ LikeDs r s
  | _, _ => False
theorem LikeDs.app : ∀ {a b c d : List Dc}, LikeDs a b → LikeDs c d → LikeDs (a ++ c) (b ++ d)
  | [], [], _, _, _, h => h
  | _ :: _, _ :: _, _, _, h, h2 => ⟨h.1, LikeDs.app h.2 h2⟩
theorem LikeDs.len : ∀ {a b : List Dc}, LikeDs a b → a.length = b.length
  | [], [], _ => rfl
  | _ :: _, _ :: _, h => by simp [LikeDs.len h.2]
/-- the declarations of the one stand in the other -/
theorem decls_join {L L' : List Tok} {k e hi : Nat} : ∀ (f n : Nat) (p : PS), (declsP L f n p).2.err = 0 → p.at_ ≤ (declsP L f n p).2.at_ ∧ ((declsP L f n p).2.at_ ≤ hi + 1 → Agr L L' k p.at_ hi → ∀ n',
    (n' + (declsP L f n p).1.length ≤ 16 → ∃ ds, LikeDs ds (declsP L f n p).1 ∧ ∀ g, declsP L' ((declsP L f n p).1.length + g) n' (onP p k e) = (ds ++ (declsP L' g (n' + (declsP L f n p).1.length) (onP (declsP L f n p).2 k e)).1, (declsP L' g (n' + (declsP L f n p).1.length) (onP (declsP L f n p).2 k e)).2)) ∧
    (16 < n' + (declsP L f n p).1.length → n' ≤ 16 → ∀ g, 17 ≤ g + n' → (declsP L' g n' (onP p k e)).2.err = 3))
  | f, n, p, he => by
    have stop : declsP L f n p = ([], p) → p.at_ ≤ (declsP L f n p).2.at_ ∧ ((declsP L f n p).2.at_ ≤ hi + 1 → Agr L L' k p.at_ hi → ∀ n',
        (n' + (declsP L f n p).1.length ≤ 16 → ∃ ds, LikeDs ds (declsP L f n p).1 ∧ ∀ g, declsP L' ((declsP L f n p).1.length + g) n' (onP p k e) = (ds ++ (declsP L' g (n' + (declsP L f n p).1.length) (onP (declsP L f n p).2 k e)).1, (declsP L' g (n' + (declsP L f n p).1.length) (onP (declsP L f n p).2 k e)).2)) ∧
        (16 < n' + (declsP L f n p).1.length → n' ≤ 16 → ∀ g, 17 ≤ g + n' → (declsP L' g n' (onP p k e)).2.err = 3)) := fun h => by
      rw [h]
      refine ⟨Nat.le_refl _, fun _ _ n' => ⟨fun _ => ⟨[], trivial, fun g => ?_⟩, fun h1 h2 => ?_⟩⟩
      · simp
      · simp only [List.length_nil] at h1; omega
    cases f with
    | zero => exact stop rfl
    | succ f =>
      by_cases h3 : ¬ (p.err = 0) ∨ (cur L p).kind = 4
      · exact stop (decls_stop h3)
      · have h0 : p.err = 0 := Classical.not_not.1 fun h => h3 (.inl h)
        have hk : (cur L p).kind ≠ 4 := fun h => h3 (.inr h)
        by_cases hn : n = 16
        · subst hn
          rw [decls_full h0 hk] at he
          exact absurd he (fail_err (by decide))
        · rw [decls_step h0 hk hn] at he ⊢
          simp only at he ⊢
          obtain ⟨i1, i2⟩ := decls_join (L := L) (L' := L') (k := k) (e := e) (hi := hi) f (n + 1) (declP L p).2 he
          obtain ⟨d1, d2, d3⟩ := decl_alike L L' k e hi p (decls_err he)
          refine ⟨by omega, fun q1 q2 n' => ?_⟩
          have hc := q2.cur (e := e) (p := p) (Nat.le_refl _) (by omega)
          have hk' : (cur L' (onP p k e)).kind ≠ 4 := by rw [← hc.1]; exact hk
          have h0' : (onP p k e).err = 0 := rfl
          obtain ⟨d4, d5⟩ := d3 (by omega) q2
          obtain ⟨j1, j2⟩ := i2 q1 (q2.sub (by omega) (Nat.le_refl _)) (n' + 1)
          generalize (declsP L f (n + 1) (declP L p).2).1 = ds1 at *
          generalize (declsP L f (n + 1) (declP L p).2).2 = q at *
          refine ⟨fun h => ?_, fun h h' g hg => ?_⟩
          · simp only [List.length_cons] at h
            obtain ⟨ds, k1, k2⟩ := j1 (by omega)
            refine ⟨(declP L' (onP p k e)).1 :: ds, ⟨d4, k1⟩, fun g => ?_⟩
            have := k2 g
            rw [List.length_cons, show ds1.length + 1 + g = (ds1.length + g) + 1 by omega, decls_step h0' hk' (by omega), d5, this, show n' + 1 + ds1.length = n' + (ds1.length + 1) by omega]
            rfl
          · simp only [List.length_cons] at h
            obtain ⟨g, rfl⟩ : ∃ x, g = x + 1 := ⟨g - 1, by omega⟩
            by_cases hn' : n' = 16
            · subst hn'
              rw [decls_full h0' hk']
              show (failP L' (onP p k e) 3).err = 3
              unfold failP
              rw [if_pos h0']
            · rw [decls_step h0' hk' hn', d5]
              exact j2 (by omega) (by omega) g (by omega)
theorem parse_ok {s : List UInt8} (h : (parseT s).2.1 = 0) : (tokT s).2.1 = 0 ∧ (declsP (tokT s).1 17 0 ⟨0, 0, 0⟩).2.err = 0 ∧ parseT s = ((declsP (tokT s).1 17 0 ⟨0, 0, 0⟩).1, 0, 0) := by
  unfold parseT at *
  by_cases h1 : (tokT s).2.1 = 0
  · simp only [h1, ne_eq, not_true_eq_false, if_false] at h ⊢
    by_cases h2 : (declsP (tokT s).1 17 0 ⟨0, 0, 0⟩).2.err = 0
    · simp only [h2, not_true_eq_false, if_false] at h ⊢
      exact ⟨trivial, trivial, trivial⟩
    · simp only [if_pos h2] at h
      exact absurd h h2
  · simp only [ne_eq, h1, not_false_eq_true, if_true] at h
theorem parse_bad {s : List UInt8} (h : (parseT s).2.1 ≠ 0) : (parseT s).1 = [] := by
  unfold parseT at *
  by_cases h1 : (tokT s).2.1 = 0
  · simp only [h1, ne_eq, not_true_eq_false, if_false] at h ⊢
    by_cases h2 : (declsP (tokT s).1 17 0 ⟨0, 0, 0⟩).2.err = 0
    · simp only [h2, not_true_eq_false, if_false] at h
    · simp only [if_pos h2]
  · simp only [ne_eq, h1, not_false_eq_true, if_true]
theorem getD_app {m : List Tok} {r : List Tok} {i : Nat} (d : Tok) (h : i < m.length) : (m ++ r).getD i d = m.getD i d := by
  simp [List.getD_eq_getElem?_getD, List.getElem?_append_left h]
theorem parse_join {a b : List UInt8} (ha : (parseT a).2.1 = 0) (hb : (parseT b).2.1 = 0) :
    (1024 < a.length + b.length + 1 ∨ 16 < (parseT a).1.length + (parseT b).1.length → (parseT (a ++ 10 :: b)).2.1 = 3) ∧
    (a.length + b.length + 1 ≤ 1024 → (parseT a).1.length + (parseT b).1.length ≤ 16 → ∃ ds, parseT (a ++ 10 :: b) = (ds, 0, 0) ∧ LikeDs ds ((parseT a).1 ++ (parseT b).1)) := by
  have hl : (a ++ 10 :: b).length = a.length + b.length + 1 := by simp; omega
  by_cases hlong : 1024 < a.length + b.length + 1
  · refine ⟨fun _ => ?_, fun h => by omega⟩
    have e : tokT (a ++ 10 :: b) = ([], 3, 0) := if_pos (by omega)
    unfold parseT
    rw [e]
    rfl
  obtain ⟨a1, a2, a3⟩ := parse_ok ha
  obtain ⟨b1, b2, b3⟩ := parse_ok hb
  have ta : tokT a = lexN a 0 := if_neg (by omega)
  have tb : tokT b = lexN b 0 := if_neg (by omega)
  have tz : tokT (a ++ 10 :: b) = lexN (a ++ 10 :: b) 0 := if_neg (by omega)
  have hLa := tl_of a1
  have hLb := tl_of b1
  rw [ta] at a1 a2 a3 hLa
  rw [tb] at b1 b2 b3 hLb
  obtain ⟨m, h1, h2⟩ := lex_join a1 b1
  obtain ⟨m', h1', h3, _⟩ := lex_toks a 0 a1
  have hmm : m' = m := by rw [h1] at h1'; exact (List.append_cancel_right h1').symm
  subst hmm
  -- where the first ends
  obtain ⟨f1, f2⟩ := decls_end hLa 17 0 ⟨0, 0, 0⟩ a2 (by omega) (by omega) hLa.pos
  have hq : (declsP (lexN a 0).1 17 0 ⟨0, 0, 0⟩).2.at_ = m'.length := by
    have f2' := f2
    rw [h1] at f2'
    simp only [List.length_append, List.length_singleton] at f2'
    rcases Nat.lt_or_ge (declsP (lexN a 0).1 17 0 ⟨0, 0, 0⟩).2.at_ m'.length with h | h
    · exfalso
      have hm := cur_mem f2
      have hat := cur_at f2
      generalize cur (lexN a 0).1 (declsP (lexN a 0).1 17 0 ⟨0, 0, 0⟩).2 = t at *
      rw [h1, List.getElem?_append_left (by rw [h1] at h; exact h)] at hat
      exact (h3 t (List.mem_of_getElem? hat)).1.kind4 f1
    · rw [h1] at h ⊢; omega
  have agA : Agr (lexN a 0).1 (m' ++ (lexN b 0).1.map (upT (a.length + 1))) 0 0 (m'.length - 1) ∨ m'.length = 0 := by
    rcases Nat.eq_zero_or_pos m'.length with h | h
    · exact .inr h
    · refine .inl fun i _ hi => ?_
      rw [Nat.add_zero, h1, getD_app _ (by omega), getD_app _ (by omega)]
      exact ⟨rfl, rfl, rfl⟩
  have agB : ∀ hi, Agr (lexN b 0).1 (m' ++ (lexN b 0).1.map (upT (a.length + 1))) m'.length 0 hi := fun hi i _ _ => by
    rw [show (m' ++ (lexN b 0).1.map (upT (a.length + 1))).getD (i + m'.length) ⟨4, [], 0, 0⟩ = ((lexN b 0).1.map (upT (a.length + 1))).getD i ⟨4, [], 0, 0⟩ by
      rw [List.getD_eq_getElem?_getD, List.getD_eq_getElem?_getD, List.getElem?_append_right (by omega), show i + m'.length - m'.length = i by omega]]
    rw [List.getD_eq_getElem?_getD, List.getD_eq_getElem?_getD, List.getElem?_map]
    cases (lexN b 0).1[i]? with
    | none => exact ⟨rfl, rfl, rfl⟩
    | some t => exact ⟨rfl, rfl, rfl⟩
  have la := decls_len (lexN a 0).1 17 0 ⟨0, 0, 0⟩ (by omega)
  obtain ⟨g1, g2⟩ := decls_end hLb 17 0 ⟨0, 0, 0⟩ b2 (by omega) (by omega) hLb.pos
  have lb := decls_len (lexN b 0).1 17 0 ⟨0, 0, 0⟩ (by omega)
  generalize hda : declsP (lexN a 0).1 17 0 ⟨0, 0, 0⟩ = da at *
  generalize hdb : declsP (lexN b 0).1 17 0 ⟨0, 0, 0⟩ = db at *
  have first : ∃ ds, LikeDs ds da.1 ∧ ∀ g, declsP (m' ++ (lexN b 0).1.map (upT (a.length + 1))) (da.1.length + g) 0 ⟨0, 0, 0⟩ = (ds ++ (declsP (m' ++ (lexN b 0).1.map (upT (a.length + 1))) g da.1.length ⟨m'.length, 0, 0⟩).1, (declsP (m' ++ (lexN b 0).1.map (upT (a.length + 1))) g da.1.length ⟨m'.length, 0, 0⟩).2) := by
    rcases agA with ag | hm0
    · obtain ⟨_, j⟩ := decls_join (L := (lexN a 0).1) (L' := m' ++ (lexN b 0).1.map (upT (a.length + 1))) (k := 0) (e := 0) (hi := m'.length - 1) 17 0 ⟨0, 0, 0⟩ (by rw [hda]; exact a2)
      rw [hda] at j
      obtain ⟨ds, k1, k2⟩ := (j (by omega) ag 0).1 (by omega)
      refine ⟨ds, k1, fun g => ?_⟩
      have := k2 g
      rw [show onP ⟨0, 0, 0⟩ 0 0 = ⟨0, 0, 0⟩ from rfl, show onP da.2 0 0 = ⟨m'.length, 0, 0⟩ by unfold onP; rw [hq]; rfl, Nat.zero_add] at this
      exact this
    · have hm0' : m' = [] := List.length_eq_zero_iff.1 hm0
      have : da = ([], ⟨0, 0, 0⟩) := by
        rw [← hda, h1, hm0']
        exact decls_stop (.inr rfl)
      refine ⟨[], by rw [this]; trivial, fun g => ?_⟩
      rw [this, hm0]
      simp
  obtain ⟨ds1, k1, k2⟩ := first
  obtain ⟨_, j⟩ := decls_join (L := (lexN b 0).1) (L' := m' ++ (lexN b 0).1.map (upT (a.length + 1))) (k := m'.length) (e := 0) (hi := db.2.at_) 17 0 ⟨0, 0, 0⟩ (by rw [hdb]; exact b2)
  rw [hdb] at j
  obtain ⟨j1, j2⟩ := j (Nat.le_succ _) (agB _) da.1.length
  rw [show onP ⟨0, 0, 0⟩ m'.length 0 = ⟨m'.length, 0, 0⟩ by unfold onP; simp] at j1 j2
  have hz : parseT (a ++ 10 :: b) = if (declsP (m' ++ (lexN b 0).1.map (upT (a.length + 1))) 17 0 ⟨0, 0, 0⟩).2.err ≠ 0 then ([], (declsP (m' ++ (lexN b 0).1.map (upT (a.length + 1))) 17 0 ⟨0, 0, 0⟩).2.err, (declsP (m' ++ (lexN b 0).1.map (upT (a.length + 1))) 17 0 ⟨0, 0, 0⟩).2.eat) else ((declsP (m' ++ (lexN b 0).1.map (upT (a.length + 1))) 17 0 ⟨0, 0, 0⟩).1, 0, 0) := by
    unfold parseT
    rw [tz, h2]
    rfl
  have e17 : 17 = da.1.length + (17 - da.1.length) := by omega
  have hfst := k2 (17 - da.1.length)
  rw [← e17] at hfst
  rw [a3, b3, hz, hfst]
  simp only
  refine ⟨fun h => ?_, fun _ h => ?_⟩
  · have h : 16 < da.1.length + db.1.length := by rcases h with h | h; omega; exact h
    have := j2 h (by omega) (17 - da.1.length) (by omega)
    rw [if_pos (by rw [this]; decide)]
    exact this
  · obtain ⟨ds2, l1, l2⟩ := j1 h
    have hs := l2 (17 - da.1.length - db.1.length)
    rw [show db.1.length + (17 - da.1.length - db.1.length) = 17 - da.1.length by omega] at hs
    have hlast : declsP (m' ++ (lexN b 0).1.map (upT (a.length + 1))) (17 - da.1.length - db.1.length) (da.1.length + db.1.length) (onP db.2 m'.length 0) = ([], onP db.2 m'.length 0) := by
      refine decls_stop (.inr ?_)
      have := (agB db.2.at_).cur (e := 0) (p := db.2) (Nat.zero_le _) (Nat.le_refl _)
      rw [← this.1]; exact g1
    rw [hs, hlast]
    simp only [List.append_nil]
    refine ⟨ds1 ++ ds2, ?_, k1.app l1⟩
    rw [if_neg (by show ¬ 0 ≠ 0; simp)]
end Go.Proofs.Ytofhakbmmgpgdaa
