/- The declarations of two rows of tokens, one behind the other. -/
import Derived.Test.YtofhakbmmgpgdaaPrsP
import Derived.Test.YtofhakbmmgpgdaaJoiA
namespace Go.Proofs.Ytofhakbmmgpgdaa
open Go Go.RowKit

def likeT (u v : Tok) : Prop := u.kind = v.kind ∧ u.text = v.text ∧ u.num = v.num
/-- from lo to hi the tokens of the one are those of the other, k on -/
def Agr (L L' : List Tok) (k lo hi : Nat) : Prop := ∀ i, lo ≤ i → i ≤ hi → likeT (L.getD i ⟨4, [], 0, 0⟩) (L'.getD (i + k) ⟨4, [], 0, 0⟩)
theorem Agr.sub {L L' : List Tok} {k lo hi lo' hi' : Nat} (h : Agr L L' k lo hi) (h1 : lo ≤ lo') (h2 : hi' ≤ hi) : Agr L L' k lo' hi' := fun i a b => h i (by omega) (by omega)
def onP (p : PS) (k e : Nat) : PS := ⟨p.at_ + k, 0, e⟩
section
variable {L L' : List Tok} {k e : Nat}
theorem Agr.cur {lo hi : Nat} (h : Agr L L' k lo hi) {p : PS} (h1 : lo ≤ p.at_) (h2 : p.at_ ≤ hi) : likeT (cur L p) (cur L' (onP p k e)) := h p.at_ h1 h2
/-- a function of the parser goes the same way where it goes well; d: it looks at the token behind what it takes too -/
def Alike {α : Type} (f : List Tok → PS → α × PS) (d : Nat) : Prop := ∀ (L L' : List Tok) (k e hi : Nat) (p : PS), (f L p).2.err = 0 → p.err = 0 ∧ p.at_ ≤ (f L p).2.at_ ∧ ((f L p).2.at_ + d ≤ hi + 1 → Agr L L' k p.at_ hi → f L' (onP p k e) = ((f L p).1, onP (f L p).2 k e))
theorem fail_e {p : PS} {n : Nat} (hn : n ≠ 0) (h : (failP L p n).err = 0) : False := fail_err hn h
theorem may_like {hi : Nat} {p : PS} (h : Agr L L' k p.at_ hi) (h2 : p.at_ ≤ hi) (h0 : p.err = 0) (s : List UInt8) : mayB L' (onP p k e) s = mayB L p s := by
  have hc := h.cur (e := e) (p := p) (Nat.le_refl _) h2
  unfold mayB onP at *
  rw [← hc.2.1, h0]
theorem need_like (s : List UInt8) {hi : Nat} {p : PS} (he : (needP L p s).err = 0) : p.err = 0 ∧ p.at_ + 1 = (needP L p s).at_ ∧ (p.at_ ≤ hi → Agr L L' k p.at_ hi → needP L' (onP p k e) s = onP (needP L p s) k e) := by
  cases hb : mayB L p s with
  | false => unfold needP at he; rw [hb, if_neg (by decide)] at he; exact absurd he (fail_err (by decide))
  | true =>
    have h0 : p.err = 0 := by unfold mayB at hb; simp only [decide_eq_true_eq] at hb; exact hb.1
    unfold needP at he ⊢
    rw [hb, if_pos rfl] at he ⊢
    refine ⟨h0, rfl, fun h1 h2 => ?_⟩
    rw [may_like h2 h1 h0, hb, if_pos rfl]
    unfold onP
    simp only
    congr 1; omega
theorem name_like {hi : Nat} {p : PS} (he : (nameP L p).err = 0) : p.err = 0 ∧ p.at_ + 1 = (nameP L p).at_ ∧ (p.at_ ≤ hi → Agr L L' k p.at_ hi → nameP L' (onP p k e) = onP (nameP L p) k e ∧ nameV L' (onP p k e) = nameV L p) := by
  cases hb : nameB L p with
  | false => unfold nameP at he; rw [hb, if_neg (by decide)] at he; exact absurd he (fail_err (by decide))
  | true =>
    have h0 : p.err = 0 := by unfold nameB at hb; simp only [Bool.and_eq_true, decide_eq_true_eq] at hb; exact hb.1.1
    have hb' := hb
    unfold nameP nameV at *
    rw [hb, if_pos rfl] at he ⊢
    refine ⟨h0, rfl, fun h1 h2 => ?_⟩
    have hc := h2.cur (e := e) (p := p) (Nat.le_refl _) h1
    have hb2 : nameB L' (onP p k e) = true := by
      rw [← hb]
      unfold nameB
      rw [← hc.1, ← hc.2.1, h0]
      rfl
    rw [hb2, if_pos rfl, if_pos rfl, if_pos rfl, ← hc.2.1]
    refine ⟨?_, rfl⟩
    unfold onP
    simp only
    congr 1; omega
theorem num_like {hi : Nat} {p : PS} (he : (numP L p).err = 0) : p.err = 0 ∧ p.at_ + 1 = (numP L p).at_ ∧ (p.at_ ≤ hi → Agr L L' k p.at_ hi → numP L' (onP p k e) = onP (numP L p) k e ∧ numV L' (onP p k e) = numV L p) := by
  cases hb : numB L p with
  | false => unfold numP at he; rw [hb, if_neg (by decide)] at he; exact absurd he (fail_err (by decide))
  | true =>
    have h0 : p.err = 0 := by unfold numB at hb; simp only [decide_eq_true_eq] at hb; exact hb.1
    unfold numP numV at *
    rw [hb, if_pos rfl] at he ⊢
    refine ⟨h0, rfl, fun h1 h2 => ?_⟩
    have hc := h2.cur (e := e) (p := p) (Nat.le_refl _) h1
    have hb2 : numB L' (onP p k e) = true := by
      rw [← hb]
      unfold numB
      rw [← hc.1, h0]
      rfl
    rw [hb2, if_pos rfl, if_pos rfl, if_pos rfl, ← hc.2.2]
    refine ⟨?_, rfl⟩
    unfold onP
    simp only
    congr 1; omega
theorem onP_at (p : PS) (k e : Nat) : (onP p k e).at_ = p.at_ + k := rfl
theorem onP_up {p : PS} : onP { p with at_ := p.at_ + 1 } k e = { onP p k e with at_ := (onP p k e).at_ + 1 } := by
  unfold onP; simp only; congr 1; omega
theorem may_e {p : PS} {s : List UInt8} (h : mayB L p s = true) : p.err = 0 := by unfold mayB at h; simp only [decide_eq_true_eq] at h; exact h.1
end
theorem typ_alike : ∀ n, Alike (fun L p => typP L n p) 1
  | 0 => fun L L' k e hi p he => by
    simp only [typP] at he
    exact absurd he (fail_err (by decide))
  | n + 1 => fun L L' k e hi p he => by
    simp only at he ⊢
    have ih := typ_alike n
    have hp0 : p.err = 0 := by
      rcases Nat.eq_zero_or_pos p.err with h | h
      · exact h
      · exfalso
        rw [typP_succ, if_pos (by omega)] at he
        simp only at he
        omega
    -- base first
    have base : (baseP L n p).2.err = 0 → p.at_ ≤ (baseP L n p).2.at_ ∧ ((baseP L n p).2.at_ ≤ hi → Agr L L' k p.at_ hi → baseP L' n (onP p k e) = ((baseP L n p).1, onP (baseP L n p).2 k e)) := by
      intro hb
      by_cases h1 : 0 < plainN (cur L p).text
      · have e1 : baseP L n p = (.leaf (plainN (cur L p).text), { p with at_ := p.at_ + 1 }) := by unfold baseP; rw [if_pos h1]
        rw [e1] at hb ⊢
        refine ⟨Nat.le_succ _, fun q1 q2 => ?_⟩
        have q1 : p.at_ + 1 ≤ hi := q1
        have hc := q2.cur (e := e) (p := p) (Nat.le_refl _) (by omega)
        unfold baseP
        rw [← hc.2.1, if_pos h1, onP_up]
      · by_cases h2 : mayB L p [108, 105, 115, 116] = true
        · have e1 : baseP L n p = (.list (typP L n (needP L { p with at_ := p.at_ + 1 } [60])).1, needP L (typP L n (needP L { p with at_ := p.at_ + 1 } [60])).2 [62]) := by unfold baseP; rw [if_neg h1, if_pos h2]
          rw [e1] at hb ⊢
          simp only at hb ⊢
          obtain ⟨a1, a2, a3⟩ := need_like (L' := L') (k := k) (e := e) [62] (hi := hi) hb
          obtain ⟨b1, b2, b3⟩ := ih L L' k e hi _ a1
          simp only at b2 b3
          obtain ⟨c1, c2, c3⟩ := need_like (L' := L') (k := k) (e := e) [60] (hi := hi) b1
          have c2 : p.at_ + 1 + 1 = _ := c2
          refine ⟨by omega, fun q1 q2 => ?_⟩
          have hc := q2.cur (e := e) (p := p) (Nat.le_refl _) (by omega)
          have hm := may_like (e := e) q2 (by omega) hp0 [108, 105, 115, 116]
          unfold baseP
          rw [← hc.2.1, if_neg h1, hm, if_pos h2]
          simp only
          rw [← onP_up, c3 (by show p.at_ + 1 ≤ hi; omega) (q2.sub (by show p.at_ ≤ p.at_ + 1; omega) (Nat.le_refl _)), b3 (by omega) (q2.sub (by omega) (Nat.le_refl _))]
          simp only
          rw [a3 (by omega) (q2.sub (by omega) (Nat.le_refl _))]
        · by_cases h3 : mayB L p [109, 97, 112] = true
          · have e1 : baseP L n p = (.map (typP L n (needP L { p with at_ := p.at_ + 1 } [60])).1 (typP L n (needP L (typP L n (needP L { p with at_ := p.at_ + 1 } [60])).2 [44])).1, needP L (typP L n (needP L (typP L n (needP L { p with at_ := p.at_ + 1 } [60])).2 [44])).2 [62]) := by unfold baseP; rw [if_neg h1, if_neg h2, if_pos h3]
            rw [e1] at hb ⊢
            simp only at hb ⊢
            obtain ⟨a1, a2, a3⟩ := need_like (L' := L') (k := k) (e := e) [62] (hi := hi) hb
            obtain ⟨b1, b2, b3⟩ := ih L L' k e hi _ a1
            simp only at b2 b3
            obtain ⟨c1, c2, c3⟩ := need_like (L' := L') (k := k) (e := e) [44] (hi := hi) b1
            obtain ⟨d1, d2, d3⟩ := ih L L' k e hi _ c1
            simp only at d2 d3
            obtain ⟨f1, f2, f3⟩ := need_like (L' := L') (k := k) (e := e) [60] (hi := hi) d1
            have f2 : p.at_ + 1 + 1 = _ := f2
            refine ⟨by omega, fun q1 q2 => ?_⟩
            have hc := q2.cur (e := e) (p := p) (Nat.le_refl _) (by omega)
            have hm := may_like (e := e) q2 (by omega) hp0 [108, 105, 115, 116]
            have hm2 := may_like (e := e) q2 (by omega) hp0 [109, 97, 112]
            unfold baseP
            rw [← hc.2.1, if_neg h1, hm, if_neg h2, hm2, if_pos h3]
            simp only
            rw [← onP_up, f3 (by show p.at_ + 1 ≤ hi; omega) (q2.sub (by show p.at_ ≤ p.at_ + 1; omega) (Nat.le_refl _)), d3 (by omega) (q2.sub (by omega) (Nat.le_refl _))]
            simp only
            rw [c3 (by omega) (q2.sub (by omega) (Nat.le_refl _)), b3 (by omega) (q2.sub (by omega) (Nat.le_refl _))]
            simp only
            rw [a3 (by omega) (q2.sub (by omega) (Nat.le_refl _))]
          · have e1 : baseP L n p = (.named (nameV L p), nameP L p) := by unfold baseP; rw [if_neg h1, if_neg h2, if_neg h3]
            rw [e1] at hb ⊢
            simp only at hb ⊢
            obtain ⟨a1, a2, a3⟩ := name_like (L' := L') (k := k) (e := e) (hi := hi) hb
            refine ⟨by omega, fun q1 q2 => ?_⟩
            have hc := q2.cur (e := e) (p := p) (Nat.le_refl _) (by omega)
            have hm := may_like (e := e) q2 (by omega) hp0 [108, 105, 115, 116]
            have hm2 := may_like (e := e) q2 (by omega) hp0 [109, 97, 112]
            obtain ⟨a4, a5⟩ := a3 (by omega) q2
            unfold baseP
            rw [← hc.2.1, if_neg h1, hm, if_neg h2, hm2, if_neg h3, a4, a5]
    rw [typP_succ, if_neg (by omega)] at he ⊢
    refine ⟨hp0, ?_⟩
    by_cases hm : mayB L (baseP L n p).2 [63] = true
    · rw [if_pos hm] at he ⊢
      have hb0 := may_e hm
      obtain ⟨b1, b2⟩ := base hb0
      refine ⟨by show p.at_ ≤ (baseP L n p).2.at_ + 1; omega, fun q1 q2 => ?_⟩
      have q1 : (baseP L n p).2.at_ + 1 + 1 ≤ hi + 1 := q1
      rw [typP_succ, if_neg (by show ¬ (0 ≠ 0); decide), b2 (by omega) q2]
      simp only
      rw [may_like (q2.sub b1 (Nat.le_refl _)) (by omega) hb0, if_pos hm, onP_up]
    · rw [if_neg hm] at he ⊢
      obtain ⟨b1, b2⟩ := base he
      refine ⟨b1, fun q1 q2 => ?_⟩
      rw [typP_succ, if_neg (by show ¬ (0 ≠ 0); decide), b2 (by omega) q2]
      simp only
      rw [may_like (q2.sub b1 (Nat.le_refl _)) (by omega) he, if_neg hm]
theorem field_alike : Alike fieldP 1 := fun L L' k e hi p he => by
  obtain ⟨a1, a2, a3⟩ := typ_alike 9 L L' k e hi _ he
  obtain ⟨b1, b2, b3⟩ := need_like (L' := L') (k := k) (e := e) [58] (hi := hi) a1
  obtain ⟨c1, c2, c3⟩ := name_like (L' := L') (k := k) (e := e) (hi := hi) b1
  obtain ⟨d1, d2, d3⟩ := num_like (L' := L') (k := k) (e := e) (hi := hi) c1
  refine ⟨d1, ?_, fun q1 q2 => ?_⟩
  · show p.at_ ≤ (typP L 9 (needP L (nameP L (numP L p)) [58])).2.at_
    simp only at a2; omega
  · have q1 : (typP L 9 (needP L (nameP L (numP L p)) [58])).2.at_ + 1 ≤ hi + 1 := q1
    simp only at a2 a3
    obtain ⟨d4, d5⟩ := d3 (by omega) q2
    obtain ⟨c4, c5⟩ := c3 (by omega) (q2.sub (by omega) (Nat.le_refl _))
    have b4 := b3 (by omega) (q2.sub (by omega) (Nat.le_refl _))
    have a4 := a3 (by omega) (q2.sub (by omega) (Nat.le_refl _))
    unfold fieldP
    simp only
    rw [d4, d5, c4, c5, b4, a4]
theorem value_alike : Alike valueP 1 := fun L L' k e hi p he => by
  obtain ⟨c1, c2, c3⟩ := name_like (L' := L') (k := k) (e := e) (hi := hi) he
  obtain ⟨d1, d2, d3⟩ := num_like (L' := L') (k := k) (e := e) (hi := hi) c1
  refine ⟨d1, ?_, fun q1 q2 => ?_⟩
  · show p.at_ ≤ (nameP L (numP L p)).at_
    omega
  · have q1 : (nameP L (numP L p)).at_ + 1 ≤ hi + 1 := q1
    obtain ⟨d4, d5⟩ := d3 (by omega) q2
    obtain ⟨c4, c5⟩ := c3 (by omega) (q2.sub (by omega) (Nat.le_refl _))
    unfold valueP
    simp only
    rw [d4, d5, c4, c5]
theorem mayP_like {L L' : List Tok} {k e hi : Nat} {p : PS} (s : List UInt8) (he : p.err = 0) : (mayP L p s).err = 0 ∧ p.at_ ≤ (mayP L p s).at_ ∧ (p.at_ ≤ hi → Agr L L' k p.at_ hi → mayP L' (onP p k e) s = onP (mayP L p s) k e) := by
  unfold mayP
  refine ⟨by split <;> exact he, by split <;> simp, fun q1 q2 => ?_⟩
  rw [may_like q2 q1 he]
  split
  · rw [onP_up]
  · rfl
theorem mayP_err {L : List Tok} {p : PS} {s : List UInt8} : (mayP L p s).err = p.err := by unfold mayP; split <;> rfl
theorem method_alike : Alike methodP 1 := fun L L' k e hi p he => by
  obtain ⟨a1, a2, a3⟩ := name_like (L' := L') (k := k) (e := e) (hi := hi) he
  obtain ⟨b1, b2, b3⟩ := need_like (L' := L') (k := k) (e := e) [58] (hi := hi) a1
  obtain ⟨c1, c2, c3⟩ := need_like (L' := L') (k := k) (e := e) [41] (hi := hi) b1
  obtain ⟨d1, d2, d3⟩ := name_like (L' := L') (k := k) (e := e) (hi := hi) c1
  obtain ⟨f1, f2, f3⟩ := need_like (L' := L') (k := k) (e := e) [40] (hi := hi) d1
  obtain ⟨g1, g2, g3⟩ := name_like (L' := L') (k := k) (e := e) (hi := hi) f1
  obtain ⟨h1, h2, h3⟩ := num_like (L' := L') (k := k) (e := e) (hi := hi) g1
  rw [mayP_err] at h1
  obtain ⟨i1, i2, i3⟩ := mayP_like (L := L) (L' := L') (k := k) (e := e) (hi := hi) [111, 110, 101, 119, 97, 121] h1
  have hat : p.at_ + 7 ≤ (methodP L p).2.at_ := by
    show p.at_ + 7 ≤ (nameP L (needP L (needP L (nameP L (needP L (nameP L (numP L (mayP L p [111, 110, 101, 119, 97, 121]))) [40])) [41]) [58])).at_
    omega
  refine ⟨h1, by omega, fun q1 q2 => ?_⟩
  have q1 : (nameP L (needP L (needP L (nameP L (needP L (nameP L (numP L (mayP L p [111, 110, 101, 119, 97, 121]))) [40])) [41]) [58])).at_ + 1 ≤ hi + 1 := q1
  have i4 := i3 (by omega) q2
  have j := may_like (e := e) q2 (by omega) h1 [111, 110, 101, 119, 97, 121]
  obtain ⟨h4, h5⟩ := h3 (by omega) (q2.sub (by omega) (Nat.le_refl _))
  obtain ⟨g4, g5⟩ := g3 (by omega) (q2.sub (by omega) (Nat.le_refl _))
  have f4 := f3 (by omega) (q2.sub (by omega) (Nat.le_refl _))
  obtain ⟨d4, d5⟩ := d3 (by omega) (q2.sub (by omega) (Nat.le_refl _))
  have c4 := c3 (by omega) (q2.sub (by omega) (Nat.le_refl _))
  have b4 := b3 (by omega) (q2.sub (by omega) (Nat.le_refl _))
  obtain ⟨a4, a5⟩ := a3 (by omega) (q2.sub (by omega) (Nat.le_refl _))
  unfold methodP
  simp only
  rw [i4, j, h4, h5, g4, g5, f4, d4, d5, c4, b4, a4, a5]
theorem rows_alike {α : Type} {row : List Tok → PS → α × PS} (hr : Alike row 1) : ∀ f n, Alike (fun L p => rowsP L (row L) f n p) 0
  | 0, n => fun L L' k e hi p he => ⟨he, Nat.le_refl _, fun _ _ => rfl⟩
  | f + 1, n => fun L L' k e hi p he => by
    have ih := rows_alike hr f (n + 1)
    simp only at he ⊢
    by_cases h0 : p.err = 0
    · by_cases h1 : mayB L p [125] = true
      · have e1 : rowsP L (row L) (f + 1) n p = ([], { p with at_ := p.at_ + 1 }) := by rw [rowsP, if_neg (by simp [h0]), if_pos h1]
        rw [e1]
        refine ⟨h0, Nat.le_succ _, fun q1 q2 => ?_⟩
        have q1 : p.at_ + 1 + 0 ≤ hi + 1 := q1
        rw [rowsP, if_neg (by show ¬ ¬ 0 = 0; simp), may_like q2 (by omega) h0, if_pos h1, onP_up]
      · by_cases h2 : n = 16 ∧ (cur L p).kind ≠ 4
        · exfalso
          have hf : (failP L p 3).err ≠ 0 := fail_err (by decide)
          have e1 : rowsP L (row L) (f + 1) n p = rowsP L (row L) f (n + 1) (failP L p 3) := by
            rw [rowsP, if_neg (by simp [h0]), if_neg h1]
            simp only [if_pos h2]
            rw [if_neg hf]
          rw [e1] at he
          exact hf (ih L L' k e hi _ he).1
        · have e1 : rowsP L (row L) (f + 1) n p = ((row L p).1 :: (rowsP L (row L) f (n + 1) (needP L (row L p).2 [59])).1, (rowsP L (row L) f (n + 1) (needP L (row L p).2 [59])).2) := by
            rw [rowsP, if_neg (by simp [h0]), if_neg h1]
            simp only [if_neg h2]
            rw [if_pos h0]
          rw [e1] at he ⊢
          simp only at he ⊢
          obtain ⟨a1, a2, a3⟩ := ih L L' k e hi _ he
          simp only at a2 a3
          obtain ⟨b1, b2, b3⟩ := need_like (L' := L') (k := k) (e := e) [59] (hi := hi) a1
          obtain ⟨c1, c2, c3⟩ := hr L L' k e hi _ b1
          refine ⟨h0, by omega, fun q1 q2 => ?_⟩
          have hc := q2.cur (e := e) (p := p) (Nat.le_refl _) (by omega)
          have c4 := c3 (by omega) q2
          have b4 := b3 (by omega) (q2.sub (by omega) (Nat.le_refl _))
          have a4 := a3 (by omega) (q2.sub (by omega) (Nat.le_refl _))
          rw [rowsP, if_neg (by show ¬ ¬ 0 = 0; simp), may_like q2 (by omega) h0, if_neg h1]
          simp only
          rw [← hc.1, if_neg h2, if_pos (by show 0 = 0; rfl), c4]
          simp only
          rw [b4, a4]
    · exfalso
      rw [rowsP, if_pos h0] at he
      exact h0 he
/-- the same declaration, but for its place -/
def likeD (x y : Dc) : Prop := x.kind = y.kind ∧ x.name = y.name ∧ x.fields = y.fields ∧ x.methods = y.methods
theorem kindP_like {L L' : List Tok} {k e hi : Nat} {p : PS} (h : Agr L L' k p.at_ hi) (h2 : p.at_ ≤ hi) (h0 : p.err = 0) : kindP L' (onP p k e) = kindP L p := by
  unfold kindP
  rw [may_like h h2 h0, may_like h h2 h0, may_like h h2 h0, may_like h h2 h0]
theorem rowsP_err {α : Type} {L : List Tok} {row : PS → α × PS} {f n : Nat} {p : PS} (h : p.err ≠ 0) : (rowsP L row f n p).2 = p := by
  cases f with
  | zero => rfl
  | succ f => rw [rowsP, if_pos h]
theorem decl_alike (L L' : List Tok) (k e hi : Nat) (p : PS) (he : (declP L p).2.err = 0) : p.err = 0 ∧ p.at_ + 1 ≤ (declP L p).2.at_ ∧ ((declP L p).2.at_ ≤ hi + 1 → Agr L L' k p.at_ hi → likeD (declP L' (onP p k e)).1 (declP L p).1 ∧ (declP L' (onP p k e)).2 = onP (declP L p).2 k e) := by
  have hp2 : (needP L (nameP L (kindQ L p)) [123]).err = 0 := by
    rcases Nat.eq_zero_or_pos (needP L (nameP L (kindQ L p)) [123]).err with h | h
    · exact h
    · exfalso
      unfold declP at he
      simp only at he
      split at he
      · simp only [rowsP_err (show (needP L (nameP L (kindQ L p)) [123]).err ≠ 0 by omega)] at he; omega
      · simp only [rowsP_err (show (needP L (nameP L (kindQ L p)) [123]).err ≠ 0 by omega)] at he; omega
  obtain ⟨a1, a2, a3⟩ := need_like (L' := L') (k := k) (e := e) [123] (hi := hi) hp2
  obtain ⟨b1, b2, b3⟩ := name_like (L' := L') (k := k) (e := e) (hi := hi) a1
  have hk0 : kindP L p ≠ 0 := fun h => by
    unfold kindQ at b1
    rw [if_pos h] at b1
    exact fail_err (by decide) b1
  have eq : kindQ L p = { p with at_ := p.at_ + 1 } := by unfold kindQ; rw [if_neg hk0]
  have h0 : p.err = 0 := by rw [eq] at b1; exact b1
  have b2' : p.at_ + 1 + 1 = (nameP L (kindQ L p)).at_ := by rw [eq] at b2 ⊢; exact b2
  have b1' : (kindQ L p).at_ = p.at_ + 1 := by rw [eq]
  -- what the head is in the other
  have head : (needP L (nameP L (kindQ L p)) [123]).at_ ≤ hi + 1 → Agr L L' k p.at_ hi → kindP L' (onP p k e) = kindP L p ∧ kindQ L' (onP p k e) = onP (kindQ L p) k e ∧ nameV L' (kindQ L' (onP p k e)) = nameV L (kindQ L p) ∧ needP L' (nameP L' (kindQ L' (onP p k e))) [123] = onP (needP L (nameP L (kindQ L p)) [123]) k e := by
    intro q1 q2
    have r1 := kindP_like (e := e) q2 (by omega) h0
    have r2 : kindQ L' (onP p k e) = onP (kindQ L p) k e := by
      unfold kindQ
      rw [r1, if_neg hk0, if_neg hk0, onP_up]
    obtain ⟨r3, r4⟩ := b3 (by omega) (q2.sub (by omega) (Nat.le_refl _))
    refine ⟨r1, r2, by rw [r2, r4], ?_⟩
    rw [r2, r3, a3 (by omega) (q2.sub (by omega) (Nat.le_refl _))]
  by_cases h4 : kindP L p = 4
  · have e1 : declP L p = (⟨4, nameV L (kindQ L p), [], (rowsP L (methodP L) 18 0 (needP L (nameP L (kindQ L p)) [123])).1, (cur L p).at_⟩, (rowsP L (methodP L) 18 0 (needP L (nameP L (kindQ L p)) [123])).2) := by
      unfold declP; simp only [if_pos h4]
    rw [e1] at he ⊢
    simp only at he ⊢
    obtain ⟨c1, c2, c3⟩ := rows_alike method_alike 18 0 L L' k e hi _ he
    simp only at c2 c3
    refine ⟨h0, by omega, fun q1 q2 => ?_⟩
    obtain ⟨r1, r2, r3, r4⟩ := head (by omega) q2
    have c4 := c3 (by omega) (q2.sub (by omega) (Nat.le_refl _))
    unfold declP
    simp only [r1, if_pos h4, r4, c4, r3]
    exact ⟨⟨rfl, rfl, rfl, rfl⟩, by trivial⟩
  · by_cases h3 : kindP L p = 3
    · have e1 : declP L p = (⟨kindP L p, nameV L (kindQ L p), (rowsP L (valueP L) 18 0 (needP L (nameP L (kindQ L p)) [123])).1, [], (cur L p).at_⟩, (rowsP L (valueP L) 18 0 (needP L (nameP L (kindQ L p)) [123])).2) := by
        unfold declP; simp only [if_neg h4, if_pos h3]
      rw [e1] at he ⊢
      simp only at he ⊢
      obtain ⟨c1, c2, c3⟩ := rows_alike value_alike 18 0 L L' k e hi _ he
      simp only at c2 c3
      refine ⟨h0, by omega, fun q1 q2 => ?_⟩
      obtain ⟨r1, r2, r3, r4⟩ := head (by omega) q2
      have c4 := c3 (by omega) (q2.sub (by omega) (Nat.le_refl _))
      unfold declP
      simp only [r1, if_neg h4, if_pos h3, r4, c4, r3]
      exact ⟨⟨rfl, rfl, rfl, rfl⟩, by trivial⟩
    · have e1 : declP L p = (⟨kindP L p, nameV L (kindQ L p), (rowsP L (fieldP L) 18 0 (needP L (nameP L (kindQ L p)) [123])).1, [], (cur L p).at_⟩, (rowsP L (fieldP L) 18 0 (needP L (nameP L (kindQ L p)) [123])).2) := by
        unfold declP; simp only [if_neg h4, if_neg h3]
      rw [e1] at he ⊢
      simp only at he ⊢
      obtain ⟨c1, c2, c3⟩ := rows_alike field_alike 18 0 L L' k e hi _ he
      simp only at c2 c3
      refine ⟨h0, by omega, fun q1 q2 => ?_⟩
      obtain ⟨r1, r2, r3, r4⟩ := head (by omega) q2
      have c4 := c3 (by omega) (q2.sub (by omega) (Nat.le_refl _))
      unfold declP
      simp only [r1, if_neg h4, if_neg h3, r4, c4, r3]
      exact ⟨⟨rfl, rfl, rfl, rfl⟩, by trivial⟩
end Go.Proofs.Ytofhakbmmgpgdaa
