/- Events as bytes: the plain law. What bytes events have, which events any bytes are, and that each is the other's way back. -/
import Derived.Test.YtmmmaekaoanceaaReadP
import Derived.Test.YtmmmaekaoanceaaScrA
namespace Go.Proofs.Ytmmmaekaoanceaa
open Go

def evE (v : Ev) : Int := if v.kind < 1 ∨ 7 < v.kind then 4 else if (hasC v.kind = true ∧ (v.conn < 0 ∨ 15 < v.conn)) ∨ (hasB v.kind = true ∧ 1048576 < v.bytes.size) then 1 else 0
def evL (v : Ev) : List UInt8 := putL v.kind.toNat ++ ((if hasN v.kind then putL v.num else []) ++ ((if hasC v.kind then putL v.conn.toNat else []) ++ (if hasB v.kind then spanL v.bytes else [])))
def putsE : List Ev → Int
  | [] => 0
  | v :: r => if evE v ≠ 0 then evE v else putsE r
def putsL (l : List Ev) : List UInt8 := l.flatMap evL
def putT (l : List Ev) : ByteArray × Int := if 1024 < l.length then (⟨#[]⟩, 3) else if putsE l ≠ 0 then (⟨#[]⟩, putsE l) else (⟨(putsL l).toArray⟩, 0)
def ev0 : Ev := ⟨0, 0, 0, ⟨#[]⟩⟩
def evT (b : ByteArray) (a : Nat) : Ev × Nat × Int :=
  if (numS b a 0).2.2 ≠ 0 then (ev0, (numS b a 0).2.1, (numS b a 0).2.2)
  else if (numS b a 0).1 = 0 ∨ 7 < (numS b a 0).1 then (ev0, (numS b a 0).2.1, 4)
  else if (numS b a 0).1 = 4 then (⟨4, 0, (numS b (numS b a 0).2.1 0).1, ⟨#[]⟩⟩, (numS b (numS b a 0).2.1 0).2.1, (numS b (numS b a 0).2.1 0).2.2)
  else if (numS b a 0).1 = 2 then
    (⟨2, (intS b (numS b a 0).2.1 0 15).1, 0, (textS b (intS b (numS b a 0).2.1 0 15).2.1 (intS b (numS b a 0).2.1 0 15).2.2 1048576).1⟩, (textS b (intS b (numS b a 0).2.1 0 15).2.1 (intS b (numS b a 0).2.1 0 15).2.2 1048576).2.1, (textS b (intS b (numS b a 0).2.1 0 15).2.1 (intS b (numS b a 0).2.1 0 15).2.2 1048576).2.2)
  else if (numS b a 0).1 = 6 ∨ (numS b a 0).1 = 7 then (⟨(numS b a 0).1, (intS b (numS b a 0).2.1 0 15).1, 0, ⟨#[]⟩⟩, (intS b (numS b a 0).2.1 0 15).2.1, (intS b (numS b a 0).2.1 0 15).2.2)
  else (⟨(numS b a 0).1, 0, 0, ⟨#[]⟩⟩, (numS b a 0).2.1, 0)
def takesF : Nat → ByteArray → Nat → Nat → List Ev × Int
  | 0, _, _, _ => ([], 0)
  | f + 1, b, a, n => if b.size ≤ a then ([], 0) else if n = 1024 then ([], 3) else if (evT b a).2.2 ≠ 0 then ([], (evT b a).2.2) else
      if (takesF f b (evT b a).2.1 (n + 1)).2 ≠ 0 then ([], (takesF f b (evT b a).2.1 (n + 1)).2) else ((evT b a).1 :: (takesF f b (evT b a).2.1 (n + 1)).1, 0)
def takesT (b : ByteArray) : List Ev × Int := takesF (b.size + 1) b 0 0

theorem evE_kinds {v : Ev} (h : evE v = 0) : v.kind = 1 ∨ v.kind = 2 ∨ v.kind = 3 ∨ v.kind = 4 ∨ v.kind = 5 ∨ v.kind = 6 ∨ v.kind = 7 := by
  unfold evE at h
  split at h
  · cases h
  · omega
theorem evT_put {b : ByteArray} {a : Nat} {v : Ev} {r : List UInt8} (h : b.data.toList.drop a = evL v ++ r) (he : evE v = 0) (hn : v.num < 18446744073709551616) : evT b a = (plainE v, a + (evL v).length, 0) := by
  have hk := evE_kinds he
  obtain ⟨k, c, n, t⟩ := v
  simp only at hk hn
  have hc : hasC k = true → 0 ≤ c ∧ c ≤ 15 := fun h0 => by
    unfold evE at he; simp only [h0] at he; split at he
    · cases he
    · split at he
      · cases he
      · rename_i h1; simp at h1; omega
  have hb : hasB k = true → t.size ≤ 1048576 := fun h0 => by
    unfold evE at he; simp only [h0] at he; split at he
    · cases he
    · split at he
      · cases he
      · rename_i h1; simp at h1; omega
  unfold evL at h ⊢
  simp only [List.append_assoc] at h
  have h1 := num_put h (by omega : k.toNat < 18446744073709551616)
  have h2 := drop_from h
  unfold evT
  rw [h1]
  simp only
  rcases hk with rfl | rfl | rfl | rfl | rfl | rfl | rfl
  · simp [plainE, hasC, hasN, hasB]
  · have hc := hc rfl
    have hb := hb rfl
    have e1 : hasN 2 = false := rfl
    have e2 : hasC 2 = true := rfl
    have e3 : hasB 2 = true := rfl
    simp only [e1, e2, e3, if_true, Bool.false_eq_true, if_false, List.nil_append] at h2 ⊢
    have h3 := int_put (most := 15) h2.symm (by omega) (by omega)
    have h4 := drop_from h2.symm
    have h5 := text_put (most := 1048576) h4.symm (by omega) (by omega)
    simp only [show Int.toNat 2 = 2 from rfl] at h3 h5 ⊢
    rw [h3]
    simp only
    rw [h5]
    simp [plainE, e1, e2, e3]
    omega
  · simp [plainE, hasC, hasN, hasB]
  · have e1 : hasN 4 = true := rfl
    have e2 : hasC 4 = false := rfl
    have e3 : hasB 4 = false := rfl
    simp only [e1, e2, e3, if_true, Bool.false_eq_true, if_false, List.nil_append, List.append_nil] at h2 ⊢
    have h3 := num_put h2.symm hn
    simp only [show Int.toNat 4 = 4 from rfl] at h3 ⊢
    rw [h3]
    simp [plainE, e1, e2, e3]
    omega
  · simp [plainE, hasC, hasN, hasB]
  · have hc := hc rfl
    have e1 : hasN 6 = false := rfl
    have e2 : hasC 6 = true := rfl
    have e3 : hasB 6 = false := rfl
    simp only [e1, e2, e3, if_true, Bool.false_eq_true, if_false, List.nil_append, List.append_nil] at h2 ⊢
    have h3 := int_put (most := 15) h2.symm (by omega) (by omega)
    simp only [show Int.toNat 6 = 6 from rfl] at h3 ⊢
    rw [h3]
    simp [plainE, e1, e2, e3]
    omega
  · have hc := hc rfl
    have e1 : hasN 7 = false := rfl
    have e2 : hasC 7 = true := rfl
    have e3 : hasB 7 = false := rfl
    simp only [e1, e2, e3, if_true, Bool.false_eq_true, if_false, List.nil_append, List.append_nil] at h2 ⊢
    have h3 := int_put (most := 15) h2.symm (by omega) (by omega)
    simp only [show Int.toNat 7 = 7 from rfl] at h3 ⊢
    rw [h3]
    simp [plainE, e1, e2, e3]
    omega
theorem evT_ok {b : ByteArray} {a : Nat} {v : Ev} {a2 : Nat} (h : evT b a = (v, a2, 0)) (ha : a ≤ b.size) : b.data.toList.drop a = evL v ++ b.data.toList.drop a2 ∧ evE v = 0 ∧ plainE v = v ∧ v.num < 18446744073709551616 ∧ a < a2 ∧ a2 ≤ b.size := by
  obtain ⟨n, a1, e1, hnum⟩ : ∃ n a1 e1, numS b a 0 = (n, a1, e1) := ⟨_, _, _, rfl⟩
  unfold evT at h
  rw [hnum] at h
  simp only at h
  by_cases he : e1 = 0
  · subst he
    obtain ⟨_, hd1, hn1, hs1⟩ := num_ok hnum ha
    have ha1 : a < a1 := by
      have := congrArg List.length hd1
      have hp := putL_pos n
      simp only [List.length_append, List.length_drop] at this
      have : b.data.toList.length = b.size := by simp
      omega
    rw [if_neg (by simp)] at h
    split at h
    · simp at h
    · rename_i hk
      split at h
      · rename_i h4
        subst h4
        obtain ⟨m, a3, e3, hm⟩ : ∃ m a3 e3, numS b a1 0 = (m, a3, e3) := ⟨_, _, _, rfl⟩
        rw [hm] at h
        simp only [Prod.mk.injEq] at h
        obtain ⟨rfl, rfl, rfl⟩ := h
        obtain ⟨_, hd2, hn2, hs2⟩ := num_ok hm hs1
        refine ⟨?_, rfl, by simp [plainE, hasC, hasN, hasB], hn2, ?_, hs2⟩
        · rw [hd1, hd2]; simp [evL, hasC, hasN, hasB]
        · have := congrArg List.length hd2
          simp only [List.length_append, List.length_drop] at this
          have : b.data.toList.length = b.size := by simp
          omega
      · split at h
        · rename_i h2
          subst h2
          obtain ⟨c, a3, e3, hc⟩ : ∃ c a3 e3, intS b a1 0 15 = (c, a3, e3) := ⟨_, _, _, rfl⟩
          obtain ⟨t, a4, e4, ht⟩ : ∃ t a4 e4, textS b a3 e3 1048576 = (t, a4, e4) := ⟨_, _, _, rfl⟩
          rw [hc] at h
          simp only at h
          rw [ht] at h
          simp only [Prod.mk.injEq] at h
          obtain ⟨rfl, rfl, rfl⟩ := h
          have hs3 : a3 ≤ b.size := by have := (intS_bd (b := b) (a := a1) (e := 0) 15 hs1 (by omega) (by omega)).1; rw [hc] at this; exact this
          obtain ⟨he3, hd3, hm3, hs4⟩ := text_ok ht hs3
          subst he3
          obtain ⟨_, hd2, hm2, _⟩ := int_ok hc hs1
          refine ⟨?_, ?_, by simp [plainE, hasC, hasN, hasB], by simp, ?_, hs4⟩
          · rw [hd1, hd2, hd3]; simp [evL, hasC, hasN, hasB]
          · simp [evE, hasC, hasB]; omega
          · have q1 := congrArg List.length hd2
            have q2 := congrArg List.length hd3
            simp only [List.length_append, List.length_drop] at q1 q2
            have : b.data.toList.length = b.size := by simp
            omega
        · split at h
          · rename_i h67
            obtain ⟨c, a3, e3, hc⟩ : ∃ c a3 e3, intS b a1 0 15 = (c, a3, e3) := ⟨_, _, _, rfl⟩
            rw [hc] at h
            simp only [Prod.mk.injEq] at h
            obtain ⟨rfl, rfl, rfl⟩ := h
            obtain ⟨_, hd2, hm2, hs2⟩ := int_ok hc hs1
            refine ⟨?_, ?_, ?_, by simp, ?_, hs2⟩
            · rw [hd1, hd2]; rcases h67 with rfl | rfl <;> simp [evL, hasC, hasN, hasB]
            · rcases h67 with rfl | rfl <;> (simp [evE, hasC, hasB]; omega)
            · rcases h67 with rfl | rfl <;> simp [plainE, hasC, hasN, hasB]
            · have q1 := congrArg List.length hd2
              simp only [List.length_append, List.length_drop] at q1
              have : b.data.toList.length = b.size := by simp
              omega
          · rename_i h4 h2 h67
            simp only [Prod.mk.injEq] at h
            obtain ⟨rfl, rfl, _⟩ := h
            have h135 : n = 1 ∨ n = 3 ∨ n = 5 := by omega
            refine ⟨?_, ?_, ?_, by simp, ha1, hs1⟩
            · rw [hd1]; rcases h135 with rfl | rfl | rfl <;> simp [evL, hasC, hasN, hasB]
            · rcases h135 with rfl | rfl | rfl <;> simp [evE, hasC, hasB]
            · rcases h135 with rfl | rfl | rfl <;> simp [plainE, hasC, hasN, hasB]
  · rw [if_pos he] at h
    simp only [Prod.mk.injEq] at h
    exact absurd h.2.2 he
/-- fuel that suffices -/
theorem takesF_end {b : ByteArray} {a : Nat} (h : b.size ≤ a) (f n : Nat) : takesF f b a n = ([], 0) := by
  cases f with
  | zero => rfl
  | succ f => unfold takesF; rw [if_pos h]
theorem evT_moves {b : ByteArray} {a : Nat} (ha : a ≤ b.size) (h : (evT b a).2.2 = 0) : a < (evT b a).2.1 ∧ (evT b a).2.1 ≤ b.size := by
  obtain ⟨v, a2, e⟩ : ∃ v a2, evT b a = (v, a2, 0) := ⟨_, _, by rw [← h]⟩
  obtain ⟨_, _, _, _, h1, h2⟩ := evT_ok e ha
  rw [e]; exact ⟨h1, h2⟩
theorem takesF_more {b : ByteArray} : ∀ (f g a n : Nat), a ≤ b.size → b.size - a < f → b.size - a < g → takesF f b a n = takesF g b a n
  | 0, _, _, _, _, h, _ => by omega
  | _ + 1, 0, _, _, _, _, h => by omega
  | f + 1, g + 1, a, n, ha, h1, h2 => by
    unfold takesF
    by_cases hs : b.size ≤ a
    · rw [if_pos hs, if_pos hs]
    · rw [if_neg hs, if_neg hs]
      by_cases hn : n = 1024
      · rw [if_pos hn, if_pos hn]
      · rw [if_neg hn, if_neg hn]
        by_cases he : (evT b a).2.2 ≠ 0
        · rw [if_pos he, if_pos he]
        · rw [if_neg he, if_neg he]
          have hm := evT_moves ha (by simpa using he)
          rw [takesF_more f g (evT b a).2.1 (n + 1) hm.2 (by omega) (by omega)]
/-- what was put is taken -/
theorem takes_put {b : ByteArray} : ∀ (l : List Ev) (f a n : Nat), b.data.toList.drop a = putsL l → a ≤ b.size → putsE l = 0 → n + l.length ≤ 1024 → b.size - a < f → (∀ v ∈ l, v.num < 18446744073709551616) → takesF f b a n = (l.map plainE, 0)
  | [], f, a, n, h, ha, _, _, _, _ => by
    have : b.size ≤ a := by
      have := congrArg List.length h
      simp [putsL] at this; omega
    rw [takesF_end this]; rfl
  | v :: r, 0, a, n, h, ha, he, hn, hf, hb => by omega
  | v :: r, f + 1, a, n, h, ha, he, hn, hf, hb => by
    have he1 : evE v = 0 := by
      unfold putsE at he
      by_cases h0 : evE v = 0
      · exact h0
      · rw [if_pos h0] at he; exact absurd he h0
    have he2 : putsE r = 0 := by unfold putsE at he; rw [if_neg (by simp [he1])] at he; exact he
    have h' : b.data.toList.drop a = evL v ++ putsL r := by rw [h]; simp [putsL]
    have hp := evT_put h' he1 (hb v (by simp))
    have hlen : 0 < (evL v).length := by
      unfold evL; rw [List.length_append]; have := putL_pos v.kind.toNat; omega
    have hsz : a + (evL v).length ≤ b.size := by
      have := congrArg List.length h'
      simp only [List.length_append, List.length_drop, Array.length_toList, ByteArray.size_data] at this
      omega
    have ih := takes_put r f (a + (evL v).length) (n + 1) (drop_from h').symm hsz he2 (by simp only [List.length_cons] at hn; omega) (by omega) (fun x hx => hb x (by simp [hx]))
    unfold takesF
    rw [if_neg (by omega), if_neg (by simp only [List.length_cons] at hn; omega), hp]
    simp only
    rw [if_neg (by simp), ih]
    simp
theorem takes_long {b : ByteArray} : ∀ (l : List Ev) (f a n : Nat), b.data.toList.drop a = putsL l → a ≤ b.size → putsE l = 0 → n ≤ 1024 → 1024 < n + l.length → b.size - a < f → (∀ v ∈ l, v.num < 18446744073709551616) → takesF f b a n = ([], 3)
  | [], f, a, n, h, ha, _, _, hn, _, _ => by simp at hn; omega
  | v :: r, 0, a, n, h, ha, he, _, hn, hf, hb => by omega
  | v :: r, f + 1, a, n, h, ha, he, hn0, hn, hf, hb => by
    have he1 : evE v = 0 := by
      unfold putsE at he
      by_cases h0 : evE v = 0
      · exact h0
      · rw [if_pos h0] at he; exact absurd he h0
    have he2 : putsE r = 0 := by unfold putsE at he; rw [if_neg (by simp [he1])] at he; exact he
    have h' : b.data.toList.drop a = evL v ++ putsL r := by rw [h]; simp [putsL]
    have hp := evT_put h' he1 (hb v (by simp))
    have hlen : 0 < (evL v).length := by
      unfold evL; rw [List.length_append]; have := putL_pos v.kind.toNat; omega
    have hsz : a + (evL v).length ≤ b.size := by
      have := congrArg List.length h'
      simp only [List.length_append, List.length_drop, Array.length_toList, ByteArray.size_data] at this
      omega
    unfold takesF
    rw [if_neg (by omega)]
    by_cases hn1 : n = 1024
    · rw [if_pos hn1]
    · have ih := takes_long r f (a + (evL v).length) (n + 1) (drop_from h').symm hsz he2 (by omega) (by simp only [List.length_cons] at hn; omega) (by omega) (fun x hx => hb x (by simp [hx]))
      rw [if_neg hn1, hp]
      simp only
      rw [if_neg (by simp), ih]
      simp
/-- what was taken is put -/
theorem takes_ok {b : ByteArray} : ∀ (f a n : Nat) (l : List Ev), takesF f b a n = (l, 0) → a ≤ b.size → n ≤ 1024 → b.size - a < f → b.data.toList.drop a = putsL l ∧ putsE l = 0 ∧ l.map plainE = l ∧ n + l.length ≤ 1024 ∧ ∀ v ∈ l, v.num < 18446744073709551616
  | 0, a, n, l, h, ha, _, hf => by omega
  | f + 1, a, n, l, h, ha, hn, hf => by
    unfold takesF at h
    by_cases hs : b.size ≤ a
    · rw [if_pos hs] at h
      cases h
      refine ⟨?_, rfl, rfl, by simpa using hn, by simp⟩
      rw [List.drop_eq_nil_of_le (by simpa using hs)]; rfl
    · rw [if_neg hs] at h
      by_cases hn1 : n = 1024
      · rw [if_pos hn1] at h; simp at h
      · rw [if_neg hn1] at h
        by_cases he : (evT b a).2.2 ≠ 0
        · rw [if_pos he] at h; simp at h; exact absurd h.2 he
        · rw [if_neg he] at h
          by_cases hr : (takesF f b (evT b a).2.1 (n + 1)).2 ≠ 0
          · rw [if_pos hr] at h; simp at h; exact absurd h.2 hr
          · rw [if_neg hr] at h
            simp only [Prod.mk.injEq, and_true] at h
            subst h
            have he : (evT b a).2.2 = 0 := by simpa using he
            have hr : (takesF f b (evT b a).2.1 (n + 1)).2 = 0 := by simpa using hr
            obtain ⟨q1, q2, q3, q4, q5, q6⟩ := evT_ok (v := (evT b a).1) (a2 := (evT b a).2.1) (by rw [← he]) ha
            obtain ⟨r1, r2, r3, r4, r5⟩ := takes_ok f _ (n + 1) (takesF f b (evT b a).2.1 (n + 1)).1 (by rw [← hr]) q6 (by omega) (by omega)
            refine ⟨?_, ?_, ?_, ?_, ?_⟩
            · rw [q1, r1]; simp [putsL]
            · unfold putsE; rw [if_neg (by simp [q2])]; exact r2
            · simp [q3, r3]
            · simp only [List.length_cons]; omega
            · intro v hv
              rcases List.mem_cons.1 hv with rfl | hv
              · exact q4
              · exact r5 v hv
end Go.Proofs.Ytmmmaekaoanceaa
