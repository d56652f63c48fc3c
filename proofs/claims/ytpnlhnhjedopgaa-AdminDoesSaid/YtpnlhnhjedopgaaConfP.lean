/- conf's plain law: numbers that stand one behind the other, put and taken. -/
import Derived.Test.YtpnlhnhjedopgaaConfH
import Derived.Test.YtpnlhnhjedopgaaReadP
set_option maxRecDepth 100000
set_option linter.unusedSimpArgs false
namespace Go.Proofs.Ytpnlhnhjedopgaa
open Go Go.RowKit Go.Proofs

theorem intS_zero (b : ByteArray) (a : Nat) (m : Int) : intS b a 0 m = ((intT (rest b a) m).1, a + (intT (rest b a) m).2.1, (intT (rest b a) m).2.2) := by unfold intS; rw [if_neg (by simp)]
theorem numsT_one {b : ByteArray} : ∀ (n : Nat) (a : Nat) (l : List Int) (a' : Nat), numsT n b a = some (l, a') → a ≤ b.size → b.data.toList.drop a = putI l ++ b.data.toList.drop a' ∧ l.length = n ∧ a' ≤ b.size ∧ ∀ x ∈ l, 0 ≤ x ∧ x ≤ 1048576
  | 0, a, l, a', h, ha => by
    rw [numsT_zero b a] at h
    simp only [Option.some.injEq, Prod.mk.injEq] at h
    obtain ⟨rfl, rfl⟩ := h
    exact ⟨by simp [putI], rfl, ha, by simp⟩
  | n + 1, a, l, a', h, ha => by
    rw [numsT_succ n b a] at h
    split at h
    · cases h
    · rename_i he
      simp only [ne_eq, Decidable.not_not] at he
      obtain ⟨r, hr, e⟩ := Option.map_eq_some_iff.mp h
      simp only [Prod.mk.injEq] at e
      obtain ⟨rfl, rfl⟩ := e
      obtain ⟨-, p1, p2, p3⟩ := int_ok (b := b) (a := a) (e := 0) (most := 1048576) (n := (intT (rest b a) 1048576).1) (a2 := a + (intT (rest b a) 1048576).2.1) (by rw [intS_zero, he]) ha
      obtain ⟨q1, q2, q3, q4⟩ := numsT_one n _ r.1 r.2 hr p3
      refine ⟨?_, by simp [q2], q3, ?_⟩
      · rw [p1, q1]
        simp [putI]
      · intro x hx
        simp only [List.mem_cons] at hx
        rcases hx with rfl | hx
        · omega
        · exact q4 x hx
theorem numsT_back {b : ByteArray} : ∀ (l : List Int) (a : Nat) (r : List UInt8), b.data.toList.drop a = putI l ++ r → (∀ x ∈ l, 0 ≤ x ∧ x ≤ 1048576) → numsT l.length b a = some (l, a + (putI l).length)
  | [], a, r, h, hb => by rw [List.length_nil, numsT_zero b a]; simp [putI]
  | x :: l, a, r, h, hb => by
    have hx := hb x (by simp)
    have hp := int_put (b := b) (a := a) (n := x.toNat) (most := 1048576) (r := putI l ++ r) (by rw [h]; simp [putI]) (by omega) (by omega)
    rw [intS_zero] at hp
    simp only [Prod.mk.injEq] at hp
    obtain ⟨e1, e2, e3⟩ := hp
    have hd : b.data.toList.drop (a + (putL x.toNat).length) = putI l ++ r := (drop_from (by rw [h]; simp [putI])).symm
    have ih := numsT_back l _ r hd fun y hy => hb y (by simp [hy])
    rw [List.length_cons, numsT_succ l.length b a, if_neg (by simp [e3]), e2, ih, e1]
    simp only [Option.map_some, Option.some.injEq, Prod.mk.injEq, List.cons.injEq, and_true]
    refine ⟨by omega, ?_⟩
    simp [putI]; omega
theorem takeC_some {s : ByteArray} {c : Cnf} (h : takeC s 0 = some c) : s.data.toList = putI c.l ∧ goodC c = true := by
  unfold takeC at h
  cases hn : numsT 9 s 0 with
  | none => rw [hn] at h; cases h
  | some x =>
    obtain ⟨l, a'⟩ := x
    rw [hn] at h
    simp only at h
    split at h
    · cases h
    · rename_i hl
      split at h
      · rename_i hg
        cases h
        obtain ⟨p1, p2, p3, p4⟩ := numsT_one 9 0 l a' hn (Nat.zero_le _)
        rw [cnfOf_l p2]
        refine ⟨?_, ?_⟩
        · rw [List.drop_zero, List.drop_eq_nil_of_le (i := a') (by simpa using hl), List.append_nil] at p1
          exact p1
        · unfold goodL at hg
          simp only [Bool.and_eq_true] at hg
          exact hg.2
      · cases h
theorem takeC_put {s : ByteArray} {c : Cnf} (h : s.data.toList = putI c.l) (hg : goodC c = true) : takeC s 0 = some c := by
  have hb := numsT_back (b := s) c.l 0 [] (by rw [List.drop_zero, h, List.append_nil]) (good_bd hg)
  have h9 : c.l.length = 9 := rfl
  rw [h9] at hb
  unfold takeC
  rw [hb]
  have hs : s.size = (putI c.l).length := by rw [← h]; simp
  simp only
  rw [if_neg (by omega), goodL_l, hg, if_pos rfl, cnfOf_of]
end Go.Proofs.Ytpnlhnhjedopgaa
