/- Chapter 1 in plain words, further: what is put is taken; what is taken was put. No program in sight. -/
import Derived.Test.YtpnlhnhjedopgaaGd
namespace Go.Proofs.Ytpnlhnhjedopgaa

theorem u8_toNat {n : Nat} (h : n < 256) : (UInt8.ofNat n).toNat = n := by simp; omega
theorem u8_of (c : UInt8) : UInt8.ofNat c.toNat = c := by simp

theorem takeGo_put : ∀ (f k n m : Nat) (r : List UInt8), f + k = 10 → m * 128 ^ k < 18446744073709551616 → (0 < k → 0 < m) →
    takeGo f k n (128 ^ k) (putL m ++ r) = (n + m * 128 ^ k, k + (putL m).length, 0) := by
  intro f
  induction f with
  | zero =>
    intro k n m r hf hm hp
    obtain rfl : k = 10 := by omega
    have := hp (by omega)
    exfalso
    have : 1 * 128 ^ 10 ≤ m * 128 ^ 10 := Nat.mul_le_mul_right _ this
    omega
  | succ f ih =>
    intro k n m r hf hm hp
    have h9 : k = 9 → m ≤ 1 := by
      intro h; subst h
      rcases Nat.lt_or_ge 1 m with h | h
      · have : 2 * 128 ^ 9 ≤ m * 128 ^ 9 := Nat.mul_le_mul_right _ h
        omega
      · exact h
    by_cases h : m < 128
    · rw [putL_small h]
      simp only [List.singleton_append, takeGo]
      rw [u8_toNat (by omega), if_neg (by omega), if_pos h, Nat.mod_eq_of_lt h]
      rfl
    · rw [putL_great h]
      simp only [List.cons_append, takeGo]
      rw [u8_toNat (by omega), if_neg (by omega), if_neg (by omega), show (m % 128 + 128) % 128 = m % 128 from by omega, ← Nat.pow_succ]
      have hd := Nat.div_add_mod m 128
      have e1 : m * 128 ^ k = m / 128 * 128 ^ (k + 1) + m % 128 * 128 ^ k := by
        rw [Nat.pow_succ, ← Nat.mul_assoc, Nat.mul_right_comm, ← Nat.add_mul, Nat.mul_comm (m / 128) 128, hd]
      rw [ih (k + 1) _ (m / 128) r (by omega) (by omega) (fun _ => by omega)]
      rw [e1, List.length_cons]
      refine Prod.ext ?_ (Prod.ext ?_ rfl)
      · show n + m % 128 * 128 ^ k + m / 128 * 128 ^ (k + 1) = n + (m / 128 * 128 ^ (k + 1) + m % 128 * 128 ^ k)
        omega
      · show k + 1 + (putL (m / 128)).length = k + ((putL (m / 128)).length + 1)
        omega

theorem takeL_put {m : Nat} (h : m < 18446744073709551616) (r : List UInt8) : takeL (putL m ++ r) = (m, (putL m).length, 0) := by
  have := takeGo_put 10 0 0 m r rfl (by omega) (by omega)
  simpa [takeL] using this

theorem takeGo_cut : ∀ (f k n p m i : Nat), f + k = 10 → m * 128 ^ k < 18446744073709551616 → i < (putL m).length → takeGo f k n p ((putL m).take i) = (0, 0, 2) := by
  intro f
  induction f with
  | zero => intro k n p m i _ _ _; rfl
  | succ f ih =>
    intro k n p m i hf hm hi
    cases i with
    | zero => simp [takeGo]
    | succ i =>
      by_cases h : m < 128
      · rw [putL_small h] at hi; simp at hi
      · rw [putL_great h] at hi ⊢
        have h9 : k ≠ 9 := by
          intro h; subst h
          have : 2 * 128 ^ 9 ≤ m * 128 ^ 9 := Nat.mul_le_mul_right _ (by omega)
          omega
        simp only [List.take_succ_cons, takeGo]
        rw [u8_toNat (by omega), if_neg (by omega), if_neg (by omega)]
        have hd := Nat.div_add_mod m 128
        have e1 : m * 128 ^ k = m / 128 * 128 ^ (k + 1) + m % 128 * 128 ^ k := by
          rw [Nat.pow_succ, ← Nat.mul_assoc, Nat.mul_right_comm, ← Nat.add_mul, Nat.mul_comm (m / 128) 128, hd]
        exact ih (k + 1) _ _ (m / 128) i (by omega) (by omega) (by simpa using hi)

theorem takeL_cut {m : Nat} (h : m < 18446744073709551616) {i : Nat} (hi : i < (putL m).length) : takeL ((putL m).take i) = (0, 0, 2) :=
  takeGo_cut 10 0 0 1 m i rfl (by omega) hi

theorem takeGo_one : ∀ (f k n : Nat) (l : List UInt8) (x j : Nat), f + k = 10 → takeGo f k n (128 ^ k) l = (x, j, 0) →
    ∃ m, x = n + m * 128 ^ k ∧ putL m = l.take (j - k) ∧ k < j ∧ j ≤ k + l.length ∧ j ≤ 10 ∧ (0 < k → 0 < m) := by
  intro f
  induction f with
  | zero => intro k n l x j _ h; simp [takeGo] at h
  | succ f ih =>
    intro k n l x j hf h
    cases l with
    | nil => simp [takeGo] at h
    | cons c r =>
      rw [takeGo] at h
      have hc := c.toNat_lt
      split at h
      · simp at h
      · rename_i hb
        split at h
        · rename_i hc1
          simp only [Prod.mk.injEq] at h
          obtain ⟨rfl, rfl, _⟩ := h
          refine ⟨c.toNat, by rw [Nat.mod_eq_of_lt hc1], ?_, by omega, by simp, by omega, fun hk => by omega⟩
          rw [putL_small hc1, show k + 1 - k = 1 from by omega]; simp
        · rename_i hc1
          rw [← Nat.pow_succ] at h
          obtain ⟨m, h1, h2, h3, h4, h5, h6⟩ := ih (k + 1) _ r x j (by omega) h
          have hm := h6 (by omega)
          refine ⟨c.toNat % 128 + 128 * m, ?_, ?_, by omega, by simp; omega, h5, fun _ => by omega⟩
          · rw [h1, Nat.add_mul, Nat.pow_succ, Nat.mul_comm (128 ^ k) 128, ← Nat.mul_assoc, Nat.mul_comm m 128]; omega
          · rw [putL_great (by omega), show (c.toNat % 128 + 128 * m) % 128 + 128 = c.toNat from by omega, show (c.toNat % 128 + 128 * m) / 128 = m from by omega, h2, u8_of,
              show j - k = (j - (k + 1)) + 1 from by omega, List.take_succ_cons]

theorem takeL_one {l : List UInt8} {x j : Nat} (h : takeL l = (x, j, 0)) : putL x = l.take j ∧ 1 ≤ j ∧ j ≤ l.length ∧ j ≤ 10 := by
  obtain ⟨m, h1, h2, h3, h4, h5, _⟩ := takeGo_one 10 0 0 l x j rfl (by simpa [takeL] using h)
  obtain rfl : x = m := by omega
  exact ⟨by simpa using h2, by omega, by omega, h5⟩

theorem putL_inj {n m : Nat} (hn : n < 18446744073709551616) (hm : m < 18446744073709551616) (h : putL n = putL m) : n = m := by
  have h1 := takeL_put hn []
  rw [h, takeL_put hm] at h1
  simp only [Prod.mk.injEq] at h1
  exact h1.1.symm

theorem putL_mono : ∀ (k n m : Nat), n ≤ k → n ≤ m → (putL n).length ≤ (putL m).length := by
  intro k
  induction k with
  | zero => intro n m hk _; rw [putL_small (n := n) (by omega)]; exact putL_pos m
  | succ k ih =>
    intro n m hk h
    by_cases hn : n < 128
    · rw [putL_small hn]; exact putL_pos m
    · rw [putL_great hn, putL_great (n := m) (by omega)]
      have := ih (n / 128) (m / 128) (by omega) (by omega)
      simp; exact this
end Go.Proofs.Ytpnlhnhjedopgaa
