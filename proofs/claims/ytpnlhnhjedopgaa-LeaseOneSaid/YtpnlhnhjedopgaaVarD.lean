/- The walks of varint.TakeInt, the document's Take, and chapter 1's examples. -/
import Derived.Test.YtpnlhnhjedopgaaVarC
namespace Go.Proofs.Ytpnlhnhjedopgaa
open Go Go.RowKit

theorem takeGo_bd : ∀ (f k n p : Nat) (l : List UInt8), 0 ≤ (takeGo f k n p l).2.2 ∧ (takeGo f k n p l).2.2 ≤ 2 ∧ (takeGo f k n p l).2.1 ≤ k + f ∧ (takeGo f k n p l).2.1 ≤ k + l.length := by
  intro f
  induction f with
  | zero => intro k n p l; simp [takeGo]
  | succ f ih =>
    intro k n p l
    cases l with
    | nil => simp [takeGo]
    | cons c r =>
      rw [takeGo]
      split
      · simp
      · split
        · simp
        · have := ih (k + 1) (n + c.toNat % 128 * p) (p * 128) r
          simp; omega
theorem takeGo_small : ∀ (f k n : Nat) (l : List UInt8), f + k = 10 → n < 128 ^ k → (takeGo f k n (128 ^ k) l).1 < 18446744073709551616 := by
  intro f
  induction f with
  | zero => intro k n l _ _; simp [takeGo]
  | succ f ih =>
    intro k n l hf hn
    cases l with
    | nil => simp [takeGo]
    | cons c r =>
      rw [takeGo]
      split
      · simp
      · rename_i hb
        have hc := c.toNat_lt
        split
        · exact take_small k n c.toNat (by omega) hn (by omega) (by omega)
        · have := ih (k + 1) (n + c.toNat % 128 * 128 ^ k) r (by omega) (take_less c hn)
          rw [Nat.pow_succ] at this
          exact this
theorem takeGo_zero : ∀ (f k n p : Nat) (l : List UInt8), (takeGo f k n p l).2.2 ≠ 0 → (takeGo f k n p l).1 = 0 ∧ (takeGo f k n p l).2.1 = 0 := by
  intro f
  induction f with
  | zero => intro k n p l _; exact ⟨rfl, rfl⟩
  | succ f ih =>
    intro k n p l
    cases l with
    | nil => intro _; exact ⟨rfl, rfl⟩
    | cons c r =>
      rw [takeGo]
      split
      · intro _; exact ⟨rfl, rfl⟩
      · split
        · intro h; exact (h rfl).elim
        · exact ih _ _ _ r
theorem takeL_zero (l : List UInt8) (h : (takeL l).2.2 ≠ 0) : (takeL l).1 = 0 ∧ (takeL l).2.1 = 0 := takeGo_zero 10 0 0 1 l h
theorem takeL_small (l : List UInt8) : (takeL l).1 < 18446744073709551616 := takeGo_small 10 0 0 l rfl (by decide)
theorem takeL_bd (l : List UInt8) : 0 ≤ (takeL l).2.2 ∧ (takeL l).2.2 ≤ 2 ∧ (takeL l).2.1 ≤ 10 ∧ (takeL l).2.1 ≤ l.length := by
  have := takeGo_bd 10 0 0 1 l
  unfold takeL; omega

/-- what TakeInt hands back -/
def takeIntV (r : Nat × Nat × Int) : Value := if r.2.2 = 0 then .tuple #[.int .i64 (backI (r.1 : Nat)), .int .i64 (r.2.1 : Nat), .int .i64 0] else .tuple #[.int .i64 0, .int .i64 0, .int .i64 r.2.2]
theorem reft_val (n q k : Nat) (c : UInt8) (hk : k ≤ 9) (hn : n < 128 ^ k) (h9 : k = 9 → c.toNat ≤ 1) (hq : q = 128 ^ k) :
    IntKind.u64.wrap ((n : Int) + IntKind.u64.wrap ((c.toNat : Int) % 128 * (q : Int))) = ((n + c.toNat % 128 * 128 ^ k : Nat) : Int) := by
  have hc := c.toNat_lt
  have hs := take_small k n c.toNat hk hn (by omega) h9
  subst hq
  have hp : (c.toNat : Int) % 128 * ((128 ^ k : Nat) : Int) = ((c.toNat % 128 * 128 ^ k : Nat) : Int) := by push_cast; rfl
  rw [hp, IntKind.wrap_u64 ((c.toNat % 128 * 128 ^ k : Nat) : Int), Int.emod_eq_of_lt (by omega) (by omega), IntKind.wrap_u64, Int.emod_eq_of_lt (by omega) (by omega)]; omega
theorem take_good2 {s : ByteArray} {k n : Nat} {E : Int} (hlt : k < s.size) (hk : k < 10) (hH : Hid (takeGo (10 - k) k n (128 ^ k) (s.data.toList.drop k) = takeL s.data.toList))
    (hb : ¬ ((k = 9 ∧ 1 < s[k].toNat) ∨ (s[k].toNat = 0 ∧ 0 < k))) (hc : s[k].toNat < 128) (hE : E = ((n + s[k].toNat % 128 * 128 ^ k : Nat) : Int)) :
    Value.tuple #[.int .u64 E, .int .i64 (k + 1), .int .i64 0] = takeV (takeL s.data.toList) := by
  rw [← hH.out, drop_cons s k hlt, show 10 - k = (9 - k) + 1 from by omega, takeGo, if_neg hb, if_pos hc, hE]; rfl
theorem reft_pow {k q : Nat} (hq : Hid (k ≤ 9 → q = 128 ^ k)) (h : k ≤ 8) : (q : Int) * 128 = ((128 ^ (k + 1) : Nat) : Int) := by
  rw [hq.out (by omega), Nat.pow_succ]; push_cast; rfl
theorem wrap_nat (m : Nat) (h : m ≤ 18446744073709551615) : IntKind.u64.wrap (m : Int) = m := by rw [IntKind.wrap_u64, Int.emod_eq_of_lt (by omega) (by omega)]
theorem reft_le {k : Nat} (h : k ≤ 8) : 128 ^ (k + 1) ≤ 18446744073709551615 := by have := pow_le9 h; omega

set_option maxHeartbeats 800000 in
set_option maxRecDepth 100000 in
theorem reftake_any (s : ByteArray) (w : World) (hs : s.size ≤ maxLen) :
    Calls Try.prog 103 #[.string s] w (Gives w (takeV (takeL s.data.toList))) := by
  unfold maxLen at hs
  go_enter Try.func103, Try.ntmps103
  go_wp2_with fail
  go_loop [5, 6, 7] (fun x p i => ∃ k n q : Nat, k ≤ 10 ∧ k ≤ s.size ∧ i = .int .i64 k ∧ x = .int .u64 n ∧ p = .int .u64 q ∧ q ≤ 18446744073709551615 ∧ Hid (k ≤ 9 → q = 128 ^ k) ∧ Hid (n < 128 ^ k) ∧ Hid (takeGo (10 - k) k n (128 ^ k) (s.data.toList.drop k) = takeL s.data.toList)) (fun _ _ i => 10 - (intOf i).toNat)
  case atStart => exact ⟨0, 0, 1, by omega, by omega, rfl, rfl, rfl, by omega, fun _ => rfl, by show (0 : Nat) < 128 ^ 0; decide, rfl⟩
  case round =>
    obtain ⟨k, n, q, hk, hks, rfl, rfl, rfl, hq1, hq, hn, hH⟩ := hrel
    by_cases hlt : k < s.size
    · by_cases hk10 : k < 10
      · by_cases hk9 : k = 9
        · subst hk9
          have hc : s[9].toNat < 256 := s[9].toNat_lt
          by_cases hc1 : 1 < s[9].toNat
          · have hb0 : ((s[9].toNat : Int) == 0) = false := by rw [beq_eq_false_iff_ne]; omega
            go_wp2_with fail
            go_ret3
            exact Gives.mk (take_bad hlt hk10 hH (by omega)) (Up.refl _)
          · by_cases hc0 : 0 < s[9].toNat
            · have hb0 : ((s[9].toNat : Int) == 0) = false := by rw [beq_eq_false_iff_ne]; omega
              go_wp2_with fail
              go_ret3
              exact Gives.mk (take_good2 hlt hk10 hH (by omega) (by omega) (reft_val n q 9 _ (by omega) hn.out (by omega) (hq.out (by omega)))) (Up.refl _)
            · have hb0 : ((s[9].toNat : Int) == 0) = true := by rw [beq_iff_eq]; omega
              go_wp2_with fail
              go_ret3
              exact Gives.mk (take_bad hlt hk10 hH (by omega)) (Up.refl _)
        · have hc : s[k].toNat < 256 := s[k].toNat_lt
          go_wp2_with fail
          all_goals first
            | (go_ret3
               first
              | exact Gives.mk (take_bad hlt hk10 hH (by omega)) (Up.refl _)
              | exact Gives.mk (take_good2 hlt hk10 hH (by omega) (by omega) (reft_val n q k _ (by omega) hn.out (by omega) (hq.out (by omega)))) (Up.refl _))
            | skip
          all_goals go_round
          all_goals first
            | exact ⟨k + 1, _, 128 ^ (k + 1), by omega, by omega, by go_num, congrArg (Value.int .u64) (reft_val n q k _ (by omega) hn.out (by omega) (hq.out (by omega))), congrArg (Value.int .u64) (Eq.trans (by rw [reft_pow hq (by omega)]; rw [wrap_nat _ (reft_le (by omega))]) rfl), reft_le (by omega), fun _ => rfl, take_less _ hn, take_on hlt hk10 hH (by omega) (by omega)⟩
            | (simp [intOf]; omega)
      · go_wp2_with fail
        all_goals go_ret3
        all_goals exact Gives.mk (take_end hk (by omega) hH) (Up.refl _)
    · go_wp2_with fail
      all_goals go_ret3
      all_goals exact Gives.mk (take_end hk (by omega) hH) (Up.refl _)

end Go.Proofs.Ytpnlhnhjedopgaa
