/- The walks of varint.Take, varint.TakeInt, varint.Len and of the document's Take, Turn, Back: what each hands back. -/
import Derived.Test.YtpnlhnhjedopgaaVarA
namespace Go.Proofs.Ytpnlhnhjedopgaa
open Go Go.RowKit

/-- three results -/
def takeV (r : Nat × Nat × Int) : Value := .tuple #[.int .u64 (r.1 : Nat), .int .i64 (r.2.1 : Nat), .int .i64 r.2.2]

theorem and_127 : ∀ a, a < 256 → a &&& 127 = a % 128 := by decide +kernel
theorem or_low (n b k : Nat) (hn : n < 128 ^ k) : n ||| b * 128 ^ k = n + b * 128 ^ k := by
  have h2 : (128 : Nat) ^ k = 2 ^ (7 * k) := by rw [Nat.pow_mul]
  rw [h2] at hn ⊢
  rw [Nat.or_comm, ← Nat.shiftLeft_eq, ← Nat.shiftLeft_add_eq_or_of_lt hn, Nat.add_comm]
theorem pow_le9 {k : Nat} (h : k ≤ 8) : (128 : Nat) ^ (k + 1) ≤ 9223372036854775808 := by
  have := Nat.pow_le_pow_right (n := 128) (by decide) (show k + 1 ≤ 9 by omega)
  simpa using this
theorem take_small (k n c : Nat) (hk : k ≤ 9) (hn : n < 128 ^ k) (hc : c < 256) (h9 : k = 9 → c ≤ 1) : n + c % 128 * 128 ^ k < 18446744073709551616 := by
  rcases Nat.lt_or_ge k 9 with h | h
  · have h1 := pow_le9 (k := k) (by omega)
    rw [Nat.pow_succ] at h1
    have h2 : c % 128 * 128 ^ k ≤ 127 * 128 ^ k := Nat.mul_le_mul_right _ (by omega)
    omega
  · obtain rfl : k = 9 := by omega
    have := h9 rfl
    rw [show (128 : Nat) ^ 9 = 9223372036854775808 from by decide] at *
    have : c % 128 ≤ 1 := by omega
    have h2 : c % 128 * 9223372036854775808 ≤ 1 * 9223372036854775808 := Nat.mul_le_mul_right _ this
    omega
theorem take_val (k n : Nat) (c : UInt8) (hk : k ≤ 9) (hn : n < 128 ^ k) (h9 : k = 9 → c.toNat ≤ 1) :
    bits .or .u64 (n : Int) (IntKind.u64.wrap (IntKind.u64.wrap (bits .and .u8 (c.toNat : Int) 127) * 2 ^ (7 * k))) = ((n + c.toNat % 128 * 128 ^ k : Nat) : Int) := by
  have hc := c.toNat_lt
  have hs := take_small k n c.toNat hk hn (by omega) h9
  rw [u8_and _ _ (by omega) (by omega) (by omega) (by omega), show (127 : Int).toNat = 127 from rfl, Int.toNat_natCast, and_127 _ (by omega)]
  rw [IntKind.wrap_u64 ((c.toNat % 128 : Nat) : Int), Int.emod_eq_of_lt (by omega) (by omega)]
  have hp : ((c.toNat % 128 : Nat) : Int) * 2 ^ (7 * k) = ((c.toNat % 128 * 128 ^ k : Nat) : Int) := by
    rw [show (128 : Nat) ^ k = 2 ^ (7 * k) from by rw [Nat.pow_mul]]; push_cast; rfl
  rw [hp, IntKind.wrap_u64, Int.emod_eq_of_lt (by omega) (by omega), u64_or_nat _ _ (by omega) (by omega), or_low _ _ _ hn]

theorem drop_cons (s : ByteArray) (k : Nat) (h : k < s.size) : s.data.toList.drop k = s[k] :: s.data.toList.drop (k + 1) := by
  rw [List.drop_eq_getElem_cons (by simpa using h)]; rfl

theorem take_bad {s : ByteArray} {k n : Nat} (hlt : k < s.size) (hk : k < 10) (hH : Hid (takeGo (10 - k) k n (128 ^ k) (s.data.toList.drop k) = takeL s.data.toList))
    (hb : (k = 9 ∧ 1 < s[k].toNat) ∨ (s[k].toNat = 0 ∧ 0 < k)) : Value.tuple #[.int .u64 0, .int .i64 0, .int .i64 1] = takeV (takeL s.data.toList) := by
  rw [← hH.out, drop_cons s k hlt, show 10 - k = (9 - k) + 1 from by omega, takeGo, if_pos hb]; rfl
theorem take_good {s : ByteArray} {k n : Nat} {E : Int} (hlt : k < s.size) (hk : k < 10) (hn : Hid (n < 128 ^ k)) (hH : Hid (takeGo (10 - k) k n (128 ^ k) (s.data.toList.drop k) = takeL s.data.toList))
    (hb : ¬ ((k = 9 ∧ 1 < s[k].toNat) ∨ (s[k].toNat = 0 ∧ 0 < k))) (hc : s[k].toNat < 128)
    (hE : E = bits .or .u64 (n : Int) (IntKind.u64.wrap (IntKind.u64.wrap (bits .and .u8 (s[k].toNat : Int) 127) * 2 ^ (7 * k)))) :
    Value.tuple #[.int .u64 E, .int .i64 (k + 1), .int .i64 0] = takeV (takeL s.data.toList) := by
  rw [← hH.out, drop_cons s k hlt, show 10 - k = (9 - k) + 1 from by omega, takeGo, if_neg hb, if_pos hc, hE, take_val k n _ (by omega) hn.out (by omega)]; rfl
theorem take_on {s : ByteArray} {k n : Nat} (hlt : k < s.size) (hk : k < 10) (hH : Hid (takeGo (10 - k) k n (128 ^ k) (s.data.toList.drop k) = takeL s.data.toList))
    (hb : ¬ ((k = 9 ∧ 1 < s[k].toNat) ∨ (s[k].toNat = 0 ∧ 0 < k))) (hc : ¬ s[k].toNat < 128) :
    takeGo (10 - (k + 1)) (k + 1) (n + s[k].toNat % 128 * 128 ^ k) (128 ^ (k + 1)) (s.data.toList.drop (k + 1)) = takeL s.data.toList := by
  rw [← hH.out, drop_cons s k hlt, show 10 - k = (9 - k) + 1 from by omega, takeGo, if_neg hb, if_neg hc, show 10 - (k + 1) = 9 - k from by omega, Nat.pow_succ]
theorem take_end {s : ByteArray} {k n : Nat} (hk : k ≤ 10) (hlt : ¬ k < s.size ∨ k = 10) (hH : Hid (takeGo (10 - k) k n (128 ^ k) (s.data.toList.drop k) = takeL s.data.toList)) :
    Value.tuple #[.int .u64 0, .int .i64 0, .int .i64 2] = takeV (takeL s.data.toList) := by
  rw [← hH.out]
  rcases hlt with h | rfl
  · rw [List.drop_of_length_le (by simp; omega)]
    rcases Nat.lt_or_ge k 10 with h10 | h10
    · rw [show 10 - k = (9 - k) + 1 from by omega]; rfl
    · rw [show 10 - k = 0 from by omega]; rfl
  · rfl
theorem take_less {k n : Nat} (c : UInt8) (hn : Hid (n < 128 ^ k)) : n + c.toNat % 128 * 128 ^ k < 128 ^ (k + 1) := by
  have h2 : c.toNat % 128 * 128 ^ k ≤ 127 * 128 ^ k := Nat.mul_le_mul_right _ (by omega)
  have := hn.out
  rw [Nat.pow_succ]; omega

set_option maxHeartbeats 800000 in
set_option maxRecDepth 100000 in
theorem vartake_any (s : ByteArray) (w : World) (hs : s.size ≤ maxLen) :
    Calls Try.prog 128 #[.string s] w (Gives w (takeV (takeL s.data.toList))) := by
  unfold maxLen at hs
  by_cases h10 : s.size ≤ 10
  all_goals
    go_enter Try.func128, Try.ntmps128
    go_wp2_with fail
    go_loop [5, 11] (fun x i => ∃ k n : Nat, k ≤ 10 ∧ k ≤ s.size ∧ i = .int .i64 k ∧ x = .int .u64 n ∧ Hid (n < 128 ^ k) ∧ Hid (takeGo (10 - k) k n (128 ^ k) (s.data.toList.drop k) = takeL s.data.toList)) (fun _ i => 10 - (intOf i).toNat)
    case atStart => exact ⟨0, 0, by omega, by omega, rfl, rfl, by show (0 : Nat) < 128 ^ 0; decide, rfl⟩
    case round =>
      obtain ⟨k, n, hk, hks, rfl, rfl, hn, hH⟩ := hrel
      by_cases hlt : k < s.size
      · by_cases hk10 : k < 10
        · by_cases hk9 : k = 9
          · subst hk9
            go_wp2_with fail
            all_goals
              go_ret3
              first
                | exact Gives.mk (take_bad hlt hk10 hH (by omega)) (Up.refl _)
                | exact Gives.mk (take_good hlt hk10 hn hH (by omega) (by omega) rfl) (Up.refl _)
          · go_wp2_with fail
            all_goals first
              | (go_ret3
                 first
                | exact Gives.mk (take_bad hlt hk10 hH (by omega)) (Up.refl _)
                | exact Gives.mk (take_good hlt hk10 hn hH (by omega) (by omega) (by simp_all)) (Up.refl _))
              | skip
            go_round
            case rel => exact ⟨k + 1, _, by omega, by omega, by go_num, congrArg (Value.int .u64) (take_val k n _ (by omega) hn.out (by omega)), take_less _ hn, take_on hlt hk10 hH (by omega) (by omega)⟩
            case measure => simp [intOf]; omega
        · go_wp2_with fail
          all_goals go_ret3
          all_goals exact Gives.mk (take_end hk (by omega) hH) (Up.refl _)
      · go_wp2_with fail
        all_goals go_ret3
        all_goals exact Gives.mk (take_end hk (by omega) hH) (Up.refl _)
end Go.Proofs.Ytpnlhnhjedopgaa
