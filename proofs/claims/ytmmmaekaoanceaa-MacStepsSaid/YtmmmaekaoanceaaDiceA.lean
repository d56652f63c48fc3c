/- The walks of dice.Mix and of the document's xor and Mix: what each hands back. -/
import Derived.Test.YtmmmaekaoanceaaProg
import Derived.Test.YtmmmaekaoanceaaBase
namespace Go.Proofs.Ytmmmaekaoanceaa
open Go Go.RowKit

def mulA (x : Nat) : Nat := x * 11400714819323198485 % 18446744073709551616
def mulB (x : Nat) : Nat := x * 13787848793156543929 % 18446744073709551616
/-- a number of two -/
def mixN (a b : Nat) : Nat :=
  let x := mulA (a ^^^ b)
  let y := mulB (x ^^^ x / 536870912)
  y ^^^ y / 4294967296
theorem xor_lt {a b : Nat} (ha : a < 18446744073709551616) (hb : b < 18446744073709551616) : a ^^^ b < 18446744073709551616 := Nat.xor_lt_two_pow (n := 64) ha hb
theorem mulA_lt (x : Nat) : mulA x < 18446744073709551616 := Nat.mod_lt _ (by decide)
theorem mulB_lt (x : Nat) : mulB x < 18446744073709551616 := Nat.mod_lt _ (by decide)
theorem mixN_comm (a b : Nat) : mixN a b = mixN b a := by unfold mixN; rw [Nat.xor_comm a b]
theorem mixN_self (a : Nat) : mixN a a = 0 := by unfold mixN; rw [Nat.xor_self]; decide
theorem mixN_lt (a b : Nat) : mixN a b < 18446744073709551616 := by
  unfold mixN
  have h := mulB_lt (mulA (a ^^^ b) ^^^ mulA (a ^^^ b) / 536870912)
  exact xor_lt h (by omega)

theorem wrapA (x : Nat) : IntKind.u64.wrap ((x : Int) * 11400714819323198485) = (mulA x : Nat) := by
  rw [IntKind.wrap_u64]; unfold mulA; omega
theorem wrapB (x : Nat) : IntKind.u64.wrap ((x : Int) * 13787848793156543929) = (mulB x : Nat) := by
  rw [IntKind.wrap_u64]; unfold mulB; omega

theorem bits_xor_nat (a b : Nat) (ha : a < 18446744073709551616) (hb : b < 18446744073709551616) : bits .xor .u64 (a : Int) (b : Int) = ((a ^^^ b : Nat) : Int) := u64_xor_nat a b ha hb
theorem mix_val (a b : Nat) (ha : a < 18446744073709551616) (hb : b < 18446744073709551616) (x y : Int) (hx : x = IntKind.u64.wrap (bits .xor .u64 (a : Int) (b : Int) * 11400714819323198485))
    (hy : y = IntKind.u64.wrap (bits .xor .u64 x (x / 536870912) * 13787848793156543929)) : bits .xor .u64 y (y / 4294967296) = (mixN a b : Nat) := by
  rw [bits_xor_nat a b ha hb, wrapA] at hx
  subst hx
  have h1 := mulA_lt (a ^^^ b)
  rw [show ((mulA (a ^^^ b) : Nat) : Int) / 536870912 = ((mulA (a ^^^ b) / 536870912 : Nat) : Int) from by omega, bits_xor_nat _ _ h1 (by omega), wrapB] at hy
  subst hy
  have h2 := mulB_lt (mulA (a ^^^ b) ^^^ mulA (a ^^^ b) / 536870912)
  rw [show ((mulB (mulA (a ^^^ b) ^^^ mulA (a ^^^ b) / 536870912) : Nat) : Int) / 4294967296 = ((mulB (mulA (a ^^^ b) ^^^ mulA (a ^^^ b) / 536870912) / 4294967296 : Nat) : Int) from by omega, bits_xor_nat _ _ h2 (by omega)]
  rfl

theorem mix_any (a b : Nat) (w : World) (ha : a < 18446744073709551616) (hb : b < 18446744073709551616) :
    Calls Try.prog 65 #[.int .u64 a, .int .u64 b] w (Gives w (.int .u64 (mixN a b : Nat))) := by
  have H := Lib.hid (mix_val a b ha hb _ _ rfl rfl)
  go_enter Try.func65, Try.ntmps65
  go_wp2_with fail
  go_ret
  exact Gives.mk (congrArg (Value.int .u64) H.out) (Up.refl _)

theorem xor_bit (a b i : Nat) : (a ^^^ b) % 2 ^ (i + 1) = (a ^^^ b) % 2 ^ i + (if a / 2 ^ i % 2 ≠ b / 2 ^ i % 2 then 2 ^ i else 0) := by
  rw [Nat.mod_pow_succ]
  have h1 : (a ^^^ b) / 2 ^ i = a / 2 ^ i ^^^ b / 2 ^ i := by
    rw [← Nat.shiftRight_eq_div_pow, ← Nat.shiftRight_eq_div_pow, ← Nat.shiftRight_eq_div_pow, Nat.shiftRight_xor_distrib]
  rw [h1]
  have h2 : ∀ x y : Nat, (x ^^^ y) % 2 = if x % 2 ≠ y % 2 then 1 else 0 := by
    intro x y
    have e := Nat.xor_mod_two_pow (a := x) (b := y) (n := 1)
    simp only [Nat.pow_one] at e
    rw [e]
    rcases Nat.mod_two_eq_zero_or_one x with hx | hx <;> rcases Nat.mod_two_eq_zero_or_one y with hy | hy <;> rw [hx, hy] <;> decide
  rw [h2]
  split <;> simp

theorem xor_same {a b k m n u : Nat} (hm : Hid (m = a / 2 ^ k)) (hn : Hid (n = b / 2 ^ k)) (hu : Hid (u = (a ^^^ b) % 2 ^ k)) (h : m % 2 = n % 2) : u = (a ^^^ b) % 2 ^ (k + 1) := by
  rw [xor_bit, ← hm.out, ← hn.out, if_neg (by simpa using h), hu.out]; rfl
theorem xor_other {a b k m n u q : Nat} (hm : Hid (m = a / 2 ^ k)) (hn : Hid (n = b / 2 ^ k)) (hu : Hid (u = (a ^^^ b) % 2 ^ k)) (hq : q = 2 ^ k) (h : ¬ m % 2 = n % 2) : u + q = (a ^^^ b) % 2 ^ (k + 1) := by
  rw [xor_bit, ← hm.out, ← hn.out, if_pos h, hu.out, hq]
theorem half_pow {a k m : Nat} (hm : Hid (m = a / 2 ^ k)) : m / 2 = a / 2 ^ (k + 1) := by rw [hm.out, Nat.pow_succ, Nat.div_div_eq_div_mul]
theorem xor_room {a b k : Nat} (ha : a < 18446744073709551616) (hb : b < 18446744073709551616) : (a ^^^ b) % 2 ^ k ≤ 18446744073709551615 := by
  have := xor_lt ha hb; have := Nat.mod_le (a ^^^ b) (2 ^ k); omega
theorem wrapN (m : Nat) (h : m ≤ 18446744073709551615) : IntKind.u64.wrap (m : Int) = m := by rw [IntKind.wrap_u64, Int.emod_eq_of_lt (by omega) (by omega)]
theorem pow_two_le {k : Nat} (h : k ≤ 63) : 2 ^ k ≤ 9223372036854775808 := Nat.pow_le_pow_right (n := 2) (by decide) h
theorem wrap_nat' (x : Nat) : ∃ z : Nat, IntKind.u64.wrap (x : Int) = z ∧ z ≤ 18446744073709551615 ∧ (x ≤ 18446744073709551615 → z = x) := by
  refine ⟨x % 18446744073709551616, by rw [IntKind.wrap_u64]; omega, by omega, fun h => by omega⟩

set_option maxHeartbeats 800000 in
set_option maxRecDepth 100000 in
theorem refxor_any (a b : Nat) (w : World) (ha : a < 18446744073709551616) (hb' : b < 18446744073709551616) :
    Calls Try.prog 90 #[.int .u64 a, .int .u64 b] w (Gives w (.int .u64 (a ^^^ b : Nat))) := by
  have HX := Lib.hid (show (a ^^^ b) % 2 ^ 64 = a ^^^ b from Nat.mod_eq_of_lt (xor_lt ha hb'))
  go_enter Try.func90, Try.ntmps90
  go_wp2_with fail
  go_loop [0, 1, 5, 6, 7] (fun x y o p i => ∃ k m n u q : Nat, k ≤ 64 ∧ i = .int .i64 k ∧ x = .int .u64 m ∧ m ≤ 18446744073709551615 ∧ y = .int .u64 n ∧ n ≤ 18446744073709551615 ∧ o = .int .u64 u ∧ u ≤ 18446744073709551615 ∧ p = .int .u64 q ∧ q ≤ 18446744073709551615 ∧
      Hid (m = a / 2 ^ k) ∧ Hid (n = b / 2 ^ k) ∧ Hid (u = (a ^^^ b) % 2 ^ k) ∧ Hid (k ≤ 63 → q = 2 ^ k)) (fun _ _ _ _ i => 64 - (intOf i).toNat)
  case atStart => exact ⟨0, a, b, 0, 1, by omega, rfl, rfl, by omega, rfl, by omega, rfl, by omega, rfl, by omega, by simp [Hid], by simp [Hid], by simp [Hid, Nat.mod_one], fun _ => rfl⟩
  case round =>
    obtain ⟨k, m, n, u, q, hk, rfl, rfl, hm1, rfl, hn1, rfl, hu1, rfl, hq1, hm, hn, hu, hq⟩ := hrel
    by_cases hlt : k < 64
    · obtain ⟨z, hz, hz1, hz2⟩ := wrap_nat' (q * 2)
      have HZ := Lib.hid (show IntKind.u64.wrap ((q : Int) * 2) = z by rw [← hz]; push_cast; rfl)
      have HZ2 := Lib.hid (show k + 1 ≤ 63 → z = 2 ^ (k + 1) from fun h => by
        have h1 := hq.out (by omega); have h2 := pow_two_le (k := k + 1) h
        rw [Nat.pow_succ] at h2 ⊢
        rw [hz2 (by omega), h1])
      clear hz hz2
      by_cases hbit : m % 2 = n % 2
      · have hb : ((m : Int) % 2 != (n : Int) % 2) = false := by rw [bne_eq_false_iff_eq]; omega
        have HB := Lib.hid (xor_same hm hn hu hbit)
        clear hbit
        go_wp2_with fail
        go_round
        case rel => exact ⟨k + 1, m / 2, n / 2, u, z, by omega, by go_num, by go_num, by omega, by go_num, by omega, rfl, hu1, congrArg (Value.int .u64) HZ.out, hz1, half_pow hm, half_pow hn, HB, HZ2⟩
        case measure => simp [intOf]; omega
      · have hb : ((m : Int) % 2 != (n : Int) % 2) = true := by rw [bne_iff_ne]; omega
        have hs := xor_other hm hn hu (hq.out (by omega)) hbit
        have hr := xor_room (a := a) (b := b) (k := k + 1) ha hb'
        have HS := Lib.hid hs
        have hle : (u : Int) + q ≤ 18446744073709551615 := by omega
        clear hbit hs hr
        go_wp2_with fail
        go_round
        case rel => exact ⟨k + 1, m / 2, n / 2, u + q, z, by omega, by go_num, by go_num, by omega, by go_num, by omega, by go_num, by omega, congrArg (Value.int .u64) HZ.out, hz1, half_pow hm, half_pow hn, HS, HZ2⟩
        case measure => simp [intOf]; omega
    · go_wp2_with fail
      go_ret
      obtain rfl : k = 64 := by omega
      exact Gives.mk (congrArg (fun n : Nat => Value.int .u64 n) (hu.out.trans HX.out)) (Up.refl _)

theorem wrapA' (x : Nat) : IntKind.u64.wrap ((x : Int) * 11400714819323198485) = (mulA x : Nat) := wrapA x
set_option maxHeartbeats 800000 in
set_option maxRecDepth 100000 in
theorem refmix_any (a b : Nat) (w : World) (ha : a < 18446744073709551616) (hb : b < 18446744073709551616) :
    Calls Try.prog 66 #[.int .u64 a, .int .u64 b] w (Gives w (.int .u64 (mixN a b : Nat))) := by
  have wa := wrapA (a ^^^ b)
  have wb := wrapB (mulA (a ^^^ b) ^^^ mulA (a ^^^ b) / 536870912)
  have h1 := mulA_lt (a ^^^ b)
  have h2 := mulB_lt (mulA (a ^^^ b) ^^^ mulA (a ^^^ b) / 536870912)
  have H : Hid ((mulB (mulA (a ^^^ b) ^^^ mulA (a ^^^ b) / 536870912) ^^^ mulB (mulA (a ^^^ b) ^^^ mulA (a ^^^ b) / 536870912) / 4294967296) = mixN a b) := rfl
  generalize mulB (mulA (a ^^^ b) ^^^ mulA (a ^^^ b) / 536870912) = y at *
  generalize hx : mulA (a ^^^ b) = x at *
  clear hx
  go_enter Try.func66, Try.ntmps66
  go_wp2_with fail
  refine (refxor_any _ _ _ ha hb).mono ?_
  rintro e w1 ⟨rfl, hu1⟩
  go_wp2_with fail
  rw [show ((x : Int) / 536870912) = ((x / 536870912 : Nat) : Int) from by omega]
  refine (refxor_any _ _ _ h1 (by omega)).mono ?_
  rintro e w2 ⟨rfl, hu2⟩
  go_wp2_with fail
  rw [show ((y : Int) / 4294967296) = ((y / 4294967296 : Nat) : Int) from by omega]
  refine (refxor_any _ _ _ h2 (by omega)).mono ?_
  rintro e w3 ⟨rfl, hu3⟩
  go_wp2_with fail
  go_ret
  exact Gives.mk (congrArg (fun n : Nat => Value.int .u64 n) H.out) ((hu1.trans hu2).trans hu3)
end Go.Proofs.Ytmmmaekaoanceaa
