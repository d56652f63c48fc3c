/- The walks of varint.Turn, Back, PutInt, TakeInt, Len and of the document's Take, Turn, Back. -/
import Derived.Test.YtpnlhnhjedopgaaVarB
namespace Go.Proofs.Ytpnlhnhjedopgaa
open Go Go.RowKit

/-- a number with a sign as one without -/
def turnI (n : Int) : Int := if 0 ≤ n then 2 * n else -2 * n - 1
/-- a number without a sign as one with a sign -/
def backI (n : Int) : Int := if n % 2 = 0 then n / 2 else -(n / 2) - 1
theorem turn_bd (n : Int) (h0 : -9223372036854775808 ≤ n) (h1 : n ≤ 9223372036854775807) : 0 ≤ turnI n ∧ turnI n ≤ 18446744073709551615 := by unfold turnI; split <;> omega
theorem back_bd (n : Int) (h0 : 0 ≤ n) (h1 : n ≤ 18446744073709551615) : -9223372036854775808 ≤ backI n ∧ backI n ≤ 9223372036854775807 := by unfold backI; split <;> omega
theorem back_turn (n : Int) : backI (turnI n) = n := by unfold backI turnI; split <;> split <;> omega
theorem turn_back (n : Int) (h : 0 ≤ n) : turnI (backI n) = n := by unfold backI turnI; split <;> split <;> omega

theorem xor_zero_u64 (x : Int) (h0 : 0 ≤ x) (h1 : x < 18446744073709551616) : bits .xor .u64 x 0 = x := by
  rw [u64_xor _ _ h0 h1 (by omega) (by omega)]; simp; omega
theorem xor_ones_u64 (x : Int) (h0 : 0 ≤ x) (h1 : x < 18446744073709551616) : bits .xor .u64 x 18446744073709551615 = 18446744073709551615 - x := by
  have hb : (BitVec.ofInt 64 18446744073709551615) = BitVec.allOnes 64 := by decide
  show IntKind.u64.wrap ((BitVec.ofInt 64 x ^^^ BitVec.ofInt 64 18446744073709551615).toNat : Int) = _
  rw [hb, BitVec.xor_allOnes, BitVec.toNat_not, BitVec.toNat_ofInt, IntKind.wrap_u64]
  omega
theorem xor_zero_i64 (x : Int) (h0 : -9223372036854775808 ≤ x) (h1 : x ≤ 9223372036854775807) : bits .xor .i64 x 0 = x := by
  have hb : (BitVec.ofInt 64 0) = 0#64 := by decide
  show IntKind.i64.wrap ((BitVec.ofInt 64 x ^^^ BitVec.ofInt 64 0).toNat : Int) = _
  rw [hb, BitVec.xor_zero, BitVec.toNat_ofInt]
  simp [IntKind.wrap, IntKind.bits, IntKind.signed]; omega
theorem xor_ones_i64 (x : Int) (h0 : 0 ≤ x) (h1 : x ≤ 9223372036854775807) : bits .xor .i64 x (-1) = -x - 1 := by
  have hb : (BitVec.ofInt 64 (-1)) = BitVec.allOnes 64 := by decide
  show IntKind.i64.wrap ((BitVec.ofInt 64 x ^^^ BitVec.ofInt 64 (-1)).toNat : Int) = _
  rw [hb, BitVec.xor_allOnes, BitVec.toNat_not, BitVec.toNat_ofInt]
  simp [IntKind.wrap, IntKind.bits, IntKind.signed]; omega
theorem and_one (x : Int) (h0 : 0 ≤ x) (h1 : x < 18446744073709551616) : bits .and .u64 x 1 = x % 2 := by
  rw [u64_and _ _ h0 h1 (by omega) (by omega)]; simp [Nat.and_one_is_mod]; omega

theorem turn_val (n : Int) (h0 : -9223372036854775808 ≤ n) (h1 : n ≤ 9223372036854775807) :
    bits .xor .u64 (IntKind.u64.wrap (IntKind.u64.wrap n * 2)) (IntKind.u64.wrap (n / 9223372036854775808)) = turnI n := by
  simp only [IntKind.wrap_u64]
  unfold turnI
  by_cases hn : 0 ≤ n
  · rw [if_pos hn, show n / 9223372036854775808 % 18446744073709551616 = 0 from by omega, xor_zero_u64 _ (by omega) (by omega)]; omega
  · rw [if_neg hn, show n / 9223372036854775808 % 18446744073709551616 = 18446744073709551615 from by omega, xor_ones_u64 _ (by omega) (by omega)]; omega
theorem back_val (n : Int) (h0 : 0 ≤ n) (h1 : n ≤ 18446744073709551615) :
    bits .xor .i64 (n / 2) (wrap64 (-wrap64 (bits .and .u64 n 1))) = backI n := by
  rw [and_one n h0 (by omega)]
  unfold backI
  by_cases hn : n % 2 = 0
  · rw [if_pos hn, hn, show wrap64 (-wrap64 0) = 0 from by decide +kernel, xor_zero_i64 _ (by omega) (by omega)]
  · rw [if_neg hn, show n % 2 = 1 from by omega, show wrap64 (-wrap64 1) = -1 from by decide +kernel, xor_ones_i64 _ (by omega) (by omega)]

end Go.Proofs.Ytpnlhnhjedopgaa
