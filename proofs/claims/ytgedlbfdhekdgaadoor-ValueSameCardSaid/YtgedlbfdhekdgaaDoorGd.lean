/- One text out of several: PlainV, VarA. -/
import Derived.Test.YtgedlbfdhekdgaaDoorProg
import Derived.Test.YtgedlbfdhekdgaaDoorBase

section
/- Chapter 1 in plain words: the bytes of a number, and the number with which bytes begin. No program in sight. -/
namespace Go.Proofs.YtgedlbfdhekdgaaDoor

/-- the bytes of a number -/
def putL (n : Nat) : List UInt8 := if n < 128 then [UInt8.ofNat n] else UInt8.ofNat (n % 128 + 128) :: putL (n / 128)
termination_by n
decreasing_by omega

theorem putL_small {n : Nat} (h : n < 128) : putL n = [UInt8.ofNat n] := by rw [putL, if_pos h]
theorem putL_great {n : Nat} (h : ¬ n < 128) : putL n = UInt8.ofNat (n % 128 + 128) :: putL (n / 128) := by rw [putL, if_neg h]
theorem putL_pos (n : Nat) : 1 ≤ (putL n).length := by
  by_cases h : n < 128
  · rw [putL_small h]; simp
  · rw [putL_great h]; simp
theorem putL_le (k : Nat) : ∀ n, n < 128 ^ (k + 1) → (putL n).length ≤ k + 1 := by
  induction k with
  | zero => intro n h; rw [putL_small (by simpa using h)]; simp
  | succ k ih =>
    intro n h
    by_cases hn : n < 128
    · rw [putL_small hn]; simp
    · rw [putL_great hn]
      have := ih (n / 128) (by rw [Nat.div_lt_iff_lt_mul (by decide)]; rw [Nat.pow_succ] at h; exact h)
      simp; omega
theorem putL_ten {n : Nat} (h : n < 18446744073709551616) : (putL n).length ≤ 10 := putL_le 9 n (by omega)

/-- the number with which bytes begin: of what was read (n, the factor p, k bytes), and how many bytes may come still -/
def takeGo : Nat → Nat → Nat → Nat → List UInt8 → Nat × Nat × Int
  | 0, _, _, _, _ => (0, 0, 2)
  | _ + 1, _, _, _, [] => (0, 0, 2)
  | f + 1, k, n, p, c :: r =>
    if (k = 9 ∧ 1 < c.toNat) ∨ (c.toNat = 0 ∧ 0 < k) then (0, 0, 1)
    else if c.toNat < 128 then (n + c.toNat % 128 * p, k + 1, 0)
    else takeGo f (k + 1) (n + c.toNat % 128 * p) (p * 128) r
def takeL (l : List UInt8) : Nat × Nat × Int := takeGo 10 0 0 1 l

end Go.Proofs.YtgedlbfdhekdgaaDoor
end

section
/- The walks of varint.Put, varint.Turn, varint.Back, varint.PutInt and of their twins of the document: what each hands back. -/
namespace Go.Proofs.YtgedlbfdhekdgaaDoor
open Go Go.RowKit

theorem rowU8 : Row1 Tryd.prog 64 5 (.int .u8 0) 1 1 := ⟨by kernel_rfl, by kernel_rfl, rfl, by decide⟩

theorem byte_any (n : Int) (w : World) (h0 : 0 ≤ n) (h1 : n ≤ 255) :
    Calls Tryd.prog 46 #[.int .i64 n] w (Gives w (.string (S [UInt8.ofNat n.toNat]))) := by
  have hc := fun w => conv_one (P := Tryd.prog) w 64 9 5 5 n Tryd.underlying64 Tryd.underlying5 Tryd.underlying9 h0 h1
  go_enter Tryd.func46, Tryd.ntmps46
  go_wp2_with fail
  go_ret
  exact ⟨rfl, (Up.refl _).alloc _⟩

theorem or_128 : ∀ a, a < 256 → a ||| 128 = a % 128 + 128 := by decide +kernel
theorem bits_or_128 (m : Int) (h0 : 0 ≤ m) : bits .or .u8 (m % 256) 128 = ((UInt8.ofNat (m.toNat % 128 + 128)).toNat : Int) := by
  rw [u8_or _ _ (by omega) (by omega) (by omega) (by omega)]
  rw [show (128 : Int).toNat = 128 from rfl, or_128 _ (by omega)]
  simp; omega

/-- one byte more behind a row of bytes -/
theorem row_snoc (l : List UInt8) (b : UInt8) (n : Int) (h : n = (b.toNat : Int)) :
    (l.map fun b => Value.int .u8 (b.toNat : Int)) ++ #[Value.int .u8 n].toList = (l ++ [b]).map fun b => Value.int .u8 (b.toNat : Int) := by
  subst h; simp

end Go.Proofs.YtgedlbfdhekdgaaDoor
end
