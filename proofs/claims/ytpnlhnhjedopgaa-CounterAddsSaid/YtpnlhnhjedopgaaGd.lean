/- One text out of several: PlainV, VarA, VarB, VarC, VarD, CallA, SpanA, ReadA, ReadB, NextA. -/
import Derived.Test.YtpnlhnhjedopgaaProg
import Derived.Test.YtpnlhnhjedopgaaBase

section
/- Chapter 1 in plain words: the bytes of a number, and the number with which bytes begin. No program in sight. -/
namespace Go.Proofs.Ytpnlhnhjedopgaa

/-- the bytes of a number -/
def putL (n : Nat) : List UInt8 := if n < 128 then [UInt8.ofNat n] else UInt8.ofNat (n % 128 + 128) :: putL (n / 128)
termination_by n
decreasing_by omega

theorem putL_small {n : Nat} (h : n < 128) : putL n = [UInt8.ofNat n] := by rw [putL, if_pos h]
theorem putL_great {n : Nat} (h : ¬ n < 128) : putL n = UInt8.ofNat (n % 128 + 128) :: putL (n / 128) := by rw [putL, if_neg h]
theorem putL_pos (n : Nat) : 1 ≤ (putL n).length := by
  by_cases h : n < 128
  · rw [putL_small h]; simp
  · rw [putL_great h]; simp
theorem putL_le (k : Nat) : ∀ n, n < 128 ^ (k + 1) → (putL n).length ≤ k + 1 := by
  induction k with
  | zero => intro n h; rw [putL_small (by simpa using h)]; simp
  | succ k ih =>
    intro n h
    by_cases hn : n < 128
    · rw [putL_small hn]; simp
    · rw [putL_great hn]
      have := ih (n / 128) (by rw [Nat.div_lt_iff_lt_mul (by decide)]; rw [Nat.pow_succ] at h; exact h)
      simp; omega
theorem putL_ten {n : Nat} (h : n < 18446744073709551616) : (putL n).length ≤ 10 := putL_le 9 n (by omega)

/-- the number with which bytes begin: of what was read (n, the factor p, k bytes), and how many bytes may come still -/
def takeGo : Nat → Nat → Nat → Nat → List UInt8 → Nat × Nat × Int
  | 0, _, _, _, _ => (0, 0, 2)
  | _ + 1, _, _, _, [] => (0, 0, 2)
  | f + 1, k, n, p, c :: r =>
    if (k = 9 ∧ 1 < c.toNat) ∨ (c.toNat = 0 ∧ 0 < k) then (0, 0, 1)
    else if c.toNat < 128 then (n + c.toNat % 128 * p, k + 1, 0)
    else takeGo f (k + 1) (n + c.toNat % 128 * p) (p * 128) r
def takeL (l : List UInt8) : Nat × Nat × Int := takeGo 10 0 0 1 l

end Go.Proofs.Ytpnlhnhjedopgaa
end

section
/- The walks of varint.Put, varint.Turn, varint.Back, varint.PutInt and of their twins of the document: what each hands back. -/
namespace Go.Proofs.Ytpnlhnhjedopgaa
open Go Go.RowKit

theorem rowU8 : Row1 Try.prog 194 5 (.int .u8 0) 1 1 := ⟨by kernel_rfl, by kernel_rfl, rfl, by decide⟩

theorem byte_any (n : Int) (w : World) (h0 : 0 ≤ n) (h1 : n ≤ 255) :
    Calls Try.prog 125 #[.int .i64 n] w (Gives w (.string (S [UInt8.ofNat n.toNat]))) := by
  have hc := fun w => conv_one (P := Try.prog) w 194 9 5 5 n Try.underlying194 Try.underlying5 Try.underlying9 h0 h1
  go_enter Try.func125, Try.ntmps125
  go_wp2_with fail
  go_ret
  exact ⟨rfl, (Up.refl _).alloc _⟩

theorem refput_any (k : Nat) : ∀ (n : Int) (w : World), n.toNat ≤ k → 0 ≤ n → n ≤ 18446744073709551615 →
    Calls Try.prog 95 #[.int .u64 n] w (Gives w (.string (S (putL n.toNat)))) := by
  induction k with
  | zero =>
    intro n w hk h0 h1
    have hp : S [UInt8.ofNat n.toNat] = S (putL n.toNat) := by rw [putL_small (by omega)]
    have H := Lib.hid hp; clear hp
    go_enter Try.func95, Try.ntmps95
    go_wp2_with fail
    refine (byte_any _ _ (by omega) (by omega)).mono ?_
    rintro e w1 ⟨rfl, hu⟩
    go_wp2_with fail
    go_ret
    exact Gives.mk (congrArg Value.string H.out) (hu)
  | succ k ih =>
    intro n w hk h0 h1
    by_cases hn : n < 128
    · have hp : S [UInt8.ofNat n.toNat] = S (putL n.toNat) := by rw [putL_small (by omega)]
      have H := Lib.hid hp; clear hp
      go_enter Try.func95, Try.ntmps95
      go_wp2_with fail
      refine (byte_any _ _ (by omega) (by omega)).mono ?_
      rintro e w1 ⟨rfl, hu⟩
      go_wp2_with fail
      go_ret
      exact Gives.mk (congrArg Value.string H.out) (hu)
    · have hp : S [UInt8.ofNat (n % 128 + 128).toNat] ++ S (putL (n / 128).toNat) = S (putL n.toNat) := by
        rw [S_append, putL_great (n := n.toNat) (by omega)]
        simp only [List.singleton_append]
        rw [show (n % 128 + 128).toNat = n.toNat % 128 + 128 from by omega, show (n / 128).toNat = n.toNat / 128 from by omega]
      have H := Lib.hid hp; clear hp
      have hs1 : (S [UInt8.ofNat (n % 128 + 128).toNat]).size ≤ 1 := by rw [S_size]; simp
      have hs2 : (S (putL (n / 128).toNat)).size ≤ 10 := by rw [S_size]; exact putL_ten (by omega)
      have hbig : ¬ n < 128 := hn
      go_enter Try.func95, Try.ntmps95
      go_wp2_with fail
      refine (byte_any _ _ (by omega) (by omega)).mono ?_
      rintro e w1 ⟨rfl, hu⟩
      go_wp2_with fail
      refine (ih _ _ (by omega) (by omega) (by omega)).mono ?_
      rintro e w2 ⟨rfl, hu2⟩
      go_wp2_with fail
      go_ret
      exact Gives.mk (congrArg Value.string H.out) (hu.trans hu2)

theorem or_128 : ∀ a, a < 256 → a ||| 128 = a % 128 + 128 := by decide +kernel
theorem bits_or_128 (m : Int) (h0 : 0 ≤ m) : bits .or .u8 (m % 256) 128 = ((UInt8.ofNat (m.toNat % 128 + 128)).toNat : Int) := by
  rw [u8_or _ _ (by omega) (by omega) (by omega) (by omega)]
  rw [show (128 : Int).toNat = 128 from rfl, or_128 _ (by omega)]
  simp; omega

/-- one byte more behind a row of bytes -/
theorem row_snoc (l : List UInt8) (b : UInt8) (n : Int) (h : n = (b.toNat : Int)) :
    (l.map fun b => Value.int .u8 (b.toNat : Int)) ++ #[Value.int .u8 n].toList = (l ++ [b]).map fun b => Value.int .u8 (b.toNat : Int) := by
  subst h; simp

set_option maxHeartbeats 400000 in
set_option maxRecDepth 100000 in
theorem varput_any (n : Int) (w : World) (h0 : 0 ≤ n) (h1 : n ≤ 18446744073709551615) :
    Calls Try.prog 91 #[.int .u64 n] w (Gives w (.string (S (putL n.toNat)))) := by
  have H10 := Lib.hid (putL_ten (n := n.toNat) (by omega))
  go_enter Try.func91, Try.ntmps91
  go_wp2_with fail
  go_step3
  go_wp2_with fail
  go_step3
  go_wp2_with fail
  go_loopw [0, 3] (fun x v wr => ∃ (m : Int) (l : List UInt8), 0 ≤ m ∧ m ≤ 18446744073709551615 ∧ x = .int .u64 m ∧ Hid (l ++ putL m.toNat = putL n.toNat) ∧
      wr.ownsRow w.heap.size 5 1 v l.length (l.map fun b => .int .u8 (b.toNat : Int)) ∧ Up w wr) (fun x _ _ => (intOf x).toNat)
  case atStart => exact ⟨n, [], h0, h1, rfl, rfl, World.ownsRow_nil _ _ _ _, Up.refl _⟩
  case round =>
    obtain ⟨m, l, hm0, hm1, rfl, hl, hown, hup⟩ := hrel
    have hlen : l.length + 1 ≤ 10 := by
      have h2 := congrArg List.length hl.out; have h3 := H10.out; have h4 := putL_pos m.toNat
      simp at h2; omega
    by_cases hm : m < 128
    · have hp := row_snoc l (UInt8.ofNat m.toNat) m (by simp; omega)
      have HP := Lib.hid hp; clear hp
      have hq : S (l ++ [UInt8.ofNat m.toNat]) = S (putL n.toNat) := by rw [← hl.out, putL_small (by omega)]
      have HQ := Lib.hid hq; clear hq
      go_wp2_with (at_builtin; refine wpList_app1 rfl _ _ 194 5 rfl rowU8 hup hown rfl #[.int .u8 m] rfl rfl (by simp [Value.oneCell']) (by unfold maxLen; omega) (by omega) ?_; intro v' w' hown' hup'; rw [HP.out] at hown'; have hcv := conv_row (P := Try.prog) 194 9 5 Try.underlying194 Try.underlying5 Try.underlying9 hown'; clear hown' hown)
      go_ret
      exact Gives.mk (congrArg Value.string HQ.out) hup'
    · have hp := row_snoc l (UInt8.ofNat (m.toNat % 128 + 128)) _ (bits_or_128 m hm0)
      have HP := Lib.hid hp; clear hp
      have hq : (l ++ [UInt8.ofNat (m.toNat % 128 + 128)]) ++ putL (m / 128).toNat = putL n.toNat := by
        rw [← hl.out, putL_great (n := m.toNat) (by omega), show (m / 128).toNat = m.toNat / 128 from by omega]; simp
      have HQ := Lib.hid hq; clear hq
      have hl2 : (l ++ [UInt8.ofNat (m.toNat % 128 + 128)]).length = l.length + 1 := by simp
      have HL := Lib.hid hl2; clear hl2
      go_wp2_with (at_builtin; refine wpList_app1 rfl _ _ 194 5 rfl rowU8 hup hown rfl #[.int .u8 (bits .or .u8 (m % 256) 128)] rfl rfl (by simp [Value.oneCell']) (by unfold maxLen; omega) (by omega) ?_; intro v' w' hown' hup'; rw [HP.out, ← HL.out] at hown'; clear hown)
      go_roundw
      case rel => exact ⟨m / 128, _, by omega, by omega, rfl, HQ, hown', hup'⟩
      case measure => simp [intOf]; omega
end Go.Proofs.Ytpnlhnhjedopgaa
end

section
/- The walks of varint.Take, varint.TakeInt, varint.Len and of the document's Take, Turn, Back: what each hands back. -/
namespace Go.Proofs.Ytpnlhnhjedopgaa
open Go Go.RowKit

/-- three results -/
def takeV (r : Nat × Nat × Int) : Value := .tuple #[.int .u64 (r.1 : Nat), .int .i64 (r.2.1 : Nat), .int .i64 r.2.2]

theorem and_127 : ∀ a, a < 256 → a &&& 127 = a % 128 := by decide +kernel
theorem or_low (n b k : Nat) (hn : n < 128 ^ k) : n ||| b * 128 ^ k = n + b * 128 ^ k := by
  have h2 : (128 : Nat) ^ k = 2 ^ (7 * k) := by rw [Nat.pow_mul]
  rw [h2] at hn ⊢
  rw [Nat.or_comm, ← Nat.shiftLeft_eq, ← Nat.shiftLeft_add_eq_or_of_lt hn, Nat.add_comm]
theorem pow_le9 {k : Nat} (h : k ≤ 8) : (128 : Nat) ^ (k + 1) ≤ 9223372036854775808 := by
  have := Nat.pow_le_pow_right (n := 128) (by decide) (show k + 1 ≤ 9 by omega)
  simpa using this
theorem take_small (k n c : Nat) (hk : k ≤ 9) (hn : n < 128 ^ k) (hc : c < 256) (h9 : k = 9 → c ≤ 1) : n + c % 128 * 128 ^ k < 18446744073709551616 := by
  rcases Nat.lt_or_ge k 9 with h | h
  · have h1 := pow_le9 (k := k) (by omega)
    rw [Nat.pow_succ] at h1
    have h2 : c % 128 * 128 ^ k ≤ 127 * 128 ^ k := Nat.mul_le_mul_right _ (by omega)
    omega
  · obtain rfl : k = 9 := by omega
    have := h9 rfl
    rw [show (128 : Nat) ^ 9 = 9223372036854775808 from by decide] at *
    have : c % 128 ≤ 1 := by omega
    have h2 : c % 128 * 9223372036854775808 ≤ 1 * 9223372036854775808 := Nat.mul_le_mul_right _ this
    omega
theorem take_val (k n : Nat) (c : UInt8) (hk : k ≤ 9) (hn : n < 128 ^ k) (h9 : k = 9 → c.toNat ≤ 1) :
    bits .or .u64 (n : Int) (IntKind.u64.wrap (IntKind.u64.wrap (bits .and .u8 (c.toNat : Int) 127) * 2 ^ (7 * k))) = ((n + c.toNat % 128 * 128 ^ k : Nat) : Int) := by
  have hc := c.toNat_lt
  have hs := take_small k n c.toNat hk hn (by omega) h9
  rw [u8_and _ _ (by omega) (by omega) (by omega) (by omega), show (127 : Int).toNat = 127 from rfl, Int.toNat_natCast, and_127 _ (by omega)]
  rw [IntKind.wrap_u64 ((c.toNat % 128 : Nat) : Int), Int.emod_eq_of_lt (by omega) (by omega)]
  have hp : ((c.toNat % 128 : Nat) : Int) * 2 ^ (7 * k) = ((c.toNat % 128 * 128 ^ k : Nat) : Int) := by
    rw [show (128 : Nat) ^ k = 2 ^ (7 * k) from by rw [Nat.pow_mul]]; push_cast; rfl
  rw [hp, IntKind.wrap_u64, Int.emod_eq_of_lt (by omega) (by omega), u64_or_nat _ _ (by omega) (by omega), or_low _ _ _ hn]

theorem drop_cons (s : ByteArray) (k : Nat) (h : k < s.size) : s.data.toList.drop k = s[k] :: s.data.toList.drop (k + 1) := by
  rw [List.drop_eq_getElem_cons (by simpa using h)]; rfl

theorem take_bad {s : ByteArray} {k n : Nat} (hlt : k < s.size) (hk : k < 10) (hH : Hid (takeGo (10 - k) k n (128 ^ k) (s.data.toList.drop k) = takeL s.data.toList))
    (hb : (k = 9 ∧ 1 < s[k].toNat) ∨ (s[k].toNat = 0 ∧ 0 < k)) : Value.tuple #[.int .u64 0, .int .i64 0, .int .i64 1] = takeV (takeL s.data.toList) := by
  rw [← hH.out, drop_cons s k hlt, show 10 - k = (9 - k) + 1 from by omega, takeGo, if_pos hb]; rfl
theorem take_good {s : ByteArray} {k n : Nat} {E : Int} (hlt : k < s.size) (hk : k < 10) (hn : Hid (n < 128 ^ k)) (hH : Hid (takeGo (10 - k) k n (128 ^ k) (s.data.toList.drop k) = takeL s.data.toList))
    (hb : ¬ ((k = 9 ∧ 1 < s[k].toNat) ∨ (s[k].toNat = 0 ∧ 0 < k))) (hc : s[k].toNat < 128)
    (hE : E = bits .or .u64 (n : Int) (IntKind.u64.wrap (IntKind.u64.wrap (bits .and .u8 (s[k].toNat : Int) 127) * 2 ^ (7 * k)))) :
    Value.tuple #[.int .u64 E, .int .i64 (k + 1), .int .i64 0] = takeV (takeL s.data.toList) := by
  rw [← hH.out, drop_cons s k hlt, show 10 - k = (9 - k) + 1 from by omega, takeGo, if_neg hb, if_pos hc, hE, take_val k n _ (by omega) hn.out (by omega)]; rfl
theorem take_on {s : ByteArray} {k n : Nat} (hlt : k < s.size) (hk : k < 10) (hH : Hid (takeGo (10 - k) k n (128 ^ k) (s.data.toList.drop k) = takeL s.data.toList))
    (hb : ¬ ((k = 9 ∧ 1 < s[k].toNat) ∨ (s[k].toNat = 0 ∧ 0 < k))) (hc : ¬ s[k].toNat < 128) :
    takeGo (10 - (k + 1)) (k + 1) (n + s[k].toNat % 128 * 128 ^ k) (128 ^ (k + 1)) (s.data.toList.drop (k + 1)) = takeL s.data.toList := by
  rw [← hH.out, drop_cons s k hlt, show 10 - k = (9 - k) + 1 from by omega, takeGo, if_neg hb, if_neg hc, show 10 - (k + 1) = 9 - k from by omega, Nat.pow_succ]
theorem take_end {s : ByteArray} {k n : Nat} (hk : k ≤ 10) (hlt : ¬ k < s.size ∨ k = 10) (hH : Hid (takeGo (10 - k) k n (128 ^ k) (s.data.toList.drop k) = takeL s.data.toList)) :
    Value.tuple #[.int .u64 0, .int .i64 0, .int .i64 2] = takeV (takeL s.data.toList) := by
  rw [← hH.out]
  rcases hlt with h | rfl
  · rw [List.drop_of_length_le (by simp; omega)]
    rcases Nat.lt_or_ge k 10 with h10 | h10
    · rw [show 10 - k = (9 - k) + 1 from by omega]; rfl
    · rw [show 10 - k = 0 from by omega]; rfl
  · rfl
theorem take_less {k n : Nat} (c : UInt8) (hn : Hid (n < 128 ^ k)) : n + c.toNat % 128 * 128 ^ k < 128 ^ (k + 1) := by
  have h2 : c.toNat % 128 * 128 ^ k ≤ 127 * 128 ^ k := Nat.mul_le_mul_right _ (by omega)
  have := hn.out
  rw [Nat.pow_succ]; omega

set_option maxHeartbeats 800000 in
set_option maxRecDepth 100000 in
theorem vartake_any (s : ByteArray) (w : World) (hs : s.size ≤ maxLen) :
    Calls Try.prog 128 #[.string s] w (Gives w (takeV (takeL s.data.toList))) := by
  unfold maxLen at hs
  by_cases h10 : s.size ≤ 10
  all_goals
    go_enter Try.func128, Try.ntmps128
    go_wp2_with fail
    go_loop [5, 11] (fun x i => ∃ k n : Nat, k ≤ 10 ∧ k ≤ s.size ∧ i = .int .i64 k ∧ x = .int .u64 n ∧ Hid (n < 128 ^ k) ∧ Hid (takeGo (10 - k) k n (128 ^ k) (s.data.toList.drop k) = takeL s.data.toList)) (fun _ i => 10 - (intOf i).toNat)
    case atStart => exact ⟨0, 0, by omega, by omega, rfl, rfl, by show (0 : Nat) < 128 ^ 0; decide, rfl⟩
    case round =>
      obtain ⟨k, n, hk, hks, rfl, rfl, hn, hH⟩ := hrel
      by_cases hlt : k < s.size
      · by_cases hk10 : k < 10
        · by_cases hk9 : k = 9
          · subst hk9
            go_wp2_with fail
            all_goals
              go_ret3
              first
                | exact Gives.mk (take_bad hlt hk10 hH (by omega)) (Up.refl _)
                | exact Gives.mk (take_good hlt hk10 hn hH (by omega) (by omega) rfl) (Up.refl _)
          · go_wp2_with fail
            all_goals first
              | (go_ret3
                 first
                | exact Gives.mk (take_bad hlt hk10 hH (by omega)) (Up.refl _)
                | exact Gives.mk (take_good hlt hk10 hn hH (by omega) (by omega) (by simp_all)) (Up.refl _))
              | skip
            go_round
            case rel => exact ⟨k + 1, _, by omega, by omega, by go_num, congrArg (Value.int .u64) (take_val k n _ (by omega) hn.out (by omega)), take_less _ hn, take_on hlt hk10 hH (by omega) (by omega)⟩
            case measure => simp [intOf]; omega
        · go_wp2_with fail
          all_goals go_ret3
          all_goals exact Gives.mk (take_end hk (by omega) hH) (Up.refl _)
      · go_wp2_with fail
        all_goals go_ret3
        all_goals exact Gives.mk (take_end hk (by omega) hH) (Up.refl _)
end Go.Proofs.Ytpnlhnhjedopgaa
end

section
/- The walks of varint.Turn, Back, PutInt, TakeInt, Len and of the document's Take, Turn, Back. -/
namespace Go.Proofs.Ytpnlhnhjedopgaa
open Go Go.RowKit

/-- a number with a sign as one without -/
def turnI (n : Int) : Int := if 0 ≤ n then 2 * n else -2 * n - 1
/-- a number without a sign as one with a sign -/
def backI (n : Int) : Int := if n % 2 = 0 then n / 2 else -(n / 2) - 1
theorem turn_bd (n : Int) (h0 : -9223372036854775808 ≤ n) (h1 : n ≤ 9223372036854775807) : 0 ≤ turnI n ∧ turnI n ≤ 18446744073709551615 := by unfold turnI; split <;> omega
theorem back_bd (n : Int) (h0 : 0 ≤ n) (h1 : n ≤ 18446744073709551615) : -9223372036854775808 ≤ backI n ∧ backI n ≤ 9223372036854775807 := by unfold backI; split <;> omega
theorem back_turn (n : Int) : backI (turnI n) = n := by unfold backI turnI; split <;> split <;> omega
theorem turn_back (n : Int) (h : 0 ≤ n) : turnI (backI n) = n := by unfold backI turnI; split <;> split <;> omega

theorem xor_zero_u64 (x : Int) (h0 : 0 ≤ x) (h1 : x < 18446744073709551616) : bits .xor .u64 x 0 = x := by
  rw [u64_xor _ _ h0 h1 (by omega) (by omega)]; simp; omega
theorem xor_ones_u64 (x : Int) (h0 : 0 ≤ x) (h1 : x < 18446744073709551616) : bits .xor .u64 x 18446744073709551615 = 18446744073709551615 - x := by
  have hb : (BitVec.ofInt 64 18446744073709551615) = BitVec.allOnes 64 := by decide
  show IntKind.u64.wrap ((BitVec.ofInt 64 x ^^^ BitVec.ofInt 64 18446744073709551615).toNat : Int) = _
  rw [hb, BitVec.xor_allOnes, BitVec.toNat_not, BitVec.toNat_ofInt, IntKind.wrap_u64]
  omega
theorem xor_zero_i64 (x : Int) (h0 : -9223372036854775808 ≤ x) (h1 : x ≤ 9223372036854775807) : bits .xor .i64 x 0 = x := by
  have hb : (BitVec.ofInt 64 0) = 0#64 := by decide
  show IntKind.i64.wrap ((BitVec.ofInt 64 x ^^^ BitVec.ofInt 64 0).toNat : Int) = _
  rw [hb, BitVec.xor_zero, BitVec.toNat_ofInt]
  simp [IntKind.wrap, IntKind.bits, IntKind.signed]; omega
theorem xor_ones_i64 (x : Int) (h0 : 0 ≤ x) (h1 : x ≤ 9223372036854775807) : bits .xor .i64 x (-1) = -x - 1 := by
  have hb : (BitVec.ofInt 64 (-1)) = BitVec.allOnes 64 := by decide
  show IntKind.i64.wrap ((BitVec.ofInt 64 x ^^^ BitVec.ofInt 64 (-1)).toNat : Int) = _
  rw [hb, BitVec.xor_allOnes, BitVec.toNat_not, BitVec.toNat_ofInt]
  simp [IntKind.wrap, IntKind.bits, IntKind.signed]; omega
theorem and_one (x : Int) (h0 : 0 ≤ x) (h1 : x < 18446744073709551616) : bits .and .u64 x 1 = x % 2 := by
  rw [u64_and _ _ h0 h1 (by omega) (by omega)]; simp [Nat.and_one_is_mod]; omega

theorem turn_val (n : Int) (h0 : -9223372036854775808 ≤ n) (h1 : n ≤ 9223372036854775807) :
    bits .xor .u64 (IntKind.u64.wrap (IntKind.u64.wrap n * 2)) (IntKind.u64.wrap (n / 9223372036854775808)) = turnI n := by
  simp only [IntKind.wrap_u64]
  unfold turnI
  by_cases hn : 0 ≤ n
  · rw [if_pos hn, show n / 9223372036854775808 % 18446744073709551616 = 0 from by omega, xor_zero_u64 _ (by omega) (by omega)]; omega
  · rw [if_neg hn, show n / 9223372036854775808 % 18446744073709551616 = 18446744073709551615 from by omega, xor_ones_u64 _ (by omega) (by omega)]; omega
theorem back_val (n : Int) (h0 : 0 ≤ n) (h1 : n ≤ 18446744073709551615) :
    bits .xor .i64 (n / 2) (wrap64 (-wrap64 (bits .and .u64 n 1))) = backI n := by
  rw [and_one n h0 (by omega)]
  unfold backI
  by_cases hn : n % 2 = 0
  · rw [if_pos hn, hn, show wrap64 (-wrap64 0) = 0 from by decide +kernel, xor_zero_i64 _ (by omega) (by omega)]
  · rw [if_neg hn, show n % 2 = 1 from by omega, show wrap64 (-wrap64 1) = -1 from by decide +kernel, xor_ones_i64 _ (by omega) (by omega)]

end Go.Proofs.Ytpnlhnhjedopgaa
end

section
/- The walks of varint.TakeInt, the document's Take, and chapter 1's examples. -/
namespace Go.Proofs.Ytpnlhnhjedopgaa
open Go Go.RowKit

theorem takeGo_bd : ∀ (f k n p : Nat) (l : List UInt8), 0 ≤ (takeGo f k n p l).2.2 ∧ (takeGo f k n p l).2.2 ≤ 2 ∧ (takeGo f k n p l).2.1 ≤ k + f ∧ (takeGo f k n p l).2.1 ≤ k + l.length := by
  intro f
  induction f with
  | zero => intro k n p l; simp [takeGo]
  | succ f ih =>
    intro k n p l
    cases l with
    | nil => simp [takeGo]
    | cons c r =>
      rw [takeGo]
      split
      · simp
      · split
        · simp
        · have := ih (k + 1) (n + c.toNat % 128 * p) (p * 128) r
          simp; omega
theorem takeGo_small : ∀ (f k n : Nat) (l : List UInt8), f + k = 10 → n < 128 ^ k → (takeGo f k n (128 ^ k) l).1 < 18446744073709551616 := by
  intro f
  induction f with
  | zero => intro k n l _ _; simp [takeGo]
  | succ f ih =>
    intro k n l hf hn
    cases l with
    | nil => simp [takeGo]
    | cons c r =>
      rw [takeGo]
      split
      · simp
      · rename_i hb
        have hc := c.toNat_lt
        split
        · exact take_small k n c.toNat (by omega) hn (by omega) (by omega)
        · have := ih (k + 1) (n + c.toNat % 128 * 128 ^ k) r (by omega) (take_less c hn)
          rw [Nat.pow_succ] at this
          exact this
theorem takeGo_zero : ∀ (f k n p : Nat) (l : List UInt8), (takeGo f k n p l).2.2 ≠ 0 → (takeGo f k n p l).1 = 0 ∧ (takeGo f k n p l).2.1 = 0 := by
  intro f
  induction f with
  | zero => intro k n p l _; exact ⟨rfl, rfl⟩
  | succ f ih =>
    intro k n p l
    cases l with
    | nil => intro _; exact ⟨rfl, rfl⟩
    | cons c r =>
      rw [takeGo]
      split
      · intro _; exact ⟨rfl, rfl⟩
      · split
        · intro h; exact (h rfl).elim
        · exact ih _ _ _ r
theorem takeL_zero (l : List UInt8) (h : (takeL l).2.2 ≠ 0) : (takeL l).1 = 0 ∧ (takeL l).2.1 = 0 := takeGo_zero 10 0 0 1 l h
theorem takeL_small (l : List UInt8) : (takeL l).1 < 18446744073709551616 := takeGo_small 10 0 0 l rfl (by decide)
theorem takeL_bd (l : List UInt8) : 0 ≤ (takeL l).2.2 ∧ (takeL l).2.2 ≤ 2 ∧ (takeL l).2.1 ≤ 10 ∧ (takeL l).2.1 ≤ l.length := by
  have := takeGo_bd 10 0 0 1 l
  unfold takeL; omega

/-- what TakeInt hands back -/
def takeIntV (r : Nat × Nat × Int) : Value := if r.2.2 = 0 then .tuple #[.int .i64 (backI (r.1 : Nat)), .int .i64 (r.2.1 : Nat), .int .i64 0] else .tuple #[.int .i64 0, .int .i64 0, .int .i64 r.2.2]
theorem reft_val (n q k : Nat) (c : UInt8) (hk : k ≤ 9) (hn : n < 128 ^ k) (h9 : k = 9 → c.toNat ≤ 1) (hq : q = 128 ^ k) :
    IntKind.u64.wrap ((n : Int) + IntKind.u64.wrap ((c.toNat : Int) % 128 * (q : Int))) = ((n + c.toNat % 128 * 128 ^ k : Nat) : Int) := by
  have hc := c.toNat_lt
  have hs := take_small k n c.toNat hk hn (by omega) h9
  subst hq
  have hp : (c.toNat : Int) % 128 * ((128 ^ k : Nat) : Int) = ((c.toNat % 128 * 128 ^ k : Nat) : Int) := by push_cast; rfl
  rw [hp, IntKind.wrap_u64 ((c.toNat % 128 * 128 ^ k : Nat) : Int), Int.emod_eq_of_lt (by omega) (by omega), IntKind.wrap_u64, Int.emod_eq_of_lt (by omega) (by omega)]; omega
theorem take_good2 {s : ByteArray} {k n : Nat} {E : Int} (hlt : k < s.size) (hk : k < 10) (hH : Hid (takeGo (10 - k) k n (128 ^ k) (s.data.toList.drop k) = takeL s.data.toList))
    (hb : ¬ ((k = 9 ∧ 1 < s[k].toNat) ∨ (s[k].toNat = 0 ∧ 0 < k))) (hc : s[k].toNat < 128) (hE : E = ((n + s[k].toNat % 128 * 128 ^ k : Nat) : Int)) :
    Value.tuple #[.int .u64 E, .int .i64 (k + 1), .int .i64 0] = takeV (takeL s.data.toList) := by
  rw [← hH.out, drop_cons s k hlt, show 10 - k = (9 - k) + 1 from by omega, takeGo, if_neg hb, if_pos hc, hE]; rfl
theorem reft_pow {k q : Nat} (hq : Hid (k ≤ 9 → q = 128 ^ k)) (h : k ≤ 8) : (q : Int) * 128 = ((128 ^ (k + 1) : Nat) : Int) := by
  rw [hq.out (by omega), Nat.pow_succ]; push_cast; rfl
theorem wrap_nat (m : Nat) (h : m ≤ 18446744073709551615) : IntKind.u64.wrap (m : Int) = m := by rw [IntKind.wrap_u64, Int.emod_eq_of_lt (by omega) (by omega)]
theorem reft_le {k : Nat} (h : k ≤ 8) : 128 ^ (k + 1) ≤ 18446744073709551615 := by have := pow_le9 h; omega

set_option maxHeartbeats 800000 in
set_option maxRecDepth 100000 in
theorem reftake_any (s : ByteArray) (w : World) (hs : s.size ≤ maxLen) :
    Calls Try.prog 103 #[.string s] w (Gives w (takeV (takeL s.data.toList))) := by
  unfold maxLen at hs
  go_enter Try.func103, Try.ntmps103
  go_wp2_with fail
  go_loop [5, 6, 7] (fun x p i => ∃ k n q : Nat, k ≤ 10 ∧ k ≤ s.size ∧ i = .int .i64 k ∧ x = .int .u64 n ∧ p = .int .u64 q ∧ q ≤ 18446744073709551615 ∧ Hid (k ≤ 9 → q = 128 ^ k) ∧ Hid (n < 128 ^ k) ∧ Hid (takeGo (10 - k) k n (128 ^ k) (s.data.toList.drop k) = takeL s.data.toList)) (fun _ _ i => 10 - (intOf i).toNat)
  case atStart => exact ⟨0, 0, 1, by omega, by omega, rfl, rfl, rfl, by omega, fun _ => rfl, by show (0 : Nat) < 128 ^ 0; decide, rfl⟩
  case round =>
    obtain ⟨k, n, q, hk, hks, rfl, rfl, rfl, hq1, hq, hn, hH⟩ := hrel
    by_cases hlt : k < s.size
    · by_cases hk10 : k < 10
      · by_cases hk9 : k = 9
        · subst hk9
          have hc : s[9].toNat < 256 := s[9].toNat_lt
          by_cases hc1 : 1 < s[9].toNat
          · have hb0 : ((s[9].toNat : Int) == 0) = false := by rw [beq_eq_false_iff_ne]; omega
            go_wp2_with fail
            go_ret3
            exact Gives.mk (take_bad hlt hk10 hH (by omega)) (Up.refl _)
          · by_cases hc0 : 0 < s[9].toNat
            · have hb0 : ((s[9].toNat : Int) == 0) = false := by rw [beq_eq_false_iff_ne]; omega
              go_wp2_with fail
              go_ret3
              exact Gives.mk (take_good2 hlt hk10 hH (by omega) (by omega) (reft_val n q 9 _ (by omega) hn.out (by omega) (hq.out (by omega)))) (Up.refl _)
            · have hb0 : ((s[9].toNat : Int) == 0) = true := by rw [beq_iff_eq]; omega
              go_wp2_with fail
              go_ret3
              exact Gives.mk (take_bad hlt hk10 hH (by omega)) (Up.refl _)
        · have hc : s[k].toNat < 256 := s[k].toNat_lt
          go_wp2_with fail
          all_goals first
            | (go_ret3
               first
              | exact Gives.mk (take_bad hlt hk10 hH (by omega)) (Up.refl _)
              | exact Gives.mk (take_good2 hlt hk10 hH (by omega) (by omega) (reft_val n q k _ (by omega) hn.out (by omega) (hq.out (by omega)))) (Up.refl _))
            | skip
          all_goals go_round
          all_goals first
            | exact ⟨k + 1, _, 128 ^ (k + 1), by omega, by omega, by go_num, congrArg (Value.int .u64) (reft_val n q k _ (by omega) hn.out (by omega) (hq.out (by omega))), congrArg (Value.int .u64) (Eq.trans (by rw [reft_pow hq (by omega)]; rw [wrap_nat _ (reft_le (by omega))]) rfl), reft_le (by omega), fun _ => rfl, take_less _ hn, take_on hlt hk10 hH (by omega) (by omega)⟩
            | (simp [intOf]; omega)
      · go_wp2_with fail
        all_goals go_ret3
        all_goals exact Gives.mk (take_end hk (by omega) hH) (Up.refl _)
    · go_wp2_with fail
      all_goals go_ret3
      all_goals exact Gives.mk (take_end hk (by omega) hH) (Up.refl _)

end Go.Proofs.Ytpnlhnhjedopgaa
end

section
/- The walks of call.PutCall, PutBind, PutSchema, PutCancel, of span.Put and of their twins of the document: what each hands back. -/
namespace Go.Proofs.Ytpnlhnhjedopgaa
open Go Go.RowKit

/-- a number's bytes, 0 for one below 0 -/
def numL (n : Int) : List UInt8 := putL n.toNat
/-- a text with its length ahead -/
def spanL (s : ByteArray) : List UInt8 := putL s.size ++ s.data.toList

/-- a call's body -/
def callL (id : Int) (wait num : Int) (args : ByteArray) : List UInt8 := putL id.toNat ++ numL wait ++ numL num ++ args.data.toList
theorem numL_len (n : Int) (h1 : n ≤ 9223372036854775807) : (S (numL n)).size ≤ 10 := by rw [S_size]; exact putL_ten (by omega)
theorem spanL_len (s : ByteArray) (hs : s.size ≤ 140737488351232) : (S (spanL s)).size ≤ 140737488351242 := by
  rw [S_size, spanL, List.length_append]
  have := putL_ten (n := s.size) (by omega)
  have h : s.data.toList.length = s.size := by simp
  omega
end Go.Proofs.Ytpnlhnhjedopgaa
end

section
/- The walks of span.Take and of the document's Int and Take: what each hands back. -/
namespace Go.Proofs.Ytpnlhnhjedopgaa
open Go Go.RowKit

/-- a number with which bytes begin that is not too great -/
def intT (b : ByteArray) (most : Int) : Nat × Nat × Int :=
  if (takeL b.data.toList).2.2 ≠ 0 then (0, 0, (takeL b.data.toList).2.2)
  else if max most 0 < (takeL b.data.toList).1 then (0, 0, 3) else takeL b.data.toList
/-- the span with which bytes begin -/
def spanT (b : ByteArray) (most : Int) : ByteArray × Nat × Int :=
  if (intT b most).2.2 ≠ 0 then (⟨#[]⟩, 0, (intT b most).2.2)
  else if b.size - (intT b most).2.1 < (intT b most).1 then (⟨#[]⟩, 0, 2)
  else (b.extract (intT b most).2.1 ((intT b most).2.1 + (intT b most).1), (intT b most).2.1 + (intT b most).1, 0)
def spanV (r : ByteArray × Nat × Int) : Value := .tuple #[.string r.1, .int .i64 (r.2.1 : Nat), .int .i64 r.2.2]
def intV (r : Nat × Nat × Int) : Value := .tuple #[.int .i64 (r.1 : Nat), .int .i64 (r.2.1 : Nat), .int .i64 r.2.2]

theorem intT_bad {b : ByteArray} {most : Int} {n k : Nat} {e : Int} (h : takeL b.data.toList = (n, k, e)) (he : e ≠ 0) : Value.tuple #[.int .i64 0, .int .i64 0, .int .i64 e] = intV (intT b most) := by
  unfold intT; rw [h, if_pos he]; rfl
theorem intT_long {b : ByteArray} {most : Int} {n k : Nat} {e : Int} (h : takeL b.data.toList = (n, k, e)) (he : e = 0) (hn : max most 0 < n) : Value.tuple #[.int .i64 0, .int .i64 0, .int .i64 3] = intV (intT b most) := by
  unfold intT; rw [h, if_neg (by simpa using he), if_pos hn]; rfl
theorem intT_ok {b : ByteArray} {most : Int} {n k : Nat} {e : Int} (h : takeL b.data.toList = (n, k, e)) (he : e = 0) (hn : ¬ max most 0 < n) : Value.tuple #[.int .i64 n, .int .i64 k, .int .i64 0] = intV (intT b most) := by
  subst he; unfold intT; rw [h, if_neg (by simp), if_neg hn]; rfl

set_option maxHeartbeats 800000 in
set_option maxRecDepth 100000 in
theorem refint_any (b : ByteArray) (most : Int) (w : World) (hb : b.size ≤ maxLen) (m0 : -9223372036854775808 ≤ most) (m1 : most ≤ 9223372036854775807) :
    Calls Try.prog 104 #[.string b, .int .i64 most] w (Gives w (intV (intT b most))) := by
  have hd := takeL_bd b.data.toList
  have hs2 := takeL_small b.data.toList
  obtain ⟨⟨n, k, e⟩, hr⟩ : ∃ r, takeL b.data.toList = r := ⟨_, rfl⟩
  rw [hr] at hd hs2
  have HR := Lib.hid hr; clear hr
  simp only at hd hs2
  obtain ⟨hb0, hb1, hb2, hb3⟩ := hd
  by_cases he : e = 0
  · subst he
    go_enter Try.func104, Try.ntmps104
    go_wp2_with fail
    refine (reftake_any b _ hb).mono ?_
    rintro e w1 ⟨rfl, hu1⟩
    rw [HR.out]
    unfold takeV
    go_wp2_with fail
    all_goals go_ret3
    all_goals first
      | exact Gives.mk (intT_long HR.out rfl (by omega)) hu1
      | exact Gives.mk (intT_ok HR.out rfl (by omega)) hu1
  · have hd : (e != 0) = true := by rw [bne_iff_ne]; exact he
    have HE := Lib.hid he; clear he
    go_enter Try.func104, Try.ntmps104
    go_wp2_with fail
    refine (reftake_any b _ hb).mono ?_
    rintro e w1 ⟨rfl, hu1⟩
    rw [HR.out]
    unfold takeV
    go_wp2_with fail
    go_ret3
    exact Gives.mk (intT_bad HR.out HE.out) hu1

theorem spanT_bad {b : ByteArray} {most : Int} {n k : Nat} {e : Int} (h : intT b most = (n, k, e)) (he : e ≠ 0) : Value.tuple #[.string ⟨#[]⟩, .int .i64 0, .int .i64 e] = spanV (spanT b most) := by
  unfold spanT; rw [h, if_pos he]; rfl
theorem spanT_short {b : ByteArray} {most : Int} {n k : Nat} (h : intT b most = (n, k, 0)) (hn : b.size - k < n) : Value.tuple #[.string ⟨#[]⟩, .int .i64 0, .int .i64 2] = spanV (spanT b most) := by
  unfold spanT; rw [h, if_neg (by simp), if_pos hn]; rfl
theorem spanT_ok {b : ByteArray} {most : Int} {n k : Nat} (h : intT b most = (n, k, 0)) (hn : ¬ b.size - k < n) : Value.tuple #[.string (b.extract k (k + n)), .int .i64 (k + n), .int .i64 0] = spanV (spanT b most) := by
  unfold spanT; rw [h, if_neg (by simp), if_neg hn]; rfl
theorem intT_bd (b : ByteArray) (most : Int) : 0 ≤ (intT b most).2.2 ∧ (intT b most).2.2 ≤ 3 ∧ (intT b most).2.1 ≤ b.size ∧ ((intT b most).1 : Int) ≤ max most 0 ∧ (intT b most).2.1 ≤ 10 := by
  have := takeL_bd b.data.toList
  have hs : b.data.toList.length = b.size := by simp
  unfold intT
  split
  · simp; omega
  · split
    · simp; omega
    · omega

theorem spanT_bad' {b : ByteArray} {most : Int} {n k : Nat} {e : Int} (h : takeL b.data.toList = (n, k, e)) (he : e ≠ 0) : Value.tuple #[.string ⟨#[]⟩, .int .i64 0, .int .i64 e] = spanV (spanT b most) :=
  spanT_bad (n := 0) (k := 0) (by unfold intT; rw [h, if_pos he]) he
theorem spanT_long' {b : ByteArray} {most : Int} {n k : Nat} (h : takeL b.data.toList = (n, k, 0)) (hn : max most 0 < n) : Value.tuple #[.string ⟨#[]⟩, .int .i64 0, .int .i64 3] = spanV (spanT b most) :=
  spanT_bad (n := 0) (k := 0) (by unfold intT; rw [h, if_neg (by simp), if_pos hn]) (by decide)
theorem intT_ok' {b : ByteArray} {most : Int} {n k : Nat} (h : takeL b.data.toList = (n, k, 0)) (hn : ¬ max most 0 < n) : intT b most = (n, k, 0) := by
  unfold intT; rw [h, if_neg (by simp), if_neg hn]

end Go.Proofs.Ytpnlhnhjedopgaa
end

section
/- The walks of span.Reader: Read, Num, Int, Text, Rest, Done, At: what each hands back, and what the reader keeps. -/
namespace Go.Proofs.Ytpnlhnhjedopgaa
open Go Go.RowKit

/-- block g is a reader of b, 'at' bytes taken, e wrong first -/
def Rd (w : World) (g : Nat) (b : ByteArray) (at_ : Nat) (e : Int) : Prop := w.heap[g]? = some (.cells #[.string b, .int .i64 at_, .int .i64 e] 206 (0, 0))
def rptr (g : Nat) : Value := .pointer (some ⟨g, 0, none⟩)
theorem Rd.up {w w' : World} {g : Nat} {b : ByteArray} {a : Nat} {e : Int} (h : Rd w g b a e) (hu : Up w w') : Rd w' g b a e := by unfold Rd at *; rw [hu.block (blk_lt h)]; exact h
theorem Rd.c0 {w : World} {g : Nat} {b : ByteArray} {a : Nat} {e : Int} (h : Rd w g b a e) : w.cell? ⟨g, 0, none⟩ = some (.string b) := blk_cell h 0
theorem Rd.c1 {w : World} {g : Nat} {b : ByteArray} {a : Nat} {e : Int} (h : Rd w g b a e) : w.cell? ⟨g, 1, none⟩ = some (.int .i64 a) := blk_cell h 1
theorem Rd.c2 {w : World} {g : Nat} {b : ByteArray} {a : Nat} {e : Int} (h : Rd w g b a e) : w.cell? ⟨g, 2, none⟩ = some (.int .i64 e) := blk_cell h 2
theorem Rd.fz {w : World} {g : Nat} {b : ByteArray} {a : Nat} {e : Int} (h : Rd w g b a e) (o : Nat) : w.frozen? ⟨g, o, none⟩ = false := blk_free h o
theorem Rd.setAt {w : World} {g : Nat} {b : ByteArray} {a : Nat} {e : Int} (h : Rd w g b a e) (n : Nat) : Rd (w.setCell ⟨g, 1, none⟩ (.int .i64 n)) g b n e := blk_set h 1 _
theorem Rd.setE {w : World} {g : Nat} {b : ByteArray} {a : Nat} {e : Int} (h : Rd w g b a e) (n : Int) : Rd (w.setCell ⟨g, 2, none⟩ (.int .i64 n)) g b a n := blk_set h 2 _

theorem read_any (b : ByteArray) (w : World) : Calls Try.prog 97 #[.string b] w (fun e w' => ∃ g, e = .returned (rptr g) ∧ w.heap.size ≤ g ∧ Rd w' g b 0 0 ∧ Up w w') := by
  go_enter Try.func97, Try.ntmps97
  go_wp2_with fail
  go_ret
  exact ⟨w.heap.size, rfl, Nat.le_refl _, blk_new _ _, (Up.refl _).alloc _⟩
/-- what was wrong first, or that something is left -/
def doneE (b : ByteArray) (a : Nat) (e : Int) : Int := if e ≠ 0 then e else if a < b.size then 1 else 0
theorem done_nil (w : World) : Calls Try.prog 101 #[.pointer none] w (fun x w' => x = .returned (.int .i64 0) ∧ w' = w) := by
  go_enter Try.func101, Try.ntmps101
  go_wp2_with fail
  go_ret
  exact ⟨rfl, rfl⟩
theorem done_any (w : World) (g : Nat) (b : ByteArray) (a : Nat) (e : Int) (h : Rd w g b a e) : Calls Try.prog 101 #[rptr g] w (Gives w (.int .i64 (doneE b a e))) := by
  have h0 := h.c0
  have h1 := h.c1
  have h2 := h.c2
  have hg := blk_lt h
  unfold rptr
  by_cases he : e = 0
  · subst he
    by_cases hl : a < b.size
    · have H := Lib.hid (show (1 : Int) = doneE b a 0 by unfold doneE; rw [if_neg (by simp), if_pos hl])
      have d1 : decide (a < b.size) = true := decide_eq_true hl
      have d2 : decide ((a : Int) < b.size) = true := decide_eq_true (by omega)
      go_enter Try.func101, Try.ntmps101
      go_wp2_with fail
      refine wp_region_up (by kernel_rfl) (by kernel_rfl) (Up.refl _) ?_
      repeat (go_big_quiet_step (fail))
      refine wpQuiet_nil ?_
      intro w2 hu2
      go_wp2_with fail
      go_ret
      exact Gives.mk (congrArg (Value.int .i64) H.out) hu2
    · have H := Lib.hid (show (0 : Int) = doneE b a 0 by unfold doneE; rw [if_neg (by simp), if_neg hl])
      have d1 : decide (a < b.size) = false := decide_eq_false hl
      have d2 : decide ((a : Int) < b.size) = false := decide_eq_false (by omega)
      go_enter Try.func101, Try.ntmps101
      go_wp2_with fail
      refine wp_region_up (by kernel_rfl) (by kernel_rfl) (Up.refl _) ?_
      repeat (go_big_quiet_step (fail))
      refine wpQuiet_nil ?_
      intro w2 hu2
      go_wp2_with fail
      go_ret
      exact Gives.mk (congrArg (Value.int .i64) H.out) hu2
  · have H := Lib.hid (show e = doneE b a e by unfold doneE; rw [if_pos he])
    have d1 : (e != 0) = true := by rw [bne_iff_ne]; exact he
    clear he
    go_enter Try.func101, Try.ntmps101
    go_wp2_with fail
    go_ret
    exact Gives.mk (congrArg (Value.int .i64) H.out) (Up.refl _)

theorem rest1_any (s : ByteArray) (w : World) :
    Calls Try.prog 132 #[.string s] w (Gives w (.tuple #[.string s, .int .i64 s.size, .int .i64 0])) := by
  go_enter Try.func132, Try.ntmps132
  go_wp2_with fail
  go_ret3
  exact Gives.mk rfl (Up.refl _)
/-- what the closure of Int hands back: the number as it is, with a bound's error -/
def int1V (n k : Nat) (e most : Int) : Value := .tuple #[.int .i64 (wrap64 n), .int .i64 k, .int .i64 (if e = 0 ∧ max most 0 < n then 3 else e)]
set_option maxHeartbeats 800000 in
set_option maxRecDepth 100000 in
theorem int1_any (s : ByteArray) (c : Nat) (most : Int) (w : World) (hs : s.size ≤ maxLen) (m0 : -9223372036854775808 ≤ most) (m1 : most ≤ 9223372036854775807) (hc : w.cell? ⟨c, 0, none⟩ = some (.int .i64 most)) (hcl : c < w.heap.size)
    (n k : Nat) (e : Int) (hr : takeL s.data.toList = (n, k, e)) :
    Calls Try.prog 130 #[.string s, .pointer (some ⟨c, 0, none⟩)] w (Gives w (int1V n k e most)) := by
  have hs2 := takeL_small s.data.toList
  rw [hr] at hs2
  simp only at hs2
  have HR := Lib.hid hr; clear hr
  by_cases he : e = 0
  · subst he
    by_cases hm : max most 0 < (n : Int)
    · have H := Lib.hid (show Value.tuple #[.int .i64 (wrap64 n), .int .i64 k, .int .i64 3] = int1V n k 0 most by unfold int1V; rw [if_pos ⟨rfl, hm⟩])
      go_enter Try.func130, Try.ntmps130
      go_wp2_with fail
      refine (vartake_any s _ hs).mono ?_
      rintro e w1 ⟨rfl, hu1⟩
      have hc1 : w1.cell? ⟨c, 0, none⟩ = some (.int .i64 most) := by rw [hu1.cell hcl]; exact hc
      rw [HR.out]
      unfold takeV
      go_wp2_with fail
      all_goals first
        | (go_ret3; exact Gives.mk H.out hu1)
        | (exfalso; omega)
    · have hm2 : (n : Int) ≤ max most 0 := by omega
      have hw : wrap64 (n : Int) = n := IntWalk.wrap64_in _ (by omega)
      have H := Lib.hid (show Value.tuple #[.int .i64 n, .int .i64 k, .int .i64 0] = int1V n k 0 most by unfold int1V; rw [if_neg (fun h => hm h.2), hw])
      clear hw
      go_enter Try.func130, Try.ntmps130
      go_wp2_with fail
      refine (vartake_any s _ hs).mono ?_
      rintro e w1 ⟨rfl, hu1⟩
      have hc1 : w1.cell? ⟨c, 0, none⟩ = some (.int .i64 most) := by rw [hu1.cell hcl]; exact hc
      rw [HR.out]
      unfold takeV
      go_wp2_with fail
      all_goals first
        | (go_ret3; exact Gives.mk H.out hu1)
        | (exfalso; omega)
  · have d1 : (e == 0) = false := by rw [beq_eq_false_iff_ne]; exact he
    have H := Lib.hid (show Value.tuple #[.int .i64 (wrap64 n), .int .i64 k, .int .i64 e] = int1V n k e most by unfold int1V; rw [if_neg (fun h => he h.1)])
    clear he
    go_enter Try.func130, Try.ntmps130
    go_wp2_with fail
    refine (vartake_any s _ hs).mono ?_
    rintro e w1 ⟨rfl, hu1⟩
    rw [HR.out]
    unfold takeV
    go_wp2_with fail
    go_ret3
    exact Gives.mk H.out hu1

theorem take_str_nil (w : World) (F : Value) : Calls Try.prog 131 #[.pointer none, F] w (fun x w' => x = .returned (.string ⟨#[]⟩) ∧ w' = w) := by
  go_enter Try.func131, Try.ntmps131
  go_wp2_with fail
  go_ret
  exact ⟨rfl, rfl⟩
theorem take_str_wrong (w : World) (g : Nat) (b : ByteArray) (a : Nat) (e : Int) (h : Rd w g b a e) (he : e ≠ 0) (F : Value) : Calls Try.prog 131 #[rptr g, F] w (fun x w' => x = .returned (.string ⟨#[]⟩) ∧ w' = w) := by
  have h2 := h.c2
  have d1 : (e != 0) = true := by rw [bne_iff_ne]; exact he
  clear he
  unfold rptr
  go_enter Try.func131, Try.ntmps131
  go_wp2_with fail
  go_ret
  exact ⟨rfl, rfl⟩

theorem take_num_nil (w : World) (F : Value) : Calls Try.prog 127 #[.pointer none, F] w (fun x w' => x = .returned (.int .u64 0) ∧ w' = w) := by
  go_enter Try.func127, Try.ntmps127
  go_wp2_with fail
  go_ret
  exact ⟨rfl, rfl⟩
theorem take_num_wrong (w : World) (g : Nat) (b : ByteArray) (a : Nat) (e : Int) (h : Rd w g b a e) (he : e ≠ 0) (F : Value) : Calls Try.prog 127 #[rptr g, F] w (fun x w' => x = .returned (.int .u64 0) ∧ w' = w) := by
  have h2 := h.c2
  have d1 : (e != 0) = true := by rw [bne_iff_ne]; exact he
  clear he
  unfold rptr
  go_enter Try.func127, Try.ntmps127
  go_wp2_with fail
  go_ret
  exact ⟨rfl, rfl⟩

theorem take_int_nil (w : World) (F : Value) : Calls Try.prog 129 #[.pointer none, F] w (fun x w' => x = .returned (.int .i64 0) ∧ w' = w) := by
  go_enter Try.func129, Try.ntmps129
  go_wp2_with fail
  go_ret
  exact ⟨rfl, rfl⟩
theorem take_int_wrong (w : World) (g : Nat) (b : ByteArray) (a : Nat) (e : Int) (h : Rd w g b a e) (he : e ≠ 0) (F : Value) : Calls Try.prog 129 #[rptr g, F] w (fun x w' => x = .returned (.int .i64 0) ∧ w' = w) := by
  have h2 := h.c2
  have d1 : (e != 0) = true := by rw [bne_iff_ne]; exact he
  clear he
  unfold rptr
  go_enter Try.func129, Try.ntmps129
  go_wp2_with fail
  go_ret
  exact ⟨rfl, rfl⟩

set_option maxHeartbeats 800000 in
set_option maxRecDepth 100000 in
theorem take_num (w : World) (g : Nat) (b : ByteArray) (a : Nat) (h : Rd w g b a 0) (hb : b.size ≤ maxLen) (ha : a ≤ b.size)  (x : Nat) (k : Nat) (e : Int) (hr : takeL (b.extract a b.size).data.toList = (x, k, e)) (hz : e ≠ 0 → x = 0 ∧ k = 0) (hk : a + k ≤ b.size)  :
    Calls Try.prog 127 #[rptr g, .func (.func 128) #[] #[]] w (fun y w' => y = .returned (.int .u64 x) ∧ Rd w' g b (a + k) e ∧ Only g w w') := by
  have h0 := h.c0
  have h1 := h.c1
  have h2 := h.c2
  have hg := blk_lt h
  have hs : (b.extract a b.size).size ≤ maxLen := by rw [ByteArray.size_extract]; unfold maxLen at *; omega
  have HS := Lib.hid hs; clear hs
  have hb' : b.size ≤ 9223372036854775807 := hb
  have hak : (a : Int) + k ≤ 9223372036854775807 := by omega
  have HR := Lib.hid hr; clear hr
  have hcall : ∀ u : Grow w, Calls Try.prog 128 #[.string (b.extract a b.size)] (gro u) (Gives (gro u) (.tuple #[.int .u64 x, .int .i64 k, .int .i64 e])) := fun u => by
    have hq := vartake_any (b.extract a b.size) (gro u) HS.out
    rw [HR.out] at hq; unfold takeV at hq
    exact hq
  have HC := Lib.hid hcall; clear hcall
  by_cases he : e = 0
  · subst he
    clear hz
    unfold rptr
    go_enter Try.func127, Try.ntmps127
    go_wp2_with fail
    refine wp_region_up (by kernel_rfl) (by kernel_rfl) (Up.refl _) ?_
    repeat (go_big_quiet_step ((exact quiet_up (HC.out _))))
    refine wpQuiet_nil ?_
    intro w2 hu2
    have h' := h.up hu2
    clear h0 h1 h2
    have h1 := h'.c1
    have h3 := h'.fz
    go_wp2_with fail
    go_ret
    exact ⟨rfl, h'.setAt (a + k), (Only.up hu2).set _ _⟩
  · obtain ⟨rfl, rfl⟩ := hz he
    have d1 : (e != 0) = true := by rw [bne_iff_ne]; exact he
    have HE := Lib.hid he
    clear he hz
    unfold rptr
    go_enter Try.func127, Try.ntmps127
    go_wp2_with fail
    refine wp_region_up (by kernel_rfl) (by kernel_rfl) (Up.refl _) ?_
    repeat (go_big_quiet_step ((exact quiet_up (HC.out _))))
    refine wpQuiet_nil ?_
    intro w2 hu2
    have h' := h.up hu2
    clear h0 h1 h2
    have h2 := h'.c2
    have h3 := h'.fz
    go_wp2_with fail
    go_ret
    exact ⟨rfl, h'.setE _, (Only.up hu2).set _ _⟩

set_option maxHeartbeats 800000 in
set_option maxRecDepth 100000 in
theorem take_rest (w : World) (g : Nat) (b : ByteArray) (a : Nat) (h : Rd w g b a 0) (hb : b.size ≤ maxLen) (ha : a ≤ b.size)  (x : ByteArray) (k : Nat) (e : Int) (hr : (b.extract a b.size, (b.extract a b.size).size, (0 : Int)) = (x, k, e)) (hz : e ≠ 0 → x = ⟨#[]⟩ ∧ k = 0) (hk : a + k ≤ b.size)  :
    Calls Try.prog 131 #[rptr g, .func (.func 132) #[] #[]] w (fun y w' => y = .returned (.string x) ∧ Rd w' g b (a + k) e ∧ Only g w w') := by
  have h0 := h.c0
  have h1 := h.c1
  have h2 := h.c2
  have hg := blk_lt h
  have hs : (b.extract a b.size).size ≤ maxLen := by rw [ByteArray.size_extract]; unfold maxLen at *; omega
  have HS := Lib.hid hs; clear hs
  have hb' : b.size ≤ 9223372036854775807 := hb
  have hak : (a : Int) + k ≤ 9223372036854775807 := by omega
  have HR := Lib.hid hr; clear hr
  have hcall : ∀ u : Grow w, Calls Try.prog 132 #[.string (b.extract a b.size)] (gro u) (Gives (gro u) (.tuple #[.string x, .int .i64 k, .int .i64 e])) := fun u => by
    have hq := rest1_any (b.extract a b.size) (gro u)
    have h5 := HR.out; simp only [Prod.mk.injEq] at h5; obtain ⟨rfl, rfl, rfl⟩ := h5
    exact hq
  have HC := Lib.hid hcall; clear hcall
  by_cases he : e = 0
  · subst he
    clear hz
    unfold rptr
    go_enter Try.func131, Try.ntmps131
    go_wp2_with fail
    refine wp_region_up (by kernel_rfl) (by kernel_rfl) (Up.refl _) ?_
    repeat (go_big_quiet_step ((exact quiet_up (HC.out _))))
    refine wpQuiet_nil ?_
    intro w2 hu2
    have h' := h.up hu2
    clear h0 h1 h2
    have h1 := h'.c1
    have h3 := h'.fz
    go_wp2_with fail
    go_ret
    exact ⟨rfl, h'.setAt (a + k), (Only.up hu2).set _ _⟩
  · obtain ⟨rfl, rfl⟩ := hz he
    have d1 : (e != 0) = true := by rw [bne_iff_ne]; exact he
    have HE := Lib.hid he
    clear he hz
    unfold rptr
    go_enter Try.func131, Try.ntmps131
    go_wp2_with fail
    refine wp_region_up (by kernel_rfl) (by kernel_rfl) (Up.refl _) ?_
    repeat (go_big_quiet_step ((exact quiet_up (HC.out _))))
    refine wpQuiet_nil ?_
    intro w2 hu2
    have h' := h.up hu2
    clear h0 h1 h2
    have h2 := h'.c2
    have h3 := h'.fz
    go_wp2_with fail
    go_ret
    exact ⟨rfl, h'.setE _, (Only.up hu2).set _ _⟩

set_option maxHeartbeats 800000 in
set_option maxRecDepth 100000 in
theorem take_int_ok (w : World) (g : Nat) (b : ByteArray) (a : Nat) (h : Rd w g b a 0) (hb : b.size ≤ maxLen) (ha : a ≤ b.size) (c : Nat) (most : Int) (m0 : -9223372036854775808 ≤ most) (m1 : most ≤ 9223372036854775807) (hc : w.cell? ⟨c, 0, none⟩ = some (.int .i64 most)) (hcl : c < w.heap.size) (n k : Nat) (e : Int) (hr : takeL (b.extract a b.size).data.toList = (n, k, e)) (hk : a + k ≤ b.size)
    (e2 : Int) (he2 : e2 = if e = 0 ∧ max most 0 < (n : Int) then 3 else e) (x : Int) (hx : x = if e2 = 0 then (n : Int) else 0) (k2 : Nat) (hk2 : k2 = if e2 = 0 then k else 0) :
    Calls Try.prog 129 #[rptr g, .func (.func 130) #[] #[.pointer (some ⟨c, 0, none⟩)]] w (fun y w' => y = .returned (.int .i64 x) ∧ Rd w' g b (a + k2) e2 ∧ Only g w w') := by
  have h0 := h.c0
  have h1 := h.c1
  have h2 := h.c2
  have hg := blk_lt h
  have hs : (b.extract a b.size).size ≤ maxLen := by rw [ByteArray.size_extract]; unfold maxLen at *; omega
  have HS := Lib.hid hs; clear hs
  have hb' : b.size ≤ 9223372036854775807 := hb
  have hak : (a : Int) + k ≤ 9223372036854775807 := by omega
  have hcall : ∀ u : Grow w, Calls Try.prog 130 #[.string (b.extract a b.size), .pointer (some ⟨c, 0, none⟩)] (gro u) (Gives (gro u) (.tuple #[.int .i64 (wrap64 n), .int .i64 k, .int .i64 e2])) := fun u => by
    have hq := int1_any (b.extract a b.size) c most (gro u) HS.out m0 m1 (by rw [gro_cell _ _ _ _ hcl]; exact hc) (Nat.lt_of_lt_of_le hcl (gro_up u).size) n k e hr
    unfold int1V at hq
    rw [← he2] at hq
    exact hq
  have HC := Lib.hid hcall; clear hcall
  have hn : e2 = 0 → wrap64 (n : Int) = n := fun h0 => by
    rw [h0] at he2
    refine IntWalk.wrap64_in _ ?_
    split at he2
    · omega
    · rename_i hh
      have : ¬ max most 0 < (n : Int) := fun h => hh ⟨he2.symm, h⟩
      omega
  have HN := Lib.hid hn
  clear hr he2 hn
  by_cases he : e2 = 0
  · rw [if_pos he] at hx hk2
    subst hk2
    subst hx
    have HW := Lib.hid (HN.out he)
    subst he
    unfold rptr
    go_enter Try.func129, Try.ntmps129
    go_wp2_with fail
    refine wp_region_up (by kernel_rfl) (by kernel_rfl) (Up.refl _) ?_
    repeat (go_big_quiet_step ((exact quiet_up (HC.out _))))
    refine wpQuiet_nil ?_
    intro w2 hu2
    have h' := h.up hu2
    clear h0 h1 h2
    have h1 := h'.c1
    have h3 := h'.fz
    go_wp2_with fail
    go_ret
    exact ⟨congrArg (fun z => Ending.returned (Value.int .i64 z)) HW.out, h'.setAt (a + k2), (Only.up hu2).set _ _⟩
  · rw [if_neg he] at hx hk2
    subst hk2
    subst hx
    have d1 : (e2 != 0) = true := by rw [bne_iff_ne]; exact he
    clear he
    unfold rptr
    go_enter Try.func129, Try.ntmps129
    go_wp2_with fail
    refine wp_region_up (by kernel_rfl) (by kernel_rfl) (Up.refl _) ?_
    repeat (go_big_quiet_step ((exact quiet_up (HC.out _))))
    refine wpQuiet_nil ?_
    intro w2 hu2
    have h' := h.up hu2
    clear h0 h1 h2
    have h2 := h'.c2
    have h3 := h'.fz
    go_wp2_with fail
    go_ret
    exact ⟨rfl, h'.setE _, (Only.up hu2).set _ _⟩
end Go.Proofs.Ytpnlhnhjedopgaa
end

section
/- The walks of span.Reader's methods: what each hands back, and what the reader keeps, whatever was wrong. -/
namespace Go.Proofs.Ytpnlhnhjedopgaa
open Go Go.RowKit

def rest (b : ByteArray) (a : Nat) : ByteArray := b.extract a b.size
def numS (b : ByteArray) (a : Nat) (e : Int) : Nat × Nat × Int := if e ≠ 0 then (0, a, e) else ((takeL (rest b a).data.toList).1, a + (takeL (rest b a).data.toList).2.1, (takeL (rest b a).data.toList).2.2)
def intS (b : ByteArray) (a : Nat) (e : Int) (most : Int) : Nat × Nat × Int := if e ≠ 0 then (0, a, e) else ((intT (rest b a) most).1, a + (intT (rest b a) most).2.1, (intT (rest b a) most).2.2)
def textS (b : ByteArray) (a : Nat) (e : Int) (most : Int) : ByteArray × Nat × Int := if e ≠ 0 then (⟨#[]⟩, a, e) else ((spanT (rest b a) most).1, a + (spanT (rest b a) most).2.1, (spanT (rest b a) most).2.2)
def restS (b : ByteArray) (a : Nat) (e : Int) : ByteArray × Nat × Int := if e ≠ 0 then (⟨#[]⟩, a, e) else (rest b a, a + (rest b a).size, 0)
theorem rest_size (b : ByteArray) (a : Nat) : (rest b a).size = b.size - a := by unfold rest; rw [ByteArray.size_extract]; omega
theorem rest_list (b : ByteArray) (a : Nat) : (rest b a).data.toList.length = b.size - a := by rw [← rest_size]; simp
theorem numS_bd {b : ByteArray} {a : Nat} {e : Int} (ha : a ≤ b.size) (h0 : 0 ≤ e) (h1 : e ≤ 9) : (numS b a e).2.1 ≤ b.size ∧ 0 ≤ (numS b a e).2.2 ∧ (numS b a e).2.2 ≤ 9 ∧ (numS b a e).1 < 18446744073709551616 := by
  have h2 := takeL_bd (rest b a).data.toList
  have h3 := takeL_small (rest b a).data.toList
  rw [rest_list] at h2
  unfold numS
  split
  · exact ⟨ha, h0, h1, by show 0 < 18446744073709551616; decide⟩
  · exact ⟨by show a + _ ≤ b.size; omega, by show 0 ≤ (takeL (rest b a).data.toList).2.2; omega, by show (takeL (rest b a).data.toList).2.2 ≤ 9; omega, h3⟩
theorem intS_bd {b : ByteArray} {a : Nat} {e : Int} (most : Int) (ha : a ≤ b.size) (h0 : 0 ≤ e) (h1 : e ≤ 9) : (intS b a e most).2.1 ≤ b.size ∧ 0 ≤ (intS b a e most).2.2 ∧ (intS b a e most).2.2 ≤ 9 ∧ ((intS b a e most).1 : Int) ≤ max most 0 := by
  have h2 := intT_bd (rest b a) most
  rw [rest_size] at h2
  unfold intS
  split
  · exact ⟨ha, h0, h1, by show ((0 : Nat) : Int) ≤ max most 0; omega⟩
  · exact ⟨by show a + _ ≤ b.size; omega, by show 0 ≤ (intT (rest b a) most).2.2; omega, by show (intT (rest b a) most).2.2 ≤ 9; omega, by show ((intT (rest b a) most).1 : Int) ≤ _; omega⟩
theorem spanT_bd' (b : ByteArray) (most : Int) : 0 ≤ (spanT b most).2.2 ∧ (spanT b most).2.2 ≤ 3 ∧ (spanT b most).2.1 ≤ b.size ∧ (spanT b most).1.size ≤ b.size ∧ ((spanT b most).2.2 ≠ 0 → (spanT b most).1 = ⟨#[]⟩ ∧ (spanT b most).2.1 = 0) := by
  have := intT_bd b most
  unfold spanT
  split
  · exact ⟨by show 0 ≤ (intT b most).2.2; omega, by show (intT b most).2.2 ≤ 3; omega, by show 0 ≤ b.size; omega, by show 0 ≤ b.size; omega, fun _ => ⟨rfl, rfl⟩⟩
  · split
    · exact ⟨by show (0 : Int) ≤ 2; omega, by show (2 : Int) ≤ 3; omega, by show 0 ≤ b.size; omega, by show 0 ≤ b.size; omega, fun _ => ⟨rfl, rfl⟩⟩
    · rename_i h
      refine ⟨by show (0 : Int) ≤ 0; omega, by show (0 : Int) ≤ 3; omega, by show _ + _ ≤ b.size; omega, ?_, fun h => (h rfl).elim⟩
      simp only [ByteArray.size_extract]; omega
theorem textS_bd {b : ByteArray} {a : Nat} {e : Int} (most : Int) (ha : a ≤ b.size) (h0 : 0 ≤ e) (h1 : e ≤ 9) : (textS b a e most).2.1 ≤ b.size ∧ 0 ≤ (textS b a e most).2.2 ∧ (textS b a e most).2.2 ≤ 9 ∧ (textS b a e most).1.size ≤ b.size := by
  have h2 := spanT_bd' (rest b a) most
  rw [rest_size] at h2
  unfold textS
  split
  · exact ⟨ha, h0, h1, by show 0 ≤ b.size; omega⟩
  · exact ⟨by show a + _ ≤ b.size; omega, by show 0 ≤ (spanT (rest b a) most).2.2; omega, by show (spanT (rest b a) most).2.2 ≤ 9; omega, by show (spanT (rest b a) most).1.size ≤ _; omega⟩
theorem restS_bd {b : ByteArray} {a : Nat} {e : Int} (ha : a ≤ b.size) (h0 : 0 ≤ e) (h1 : e ≤ 9) : (restS b a e).2.1 ≤ b.size ∧ 0 ≤ (restS b a e).2.2 ∧ (restS b a e).2.2 ≤ 9 ∧ (restS b a e).1.size ≤ b.size := by
  unfold restS
  split
  · exact ⟨ha, h0, h1, by show 0 ≤ b.size; omega⟩
  · exact ⟨by show a + (rest b a).size ≤ _; rw [rest_size]; omega, by show (0 : Int) ≤ 0; omega, by show (0 : Int) ≤ 9; omega, by show (rest b a).size ≤ _; rw [rest_size]; omega⟩

theorem num_any (w : World) (g : Nat) (b : ByteArray) (a : Nat) (e : Int) (h : Rd w g b a e) (hb : b.size ≤ maxLen) (ha : a ≤ b.size) :
    Calls Try.prog 98 #[rptr g] w (fun y w' => y = .returned (.int .u64 (numS b a e).1) ∧ Rd w' g b (numS b a e).2.1 (numS b a e).2.2 ∧ Only g w w') := by
  by_cases he : e = 0
  · subst he
    have h2 := takeL_bd (rest b a).data.toList
    have hz := takeL_zero (rest b a).data.toList
    rw [rest_list] at h2
    obtain ⟨⟨n, k, e⟩, hr⟩ : ∃ r, takeL (rest b a).data.toList = r := ⟨_, rfl⟩
    have HS := Lib.hid (show numS b a 0 = (n, a + k, e) by unfold numS; rw [if_neg (by simp), hr])
    rw [hr] at h2 hz
    rw [HS.out]
    go_enter Try.func98, Try.ntmps98
    go_wp2_with fail
    refine (take_num w g b a h hb ha n k e hr hz (by omega)).mono ?_
    rintro y w1 ⟨rfl, h1, ho⟩
    go_wp2_with fail
    go_ret
    exact ⟨rfl, h1, ho⟩
  · have HS := Lib.hid (show numS b a e = (0, a, e) by unfold numS; rw [if_pos he])
    rw [HS.out]
    go_enter Try.func98, Try.ntmps98
    go_wp2_with fail
    refine (take_num_wrong w g b a e h he _).mono ?_
    rintro y w1 ⟨rfl, rfl⟩
    go_wp2_with fail
    go_ret
    exact ⟨rfl, h, Only.refl _ _⟩
theorem rest_any (w : World) (g : Nat) (b : ByteArray) (a : Nat) (e : Int) (h : Rd w g b a e) (hb : b.size ≤ maxLen) (ha : a ≤ b.size) :
    Calls Try.prog 100 #[rptr g] w (fun y w' => y = .returned (.string (restS b a e).1) ∧ Rd w' g b (restS b a e).2.1 (restS b a e).2.2 ∧ Only g w w') := by
  by_cases he : e = 0
  · subst he
    have HS := Lib.hid (show restS b a 0 = (rest b a, a + (rest b a).size, 0) by unfold restS; rw [if_neg (by simp)])
    rw [HS.out]
    have hk : a + (rest b a).size ≤ b.size := by rw [rest_size]; omega
    go_enter Try.func100, Try.ntmps100
    go_wp2_with fail
    refine (take_rest w g b a h hb ha _ _ _ rfl (fun h => (h rfl).elim) hk).mono ?_
    rintro y w1 ⟨rfl, h1, ho⟩
    go_wp2_with fail
    go_ret
    exact ⟨rfl, h1, ho⟩
  · have HS := Lib.hid (show restS b a e = (⟨#[]⟩, a, e) by unfold restS; rw [if_pos he])
    rw [HS.out]
    go_enter Try.func100, Try.ntmps100
    go_wp2_with fail
    refine (take_str_wrong w g b a e h he _).mono ?_
    rintro y w1 ⟨rfl, rfl⟩
    go_wp2_with fail
    go_ret
    exact ⟨rfl, h, Only.refl _ _⟩
theorem int_any (w : World) (g : Nat) (b : ByteArray) (a : Nat) (e : Int) (most : Int) (h : Rd w g b a e) (hb : b.size ≤ maxLen) (ha : a ≤ b.size) (m0 : -9223372036854775808 ≤ most) (m1 : most ≤ 9223372036854775807) :
    Calls Try.prog 99 #[rptr g, .int .i64 most] w (fun y w' => y = .returned (.int .i64 (intS b a e most).1) ∧ Rd w' g b (intS b a e most).2.1 (intS b a e most).2.2 ∧ Only g w w') := by
  have h' := h.up ((Up.refl w).alloc (.cells #[.int .i64 most] 3 (0, 0)))
  have hc : (w.alloc (.cells #[.int .i64 most] 3 (0, 0))).cell? ⟨w.heap.size, 0, none⟩ = some (.int .i64 most) := blk_cell (blk_new _ _) 0
  have hu : Only g w (w.alloc (.cells #[.int .i64 most] 3 (0, 0))) := (Only.refl _ _).alloc _
  by_cases he : e = 0
  · subst he
    have h2 := takeL_bd (rest b a).data.toList
    have hz := takeL_zero (rest b a).data.toList
    rw [rest_list] at h2
    obtain ⟨⟨n, k, e⟩, hr⟩ : ∃ r, takeL (rest b a).data.toList = r := ⟨_, rfl⟩
    rw [hr] at h2 hz
    have hI : intT (rest b a) most = if e ≠ 0 then (0, 0, e) else if max most 0 < (n : Int) then (0, 0, 3) else (n, k, e) := by unfold intT; rw [hr]
    have hv : ∃ (e2 : Int) (x k2 : Nat), e2 = (if e = 0 ∧ max most 0 < (n : Int) then 3 else e) ∧ (x : Int) = (if e2 = 0 then (n : Int) else 0) ∧ k2 = (if e2 = 0 then k else 0) ∧ intT (rest b a) most = (x, k2, e2) := by
      by_cases h1 : e = 0
      · by_cases h3 : max most 0 < (n : Int)
        · exact ⟨3, 0, 0, by rw [if_pos ⟨h1, h3⟩], by rw [if_neg (by decide)]; rfl, by rw [if_neg (by decide)], by rw [hI, if_neg (by simpa using h1), if_pos h3]⟩
        · exact ⟨0, n, k, by rw [if_neg (fun h => h3 h.2), h1], by rw [if_pos rfl], by rw [if_pos rfl], by rw [hI, if_neg (by simpa using h1), if_neg h3, h1]⟩
      · exact ⟨e, 0, 0, by rw [if_neg (fun h => h1 h.1)], by rw [if_neg h1]; rfl, by rw [if_neg h1], by rw [hI, if_pos h1]⟩
    obtain ⟨e2, x, k2, he2, hx, hk2, hT⟩ := hv
    have HS := Lib.hid (show intS b a 0 most = (x, a + k2, e2) by unfold intS; rw [if_neg (by simp), hT])
    rw [HS.out]
    have K1 := Lib.hid he2; have K2 := Lib.hid hx; have K3 := Lib.hid hk2; have K4 := Lib.hid hr; have K5 := Lib.hid hT
    clear hI he2 hx hk2 hr hT hz
    go_enter Try.func99, Try.ntmps99
    go_wp2_with fail
    refine (take_int_ok _ g b a h' hb ha _ most m0 m1 hc (by simp) n k e K4.out (by omega) e2 K1.out x K2.out k2 K3.out).mono ?_
    rintro y w1 ⟨rfl, h1, ho⟩
    go_wp2_with fail
    go_ret
    exact ⟨rfl, h1, hu.trans ho⟩
  · have HS := Lib.hid (show intS b a e most = (0, a, e) by unfold intS; rw [if_pos he])
    rw [HS.out]
    go_enter Try.func99, Try.ntmps99
    go_wp2_with fail
    refine (take_int_wrong _ g b a e h' he _).mono ?_
    rintro y w1 ⟨rfl, rfl⟩
    go_wp2_with fail
    go_ret
    exact ⟨rfl, h', hu⟩
end Go.Proofs.Ytpnlhnhjedopgaa
end

section
/- The walk of the document's step of reading (concourseref02.Next): it is the reader's step. -/
namespace Go.Proofs.Ytpnlhnhjedopgaa
open Go Go.RowKit

/-- a step of reading: a number (1), one up to most (2), a span (3), all (else) -/
structure Stp where
  kind : Int
  most : Int
structure Gt where
  num : Nat
  text : ByteArray
  at_ : Nat
  e : Int
def Stp.val (s : Stp) : Value := .agg #[.int .i64 s.kind, .int .i64 s.most]
def Gt.vals (g : Gt) : List Value := [.int .u64 (g.num : Nat), .string g.text, .int .i64 (g.at_ : Nat), .int .i64 g.e]
def Gt.val (g : Gt) : Value := .agg #[.int .u64 (g.num : Nat), .string g.text, .int .i64 (g.at_ : Nat), .int .i64 g.e]
def nextS (b : ByteArray) (a : Nat) (e : Int) (s : Stp) : Gt :=
  if e ≠ 0 then ⟨0, ⟨#[]⟩, a, e⟩
  else if s.kind = 1 then ⟨(numS b a e).1, ⟨#[]⟩, (numS b a e).2.1, (numS b a e).2.2⟩
  else if s.kind = 2 then ⟨(intS b a e s.most).1, ⟨#[]⟩, (intS b a e s.most).2.1, (intS b a e s.most).2.2⟩
  else if s.kind = 3 then ⟨0, (textS b a e s.most).1, (textS b a e s.most).2.1, (textS b a e s.most).2.2⟩
  else ⟨0, (restS b a e).1, (restS b a e).2.1, (restS b a e).2.2⟩
structure Stp.Ok (s : Stp) : Prop where
  k0 : -9223372036854775808 ≤ s.kind
  k1 : s.kind ≤ 9223372036854775807
  m0 : -9223372036854775808 ≤ s.most
  m1 : s.most ≤ 9223372036854775807
structure Gt.Ok (b : ByteArray) (g : Gt) : Prop where
  n1 : g.num < 18446744073709551616
  t1 : g.text.size ≤ b.size
  a1 : g.at_ ≤ b.size
  e0 : 0 ≤ g.e
  e1 : g.e ≤ 9
theorem nextS_ok {b : ByteArray} {a : Nat} {e : Int} {s : Stp} (hs : s.Ok) (ha : a ≤ b.size) (h0 : 0 ≤ e) (h1 : e ≤ 9) : (nextS b a e s).Ok b := by
  have r1 := numS_bd (b := b) ha h0 h1
  have r2 := intS_bd (b := b) s.most ha h0 h1
  have r3 := textS_bd (b := b) s.most ha h0 h1
  have r4 := restS_bd (b := b) ha h0 h1
  have m1 := hs.m1
  unfold nextS
  split
  · exact ⟨by show 0 < _; omega, by show 0 ≤ _; omega, ha, h0, h1⟩
  · split
    · exact ⟨r1.2.2.2, by show 0 ≤ _; omega, r1.1, r1.2.1, r1.2.2.1⟩
    · split
      · exact ⟨by show (intS b a e s.most).1 < _; omega, by show 0 ≤ _; omega, r2.1, r2.2.1, r2.2.2.1⟩
      · split
        · exact ⟨by show 0 < _; omega, r3.2.2.2, r3.1, r3.2.1, r3.2.2.1⟩
        · exact ⟨by show 0 < _; omega, r4.2.2.2, r4.1, r4.2.1, r4.2.2.1⟩

theorem run_strfrom {P : Program} {t : TypeId} (ht : P.underlying t = some .string) (b : ByteArray) (lo : Int) (h0 : 0 ≤ lo) (h1 : lo ≤ b.size) (w : World) :
    (Instr.slice t (.string b) (some (.int .i64 lo)) none none).run P w = .ok (.string (b.extract lo.toNat b.size)) w := by
  have e1 : lo.toNat ≤ b.size := by omega
  simp [Instr.slice, Instr.sliceBounds, Instr.sliceBound, run_underlying ht, asIntOf, h0, Sem.run_bind, Sem.run_pure]
  omega

theorem nextS_one {b : ByteArray} {a : Nat} {e : Int} {s : Stp} (h : s.kind = 1) : nextS b a e s = ⟨(numS b a e).1, ⟨#[]⟩, (numS b a e).2.1, (numS b a e).2.2⟩ := by
  unfold nextS
  by_cases he : e ≠ 0
  · unfold numS; simp only [if_pos he]
  · rw [if_neg he, if_pos h]
theorem nextS_two {b : ByteArray} {a : Nat} {e : Int} {s : Stp} (h : s.kind = 2) : nextS b a e s = ⟨(intS b a e s.most).1, ⟨#[]⟩, (intS b a e s.most).2.1, (intS b a e s.most).2.2⟩ := by
  unfold nextS
  by_cases he : e ≠ 0
  · unfold intS; simp only [if_pos he]
  · rw [if_neg he, if_neg (by rw [h]; decide), if_pos h]
theorem nextS_three {b : ByteArray} {a : Nat} {e : Int} {s : Stp} (h : s.kind = 3) : nextS b a e s = ⟨0, (textS b a e s.most).1, (textS b a e s.most).2.1, (textS b a e s.most).2.2⟩ := by
  unfold nextS
  by_cases he : e ≠ 0
  · unfold textS; simp only [if_pos he]
  · rw [if_neg he, if_neg (by rw [h]; decide), if_neg (by rw [h]; decide), if_pos h]
theorem nextS_all {b : ByteArray} {a : Nat} {e : Int} {s : Stp} (h1 : ¬ s.kind = 1) (h2 : ¬ s.kind = 2) (h3 : ¬ s.kind = 3) : nextS b a e s = ⟨0, (restS b a e).1, (restS b a e).2.1, (restS b a e).2.2⟩ := by
  unfold nextS
  by_cases he : e ≠ 0
  · unfold restS; simp only [if_pos he]
  · rw [if_neg he, if_neg h1, if_neg h2, if_neg h3]
end Go.Proofs.Ytpnlhnhjedopgaa
end
