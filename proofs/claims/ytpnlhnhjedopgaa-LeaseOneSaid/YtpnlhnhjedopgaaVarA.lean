/- The walks of varint.Put, varint.Turn, varint.Back, varint.PutInt and of their twins of the document: what each hands back. -/
import Derived.Test.YtpnlhnhjedopgaaProg
import Derived.Test.YtpnlhnhjedopgaaBase
import Derived.Test.YtpnlhnhjedopgaaPlainV
namespace Go.Proofs.Ytpnlhnhjedopgaa
open Go Go.RowKit

theorem rowU8 : Row1 Try.prog 194 5 (.int .u8 0) 1 1 := ⟨by kernel_rfl, by kernel_rfl, rfl, by decide⟩

theorem byte_any (n : Int) (w : World) (h0 : 0 ≤ n) (h1 : n ≤ 255) :
    Calls Try.prog 125 #[.int .i64 n] w (Gives w (.string (S [UInt8.ofNat n.toNat]))) := by
  have hc := fun w => conv_one (P := Try.prog) w 194 9 5 5 n Try.underlying194 Try.underlying5 Try.underlying9 h0 h1
  go_enter Try.func125, Try.ntmps125
  go_wp2_with fail
  go_ret
  exact ⟨rfl, (Up.refl _).alloc _⟩

theorem refput_any (k : Nat) : ∀ (n : Int) (w : World), n.toNat ≤ k → 0 ≤ n → n ≤ 18446744073709551615 →
    Calls Try.prog 95 #[.int .u64 n] w (Gives w (.string (S (putL n.toNat)))) := by
  induction k with
  | zero =>
    intro n w hk h0 h1
    have hp : S [UInt8.ofNat n.toNat] = S (putL n.toNat) := by rw [putL_small (by omega)]
    have H := Lib.hid hp; clear hp
    go_enter Try.func95, Try.ntmps95
    go_wp2_with fail
    refine (byte_any _ _ (by omega) (by omega)).mono ?_
    rintro e w1 ⟨rfl, hu⟩
    go_wp2_with fail
    go_ret
    exact Gives.mk (congrArg Value.string H.out) (hu)
  | succ k ih =>
    intro n w hk h0 h1
    by_cases hn : n < 128
    · have hp : S [UInt8.ofNat n.toNat] = S (putL n.toNat) := by rw [putL_small (by omega)]
      have H := Lib.hid hp; clear hp
      go_enter Try.func95, Try.ntmps95
      go_wp2_with fail
      refine (byte_any _ _ (by omega) (by omega)).mono ?_
      rintro e w1 ⟨rfl, hu⟩
      go_wp2_with fail
      go_ret
      exact Gives.mk (congrArg Value.string H.out) (hu)
    · have hp : S [UInt8.ofNat (n % 128 + 128).toNat] ++ S (putL (n / 128).toNat) = S (putL n.toNat) := by
        rw [S_append, putL_great (n := n.toNat) (by omega)]
        simp only [List.singleton_append]
        rw [show (n % 128 + 128).toNat = n.toNat % 128 + 128 from by omega, show (n / 128).toNat = n.toNat / 128 from by omega]
      have H := Lib.hid hp; clear hp
      have hs1 : (S [UInt8.ofNat (n % 128 + 128).toNat]).size ≤ 1 := by rw [S_size]; simp
      have hs2 : (S (putL (n / 128).toNat)).size ≤ 10 := by rw [S_size]; exact putL_ten (by omega)
      have hbig : ¬ n < 128 := hn
      go_enter Try.func95, Try.ntmps95
      go_wp2_with fail
      refine (byte_any _ _ (by omega) (by omega)).mono ?_
      rintro e w1 ⟨rfl, hu⟩
      go_wp2_with fail
      refine (ih _ _ (by omega) (by omega) (by omega)).mono ?_
      rintro e w2 ⟨rfl, hu2⟩
      go_wp2_with fail
      go_ret
      exact Gives.mk (congrArg Value.string H.out) (hu.trans hu2)

theorem or_128 : ∀ a, a < 256 → a ||| 128 = a % 128 + 128 := by decide +kernel
theorem bits_or_128 (m : Int) (h0 : 0 ≤ m) : bits .or .u8 (m % 256) 128 = ((UInt8.ofNat (m.toNat % 128 + 128)).toNat : Int) := by
  rw [u8_or _ _ (by omega) (by omega) (by omega) (by omega)]
  rw [show (128 : Int).toNat = 128 from rfl, or_128 _ (by omega)]
  simp; omega

/-- one byte more behind a row of bytes -/
theorem row_snoc (l : List UInt8) (b : UInt8) (n : Int) (h : n = (b.toNat : Int)) :
    (l.map fun b => Value.int .u8 (b.toNat : Int)) ++ #[Value.int .u8 n].toList = (l ++ [b]).map fun b => Value.int .u8 (b.toNat : Int) := by
  subst h; simp

set_option maxHeartbeats 400000 in
set_option maxRecDepth 100000 in
theorem varput_any (n : Int) (w : World) (h0 : 0 ≤ n) (h1 : n ≤ 18446744073709551615) :
    Calls Try.prog 91 #[.int .u64 n] w (Gives w (.string (S (putL n.toNat)))) := by
  have H10 := Lib.hid (putL_ten (n := n.toNat) (by omega))
  go_enter Try.func91, Try.ntmps91
  go_wp2_with fail
  go_step3
  go_wp2_with fail
  go_step3
  go_wp2_with fail
  go_loopw [0, 3] (fun x v wr => ∃ (m : Int) (l : List UInt8), 0 ≤ m ∧ m ≤ 18446744073709551615 ∧ x = .int .u64 m ∧ Hid (l ++ putL m.toNat = putL n.toNat) ∧
      wr.ownsRow w.heap.size 5 1 v l.length (l.map fun b => .int .u8 (b.toNat : Int)) ∧ Up w wr) (fun x _ _ => (intOf x).toNat)
  case atStart => exact ⟨n, [], h0, h1, rfl, rfl, World.ownsRow_nil _ _ _ _, Up.refl _⟩
  case round =>
    obtain ⟨m, l, hm0, hm1, rfl, hl, hown, hup⟩ := hrel
    have hlen : l.length + 1 ≤ 10 := by
      have h2 := congrArg List.length hl.out; have h3 := H10.out; have h4 := putL_pos m.toNat
      simp at h2; omega
    by_cases hm : m < 128
    · have hp := row_snoc l (UInt8.ofNat m.toNat) m (by simp; omega)
      have HP := Lib.hid hp; clear hp
      have hq : S (l ++ [UInt8.ofNat m.toNat]) = S (putL n.toNat) := by rw [← hl.out, putL_small (by omega)]
      have HQ := Lib.hid hq; clear hq
      go_wp2_with (at_builtin; refine wpList_app1 rfl _ _ 194 5 rfl rowU8 hup hown rfl #[.int .u8 m] rfl rfl (by simp [Value.oneCell']) (by unfold maxLen; omega) (by omega) ?_; intro v' w' hown' hup'; rw [HP.out] at hown'; have hcv := conv_row (P := Try.prog) 194 9 5 Try.underlying194 Try.underlying5 Try.underlying9 hown'; clear hown' hown)
      go_ret
      exact Gives.mk (congrArg Value.string HQ.out) hup'
    · have hp := row_snoc l (UInt8.ofNat (m.toNat % 128 + 128)) _ (bits_or_128 m hm0)
      have HP := Lib.hid hp; clear hp
      have hq : (l ++ [UInt8.ofNat (m.toNat % 128 + 128)]) ++ putL (m / 128).toNat = putL n.toNat := by
        rw [← hl.out, putL_great (n := m.toNat) (by omega), show (m / 128).toNat = m.toNat / 128 from by omega]; simp
      have HQ := Lib.hid hq; clear hq
      have hl2 : (l ++ [UInt8.ofNat (m.toNat % 128 + 128)]).length = l.length + 1 := by simp
      have HL := Lib.hid hl2; clear hl2
      go_wp2_with (at_builtin; refine wpList_app1 rfl _ _ 194 5 rfl rowU8 hup hown rfl #[.int .u8 (bits .or .u8 (m % 256) 128)] rfl rfl (by simp [Value.oneCell']) (by unfold maxLen; omega) (by omega) ?_; intro v' w' hown' hup'; rw [HP.out, ← HL.out] at hown'; clear hown)
      go_roundw
      case rel => exact ⟨m / 128, _, by omega, by omega, rfl, HQ, hown', hup'⟩
      case measure => simp [intOf]; omega
end Go.Proofs.Ytpnlhnhjedopgaa
