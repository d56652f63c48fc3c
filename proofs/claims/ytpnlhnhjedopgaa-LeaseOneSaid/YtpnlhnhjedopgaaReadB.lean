/- The walks of span.Reader's methods: what each hands back, and what the reader keeps, whatever was wrong. -/
import Derived.Test.YtpnlhnhjedopgaaReadA
namespace Go.Proofs.Ytpnlhnhjedopgaa
open Go Go.RowKit

def rest (b : ByteArray) (a : Nat) : ByteArray := b.extract a b.size
def numS (b : ByteArray) (a : Nat) (e : Int) : Nat × Nat × Int := if e ≠ 0 then (0, a, e) else ((takeL (rest b a).data.toList).1, a + (takeL (rest b a).data.toList).2.1, (takeL (rest b a).data.toList).2.2)
def intS (b : ByteArray) (a : Nat) (e : Int) (most : Int) : Nat × Nat × Int := if e ≠ 0 then (0, a, e) else ((intT (rest b a) most).1, a + (intT (rest b a) most).2.1, (intT (rest b a) most).2.2)
def textS (b : ByteArray) (a : Nat) (e : Int) (most : Int) : ByteArray × Nat × Int := if e ≠ 0 then (⟨#[]⟩, a, e) else ((spanT (rest b a) most).1, a + (spanT (rest b a) most).2.1, (spanT (rest b a) most).2.2)
def restS (b : ByteArray) (a : Nat) (e : Int) : ByteArray × Nat × Int := if e ≠ 0 then (⟨#[]⟩, a, e) else (rest b a, a + (rest b a).size, 0)
theorem rest_size (b : ByteArray) (a : Nat) : (rest b a).size = b.size - a := by unfold rest; rw [ByteArray.size_extract]; omega
theorem rest_list (b : ByteArray) (a : Nat) : (rest b a).data.toList.length = b.size - a := by rw [← rest_size]; simp
theorem numS_bd {b : ByteArray} {a : Nat} {e : Int} (ha : a ≤ b.size) (h0 : 0 ≤ e) (h1 : e ≤ 9) : (numS b a e).2.1 ≤ b.size ∧ 0 ≤ (numS b a e).2.2 ∧ (numS b a e).2.2 ≤ 9 ∧ (numS b a e).1 < 18446744073709551616 := by
  have h2 := takeL_bd (rest b a).data.toList
  have h3 := takeL_small (rest b a).data.toList
  rw [rest_list] at h2
  unfold numS
  split
  · exact ⟨ha, h0, h1, by show 0 < 18446744073709551616; decide⟩
  · exact ⟨by show a + _ ≤ b.size; omega, by show 0 ≤ (takeL (rest b a).data.toList).2.2; omega, by show (takeL (rest b a).data.toList).2.2 ≤ 9; omega, h3⟩
theorem intS_bd {b : ByteArray} {a : Nat} {e : Int} (most : Int) (ha : a ≤ b.size) (h0 : 0 ≤ e) (h1 : e ≤ 9) : (intS b a e most).2.1 ≤ b.size ∧ 0 ≤ (intS b a e most).2.2 ∧ (intS b a e most).2.2 ≤ 9 ∧ ((intS b a e most).1 : Int) ≤ max most 0 := by
  have h2 := intT_bd (rest b a) most
  rw [rest_size] at h2
  unfold intS
  split
  · exact ⟨ha, h0, h1, by show ((0 : Nat) : Int) ≤ max most 0; omega⟩
  · exact ⟨by show a + _ ≤ b.size; omega, by show 0 ≤ (intT (rest b a) most).2.2; omega, by show (intT (rest b a) most).2.2 ≤ 9; omega, by show ((intT (rest b a) most).1 : Int) ≤ _; omega⟩
theorem spanT_bd' (b : ByteArray) (most : Int) : 0 ≤ (spanT b most).2.2 ∧ (spanT b most).2.2 ≤ 3 ∧ (spanT b most).2.1 ≤ b.size ∧ (spanT b most).1.size ≤ b.size ∧ ((spanT b most).2.2 ≠ 0 → (spanT b most).1 = ⟨#[]⟩ ∧ (spanT b most).2.1 = 0) := by
  have := intT_bd b most
  unfold spanT
  split
  · exact ⟨by show 0 ≤ (intT b most).2.2; omega, by show (intT b most).2.2 ≤ 3; omega, by show 0 ≤ b.size; omega, by show 0 ≤ b.size; omega, fun _ => ⟨rfl, rfl⟩⟩
  · split
    · exact ⟨by show (0 : Int) ≤ 2; omega, by show (2 : Int) ≤ 3; omega, by show 0 ≤ b.size; omega, by show 0 ≤ b.size; omega, fun _ => ⟨rfl, rfl⟩⟩
    · rename_i h
      refine ⟨by show (0 : Int) ≤ 0; omega, by show (0 : Int) ≤ 3; omega, by show _ + _ ≤ b.size; omega, ?_, fun h => (h rfl).elim⟩
      simp only [ByteArray.size_extract]; omega
theorem textS_bd {b : ByteArray} {a : Nat} {e : Int} (most : Int) (ha : a ≤ b.size) (h0 : 0 ≤ e) (h1 : e ≤ 9) : (textS b a e most).2.1 ≤ b.size ∧ 0 ≤ (textS b a e most).2.2 ∧ (textS b a e most).2.2 ≤ 9 ∧ (textS b a e most).1.size ≤ b.size := by
  have h2 := spanT_bd' (rest b a) most
  rw [rest_size] at h2
  unfold textS
  split
  · exact ⟨ha, h0, h1, by show 0 ≤ b.size; omega⟩
  · exact ⟨by show a + _ ≤ b.size; omega, by show 0 ≤ (spanT (rest b a) most).2.2; omega, by show (spanT (rest b a) most).2.2 ≤ 9; omega, by show (spanT (rest b a) most).1.size ≤ _; omega⟩
theorem restS_bd {b : ByteArray} {a : Nat} {e : Int} (ha : a ≤ b.size) (h0 : 0 ≤ e) (h1 : e ≤ 9) : (restS b a e).2.1 ≤ b.size ∧ 0 ≤ (restS b a e).2.2 ∧ (restS b a e).2.2 ≤ 9 ∧ (restS b a e).1.size ≤ b.size := by
  unfold restS
  split
  · exact ⟨ha, h0, h1, by show 0 ≤ b.size; omega⟩
  · exact ⟨by show a + (rest b a).size ≤ _; rw [rest_size]; omega, by show (0 : Int) ≤ 0; omega, by show (0 : Int) ≤ 9; omega, by show (rest b a).size ≤ _; rw [rest_size]; omega⟩

theorem num_any (w : World) (g : Nat) (b : ByteArray) (a : Nat) (e : Int) (h : Rd w g b a e) (hb : b.size ≤ maxLen) (ha : a ≤ b.size) :
    Calls Try.prog 98 #[rptr g] w (fun y w' => y = .returned (.int .u64 (numS b a e).1) ∧ Rd w' g b (numS b a e).2.1 (numS b a e).2.2 ∧ Only g w w') := by
  by_cases he : e = 0
  · subst he
    have h2 := takeL_bd (rest b a).data.toList
    have hz := takeL_zero (rest b a).data.toList
    rw [rest_list] at h2
    obtain ⟨⟨n, k, e⟩, hr⟩ : ∃ r, takeL (rest b a).data.toList = r := ⟨_, rfl⟩
    have HS := Lib.hid (show numS b a 0 = (n, a + k, e) by unfold numS; rw [if_neg (by simp), hr])
    rw [hr] at h2 hz
    rw [HS.out]
    go_enter Try.func98, Try.ntmps98
    go_wp2_with fail
    refine (take_num w g b a h hb ha n k e hr hz (by omega)).mono ?_
    rintro y w1 ⟨rfl, h1, ho⟩
    go_wp2_with fail
    go_ret
    exact ⟨rfl, h1, ho⟩
  · have HS := Lib.hid (show numS b a e = (0, a, e) by unfold numS; rw [if_pos he])
    rw [HS.out]
    go_enter Try.func98, Try.ntmps98
    go_wp2_with fail
    refine (take_num_wrong w g b a e h he _).mono ?_
    rintro y w1 ⟨rfl, rfl⟩
    go_wp2_with fail
    go_ret
    exact ⟨rfl, h, Only.refl _ _⟩
theorem rest_any (w : World) (g : Nat) (b : ByteArray) (a : Nat) (e : Int) (h : Rd w g b a e) (hb : b.size ≤ maxLen) (ha : a ≤ b.size) :
    Calls Try.prog 100 #[rptr g] w (fun y w' => y = .returned (.string (restS b a e).1) ∧ Rd w' g b (restS b a e).2.1 (restS b a e).2.2 ∧ Only g w w') := by
  by_cases he : e = 0
  · subst he
    have HS := Lib.hid (show restS b a 0 = (rest b a, a + (rest b a).size, 0) by unfold restS; rw [if_neg (by simp)])
    rw [HS.out]
    have hk : a + (rest b a).size ≤ b.size := by rw [rest_size]; omega
    go_enter Try.func100, Try.ntmps100
    go_wp2_with fail
    refine (take_rest w g b a h hb ha _ _ _ rfl (fun h => (h rfl).elim) hk).mono ?_
    rintro y w1 ⟨rfl, h1, ho⟩
    go_wp2_with fail
    go_ret
    exact ⟨rfl, h1, ho⟩
  · have HS := Lib.hid (show restS b a e = (⟨#[]⟩, a, e) by unfold restS; rw [if_pos he])
    rw [HS.out]
    go_enter Try.func100, Try.ntmps100
    go_wp2_with fail
    refine (take_str_wrong w g b a e h he _).mono ?_
    rintro y w1 ⟨rfl, rfl⟩
    go_wp2_with fail
    go_ret
    exact ⟨rfl, h, Only.refl _ _⟩
theorem int_any (w : World) (g : Nat) (b : ByteArray) (a : Nat) (e : Int) (most : Int) (h : Rd w g b a e) (hb : b.size ≤ maxLen) (ha : a ≤ b.size) (m0 : -9223372036854775808 ≤ most) (m1 : most ≤ 9223372036854775807) :
    Calls Try.prog 99 #[rptr g, .int .i64 most] w (fun y w' => y = .returned (.int .i64 (intS b a e most).1) ∧ Rd w' g b (intS b a e most).2.1 (intS b a e most).2.2 ∧ Only g w w') := by
  have h' := h.up ((Up.refl w).alloc (.cells #[.int .i64 most] 3 (0, 0)))
  have hc : (w.alloc (.cells #[.int .i64 most] 3 (0, 0))).cell? ⟨w.heap.size, 0, none⟩ = some (.int .i64 most) := blk_cell (blk_new _ _) 0
  have hu : Only g w (w.alloc (.cells #[.int .i64 most] 3 (0, 0))) := (Only.refl _ _).alloc _
  by_cases he : e = 0
  · subst he
    have h2 := takeL_bd (rest b a).data.toList
    have hz := takeL_zero (rest b a).data.toList
    rw [rest_list] at h2
    obtain ⟨⟨n, k, e⟩, hr⟩ : ∃ r, takeL (rest b a).data.toList = r := ⟨_, rfl⟩
    rw [hr] at h2 hz
    have hI : intT (rest b a) most = if e ≠ 0 then (0, 0, e) else if max most 0 < (n : Int) then (0, 0, 3) else (n, k, e) := by unfold intT; rw [hr]
    have hv : ∃ (e2 : Int) (x k2 : Nat), e2 = (if e = 0 ∧ max most 0 < (n : Int) then 3 else e) ∧ (x : Int) = (if e2 = 0 then (n : Int) else 0) ∧ k2 = (if e2 = 0 then k else 0) ∧ intT (rest b a) most = (x, k2, e2) := by
      by_cases h1 : e = 0
      · by_cases h3 : max most 0 < (n : Int)
        · exact ⟨3, 0, 0, by rw [if_pos ⟨h1, h3⟩], by rw [if_neg (by decide)]; rfl, by rw [if_neg (by decide)], by rw [hI, if_neg (by simpa using h1), if_pos h3]⟩
        · exact ⟨0, n, k, by rw [if_neg (fun h => h3 h.2), h1], by rw [if_pos rfl], by rw [if_pos rfl], by rw [hI, if_neg (by simpa using h1), if_neg h3, h1]⟩
      · exact ⟨e, 0, 0, by rw [if_neg (fun h => h1 h.1)], by rw [if_neg h1]; rfl, by rw [if_neg h1], by rw [hI, if_pos h1]⟩
    obtain ⟨e2, x, k2, he2, hx, hk2, hT⟩ := hv
    have HS := Lib.hid (show intS b a 0 most = (x, a + k2, e2) by unfold intS; rw [if_neg (by simp), hT])
    rw [HS.out]
    have K1 := Lib.hid he2; have K2 := Lib.hid hx; have K3 := Lib.hid hk2; have K4 := Lib.hid hr; have K5 := Lib.hid hT
    clear hI he2 hx hk2 hr hT hz
    go_enter Try.func99, Try.ntmps99
    go_wp2_with fail
    refine (take_int_ok _ g b a h' hb ha _ most m0 m1 hc (by simp) n k e K4.out (by omega) e2 K1.out x K2.out k2 K3.out).mono ?_
    rintro y w1 ⟨rfl, h1, ho⟩
    go_wp2_with fail
    go_ret
    exact ⟨rfl, h1, hu.trans ho⟩
  · have HS := Lib.hid (show intS b a e most = (0, a, e) by unfold intS; rw [if_pos he])
    rw [HS.out]
    go_enter Try.func99, Try.ntmps99
    go_wp2_with fail
    refine (take_int_wrong _ g b a e h' he _).mono ?_
    rintro y w1 ⟨rfl, rfl⟩
    go_wp2_with fail
    go_ret
    exact ⟨rfl, h', hu⟩
end Go.Proofs.Ytpnlhnhjedopgaa
