/- The walks of hello.Put, hello.Take and of the document's: what each hands back. -/
import Derived.Test.YtmmmaekaoanceaaReadP
import Derived.Outline
import Derived.IntWalk
namespace Go.Proofs.Ytmmmaekaoanceaa
open Go Go.RowKit

/-- a hello's body, and what is wrong with it -/
def hputT (o e t : Int) : ByteArray × Int := if o < 0 ∨ e < 0 then (⟨#[]⟩, 1) else (S (putL o.toNat ++ putL e.toNat ++ putL t.toNat), 0)
def hpairV (r : ByteArray × Int) : Value := .tuple #[.string r.1, .int .i64 r.2]
theorem hput_bad {o e t : Int} (h : o < 0 ∨ e < 0) : hputT o e t = (⟨#[]⟩, 1) := by unfold hputT; rw [if_pos h]
theorem hput_ok {o e t : Int} (h : ¬ (o < 0 ∨ e < 0)) : hputT o e t = (S (putL o.toNat ++ putL e.toNat ++ putL t.toNat), 0) := by unfold hputT; rw [if_neg h]
def h1 (b : ByteArray) : Nat × Nat × Int := intS b 0 0 2147483647
def h2 (b : ByteArray) : Nat × Nat × Int := intS b (h1 b).2.1 (h1 b).2.2 2147483647
def h3 (b : ByteArray) : Nat × Nat × Int := numS b (h2 b).2.1 (h2 b).2.2
def helloOk (b : ByteArray) : Int := doneE b (h3 b).2.1 (h3 b).2.2
/-- the hello of a body: owner, epoch, tag, and what is wrong -/
def helloT (b : ByteArray) : Nat × Nat × Nat × Int := if helloOk b = 0 then ((h1 b).1, (h2 b).1, (h3 b).1, 0) else (0, 0, 0, 1)
def helloV (r : Nat × Nat × Nat × Int) : Value := .tuple #[.agg #[.int .i64 (r.1 : Nat), .int .i64 (r.2.1 : Nat), .int .u64 (r.2.2.1 : Nat)], .int .i64 r.2.2.2]
theorem h_bd (b : ByteArray) : (h1 b).2.1 ≤ b.size ∧ (h2 b).2.1 ≤ b.size ∧ (h3 b).2.1 ≤ b.size ∧ 0 ≤ (h1 b).2.2 ∧ 0 ≤ (h2 b).2.2 ∧ 0 ≤ (h3 b).2.2 ∧ (h1 b).1 ≤ 2147483647 ∧ (h2 b).1 ≤ 2147483647 ∧ (h3 b).1 < 18446744073709551616 := by
  have r1 := intS_bd (b := b) (a := 0) (e := 0) 2147483647 (Nat.zero_le _) (by omega) (by omega)
  have r2 := intS_bd (b := b) (a := (h1 b).2.1) (e := (h1 b).2.2) 2147483647 r1.1 r1.2.1 r1.2.2.1
  have r3 := numS_bd (b := b) (a := (h2 b).2.1) (e := (h2 b).2.2) r2.1 r2.2.1 r2.2.2.1
  have q1 : ((h1 b).1 : Int) ≤ max 2147483647 0 := r1.2.2.2
  have q2 : ((h2 b).1 : Int) ≤ max 2147483647 0 := r2.2.2.2
  exact ⟨r1.1, r2.1, r3.1, r1.2.1, r2.2.1, r3.2.1, by omega, by omega, r3.2.2.2⟩

set_option maxHeartbeats 800000 in
set_option maxRecDepth 100000 in
theorem hput_any (o e t : Int) (w : World) (a0 : -9223372036854775808 ≤ o) (a1 : o ≤ 9223372036854775807) (b0 : -9223372036854775808 ≤ e) (b1 : e ≤ 9223372036854775807) (c0 : 0 ≤ t) (c1 : t ≤ 18446744073709551615) :
    Calls Try.prog 33 #[.agg #[.int .i64 o, .int .i64 e, .int .u64 t]] w (Gives w (hpairV (hputT o e t))) := by
  by_cases hb : o < 0 ∨ e < 0
  · have H := Lib.hid (hput_bad (t := t) hb)
    rcases (by omega : o < 0 ∨ (¬ o < 0 ∧ e < 0)) with h | ⟨h, h'⟩
    all_goals
      clear hb
      go_enter Try.func33, Try.ntmps33
      go_wp2_with fail
      go_ret2
      exact Gives.mk (congrArg hpairV H.out).symm ((Up.refl _).alloc _)
  · have H := Lib.hid (hput_ok (t := t) hb)
    obtain ⟨g0, g1⟩ : 0 ≤ o ∧ 0 ≤ e := by omega
    have hl1 : (S (putL o.toNat)).size ≤ 10 := by rw [S_size]; exact putL_ten (by omega)
    have hl2 : (S (putL e.toNat)).size ≤ 10 := by rw [S_size]; exact putL_ten (by omega)
    have hl3 : (S (putL t.toNat)).size ≤ 10 := by rw [S_size]; exact putL_ten (by omega)
    have hl4 : (S (putL o.toNat) ++ S (putL e.toNat)).size ≤ 20 := by rw [ByteArray.size_append]; omega
    have HS := Lib.hid (show S (putL o.toNat) ++ S (putL e.toNat) ++ S (putL t.toNat) = S (putL o.toNat ++ putL e.toNat ++ putL t.toNat) by rw [S_append, S_append])
    have d1 : decide (o < 0) = false := decide_eq_false (by omega)
    have d2 : decide (e < 0) = false := decide_eq_false (by omega)
    have hw1 : IntKind.u64.wrap o = o := IntWalk.u64_in _ (by omega)
    have hw2 : IntKind.u64.wrap e = e := IntWalk.u64_in _ (by omega)
    clear hb
    go_enter Try.func33, Try.ntmps33
    go_wp2_with fail
    refine wp_region_up (by kernel_rfl) (by kernel_rfl) (Up.refl _) ?_
    repeat (go_big_quiet_step ((exact quiet_up (varput_any _ _ (by omega) (by omega)))))
    refine wpQuiet_nil ?_
    intro w1 hu1
    clear hw1 hw2
    go_wp2_with fail
    go_ret2
    exact Gives.mk (by rw [H.out, ← HS.out]; rfl) (((Up.refl w).alloc _).trans hu1)
set_option maxHeartbeats 800000 in
set_option maxRecDepth 100000 in
theorem refhput_any (o e t : Int) (w : World) (a0 : -9223372036854775808 ≤ o) (a1 : o ≤ 9223372036854775807) (b0 : -9223372036854775808 ≤ e) (b1 : e ≤ 9223372036854775807) (c0 : 0 ≤ t) (c1 : t ≤ 18446744073709551615) :
    Calls Try.prog 34 #[.agg #[.int .i64 o, .int .i64 e, .int .u64 t]] w (Gives w (hpairV (hputT o e t))) := by
  by_cases hb : o < 0 ∨ e < 0
  · have H := Lib.hid (hput_bad (t := t) hb)
    rcases (by omega : o < 0 ∨ (¬ o < 0 ∧ e < 0)) with h | ⟨h, h'⟩
    all_goals
      clear hb
      go_enter Try.func34, Try.ntmps34
      go_wp2_with fail
      go_ret2
      exact Gives.mk (congrArg hpairV H.out).symm ((Up.refl _).alloc _)
  · have H := Lib.hid (hput_ok (t := t) hb)
    obtain ⟨g0, g1⟩ : 0 ≤ o ∧ 0 ≤ e := by omega
    have hl1 : (S (putL o.toNat)).size ≤ 10 := by rw [S_size]; exact putL_ten (by omega)
    have hl2 : (S (putL e.toNat)).size ≤ 10 := by rw [S_size]; exact putL_ten (by omega)
    have hl3 : (S (putL t.toNat)).size ≤ 10 := by rw [S_size]; exact putL_ten (by omega)
    have hl4 : (S (putL o.toNat) ++ S (putL e.toNat)).size ≤ 20 := by rw [ByteArray.size_append]; omega
    have HS := Lib.hid (show S (putL o.toNat) ++ S (putL e.toNat) ++ S (putL t.toNat) = S (putL o.toNat ++ putL e.toNat ++ putL t.toNat) by rw [S_append, S_append])
    have d1 : decide (o < 0) = false := decide_eq_false (by omega)
    have d2 : decide (e < 0) = false := decide_eq_false (by omega)
    have hw1 : IntKind.u64.wrap o = o := IntWalk.u64_in _ (by omega)
    have hw2 : IntKind.u64.wrap e = e := IntWalk.u64_in _ (by omega)
    clear hb
    go_enter Try.func34, Try.ntmps34
    go_wp2_with fail
    refine wp_region_up (by kernel_rfl) (by kernel_rfl) (Up.refl _) ?_
    repeat (go_big_quiet_step ((exact quiet_up (refput_any _ _ _ (Nat.le_refl _) (by omega) (by omega)))))
    refine wpQuiet_nil ?_
    intro w1 hu1
    clear hw1 hw2
    go_wp2_with fail
    go_ret2
    exact Gives.mk (by rw [H.out, ← HS.out]; rfl) (((Up.refl w).alloc _).trans hu1)
theorem awake22_any (w : World) : Calls Try.prog 37 #[] w (Gives w (.bool true)) := by
  have H := Lib.hid (show hputT 1 1 5 = (⟨#[1, 1, 5]⟩, 0) by rw [hput_ok (by decide), putL_small (by decide), putL_small (by decide)]; decide)
  go_enter Try.func37, Try.ntmps37
  go_wp2_with fail
  refine (hput_any _ _ _ _ (by decide) (by decide) (by decide) (by decide) (by decide) (by decide)).mono ?_
  rintro e w1 ⟨rfl, hu⟩
  rw [H.out]
  unfold hpairV
  go_wp2_with fail
  go_ret
  exact Gives.mk rfl hu
end Go.Proofs.Ytmmmaekaoanceaa
