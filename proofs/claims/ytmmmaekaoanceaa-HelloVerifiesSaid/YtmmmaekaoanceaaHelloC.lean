/- The walk of hello.Verify: what it hands back. -/
import Derived.Test.YtmmmaekaoanceaaHelloB
import Derived.Test.YtmmmaekaoanceaaMacE
namespace Go.Proofs.Ytmmmaekaoanceaa
open Go Go.RowKit

/-- the owner that a body proves -/
def verT (t : Tab) (b : ByteArray) : Nat × Int := if (helloT b).2.2.2 = 0 ∧ knowsT t (helloT b).1 (helloT b).2.1 (helloT b).2.2.1 = true then ((helloT b).1, 0) else (0, 16)
def verV (r : Nat × Int) : Value := .tuple #[.int .i64 (r.1 : Nat), .int .i64 r.2]
theorem ver_yes {t : Tab} {b : ByteArray} {o e n : Nat} (h : helloT b = (o, e, n, 0)) (hk : knowsT t o e n = true) : verT t b = (o, 0) := by unfold verT; rw [h, if_pos ⟨rfl, hk⟩]
theorem ver_no {t : Tab} {b : ByteArray} {o e n : Nat} (h : helloT b = (o, e, n, 0)) (hk : knowsT t o e n = false) : verT t b = (0, 16) := by unfold verT; rw [h, if_neg (fun g => by rw [hk] at g; cases g.2)]
theorem ver_bad {t : Tab} {b : ByteArray} {o e n : Nat} {x : Int} (h : helloT b = (o, e, n, x)) (hx : x ≠ 0) : verT t b = (0, 16) := by unfold verT; rw [h, if_neg (fun g => hx g.1)]
set_option maxHeartbeats 1600000 in
set_option maxRecDepth 100000 in
theorem verify_any (b : ByteArray) (g : Nat) (t : Tab) (w : World) (hb : b.size ≤ maxLen) (h : TabAt w g t) : Calls Try.prog 55 #[mptr g, .string b] w (Gives w (verV (verT t b))) := by
  obtain ⟨⟨n1, n2, n3, x⟩, ht⟩ : ∃ r, helloT b = r := ⟨_, rfl⟩
  have HT := Lib.hid ht
  by_cases hx : x = 0
  · subst hx
    cases hk : knowsT t n1 n2 n3 with
    | true =>
      have HV := Lib.hid (ver_yes ht hk)
      have HK := Lib.hid hk
      clear ht hk
      go_enter Try.func55, Try.ntmps55
      go_wp2_with fail
      refine (htake_any b _ hb).mono ?_
      rintro e w1 ⟨rfl, hu1⟩
      rw [HT.out]
      unfold helloV
      go_wp2_with fail
      refine (knows_any n1 n2 n3 _ t _ ((h.up hu1).up ((Up.refl _).alloc _))).mono ?_
      rintro e w2 ⟨rfl, rfl⟩
      rw [HK.out]
      go_wp2_with fail
      go_ret2
      exact Gives.mk (by rw [HV.out]; rfl) (hu1.alloc _)
    | false =>
      have HV := Lib.hid (ver_no ht hk)
      have HK := Lib.hid hk
      clear ht hk
      go_enter Try.func55, Try.ntmps55
      go_wp2_with fail
      refine (htake_any b _ hb).mono ?_
      rintro e w1 ⟨rfl, hu1⟩
      rw [HT.out]
      unfold helloV
      go_wp2_with fail
      refine (knows_any n1 n2 n3 _ t _ ((h.up hu1).up ((Up.refl _).alloc _))).mono ?_
      rintro e w2 ⟨rfl, rfl⟩
      rw [HK.out]
      go_wp2_with fail
      go_ret2
      exact Gives.mk (by rw [HV.out]; rfl) (hu1.alloc _)
  · have HV := Lib.hid (ver_bad (t := t) ht hx)
    have d1 : (x != 0) = true := by rw [bne_iff_ne]; exact hx
    clear ht hx
    go_enter Try.func55, Try.ntmps55
    go_wp2_with fail
    refine (htake_any b _ hb).mono ?_
    rintro e w1 ⟨rfl, hu1⟩
    rw [HT.out]
    unfold helloV
    go_wp2_with fail
    go_ret2
    exact Gives.mk (by rw [HV.out]; rfl) (hu1.alloc _)
set_option maxHeartbeats 1600000 in
set_option maxRecDepth 100000 in
theorem verify_nil (b : ByteArray) (w : World) (hb : b.size ≤ maxLen) : Calls Try.prog 55 #[.pointer none, .string b] w (Gives w (verV (0, 16))) := by
  obtain ⟨⟨n1, n2, n3, x⟩, ht⟩ : ∃ r, helloT b = r := ⟨_, rfl⟩
  have HT := Lib.hid ht
  clear ht
  by_cases hx : x = 0
  · subst hx
    go_enter Try.func55, Try.ntmps55
    go_wp2_with fail
    refine (htake_any b _ hb).mono ?_
    rintro e w1 ⟨rfl, hu1⟩
    rw [HT.out]
    unfold helloV
    go_wp2_with fail
    refine (knows_nil _ _ _ _).mono ?_
    rintro e w2 ⟨rfl, rfl⟩
    go_wp2_with fail
    go_ret2
    exact Gives.mk rfl (hu1.alloc _)
  · have d1 : (x != 0) = true := by rw [bne_iff_ne]; exact hx
    clear hx
    go_enter Try.func55, Try.ntmps55
    go_wp2_with fail
    refine (htake_any b _ hb).mono ?_
    rintro e w1 ⟨rfl, hu1⟩
    rw [HT.out]
    unfold helloV
    go_wp2_with fail
    go_ret2
    exact Gives.mk rfl (hu1.alloc _)
end Go.Proofs.Ytmmmaekaoanceaa
