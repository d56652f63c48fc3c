/- Chapter 21's example: a table that knows one tag. -/
import Derived.Test.YtmmmaekaoanceaaMacB
namespace Go.Proofs.Ytmmmaekaoanceaa
open Go Go.RowKit

theorem DiceAt.up' {w w' : World} {g : Nat} {q : List Int} (h : DiceAt w g q) (hu : Up w w') : DiceAt w' g q := by
  obtain ⟨cs, f, hb, r⟩ := h
  exact ⟨cs, f, hu.keep hb, r⟩
theorem DiceAt.lt {w : World} {g : Nat} {q : List Int} (h : DiceAt w g q) : g < w.heap.size := by
  obtain ⟨cs, f, hb, r⟩ := h
  exact blk_lt hb
theorem DiceAt.only {w w' : World} {g k : Nat} {q : List Int} (h : DiceAt w g q) (hu : Only k w w') (hne : g ≠ k) : DiceAt w' g q := by
  obtain ⟨cs, f, hb, r⟩ := h
  exact ⟨cs, f, hu.keep hb hne, r⟩
theorem issue_knows (t : Tab) (o n : Nat) (ho : o ≤ 8) : knowsT (t.issue o n) o ((t.es o + 1 : Nat) : Int) (tagN n (t.es o + 1) o) = true := by
  unfold knowsT Tab.issue
  rw [decide_eq_true_iff]
  exact ⟨by omega, by omega, tagN_pos _ _ _, by rw [Int.toNat_natCast]; simp⟩
theorem issue_other (t : Tab) (o n p : Nat) (e : Int) (x : Nat) (h : p ≠ o) : knowsT (t.issue o n) p e x = knowsT t p e x := by
  unfold knowsT Tab.issue
  rw [Int.toNat_natCast]
  simp [h]
theorem none_knows (o e : Int) (x : Nat) : knowsT Tab.none o e x = false := by
  unfold knowsT Tab.none
  rw [decide_eq_false_iff_not]
  rintro ⟨_, _, h1, h2⟩
  exact h1 (congrArg Prod.snd h2).symm
theorem awake21_any (w : World) : Calls Try.prog 19 #[] w (Gives w (.bool true)) := by
  have K1 := Lib.hid (show knowsT (Tab.none.issue 3 9) 3 1 (tagN 9 1 3) = true from issue_knows Tab.none 3 9 (by decide))
  have K2 := Lib.hid (show knowsT (Tab.none.issue 3 9) 2 1 (tagN 9 1 3) = false from (issue_other Tab.none 3 9 2 1 (tagN 9 1 3) (by decide)).trans (none_knows _ _ _))
  have htg := tagN_pos 9 1 3
  have d1 : ((tagN 9 1 3 : Nat) : Int) != 0 := by rw [bne_iff_ne]; omega
  go_enter Try.func19, Try.ntmps19
  go_wp2_with fail
  refine (new_any _).mono ?_
  rintro e w1 ⟨d, rfl, hd, hD, hu1⟩
  go_wp2_with fail
  refine (put_room _ _ _ _ hD (by decide)).mono ?_
  rintro e w2 ⟨rfl, hD2, ho2⟩
  go_wp2_with fail
  refine (macnew_any _).mono ?_
  rintro e w3 ⟨g, rfl, hg, hT, hu3⟩
  have hD3 := hD2.up' hu3
  have hgd : g ≠ d := by have := hD2.lt; omega
  go_wp2_with fail
  refine (issue_ok 3 9 g d Tab.none [] _ (by decide) (by decide) hT hD3 hgd (by decide)).mono ?_
  rintro e w4 ⟨rfl, hT4, hD4, hu4⟩
  have hup : Up w w4 := hu4.up w (by have := hu1.size; have := ho2.size; omega) hd ((hu1.only ho2 hd).trans hu3)
  have e1 : Tab.none.es 3 + 1 = 1 := rfl
  rw [e1]
  generalize tagN 9 1 3 = tg at *
  go_wp2_with fail
  refine (knows_any 3 1 tg _ _ _ hT4).mono ?_
  rintro e w5 ⟨rfl, rfl⟩
  rw [K1.out]
  go_wp2_with fail
  refine (knows_any 2 1 tg _ _ _ hT4).mono ?_
  rintro e w6 ⟨rfl, rfl⟩
  rw [K2.out]
  go_wp2_with fail
  go_ret
  exact Gives.mk rfl hup
end Go.Proofs.Ytmmmaekaoanceaa
