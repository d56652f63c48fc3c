/- orders of bytes: the plain law, and admin.Take and the document's in the abstract run. -/
import Derived.Test.YtpnlhnhjedopgaaAdmB
import Derived.Test.YtpnlhnhjedopgaaConfP
set_option maxRecDepth 100000
set_option linter.unusedSimpArgs false
namespace Go.Proofs.Ytpnlhnhjedopgaa
open Go Go.RowKit Go.Proofs

def zeroO : Ord := ⟨0, 0, 0, zeroC⟩
def hNum (b : ByteArray) := numS b 0 0
def hOp (b : ByteArray) := intS b (hNum b).2.1 (hNum b).2.2 6
def hOwn (b : ByteArray) := intS b (hOp b).2.1 (hOp b).2.2 8
def hAt (b : ByteArray) : Nat := (hOwn b).2.1
def hE (b : ByteArray) : Int := (hOwn b).2.2
def ordOf (b : ByteArray) (c : Cnf) : Ord := ⟨(hNum b).1, (hOp b).1, (hOwn b).1, c⟩
/-- the order of bytes -/
def takeO (b : ByteArray) : Option Ord :=
  if hE b ≠ 0 then none
  else if cfgB (hOp b).1 then match takeC (rest b (hAt b)) 0 with | none => none | some c => if formB (ordOf b c) then some (ordOf b c) else none
  else if hAt b < b.size then none
  else if formB (ordOf b zeroC) then some (ordOf b zeroC) else none
def ordV : Option Ord → AV | some o => .tup [.agg o.av, .int .i64 0] | none => .tup [.agg zeroO.av, .int .i64 1]
theorem h_of {b : ByteArray} (h : hE b = 0) : hNum b = ((hNum b).1, (hNum b).2.1, 0) ∧ hOp b = ((hOp b).1, (hOp b).2.1, 0) ∧ hOwn b = ((hOwn b).1, hAt b, 0) ∧ (hOp b).2.2 = 0 ∧ (hNum b).2.2 = 0 := by
  have h3 : hOwn b = ((hOwn b).1, hAt b, 0) := by unfold hE at h; unfold hAt; rw [← h]
  have h2 : (hOp b).2.2 = 0 := by
    cases Decidable.em ((hOp b).2.2 = 0) with
    | inl h2 => exact h2
    | inr h2 => exact absurd h (by unfold hE hOwn; rw [int_sticks h2]; exact h2)
  have h1 : (hNum b).2.2 = 0 := by
    cases Decidable.em ((hNum b).2.2 = 0) with
    | inl h1 => exact h1
    | inr h1 => exact absurd h2 (by unfold hOp; rw [int_sticks h1]; exact h1)
  exact ⟨by rw [← h1], by rw [← h2], h3, h2, h1⟩
/-- what stands ahead of the rest -/
theorem head_ok {b : ByteArray} (h : hE b = 0) (c : Cnf) : b.data.toList = headL (ordOf b c) ++ b.data.toList.drop (hAt b) ∧ hAt b ≤ b.size ∧ (hNum b).1 < 18446744073709551616 ∧ (hOp b).1 ≤ 6 ∧ (hOwn b).1 ≤ 8 := by
  obtain ⟨h1, h2, h3, h4, h5⟩ := h_of h
  obtain ⟨-, p1, p2, p3⟩ := num_ok (b := b) (a := 0) (e := 0) (n := (hNum b).1) (a2 := (hNum b).2.1) h1 (Nat.zero_le _)
  obtain ⟨-, q1, q2, q3⟩ := int_ok (b := b) (a := (hNum b).2.1) (e := (hNum b).2.2) (most := 6) (n := (hOp b).1) (a2 := (hOp b).2.1) h2 p3
  obtain ⟨-, r1, r2, r3⟩ := int_ok (b := b) (a := (hOp b).2.1) (e := (hOp b).2.2) (most := 8) (n := (hOwn b).1) (a2 := hAt b) h3 q3
  refine ⟨?_, r3, p2, by omega, by omega⟩
  unfold headL ordOf
  simp only [Int.toNat_natCast]
  rw [List.drop_zero] at p1
  conv => lhs; rw [p1]
  conv => lhs; arg 2; rw [q1]
  conv => lhs; arg 2; arg 2; rw [r1]
  simp [hNum, hOp, hOwn]
/-- what was taken was put -/
theorem takeO_some {b : ByteArray} {o : Ord} (h : takeO b = some o) : formB o = true ∧ putO o = (b, 0) ∧ (cfgB o.op = false → o.c = zeroC) ∧ 0 ≤ o.id ∧ o.id ≤ 18446744073709551615 := by
  unfold takeO at h
  split at h
  · cases h
  rename_i he
  simp only [ne_eq, Decidable.not_not] at he
  split at h
  · rename_i hc
    cases ht : takeC (rest b (hAt b)) 0 with
    | none => rw [ht] at h; cases h
    | some c =>
      rw [ht] at h
      simp only at h
      split at h
      · rename_i hf
        cases h
        obtain ⟨p1, p2, p3, p4, p5⟩ := head_ok he c
        obtain ⟨q1, q2⟩ := takeC_some ht
        rw [rest_data'] at q1
        have hc' : cfgB (ordOf b c).op = true := hc
        refine ⟨hf, ?_, fun h => (Bool.noConfusion (hc'.symm.trans h)), by unfold ordOf; simp only; omega, by unfold ordOf; simp only; omega⟩
        unfold putO
        rw [hf, hc', if_pos rfl, if_pos rfl]
        have : (ordOf b c).c = c := rfl
        rw [this, ← q1, ← p1, S_of]
      · cases h
  · rename_i hc
    split at h
    · cases h
    rename_i hl
    split at h
    · rename_i hf
      cases h
      obtain ⟨p1, p2, p3, p4, p5⟩ := head_ok he zeroC
      have hc' : cfgB (ordOf b zeroC).op = false := by simp only [Bool.not_eq_true] at hc; exact hc
      refine ⟨hf, ?_, fun _ => rfl, by unfold ordOf; simp only; omega, by unfold ordOf; simp only; omega⟩
      unfold putO
      rw [hf, hc', if_pos rfl]
      rw [List.drop_eq_nil_of_le (i := hAt b) (by simpa using hl), List.append_nil] at p1
      simp only [Bool.false_eq_true, if_false, List.append_nil]
      rw [← p1, S_of]
    · cases h
def plainO (o : Ord) : Ord := if cfgB o.op then o else ⟨o.id, o.op, o.owner, zeroC⟩
/-- what was put is taken -/
theorem takeO_put {o : Ord} (hf : formB o = true) (hid : 0 ≤ o.id ∧ o.id ≤ 18446744073709551615) : takeO (putO o).1 = some (plainO o) := by
  have hin := formB_in hf
  unfold inB at hin
  obtain ⟨t, ht⟩ : ∃ t : List UInt8, t = (if cfgB o.op then putI o.c.l else []) := ⟨_, rfl⟩
  have hp : (putO o).1 = S (headL o ++ t) := by unfold putO; rw [hf, if_pos rfl, ht]
  rw [hp]
  have e1 : hNum (S (headL o ++ t)) = (o.id.toNat, 0 + (putL o.id.toNat).length, 0) := by
    unfold hNum
    refine num_put (r := putL o.op.toNat ++ (putL o.owner.toNat ++ t)) ?_ (by omega)
    rw [S_list, List.drop_zero]; unfold headL; simp
  have d1 : (S (headL o ++ t)).data.toList.drop (0 + (putL o.id.toNat).length) = putL o.op.toNat ++ (putL o.owner.toNat ++ t) := (drop_from (by rw [S_list, List.drop_zero]; unfold headL; simp)).symm
  have e2 : hOp (S (headL o ++ t)) = (o.op.toNat, 0 + (putL o.id.toNat).length + (putL o.op.toNat).length, 0) := by
    unfold hOp
    rw [e1]
    exact int_put (r := putL o.owner.toNat ++ t) d1 (by omega) (by omega)
  have d2 : (S (headL o ++ t)).data.toList.drop (0 + (putL o.id.toNat).length + (putL o.op.toNat).length) = putL o.owner.toNat ++ t := (drop_from d1).symm
  have e3 : hOwn (S (headL o ++ t)) = (o.owner.toNat, 0 + (putL o.id.toNat).length + (putL o.op.toNat).length + (putL o.owner.toNat).length, 0) := by
    unfold hOwn
    rw [e2]
    exact int_put (r := t) d2 (by omega) (by omega)
  have d3 : (S (headL o ++ t)).data.toList.drop (hAt (S (headL o ++ t))) = t := by unfold hAt; rw [e3]; exact (drop_from d2).symm
  have hE0 : hE (S (headL o ++ t)) = 0 := by unfold hE; rw [e3]
  have ho : ∀ c, ordOf (S (headL o ++ t)) c = ⟨o.id, o.op, o.owner, c⟩ := fun c => by
    unfold ordOf
    rw [e1, e2, e3]
    simp only
    rw [Int.toNat_of_nonneg (by omega), Int.toNat_of_nonneg (by omega), Int.toNat_of_nonneg (by omega)]
  have hop : (((hOp (S (headL o ++ t))).1 : Nat) : Int) = o.op := by rw [e2]; simp only; omega
  unfold takeO plainO
  rw [if_neg (by simp [hE0]), hop]
  have fa : ∀ c, cfgB o.op = false → formB ⟨o.id, o.op, o.owner, c⟩ = formB o := fun c h => by unfold formB; simp only [h]; rfl
  cases hc : cfgB o.op with
  | true =>
    rw [hc, if_pos rfl] at ht
    rw [if_pos rfl, if_pos rfl, takeC_put (c := o.c) (by rw [rest_data', d3, ht]) (formB_good hf hc)]
    simp only
    rw [ho, if_pos hf]
  | false =>
    rw [hc] at ht
    simp only [Bool.false_eq_true, if_false] at ht ⊢
    have hl : ¬ hAt (S (headL o ++ t)) < (S (headL o ++ t)).size := by
      intro hlt
      have := congrArg List.length d3
      rw [List.length_drop, ht, List.length_nil] at this
      have hs : (S (headL o ++ t)).data.toList.length = (S (headL o ++ t)).size := by simp
      rw [ht] at hlt hs
      omega
    rw [if_neg hl, ho, fa zeroC hc, hf, if_pos rfl]
end Go.Proofs.Ytpnlhnhjedopgaa
