/- Chapter 4 in plain words: of which fields bytes are made. No program in sight. -/
import Derived.Test.YtpldfoclogkppaaKeyB
import Derived.Test.YtpldfoclogkppaaPlainW
namespace Go.Proofs.Ytpldfoclogkppaa
open Go Go.RowKit

/-- a field: its tag, its kind, its content -/
structure Fld where
  tag : Nat
  wire : Nat
  text : ByteArray
/-- the bytes behind the first a -/
def tailB (b : ByteArray) (a : Nat) : ByteArray := b.extract a b.size
theorem tailB_size (b : ByteArray) (a : Nat) : (tailB b a).size = b.size - a := by unfold tailB; rw [ByteArray.size_extract]; omega
theorem tailB_S (l : List UInt8) (a : Nat) : tailB (S l) a = S (l.drop a) := by
  unfold tailB; rw [S_extract, S_size, List.take_of_length_le (by simp)]
theorem tailB_zero (b : ByteArray) : tailB b 0 = b := by rw [← S_of b, tailB_S]; rfl
theorem tailB_tailB (b : ByteArray) (a k : Nat) : tailB (tailB b a) k = tailB b (a + k) := by rw [← S_of b, tailB_S, tailB_S, tailB_S, List.drop_drop]
theorem tailB_extract (b : ByteArray) (a k n : Nat) : (tailB b a).extract k (k + n) = b.extract (a + k) (a + k + n) := by
  rw [← S_of b, tailB_S, S_extract, S_extract, List.drop_drop, Nat.add_sub_cancel_left, Nat.add_sub_cancel_left]

theorem kTakeT_lim (b : ByteArray) : 0 ≤ (kTakeT b).2.2.2 ∧ (kTakeT b).2.2.2 ≤ 9 ∧ (kTakeT b).2.2.1 ≤ b.size ∧ (kTakeT b).1 ≤ 255 ∧ (kTakeT b).2.1 ≤ 1 ∧ ((kTakeT b).2.2.2 = 0 → 1 ≤ (kTakeT b).2.2.1 ∧ 1 ≤ (kTakeT b).1) := by
  have h := takeL_bd b.data.toList
  have hs : b.data.toList.length = b.size := by simp
  unfold kTakeT
  split
  · rename_i h1
    exact ⟨h.1, by show (takeL b.data.toList).2.2 ≤ 9; omega, Nat.zero_le _, Nat.zero_le _, Nat.zero_le _, fun h2 => (h1 h2).elim⟩
  · split
    · exact ⟨by show (0 : Int) ≤ 9; decide, by show (9 : Int) ≤ 9; decide, Nat.zero_le _, Nat.zero_le _, Nat.zero_le _, fun h2 => absurd h2 (by show ¬ (9 : Int) = 0; decide)⟩
    · rename_i h1 h2
      have h3 : takeL b.data.toList = ((takeL b.data.toList).1, (takeL b.data.toList).2.1, 0) := by rw [← (Classical.not_not.1 h1)]
      have h4 := takeL_one h3
      exact ⟨by show (0 : Int) ≤ 0; decide, by show (0 : Int) ≤ 9; decide, by show (takeL b.data.toList).2.1 ≤ b.size; omega, by show (takeL b.data.toList).1 / 2 ≤ 255; omega, by show (takeL b.data.toList).1 % 2 ≤ 1; omega, fun _ => ⟨h4.2.1, by show 1 ≤ (takeL b.data.toList).1 / 2; omega⟩⟩
theorem kSkipT_bd (b : ByteArray) (wire : Int) : 0 ≤ (kSkipT b wire).2 ∧ (kSkipT b wire).2 ≤ 9 ∧ (kSkipT b wire).1 ≤ b.size := by
  have h := takeL_bd b.data.toList
  have hs : b.data.toList.length = b.size := by simp
  unfold kSkipT
  split
  · exact ⟨h.1, by omega, by omega⟩
  · split
    · exact ⟨by show (0 : Int) ≤ 4; decide, by show (4 : Int) ≤ 9; decide, Nat.zero_le _⟩
    · split
      · exact ⟨h.1, by show (takeL b.data.toList).2.2 ≤ 9; omega, Nat.zero_le _⟩
      · split
        · exact ⟨by show (0 : Int) ≤ 2; decide, by show (2 : Int) ≤ 9; decide, Nat.zero_le _⟩
        · exact ⟨by show (0 : Int) ≤ 0; decide, by show (0 : Int) ≤ 9; decide, by show _ + _ ≤ b.size; omega⟩

def noF : Fld := ⟨0, 0, ⟨#[]⟩⟩
/-- the field with which bytes begin, and where it ends; or what is wrong -/
def fieldT (b : ByteArray) (last : Nat) : Int × Fld × Nat :=
  if (kTakeT b).2.2.2 ≠ 0 then ((kTakeT b).2.2.2, noF, 0)
  else if (kTakeT b).1 ≤ last then (9, noF, 0)
  else if (kSkipT (tailB b (kTakeT b).2.2.1) (kTakeT b).2.1).2 ≠ 0 then ((kSkipT (tailB b (kTakeT b).2.2.1) (kTakeT b).2.1).2, noF, 0)
  else (0, ⟨(kTakeT b).1, (kTakeT b).2.1, b.extract (kTakeT b).2.2.1 ((kTakeT b).2.2.1 + (kSkipT (tailB b (kTakeT b).2.2.1) (kTakeT b).2.1).1)⟩, (kTakeT b).2.2.1 + (kSkipT (tailB b (kTakeT b).2.2.1) (kTakeT b).2.1).1)
def splitF : Nat → ByteArray → Nat → Int × List Fld
  | 0, _, _ => (0, [])
  | f + 1, b, last => if b.size = 0 then (0, []) else if (fieldT b last).1 ≠ 0 then ((fieldT b last).1, [])
    else ((splitF f (tailB b (fieldT b last).2.2) (fieldT b last).2.1.tag).1, (fieldT b last).2.1 :: (splitF f (tailB b (fieldT b last).2.2) (fieldT b last).2.1.tag).2)
def splitT (b : ByteArray) : Int × List Fld := splitF b.size b 0
/-- where a split stands: behind the fields acc what is left is cur -/
structure SplitAt (b : ByteArray) (cur : ByteArray) (last : Nat) (acc : List Fld) : Prop where
  fuel : ∃ f, cur.size ≤ f ∧ splitT b = ((splitF f cur last).1, acc ++ (splitF f cur last).2)
  len : acc.length + cur.size ≤ b.size
  tag : last ≤ 255
  few : acc.length ≤ last
theorem splitAt_start (b : ByteArray) : SplitAt b b 0 [] := ⟨⟨b.size, Nat.le_refl _, by unfold splitT; simp⟩, by simp, by decide, by decide⟩
theorem splitAt_end {b cur : ByteArray} {last : Nat} {acc : List Fld} (h : SplitAt b cur last acc) (h0 : cur.size = 0) : splitT b = (0, acc) := by
  obtain ⟨f, hf, hs⟩ := h.fuel
  have : splitF f cur last = (0, []) := by
    cases f with
    | zero => rfl
    | succ f => rw [splitF, if_pos h0]
  rw [hs, this]; simp
theorem splitAt_bad {b cur : ByteArray} {last : Nat} {acc : List Fld} {e : Int} (h : SplitAt b cur last acc) (h0 : cur.size ≠ 0) (he : (fieldT cur last).1 = e) (hne : e ≠ 0) : (splitT b).1 = e := by
  obtain ⟨f, hf, hs⟩ := h.fuel
  cases f with
  | zero => omega
  | succ f => rw [hs, splitF, if_neg h0, if_pos (by rw [he]; exact hne)]; exact he
theorem fieldT_take {b : ByteArray} {last tag wire k : Nat} {e : Int} (h : kTakeT b = (tag, wire, k, e)) (he : e ≠ 0) : (fieldT b last).1 = e := by
  unfold fieldT; rw [h, if_pos he]
theorem fieldT_tag {b : ByteArray} {last tag wire k : Nat} (h : kTakeT b = (tag, wire, k, 0)) (ht : tag ≤ last) : (fieldT b last).1 = 9 := by
  unfold fieldT; rw [h, if_neg (by simp), if_pos ht]
theorem fieldT_skip {b : ByteArray} {last tag wire k n : Nat} {e : Int} (h : kTakeT b = (tag, wire, k, 0)) (ht : ¬ tag ≤ last) (hs : kSkipT (tailB b k) wire = (n, e)) (he : e ≠ 0) : (fieldT b last).1 = e := by
  unfold fieldT; rw [h, if_neg (by simp), if_neg ht, hs, if_pos he]
theorem fieldT_ok {b : ByteArray} {last tag wire k n : Nat} (h : kTakeT b = (tag, wire, k, 0)) (ht : ¬ tag ≤ last) (hs : kSkipT (tailB b k) wire = (n, 0)) : fieldT b last = (0, ⟨tag, wire, b.extract k (k + n)⟩, k + n) := by
  unfold fieldT; rw [h, if_neg (by simp), if_neg ht, hs, if_neg (by simp)]
theorem splitAt_next {b cur : ByteArray} {last tag wire k n : Nat} {acc : List Fld} (hA : SplitAt b cur last acc) (h : kTakeT cur = (tag, wire, k, 0)) (ht : ¬ tag ≤ last) (hs : kSkipT (tailB cur k) wire = (n, 0)) :
    SplitAt b (tailB cur (k + n)) tag (acc ++ [⟨tag, wire, cur.extract k (k + n)⟩]) := by
  obtain ⟨⟨f, hf, hsp⟩, hl, htl, hfew⟩ := hA
  have hF := fieldT_ok h ht hs
  have hb := kTakeT_lim cur
  have hb2 := kSkipT_bd (tailB cur k) wire
  rw [h] at hb
  rw [hs, tailB_size] at hb2
  obtain ⟨_, _, q2, q3, q4, q5⟩ := hb
  have q5 := q5 rfl
  simp only at q2 q3 q5 hb2
  have h0 : cur.size ≠ 0 := by omega
  refine ⟨?_, ?_, q3, ?_⟩
  · cases f with
    | zero => omega
    | succ f =>
      refine ⟨f, by rw [tailB_size]; omega, ?_⟩
      rw [hsp, splitF, if_neg h0, hF, if_neg (by simp)]
      simp
  · rw [List.length_append, List.length_singleton, tailB_size]; omega
  · rw [List.length_append, List.length_singleton]; omega
end Go.Proofs.Ytpldfoclogkppaa
