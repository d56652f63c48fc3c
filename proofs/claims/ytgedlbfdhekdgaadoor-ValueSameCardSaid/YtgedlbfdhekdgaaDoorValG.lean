/- How long a value's text is. -/
import Derived.Test.YtgedlbfdhekdgaaDoorValF
import Derived.Test.YtgedlbfdhekdgaaDoorValA
set_option linter.unusedSimpArgs false
namespace Go.Proofs.YtgedlbfdhekdgaaDoor
open Go Go.RowKit Go.Proofs

theorem vitoa_len {n : Int} (h : -9223372036854775808 ≤ n ∧ n ≤ 9223372036854775807) : (Lib.itoa n).length ≤ 20 := by
  unfold Lib.itoa
  split
  · have := vdec_le 18 n.natAbs (by omega)
    simp only [List.length_cons]; omega
  · have := vdec_le 18 n.toNat (by omega)
    omega
theorem u64_lt (n : Int) : u64N n < 18446744073709551616 := by unfold u64N; omega
theorem quote_len (s : List UInt8) : (quoteT s).length ≤ 3 * s.length + 2 := by
  have := flatq_len s
  unfold quoteT; simp only [List.length_cons, List.length_append, List.length_nil]; omega
theorem sep_len (i how : Nat) : (sepV i how).length ≤ 1 := by unfold sepV; split; simp; split <;> simp
theorem tag_len (i how : Nat) (tags : List Int) (h : ∀ t ∈ tags, -9223372036854775808 ≤ t ∧ t ≤ 9223372036854775807) : (tagV i how tags).length ≤ 21 := by
  unfold tagV
  split
  · have hb : -9223372036854775808 ≤ tags.getD i 0 ∧ tags.getD i 0 ≤ 9223372036854775807 := by
      rw [List.getD_eq_getElem?_getD]
      cases hx : tags[i]? with
      | none => simp
      | some t => exact h t (List.mem_of_getElem? hx)
    have := vitoa_len hb
    simp only [List.length_append, List.length_cons, List.length_nil]; omega
  · simp
theorem items_len {l : List VT} (ih : ∀ x ∈ l, (textT x).length + 22 ≤ 10 * sizeV x) (how : Nat) (tags : List Int) (ht : ∀ t ∈ tags, -9223372036854775808 ≤ t ∧ t ≤ 9223372036854775807) : ∀ i, (itemsT l i how tags).length ≤ 10 * sizesV l := by
  induction l with
  | nil => intro i; rw [itemsT]; simp
  | cons x r ihl =>
    intro i
    rw [itemsT, sizesV]
    have h1 := ih x (by simp)
    have h2 := ihl (fun y hy => ih y (by simp [hy])) (i + 1)
    have h3 := sep_len i how
    have h4 := tag_len i how tags ht
    simp only [List.length_append]; omega
theorem text_len : ∀ v : VT, v.In → (textT v).length + 22 ≤ 10 * sizeV v :=
  VT.ind fun k n s tags l ih hin => by
    cases hin with
    | mk _ _ _ _ _ hk hn ht hl =>
      have hi := fun how => items_len (fun x hx => ih x hx (hl x hx)) how tags ht 0
      have h1 := vitoa_len hn
      have h2 := vdec_le 19 (u64N n) (by have := u64_lt n; omega)
      have h3 := quote_len s
      have a0 := hi 0
      have a1 := hi 1
      have a2 := hi 2
      rw [textT_mk, sizeV_mk]
      repeat' split
      all_goals first | omega | (simp only [List.length_append, List.length_cons, List.length_nil]; omega)
end Go.Proofs.YtgedlbfdhekdgaaDoor
