/- Orders as arguments (a struct with a struct in it): what each field reads as. -/
import Derived.Test.YtpnlhnhjedopgaaOpen
import Derived.Test.YtpnlhnhjedopgaaAdmG
import Derived.Test.YtpnlhnhjedopgaaFrame
set_option maxRecDepth 100000
set_option linter.unusedSimpArgs false
namespace Go.Proofs.Ytpnlhnhjedopgaa
open Go Go.RowKit Go.ChangeShapes Go.WideShapes Go.ChangeAt Go.Deep Go.Proofs

theorem list9 {α : Type} {l : List α} (h : l.length = 9) : ∃ a b c d e f g i j, l = [a, b, c, d, e, f, g, i, j] := by match l, h with | [a, b, c, d, e, f, g, i, j], _ => exact ⟨a, b, c, d, e, f, g, i, j, rfl⟩
def Cnf.vals (c : Cnf) : List Value := [.int .i64 c.n0, .int .i64 c.n1, .int .i64 c.n2, .int .i64 c.n3, .int .i64 c.n4, .int .i64 c.n5, .int .i64 c.n6, .int .i64 c.n7, .int .i64 c.n8]
def Ord.vals (o : Ord) : List Value := [.int .u64 o.id, .int .i64 o.op, .int .i64 o.owner, .int .i64 o.c.n0, .int .i64 o.c.n1, .int .i64 o.c.n2, .int .i64 o.c.n3, .int .i64 o.c.n4, .int .i64 o.c.n5, .int .i64 o.c.n6, .int .i64 o.c.n7, .int .i64 o.c.n8]
def Ord.In (o : Ord) : Prop := (0 ≤ o.id ∧ o.id ≤ 18446744073709551615) ∧ (-9223372036854775808 ≤ o.op ∧ o.op ≤ 9223372036854775807) ∧ (-9223372036854775808 ≤ o.owner ∧ o.owner ≤ 9223372036854775807)
section
variable {H : Type} {enc : TypeId × Value → H} {w : World} {base : Nat} {spare : Nat → Bool} {held : Bool}
theorem cnf_cells {n : Nat} {cs : List Value} {y : DataW H × List MemPlace} (h : DataW.trod enc Try.prog w base spare held n 24 cs = some y) : ∃ c : Cnf, cs = c.vals := by
  obtain ⟨ys, m, h1, h2, h3, h4⟩ := struct_cells Try.underlying24 (by kernel_rfl) (by kernel_rfl) h
  obtain ⟨c0, c1, c2, c3, c4, c5, c6, c7, c8, rfl⟩ := list9 h1
  obtain ⟨y0, y1, y2, y3, y4, y5, y6, y7, y8, rfl⟩ := list9 h2
  obtain ⟨a0, rfl, _, _⟩ := int_field Try.underlying3 (h4 0 _ _ rfl rfl)
  obtain ⟨a1, rfl, _, _⟩ := int_field Try.underlying3 (h4 1 _ _ rfl rfl)
  obtain ⟨a2, rfl, _, _⟩ := int_field Try.underlying3 (h4 2 _ _ rfl rfl)
  obtain ⟨a3, rfl, _, _⟩ := int_field Try.underlying3 (h4 3 _ _ rfl rfl)
  obtain ⟨a4, rfl, _, _⟩ := int_field Try.underlying3 (h4 4 _ _ rfl rfl)
  obtain ⟨a5, rfl, _, _⟩ := int_field Try.underlying3 (h4 5 _ _ rfl rfl)
  obtain ⟨a6, rfl, _, _⟩ := int_field Try.underlying3 (h4 6 _ _ rfl rfl)
  obtain ⟨a7, rfl, _, _⟩ := int_field Try.underlying3 (h4 7 _ _ rfl rfl)
  obtain ⟨a8, rfl, _, _⟩ := int_field Try.underlying3 (h4 8 _ _ rfl rfl)
  exact ⟨⟨a0, a1, a2, a3, a4, a5, a6, a7, a8⟩, rfl⟩
theorem ord_cells {n : Nat} {cs : List Value} {y : DataW H × List MemPlace} (h : DataW.trod enc Try.prog w base spare held n 26 cs = some y) : ∃ o : Ord, cs = o.vals ∧ o.In := by
  obtain ⟨ys, m, _, hx, hl, hyl, hf⟩ := DataW.trod_struct Try.underlying26 h
  have hl' : cs.length = 12 := hl.trans (by kernel_rfl)
  have h0 := hf 0 _ rfl
  have h1 := hf 1 _ rfl
  have h2 := hf 2 _ rfl
  have h3 := hf 3 _ rfl
  obtain ⟨y0, y1, y2, y3, rfl⟩ := list4 hyl
  match cs, hl' with
  | [x0, x1, x2, x3, x4, x5, x6, x7, x8, x9, x10, x11], _ =>
    obtain ⟨a0, rfl, _, w0⟩ := int_field Try.underlying22 h0
    obtain ⟨a1, rfl, _, w1⟩ := int_field Try.underlying3 h1
    obtain ⟨a2, rfl, _, w2⟩ := int_field Try.underlying3 h2
    obtain ⟨c, hc⟩ := cnf_cells h3
    have hc' : [x3, x4, x5, x6, x7, x8, x9, x10, x11] = c.vals := hc
    simp only [Cnf.vals, List.cons.injEq, and_true] at hc'
    obtain ⟨rfl, rfl, rfl, rfl, rfl, rfl, rfl, rfl, rfl⟩ := hc'
    exact ⟨⟨a0, a1, a2, c⟩, rfl, bounds_u64 w0, bounds_i64 w1, bounds_i64 w2⟩
theorem ord_arg {r : Reach} {b0 : Nat} {v : Value} {d : DataW H} {p : List MemPlace} (hv : Value.okWide Try.prog w r b0 26 v) (h : DataW.Trod enc Try.prog w base spare held 26 v d p) : ∃ o : Ord, v = .agg o.vals.toArray ∧ o.In := by
  obtain ⟨cs, rfl, hsz⟩ := okWide_struct Try.underlying26 hv
  obtain ⟨fuel, hf⟩ := h
  obtain ⟨o, h1, h2⟩ := ord_cells (cs := cs.toList) (by simpa [Value.cells] using hf)
  exact ⟨o, by rw [← h1], h2⟩
end
theorem ord_dz {w : World} (o : Ord) : Dz TT gh0 w (.agg o.av) (.agg o.vals.toArray) := by
  refine .agg _ _ rfl (fun u hu => ?_) fun i c u hc hu => ?_
  · simp [Ord.vals] at hu
    rcases hu with rfl | rfl | rfl | rfl | rfl | rfl | rfl | rfl | rfl | rfl | rfl | rfl <;> rfl
  · match i with
    | 0 | 1 | 2 | 3 | 4 | 5 | 6 | 7 | 8 | 9 | 10 | 11 => simp [Ord.av, Ord.vals] at hc hu; subst hc hu; exact .int _ _
    | i + 12 => simp [Ord.av] at hc
end Go.Proofs.Ytpnlhnhjedopgaa
