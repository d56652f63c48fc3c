/- Arguments that are structs by value, of whatever number of fields of one cell: what each field reads as. -/
import Derived.Test.YtgedlbfdhekdgaaDoorFrame
import Derived.Deep.Fields
namespace Go.Proofs.YtgedlbfdhekdgaaDoor
open Go Go.RowKit Go.ChangeShapes Go.WideShapes Go.ChangeAt Go.Deep

theorem list1 {α : Type} {l : List α} (h : l.length = 1) : ∃ a, l = [a] := by match l, h with | [a], _ => exact ⟨a, rfl⟩
theorem list2 {α : Type} {l : List α} (h : l.length = 2) : ∃ a b, l = [a, b] := by match l, h with | [a, b], _ => exact ⟨a, b, rfl⟩
theorem list3 {α : Type} {l : List α} (h : l.length = 3) : ∃ a b c, l = [a, b, c] := by match l, h with | [a, b, c], _ => exact ⟨a, b, c, rfl⟩
theorem list4 {α : Type} {l : List α} (h : l.length = 4) : ∃ a b c d, l = [a, b, c, d] := by match l, h with | [a, b, c, d], _ => exact ⟨a, b, c, d, rfl⟩
theorem list5 {α : Type} {l : List α} (h : l.length = 5) : ∃ a b c d e, l = [a, b, c, d, e] := by match l, h with | [a, b, c, d, e], _ => exact ⟨a, b, c, d, e, rfl⟩
theorem list6 {α : Type} {l : List α} (h : l.length = 6) : ∃ a b c d e f, l = [a, b, c, d, e, f] := by match l, h with | [a, b, c, d, e, f], _ => exact ⟨a, b, c, d, e, f, rfl⟩

section
variable {H : Type} {enc : TypeId × Value → H} {P : Program} {w : World} {base : Nat} {spare : Nat → Bool} {held : Bool}
/-- cells that read as a struct: each field's cell, and what it reads as -/
theorem struct_cells {t : TypeId} {fs : Array Field} {fuel : Nat} {l : List Value} {x : DataW H × List MemPlace} (hs : P.underlying t = some (.struct fs)) (hone : oneCellFields P fs = true) (hC : P.cellsOf t = fs.size)
    (h : DataW.trod enc P w base spare held fuel t l = some x) :
    ∃ (ys : List (DataW H × List MemPlace)) (n : Nat), l.length = fs.size ∧ ys.length = fs.size ∧ x = (.agg (ys.map (·.1)), ys.flatMap (·.2)) ∧
      ∀ (j : Nat) (f : Field) (v : Value), fs[j]? = some f → l[j]? = some v → DataW.trod enc P w base spare held n f.type [v] = ys[j]? := by
  obtain ⟨ys, n, _, hx, hl, hyl, hf⟩ := DataW.trod_struct hs h
  refine ⟨ys, n, by omega, hyl, hx, fun j f v hj hv => ?_⟩
  obtain ⟨ho, hk⟩ := hone_of hone j f hj
  have h1 := hf j f hj
  obtain ⟨hjl, rfl⟩ := List.getElem?_eq_some_iff.1 hv
  rw [ho, hk, List.drop_eq_getElem_cons hjl] at h1
  exact h1
theorem struct_arg {r : Reach} {b0 : Nat} {t : TypeId} {fs : Array Field} {v : Value} {d : DataW H} {p : List MemPlace} (hs : P.underlying t = some (.struct fs)) (hone : oneCellFields P fs = true) (hC : P.cellsOf t = fs.size)
    (hv : Value.okWide P w r b0 t v) (h : DataW.Trod enc P w base spare held t v d p) :
    ∃ (l : List Value) (ys : List (DataW H × List MemPlace)) (n : Nat), v = .agg l.toArray ∧ l.length = fs.size ∧ ys.length = fs.size ∧ d = .agg (ys.map (·.1)) ∧ p = ys.flatMap (·.2) ∧
      ∀ (j : Nat) (f : Field) (v : Value), fs[j]? = some f → l[j]? = some v → DataW.trod enc P w base spare held n f.type [v] = ys[j]? := by
  obtain ⟨cs, rfl, hsz⟩ := okWide_struct hs hv
  obtain ⟨fuel, hf⟩ := h
  obtain ⟨ys, n, h1, h2, h3, h4⟩ := struct_cells hs hone hC (l := cs.toList) (by simpa [Value.cells] using hf)
  simp only [Prod.mk.injEq] at h3
  exact ⟨cs.toList, ys, n, by simp, h1, h2, h3.1, h3.2, h4⟩
theorem int_field {t : TypeId} {k : IntKind} {n : Nat} {v : Value} {y : DataW H × List MemPlace} (ht : P.underlying t = some (.int k)) (h : DataW.trod enc P w base spare held n t [v] = some y) :
    ∃ a, v = .int k a ∧ y = (.lit (.int k a), []) ∧ (Lit.int k a).wf = true := by
  obtain ⟨a, h1, h2, h3⟩ := DataW.trod_int ht h
  exact ⟨a, by simpa using h1, h2, h3⟩
theorem bool_field {t : TypeId} {n : Nat} {v : Value} {y : DataW H × List MemPlace} (ht : P.underlying t = some .bool) (h : DataW.trod enc P w base spare held n t [v] = some y) :
    ∃ a, v = .bool a ∧ y = (.lit (.bool a), []) := by
  obtain ⟨a, h1, h2⟩ := DataW.trod_bool ht h
  exact ⟨a, by simpa using h1, h2⟩
theorem string_field {t : TypeId} {n : Nat} {v : Value} {y : DataW H × List MemPlace} (ht : P.underlying t = some .string) (h : DataW.trod enc P w base spare held n t [v] = some y) :
    ∃ s : ByteArray, v = .string s ∧ y = (.lit (.string s.data.toList), []) ∧ s.size ≤ maxLen := by
  obtain ⟨a, h1, h2, h3⟩ := DataW.trod_string ht h
  exact ⟨a, by simpa using h1, h2, h3⟩
end

/-- the reach bounds each string in a struct that is argument number j -/
theorem sized_part {H : Type} {P : Program} {ts : List TypeId} {ds : List (DataW H)} (h : (DataW.weightsEach P ts ds).all (· ≤ reachBytes) = true) {j : Nat} {t : TypeId} {fs : Array Field} {parts : List (DataW H)} (ht : ts[j]? = some t)
    (hd : ds[j]? = some (.agg parts)) (hu : P.underlying t = some (.struct fs)) : (DataW.weightsEach P (fs.toList.map (·.type)) parts).all (· ≤ reachBytes) = true := by
  refine List.all_eq_true.2 fun x hx => ?_
  exact List.all_eq_true.1 h x (DataW.weights_mem_each ht hd x (by simp only [DataW.weights, hu]; exact hx))
end Go.Proofs.YtgedlbfdhekdgaaDoor
