/- Arguments that are slices: a list of elements, each in cells of its own. -/
import Derived.Test.YtgedlbfdhekdgaaDoorOpen
import Derived.Deep.Slices
namespace Go.Proofs.YtgedlbfdhekdgaaDoor
open Go Go.RowKit Go.ChangeShapes Go.WideShapes Go.ChangeAt Go.Deep

theorem list_of_each {α : Type} {P : Nat → α → Prop} : ∀ n, (∀ i, i < n → ∃ x, P i x) → ∃ l : List α, l.length = n ∧ ∀ i x, l[i]? = some x → P i x := by
  intro n
  induction n with
  | zero => intro _; exact ⟨[], rfl, fun i x h => by simp at h⟩
  | succ n ih =>
    intro h
    obtain ⟨l, hl, hp⟩ := ih (fun i hi => h i (by omega))
    obtain ⟨x, hx⟩ := h n (by omega)
    refine ⟨l ++ [x], by simp [hl], fun i y hy => ?_⟩
    rcases Nat.lt_or_ge i l.length with h1 | h1
    · rw [List.getElem?_append_left h1] at hy; exact hp i y hy
    · rw [List.getElem?_append_right h1] at hy
      obtain ⟨h2, h3⟩ := List.getElem?_eq_some_iff.1 hy
      simp at h2
      obtain rfl : i = n := by omega
      simp [hl] at h3
      subst h3; exact hx

/-- the slice v holds the elements l, each in the cells that 'cells' gives it -/
def Row {α : Type} (w : World) (v : Value) (l : List α) (size : Nat) (cells : α → List Value) : Prop :=
  ∃ p cap, v = .slice p l.length cap ∧ l.length ≤ cap ∧ cap ≤ maxLen ∧
    (0 < l.length → ∃ b off, p = some ⟨b, off, none⟩ ∧ b < w.heap.size ∧ ∀ i x, l[i]? = some x → ∀ j u, (cells x)[j]? = some u → w.cell? ⟨b, off + (i * size + j), none⟩ = some u)

theorem Row.up {α : Type} {w w' : World} {v : Value} {l : List α} {size : Nat} {cells : α → List Value} (h : Row w v l size cells) (hu : Up w w') : Row w' v l size cells := by
  obtain ⟨p, cap, hv, hl, hc, h⟩ := h
  refine ⟨p, cap, hv, hl, hc, fun h0 => ?_⟩
  obtain ⟨b, off, hp, hb, hc⟩ := h h0
  exact ⟨b, off, hp, Nat.lt_of_lt_of_le hb hu.size, fun i x hx j u hj => by rw [hu.cell hb]; exact hc i x hx j u hj⟩

section
variable {H : Type} {enc : TypeId × Value → H} {P : Program} {w : World} {base : Nat} {spare : Nat → Bool} {held : Bool}

/-- an argument that is a slice: its elements, and what each reads as -/
theorem row_arg {α : Type} {t e : TypeId} {size : Nat} {cells : α → List Value} {R : α → DataW H → Prop} {r : Reach} {b0 : Nat} {v : Value} {d : DataW H} {p : List MemPlace} (ht : P.underlying t = some (.slice e)) (hC : P.cellsOf e = size) (hs : 0 < size)
    (elem : ∀ (n : Nat) (cs : List Value) (y : DataW H × List MemPlace), cs.length = size → DataW.trod enc P w base spare held n e cs = some y → ∃ x : α, cs = cells x ∧ R x y.1)
    (hv : Value.okWide P w r b0 t v) (h : DataW.Trod enc P w base spare held t v d p) :
    ∃ l : List α, Row w v l size cells ∧ ((d = .nil ∧ l = []) ∨ ∃ elems sp : List (DataW H), d = .slice elems sp ∧ elems.length = l.length ∧ ∀ (i : Nat) (x : α) (y : DataW H), l[i]? = some x → elems[i]? = some y → R x y) := by
  obtain ⟨a0, len0, cap0, rfl⟩ := okWide_slice ht hv
  obtain ⟨fuel, hf⟩ := h
  rcases open_slice (cs := [Value.slice a0 len0 cap0]) ht (by simpa [Value.cells] using hf) with ⟨hcs, hx⟩ | ⟨a, len, cap, m, n, D, Pl, hcs, hb, hl, hm, hmm, hx, hi⟩
  · simp only [List.cons.injEq, Value.slice.injEq, and_true] at hcs
    simp only [Prod.mk.injEq] at hx
    obtain ⟨rfl, rfl, rfl⟩ := hcs
    exact ⟨[], ⟨none, 0, rfl, Nat.le_refl _, by decide, fun h0 => by simp at h0⟩, .inl ⟨hx.1, rfl⟩⟩
  · simp only [List.cons.injEq, Value.slice.injEq, and_true] at hcs
    simp only [Prod.mk.injEq] at hx
    obtain ⟨rfl, rfl, rfl⟩ := hcs
    obtain ⟨rfl, rfl⟩ := hx
    have hml : len0 ≤ m := by rw [hmm]; split <;> omega
    obtain ⟨l, hll, hp⟩ := list_of_each (P := fun i (x : α) => (cells x).length = size ∧ (∀ j u, (cells x)[j]? = some u → w.cell? (a.add (i * size + j)) = some u) ∧ R x (D i)) len0 (fun i hi0 => by
      obtain ⟨cs', hc, ht'⟩ := hi i (by omega)
      rw [hC] at hc
      obtain ⟨_, hcl, hat⟩ := World.cells?_some hc
      obtain ⟨x, rfl, hR⟩ := elem n cs' _ hcl ht'
      refine ⟨x, hcl, fun j u hj => ?_, hR⟩
      have hjl : j < size := by have := (List.getElem?_eq_some_iff.1 hj).1; omega
      rw [← Go.Deep.add_add, hat j hjl]; exact hj)
    refine ⟨l, ⟨some a, cap0, by rw [hll], by omega, hm, fun h0 => ?_⟩, .inr ⟨_, _, rfl, by simp [hll], fun i x y hx hy => ?_⟩⟩
    · have hx0 : l[0]? = some l[0] := List.getElem?_eq_getElem h0
      obtain ⟨g1, g2, _⟩ := hp 0 _ hx0
      have g3 := g2 0 _ (List.getElem?_eq_getElem (by omega))
      obtain ⟨b, off, spot⟩ := a
      have hspot : spot = none := by simpa [Addr.add] using World.cell?_spot g3
      subst hspot
      refine ⟨b, off, rfl, ?_, fun i x hx j u hj => ?_⟩
      · have h4 : w.cell? ⟨b, off, none⟩ = some ((cells l[0])[0]'(by omega)) := by simpa [Addr.add] using g3
        rcases Nat.lt_or_ge b w.heap.size with h1 | h1
        · exact h1
        · rw [show w.cell? ⟨b, off, none⟩ = none from by simp [World.cell?, Array.getElem?_eq_none h1]] at h4
          cases h4
      · rw [← Go.WideShapes.add_plain]; exact (hp i x hx).2.1 j u hj
    · obtain ⟨hil, rfl⟩ := List.getElem?_eq_some_iff.1 hy
      simp
      exact (hp i x hx).2.2
end

section
variable {H : Type} {enc : TypeId × Value → H} {P : Program} {w : World} {base : Nat} {spare : Nat → Bool} {held : Bool}
theorem elem_int {e : TypeId} {k : IntKind} (he : P.underlying e = some (.int k)) (n : Nat) (cs : List Value) (y : DataW H × List MemPlace) (hl : cs.length = 1) (h : DataW.trod enc P w base spare held n e cs = some y) :
    ∃ x : Int, cs = [.int k x] ∧ (y.1 = .lit (.int k x) ∧ (Lit.int k x).wf = true) := by
  obtain ⟨c, rfl⟩ := list1 hl
  obtain ⟨a, rfl, rfl, hw⟩ := int_field he h
  exact ⟨a, rfl, rfl, hw⟩
theorem elem_string {e : TypeId} (he : P.underlying e = some .string) (n : Nat) (cs : List Value) (y : DataW H × List MemPlace) (hl : cs.length = 1) (h : DataW.trod enc P w base spare held n e cs = some y) :
    ∃ x : ByteArray, cs = [.string x] ∧ (y.1 = .lit (.string x.data.toList) ∧ x.size ≤ maxLen) := by
  obtain ⟨c, rfl⟩ := list1 hl
  obtain ⟨a, rfl, rfl, hw⟩ := string_field he h
  exact ⟨a, rfl, rfl, hw⟩
end

/-- the reach bounds each element of an argument that is a slice -/
theorem sized_elem {H : Type} {P : Program} {ts : List TypeId} {ds : List (DataW H)} (h : (DataW.weightsEach P ts ds).all (· ≤ reachBytes) = true) {j : Nat} {t e : TypeId} {elems sp : List (DataW H)} (ht : ts[j]? = some t)
    (hd : ds[j]? = some (.slice elems sp)) (hu : P.underlying t = some (.slice e)) {i : Nat} {y : DataW H} (hy : elems[i]? = some y) : (y.weights P e).all (· ≤ reachBytes) = true := by
  have hmem : ∀ (l : List (DataW H)) (y : DataW H), y ∈ l → ∀ x ∈ y.weights P e, x ∈ DataW.weightsAll P e l := by
    intro l
    induction l with
    | nil => intro y hy; cases hy
    | cons d r ih =>
      intro y hy x hx
      rw [DataW.weightsAll]
      rcases List.mem_cons.1 hy with rfl | hy
      · exact List.mem_append_left _ hx
      · exact List.mem_append_right _ (ih y hy x hx)
  refine List.all_eq_true.2 fun x hx => ?_
  exact List.all_eq_true.1 h x (DataW.weights_mem_each ht hd x (by
    simp only [DataW.weights, hu]
    exact List.mem_cons_of_mem _ (List.mem_append_left _ (hmem elems y (List.mem_of_getElem? hy) x hx))))

/-- what holds of each element -/
theorem row_all {α H : Type} {l : List α} {d : DataW H} {R : α → DataW H → Prop} {Q : α → Prop}
    (h : (d = .nil ∧ l = []) ∨ ∃ elems sp : List (DataW H), d = .slice elems sp ∧ elems.length = l.length ∧ ∀ (i : Nat) (x : α) (y : DataW H), l[i]? = some x → elems[i]? = some y → R x y)
    (hq : ∀ x y, R x y → Q x) : ∀ x ∈ l, Q x := by
  intro x hx
  rcases h with ⟨_, rfl⟩ | ⟨elems, sp, _, hl, he⟩
  · cases hx
  · obtain ⟨i, hi, rfl⟩ := List.mem_iff_getElem.1 hx
    exact hq _ _ (he i _ _ (List.getElem?_eq_getElem hi) (List.getElem?_eq_getElem (by omega)))
/-- the reach bounds each text of a slice of texts -/
theorem row_strs {H : Type} {P : Program} {ts : List TypeId} {ds : List (DataW H)} {l : List ByteArray} {d : DataW H} {j : Nat} {t e : TypeId} (hsz : (DataW.weightsEach P ts ds).all (· ≤ reachBytes) = true) (ht : ts[j]? = some t) (hd : ds[j]? = some d)
    (hu : P.underlying t = some (.slice e))
    (h : (d = .nil ∧ l = []) ∨ ∃ elems sp : List (DataW H), d = .slice elems sp ∧ elems.length = l.length ∧ ∀ (i : Nat) (x : ByteArray) (y : DataW H), l[i]? = some x → elems[i]? = some y → (y = .lit (.string x.data.toList) ∧ x.size ≤ maxLen)) :
    ∀ x ∈ l, x.size ≤ 140737488351232 := by
  intro x hx
  rcases h with ⟨_, rfl⟩ | ⟨elems, sp, rfl, hl, he⟩
  · cases hx
  · obtain ⟨i, hi, rfl⟩ := List.mem_iff_getElem.1 hx
    have hy : elems[i]? = some (elems[i]'(by omega)) := List.getElem?_eq_getElem (by omega)
    have h1 := sized_elem hsz ht hd hu hy
    obtain ⟨h2, _⟩ := he i _ _ (List.getElem?_eq_getElem hi) hy
    rw [h2] at h1
    have h2 := List.all_eq_true.1 h1 (l[i].data.toList.length) (by simp [DataW.weights])
    have h3 := of_decide_eq_true h2
    simpa [reachBytes] using h3
end Go.Proofs.YtgedlbfdhekdgaaDoor
