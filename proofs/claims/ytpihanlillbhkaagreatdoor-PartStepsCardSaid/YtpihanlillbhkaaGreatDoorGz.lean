/- One text out of several: Facts, Facts2, Facts3, Frame, Open, Row. -/
import Derived.Test.YtpihanlillbhkaaGreatDoorRows
import Derived.Test.YtpihanlillbhkaaGreatDoorBase
import Derived.JoinedCond
import Derived.SizedLaws
import Derived.Deep.CondSized
import Derived.Deep.Fields
import Derived.Deep.Slices

section
/- Two facts on the whole program, reckoned once by the kernel: every row's closed cells ask them. -/
namespace Go.Proofs.YtpihanlillbhkaaGreatDoor
open Go
theorem fact_mayEnter : Tryz.prog.mayEnter = true := by kernel_rfl
end Go.Proofs.YtpihanlillbhkaaGreatDoor
end

section
/- A fact on the whole program, reckoned once by the kernel: every row's closed cells ask it. -/
namespace Go.Proofs.YtpihanlillbhkaaGreatDoor
open Go
theorem fact_lifted : Tryz.prog.liftsFinal = false := by kernel_rfl
end Go.Proofs.YtpihanlillbhkaaGreatDoor
end

section
/- A fact on the whole program, reckoned once by the kernel: every row's closed cells ask it. -/
namespace Go.Proofs.YtpihanlillbhkaaGreatDoor
open Go
theorem fact_make : Tryz.prog.make = some Rows.partStepsRow.make := by kernel_rfl
end Go.Proofs.YtpihanlillbhkaaGreatDoor
end

section
/- From a walk to the row: a law that hands back true, and leaves all that was there as it was, meets its row's post. -/
namespace Go.Proofs.YtpihanlillbhkaaGreatDoor
open Go Go.RowKit Go.ChangeShapes Go.WideShapes Go.ChangeAt

theorem own : ownKnob Tryz.prog.godebug = none := by kernel_rfl
theorem laidOut : laidOutB Tryz.prog = true := by kernel_rfl

/-- the arguments read behind the call as they read before -/
theorem trodAll_up {H : Type} {enc : TypeId × Value → H} {P : Program} (hl : laidOutB P = true) {W W' : World} (hu : Up W W') :
    ∀ {ts : List TypeId} {vs : List Value} {ds : List (DataW H)} {ps : List MemPlace}, (∀ t ∈ ts, P.readableRec t = true ∧ t < P.types.size) →
      DataW.TrodAll enc P W 0 (fun _ => true) true ts vs ds ps → (∀ x ∈ ps, x.block < W.heap.size) →
      DataW.TrodAll enc P W' 0 (fun b => decide (b < W.heap.size)) true ts vs ds ps := by
  intro ts
  induction ts with
  | nil =>
    intro vs ds ps _ h _
    obtain ⟨rfl, rfl, rfl⟩ := trodAll_nil h
    exact trodAll_mk0
  | cons t ts ih =>
    intro vs ds ps hr h hlt
    obtain ⟨v, vs1, d, ds1, p, q, rfl, rfl, rfl, h1, h2⟩ := trodAll_cons h
    exact trodAll_cons_mk (Below.trod hl (hr t (by simp)).1 (hr t (by simp)).2 h1 hu (fun x hx => hlt x (by simp [hx])))
      (ih (fun t ht => hr t (by simp [ht])) h2 (fun x hx => hlt x (by simp [hx])))

theorem post_true {H : Type} {enc : TypeId × Value → H} {P : Program} {f : Func} {s : ChangeSpec} {W W' : World} {args : Array Value} {ds gs : List (DataW H)} {before : List MemPlace} {apart fresh handsOn : Bool} {t : TypeId}
    (hl : laidOutB P = true) (hr0 : (f.params.toList.all fun t => P.readableRec t && decide (t < P.types.size)) = true) (hb : P.underlying t = some .bool) (ht : f.resultTypes = #[t])
    (hv : s.vars = []) (hW : DataW.Whole enc P f.params.toList s.vars apart W args.toList ds gs before)
    (hs : s.fn H (ds ++ gs) = { results := [.lit (.bool true)], args := ds }) (hu : Up W W') :
    s.post enc P f apart fresh handsOn false W args (.bool true) W' := by
  have hr : ∀ t ∈ f.params.toList, P.readableRec t = true ∧ t < P.types.size := fun t ht => by
    have := List.all_eq_true.1 hr0 t ht
    simpa using this
  have hlt := fun p hp => hW.lt p hp
  have hW' := hW
  obtain ⟨p, q, hA, hV, rfl, _, _⟩ := hW
  rw [hv] at hV
  obtain ⟨rfl, rfl⟩ := trodVars_none hV
  refine ⟨ds, [], p ++ [], [], p, [], hW', ?_, ?_, ?_, Below.frame hu _, fun h => by cases h⟩
  · rw [hs, ht]
    exact trodAll_mk1 (shut_bool hb true)
  · rw [hs]
    exact trodAll_up hl hu hr hA (fun x hx => hlt x (by simp [hx]))
  · rw [hs, hv]
    rfl

theorem bounds_i64 {n : Int} (w : (Lit.int .i64 n).wf = true) : -9223372036854775808 ≤ n ∧ n ≤ 9223372036854775807 := by
  simpa [Lit.wf, IntKind.min, IntKind.max, IntKind.signed, IntKind.bits] using w
theorem bounds_u64 {n : Int} (w : (Lit.int .u64 n).wf = true) : 0 ≤ n ∧ n ≤ 18446744073709551615 := by
  simpa [Lit.wf, IntKind.min, IntKind.max, IntKind.signed, IntKind.bits] using w
end Go.Proofs.YtpihanlillbhkaaGreatDoor
end

section
/- Arguments that are structs by value, of whatever number of fields of one cell: what each field reads as. -/
namespace Go.Proofs.YtpihanlillbhkaaGreatDoor
open Go Go.RowKit Go.ChangeShapes Go.WideShapes Go.ChangeAt Go.Deep

theorem list4 {α : Type} {l : List α} (h : l.length = 4) : ∃ a b c d, l = [a, b, c, d] := by match l, h with | [a, b, c, d], _ => exact ⟨a, b, c, d, rfl⟩
section
variable {H : Type} {enc : TypeId × Value → H} {P : Program} {w : World} {base : Nat} {spare : Nat → Bool} {held : Bool}
/-- cells that read as a struct: each field's cell, and what it reads as -/
theorem struct_cells {t : TypeId} {fs : Array Field} {fuel : Nat} {l : List Value} {x : DataW H × List MemPlace} (hs : P.underlying t = some (.struct fs)) (hone : oneCellFields P fs = true) (hC : P.cellsOf t = fs.size)
    (h : DataW.trod enc P w base spare held fuel t l = some x) :
    ∃ (ys : List (DataW H × List MemPlace)) (n : Nat), l.length = fs.size ∧ ys.length = fs.size ∧ x = (.agg (ys.map (·.1)), ys.flatMap (·.2)) ∧
      ∀ (j : Nat) (f : Field) (v : Value), fs[j]? = some f → l[j]? = some v → DataW.trod enc P w base spare held n f.type [v] = ys[j]? := by
  obtain ⟨ys, n, _, hx, hl, hyl, hf⟩ := DataW.trod_struct hs h
  refine ⟨ys, n, by omega, hyl, hx, fun j f v hj hv => ?_⟩
  obtain ⟨ho, hk⟩ := hone_of hone j f hj
  have h1 := hf j f hj
  obtain ⟨hjl, rfl⟩ := List.getElem?_eq_some_iff.1 hv
  rw [ho, hk, List.drop_eq_getElem_cons hjl] at h1
  exact h1
theorem int_field {t : TypeId} {k : IntKind} {n : Nat} {v : Value} {y : DataW H × List MemPlace} (ht : P.underlying t = some (.int k)) (h : DataW.trod enc P w base spare held n t [v] = some y) :
    ∃ a, v = .int k a ∧ y = (.lit (.int k a), []) ∧ (Lit.int k a).wf = true := by
  obtain ⟨a, h1, h2, h3⟩ := DataW.trod_int ht h
  exact ⟨a, by simpa using h1, h2, h3⟩
theorem string_field {t : TypeId} {n : Nat} {v : Value} {y : DataW H × List MemPlace} (ht : P.underlying t = some .string) (h : DataW.trod enc P w base spare held n t [v] = some y) :
    ∃ s : ByteArray, v = .string s ∧ y = (.lit (.string s.data.toList), []) ∧ s.size ≤ maxLen := by
  obtain ⟨a, h1, h2, h3⟩ := DataW.trod_string ht h
  exact ⟨a, by simpa using h1, h2, h3⟩
end

/-- the reach bounds each string in a struct that is argument number j -/
theorem sized_part {H : Type} {P : Program} {ts : List TypeId} {ds : List (DataW H)} (h : (DataW.weightsEach P ts ds).all (· ≤ reachBytes) = true) {j : Nat} {t : TypeId} {fs : Array Field} {parts : List (DataW H)} (ht : ts[j]? = some t)
    (hd : ds[j]? = some (.agg parts)) (hu : P.underlying t = some (.struct fs)) : (DataW.weightsEach P (fs.toList.map (·.type)) parts).all (· ≤ reachBytes) = true := by
  refine List.all_eq_true.2 fun x hx => ?_
  exact List.all_eq_true.1 h x (DataW.weights_mem_each ht hd x (by simp only [DataW.weights, hu]; exact hx))
end Go.Proofs.YtpihanlillbhkaaGreatDoor
end

section
/- Arguments that are slices: a list of elements, each in cells of its own. -/
namespace Go.Proofs.YtpihanlillbhkaaGreatDoor
open Go Go.RowKit Go.ChangeShapes Go.WideShapes Go.ChangeAt Go.Deep

theorem list_of_each {α : Type} {P : Nat → α → Prop} : ∀ n, (∀ i, i < n → ∃ x, P i x) → ∃ l : List α, l.length = n ∧ ∀ i x, l[i]? = some x → P i x := by
  intro n
  induction n with
  | zero => intro _; exact ⟨[], rfl, fun i x h => by simp at h⟩
  | succ n ih =>
    intro h
    obtain ⟨l, hl, hp⟩ := ih (fun i hi => h i (by omega))
    obtain ⟨x, hx⟩ := h n (by omega)
    refine ⟨l ++ [x], by simp [hl], fun i y hy => ?_⟩
    rcases Nat.lt_or_ge i l.length with h1 | h1
    · rw [List.getElem?_append_left h1] at hy; exact hp i y hy
    · rw [List.getElem?_append_right h1] at hy
      obtain ⟨h2, h3⟩ := List.getElem?_eq_some_iff.1 hy
      simp at h2
      obtain rfl : i = n := by omega
      simp [hl] at h3
      subst h3; exact hx

/-- the slice v holds the elements l, each in the cells that 'cells' gives it -/
def Row {α : Type} (w : World) (v : Value) (l : List α) (size : Nat) (cells : α → List Value) : Prop :=
  ∃ p cap, v = .slice p l.length cap ∧ l.length ≤ cap ∧ cap ≤ maxLen ∧
    (0 < l.length → ∃ b off, p = some ⟨b, off, none⟩ ∧ b < w.heap.size ∧ ∀ i x, l[i]? = some x → ∀ j u, (cells x)[j]? = some u → w.cell? ⟨b, off + (i * size + j), none⟩ = some u)

theorem Row.up {α : Type} {w w' : World} {v : Value} {l : List α} {size : Nat} {cells : α → List Value} (h : Row w v l size cells) (hu : Up w w') : Row w' v l size cells := by
  obtain ⟨p, cap, hv, hl, hc, h⟩ := h
  refine ⟨p, cap, hv, hl, hc, fun h0 => ?_⟩
  obtain ⟨b, off, hp, hb, hc⟩ := h h0
  exact ⟨b, off, hp, Nat.lt_of_lt_of_le hb hu.size, fun i x hx j u hj => by rw [hu.cell hb]; exact hc i x hx j u hj⟩

section
variable {H : Type} {enc : TypeId × Value → H} {P : Program} {w : World} {base : Nat} {spare : Nat → Bool} {held : Bool}

/-- an argument that is a slice: its elements, and what each reads as -/
theorem row_arg {α : Type} {t e : TypeId} {size : Nat} {cells : α → List Value} {R : α → DataW H → Prop} {r : Reach} {b0 : Nat} {v : Value} {d : DataW H} {p : List MemPlace} (ht : P.underlying t = some (.slice e)) (hC : P.cellsOf e = size) (hs : 0 < size)
    (elem : ∀ (n : Nat) (cs : List Value) (y : DataW H × List MemPlace), cs.length = size → DataW.trod enc P w base spare held n e cs = some y → ∃ x : α, cs = cells x ∧ R x y.1)
    (hv : Value.okWide P w r b0 t v) (h : DataW.Trod enc P w base spare held t v d p) :
    ∃ l : List α, Row w v l size cells ∧ ((d = .nil ∧ l = []) ∨ ∃ elems sp : List (DataW H), d = .slice elems sp ∧ elems.length = l.length ∧ ∀ (i : Nat) (x : α) (y : DataW H), l[i]? = some x → elems[i]? = some y → R x y) := by
  obtain ⟨a0, len0, cap0, rfl⟩ := okWide_slice ht hv
  obtain ⟨fuel, hf⟩ := h
  rcases open_slice (cs := [Value.slice a0 len0 cap0]) ht (by simpa [Value.cells] using hf) with ⟨hcs, hx⟩ | ⟨a, len, cap, m, n, D, Pl, hcs, hb, hl, hm, hmm, hx, hi⟩
  · simp only [List.cons.injEq, Value.slice.injEq, and_true] at hcs
    simp only [Prod.mk.injEq] at hx
    obtain ⟨rfl, rfl, rfl⟩ := hcs
    exact ⟨[], ⟨none, 0, rfl, Nat.le_refl _, by decide, fun h0 => by simp at h0⟩, .inl ⟨hx.1, rfl⟩⟩
  · simp only [List.cons.injEq, Value.slice.injEq, and_true] at hcs
    simp only [Prod.mk.injEq] at hx
    obtain ⟨rfl, rfl, rfl⟩ := hcs
    obtain ⟨rfl, rfl⟩ := hx
    have hml : len0 ≤ m := by rw [hmm]; split <;> omega
    obtain ⟨l, hll, hp⟩ := list_of_each (P := fun i (x : α) => (cells x).length = size ∧ (∀ j u, (cells x)[j]? = some u → w.cell? (a.add (i * size + j)) = some u) ∧ R x (D i)) len0 (fun i hi0 => by
      obtain ⟨cs', hc, ht'⟩ := hi i (by omega)
      rw [hC] at hc
      obtain ⟨_, hcl, hat⟩ := World.cells?_some hc
      obtain ⟨x, rfl, hR⟩ := elem n cs' _ hcl ht'
      refine ⟨x, hcl, fun j u hj => ?_, hR⟩
      have hjl : j < size := by have := (List.getElem?_eq_some_iff.1 hj).1; omega
      rw [← Go.Deep.add_add, hat j hjl]; exact hj)
    refine ⟨l, ⟨some a, cap0, by rw [hll], by omega, hm, fun h0 => ?_⟩, .inr ⟨_, _, rfl, by simp [hll], fun i x y hx hy => ?_⟩⟩
    · have hx0 : l[0]? = some l[0] := List.getElem?_eq_getElem h0
      obtain ⟨g1, g2, _⟩ := hp 0 _ hx0
      have g3 := g2 0 _ (List.getElem?_eq_getElem (by omega))
      obtain ⟨b, off, spot⟩ := a
      have hspot : spot = none := by simpa [Addr.add] using World.cell?_spot g3
      subst hspot
      refine ⟨b, off, rfl, ?_, fun i x hx j u hj => ?_⟩
      · have h4 : w.cell? ⟨b, off, none⟩ = some ((cells l[0])[0]'(by omega)) := by simpa [Addr.add] using g3
        rcases Nat.lt_or_ge b w.heap.size with h1 | h1
        · exact h1
        · rw [show w.cell? ⟨b, off, none⟩ = none from by simp [World.cell?, Array.getElem?_eq_none h1]] at h4
          cases h4
      · rw [← Go.WideShapes.add_plain]; exact (hp i x hx).2.1 j u hj
    · obtain ⟨hil, rfl⟩ := List.getElem?_eq_some_iff.1 hy
      simp
      exact (hp i x hx).2.2
end

section
variable {H : Type} {enc : TypeId × Value → H} {P : Program} {w : World} {base : Nat} {spare : Nat → Bool} {held : Bool}
end

/-- the reach bounds each element of an argument that is a slice -/
theorem sized_elem {H : Type} {P : Program} {ts : List TypeId} {ds : List (DataW H)} (h : (DataW.weightsEach P ts ds).all (· ≤ reachBytes) = true) {j : Nat} {t e : TypeId} {elems sp : List (DataW H)} (ht : ts[j]? = some t)
    (hd : ds[j]? = some (.slice elems sp)) (hu : P.underlying t = some (.slice e)) {i : Nat} {y : DataW H} (hy : elems[i]? = some y) : (y.weights P e).all (· ≤ reachBytes) = true := by
  have hmem : ∀ (l : List (DataW H)) (y : DataW H), y ∈ l → ∀ x ∈ y.weights P e, x ∈ DataW.weightsAll P e l := by
    intro l
    induction l with
    | nil => intro y hy; cases hy
    | cons d r ih =>
      intro y hy x hx
      rw [DataW.weightsAll]
      rcases List.mem_cons.1 hy with rfl | hy
      · exact List.mem_append_left _ hx
      · exact List.mem_append_right _ (ih y hy x hx)
  refine List.all_eq_true.2 fun x hx => ?_
  exact List.all_eq_true.1 h x (DataW.weights_mem_each ht hd x (by
    simp only [DataW.weights, hu]
    exact List.mem_cons_of_mem _ (List.mem_append_left _ (hmem elems y (List.mem_of_getElem? hy) x hx))))

/-- what holds of each element -/
theorem row_all {α H : Type} {l : List α} {d : DataW H} {R : α → DataW H → Prop} {Q : α → Prop}
    (h : (d = .nil ∧ l = []) ∨ ∃ elems sp : List (DataW H), d = .slice elems sp ∧ elems.length = l.length ∧ ∀ (i : Nat) (x : α) (y : DataW H), l[i]? = some x → elems[i]? = some y → R x y)
    (hq : ∀ x y, R x y → Q x) : ∀ x ∈ l, Q x := by
  intro x hx
  rcases h with ⟨_, rfl⟩ | ⟨elems, sp, _, hl, he⟩
  · cases hx
  · obtain ⟨i, hi, rfl⟩ := List.mem_iff_getElem.1 hx
    exact hq _ _ (he i _ _ (List.getElem?_eq_getElem hi) (List.getElem?_eq_getElem (by omega)))
end Go.Proofs.YtpihanlillbhkaaGreatDoor
end
