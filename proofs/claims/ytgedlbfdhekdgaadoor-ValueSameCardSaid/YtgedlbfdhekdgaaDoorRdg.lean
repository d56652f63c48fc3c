/- Arguments that are slices of what may hold slices: what each reads as. -/
import Derived.Test.YtgedlbfdhekdgaaDoorRow
import Derived.Test.YtgedlbfdhekdgaaDoorLaw
set_option linter.unusedSimpArgs false
namespace Go.Proofs.YtgedlbfdhekdgaaDoor
open Go Go.RowKit Go.ChangeShapes Go.WideShapes Go.ChangeAt Go.Deep Go.Proofs

/-- blocks that hold texts stay as they are -/
def FrzS (g : Gh) (w : World) : Prop := ∀ b off s i, w.cell? ⟨b, off, none⟩ = some (.string s) → g.frz b i
def ReadC (T : TypeId → TR) (g : Gh) (w : World) (al : List AV) (cs : List Value) : Prop := al.length = cs.length ∧ ∀ (j : Nat) (c : AV) (u : Value), al[j]? = some c → cs[j]? = some u → u.oneCell' = true ∧ Dz T g w c u
section
variable {H : Type} {enc : TypeId × Value → H} {P : Program} {w : World} {base : Nat} {spare : Nat → Bool} {held : Bool}
theorem row_trodG {α : Type} {T : TypeId → TR} {g : Gh} {t e : TypeId} {size : Nat} (ht : P.underlying t = some (.slice e)) (hC : P.cellsOf e = size) (hs : 0 < size) (hT : (T e).cells = size) (avc : α → List AV) (R : α → DataW H → Prop) {n : Nat} {cs : List Value} {x : DataW H × List MemPlace}
    (h : DataW.trod enc P w base spare held n t cs = some x) (Good : Value → Prop) (hfr : ∀ b off u i, w.cell? ⟨b, off, none⟩ = some u → Good u → g.frz b i)
    (elem : ∀ (n : Nat) (cs : List Value) (y : DataW H × List MemPlace), (∃ elems sp, x.1 = .slice elems sp ∧ y.1 ∈ elems) → cs.length = size → DataW.trod enc P w base spare held n e cs = some y → ∃ a : α, ReadC T g w (avc a) cs ∧ R a y.1 ∧ ∃ (k : Nat) (u : Value), cs[k]? = some u ∧ Good u) :
    ∃ (l : List α) (v : Value), cs = [v] ∧ v.oneCell' = true ∧ Dz T g w (.slc e (l.map avc)) v ∧ ((x.1 = .nil ∧ l = []) ∨ ∃ elems sp : List (DataW H), x.1 = .slice elems sp ∧ elems.length = l.length ∧ ∀ (i : Nat) (a : α) (y : DataW H), l[i]? = some a → elems[i]? = some y → R a y) := by
  rcases open_slice ht h with ⟨rfl, rfl⟩ | ⟨a, len, cap, m, n, D, Pl, rfl, hb, hl, hm, hmm, rfl, hi⟩
  · exact ⟨[], _, rfl, rfl, nils_dz _ .nils, .inl ⟨rfl, rfl⟩⟩
  · have hml : len ≤ m := by rw [hmm]; split <;> omega
    obtain ⟨q, hql, hp⟩ := list_of_each (P := fun i (q : α × List Value) => q.2.length = size ∧ (∀ j u, q.2[j]? = some u → w.cell? (a.add (i * size + j)) = some u) ∧ ReadC T g w (avc q.1) q.2 ∧ R q.1 (D i) ∧ ∃ (k : Nat) (u : Value), q.2[k]? = some u ∧ Good u) len (fun i hi0 => by
      obtain ⟨cs', hc, ht'⟩ := hi i (by omega)
      rw [hC] at hc
      obtain ⟨_, hcl, hat⟩ := World.cells?_some hc
      obtain ⟨x, h1, h2, h3⟩ := elem n cs' _ ⟨_, _, rfl, List.mem_map.2 ⟨i, List.mem_range.2 hi0, rfl⟩⟩ hcl ht'
      refine ⟨(x, cs'), hcl, fun j u hj => ?_, h1, h2, h3⟩
      have hjl : j < size := by have := (List.getElem?_eq_some_iff.1 hj).1; simp only at this; omega
      rw [← Go.Deep.add_add, hat j hjl]; exact hj)
    have hR : ∀ (i : Nat) (b : α) (y : DataW H), (q.map Prod.fst)[i]? = some b → ((List.range len).map D)[i]? = some y → R b y := fun i b y hb' hy => by
      rw [List.getElem?_map] at hb'
      cases hx : q[i]? with
      | none => rw [hx] at hb'; cases hb'
      | some z =>
        rw [hx] at hb'
        simp only [Option.map_some, Option.some.injEq] at hb'
        subst hb'
        have hil : i < len := by have := (List.getElem?_eq_some_iff.1 hx).1; omega
        rw [List.getElem?_map, List.getElem?_range hil] at hy
        simp only [Option.map_some, Option.some.injEq] at hy
        subst hy
        exact (hp i z hx).2.2.2.1
    refine ⟨q.map Prod.fst, _, rfl, rfl, ?_, .inr ⟨_, _, rfl, by simp [hql], hR⟩⟩
    by_cases h0 : 0 < len
    · have hx0 : q[0]? = some q[0] := List.getElem?_eq_getElem (by omega)
      obtain ⟨g1, g2, _⟩ := hp 0 _ hx0
      have g3 := g2 0 _ (List.getElem?_eq_getElem (by omega))
      obtain ⟨b, off, spot⟩ := a
      have hspot : spot = none := by simpa [Addr.add] using World.cell?_spot g3
      subst hspot
      have cellAt : ∀ (i : Nat) (z : α × List Value), q[i]? = some z → ∀ j u, z.2[j]? = some u → w.cell? ⟨b, off + (i * size + j), none⟩ = some u := fun i z hz j u hu => by
        rw [← Go.WideShapes.add_plain]; exact (hp i z hz).2.1 j u hu
      have key : ∀ (i : Nat) (z : α × List Value), q[i]? = some z → ∀ j, j < size → ∃ u, w.cell? ⟨b, off + (i * size + j), none⟩ = some u ∧ u.oneCell' = true ∧ ∀ c, (avc z.1)[j]? = some c → Dz T g w c u := fun i z hz j hj => by
        obtain ⟨k1, _, k3, _⟩ := hp i z hz
        have hu : z.2[j]? = some (z.2[j]'(by omega)) := List.getElem?_eq_getElem _
        have hl1 := k3.1
        have ha : (avc z.1)[j]? = some ((avc z.1)[j]'(by omega)) := List.getElem?_eq_getElem _
        exact ⟨_, cellAt i z hz j _ hu, (k3.2 j _ _ ha hu).1, fun c hc => (k3.2 j c _ hc hu).2⟩
      have at1 : ∀ (i : Nat) (cs : List AV), ((q.map Prod.fst).map avc)[i]? = some cs → ∃ z, q[i]? = some z ∧ cs = avc z.1 := fun i cs hcs => by
        rw [List.getElem?_map, List.getElem?_map] at hcs
        cases hx : q[i]? with
        | none => rw [hx] at hcs; cases hcs
        | some z => rw [hx] at hcs; simp only [Option.map_some, Option.some.injEq] at hcs; exact ⟨z, rfl, hcs.symm⟩
      have hlen : len = ((q.map Prod.fst).map avc).length := by simp [hql]
      rw [hlen]
      refine .slc e _ _ cap (fun i j => (w.cell? ⟨b, off + (i * size + j), none⟩).getD undef) (by rw [← hlen]; omega) hm (fun cs hcs => ?_) (fun _ => ⟨b, off, rfl, fun i cs hcs j hj => ?_⟩) (fun i cs hcs j x hx => ?_)
      · obtain ⟨i, hi'⟩ := List.getElem?_of_mem hcs
        obtain ⟨z, hz, rfl⟩ := at1 i cs hi'
        obtain ⟨k1, _, k3, _⟩ := hp i z hz
        rw [hT, k3.1, k1]
      · obtain ⟨z, hz, rfl⟩ := at1 i cs hcs
        obtain ⟨u, k1, k2, _⟩ := key i z hz j (by rw [← hT]; exact hj)
        obtain ⟨_, _, _, _, kk, u2, hks, hgd⟩ := hp i z hz
        rw [hT, k1]
        exact ⟨hfr b _ u2 _ (cellAt i z hz kk _ hks) hgd, rfl, k2⟩
      · obtain ⟨z, hz, rfl⟩ := at1 i cs hcs
        have hj : j < size := by
          obtain ⟨k1, _, k3, _⟩ := hp i z hz
          have := (List.getElem?_eq_some_iff.1 hx).1
          rw [k3.1, k1] at this; exact this
        obtain ⟨u, k1, _, k3⟩ := key i z hz j hj
        rw [k1]
        exact k3 x hx
    · have hl0 : len = 0 := by omega
      have : q = [] := List.eq_nil_of_length_eq_zero (by omega)
      subst this
      subst hl0
      exact .slc e [] _ cap (fun _ _ => undef) (Nat.zero_le _) hm (fun _ h => by cases h) (fun h => absurd h (by simp)) (fun i cs h => by simp at h)
theorem row_trod {α : Type} {T : TypeId → TR} {g : Gh} {t e : TypeId} {size : Nat} (ht : P.underlying t = some (.slice e)) (hC : P.cellsOf e = size) (hs : 0 < size) (hT : (T e).cells = size) (avc : α → List AV) (R : α → DataW H → Prop) {n : Nat} {cs : List Value} {x : DataW H × List MemPlace}
    (h : DataW.trod enc P w base spare held n t cs = some x) (hfr : FrzS g w)
    (elem : ∀ (n : Nat) (cs : List Value) (y : DataW H × List MemPlace), (∃ elems sp, x.1 = .slice elems sp ∧ y.1 ∈ elems) → cs.length = size → DataW.trod enc P w base spare held n e cs = some y → ∃ a : α, ReadC T g w (avc a) cs ∧ R a y.1 ∧ ∃ (k : Nat) (s : ByteArray), cs[k]? = some (.string s)) :
    ∃ (l : List α) (v : Value), cs = [v] ∧ v.oneCell' = true ∧ Dz T g w (.slc e (l.map avc)) v ∧ ((x.1 = .nil ∧ l = []) ∨ ∃ elems sp : List (DataW H), x.1 = .slice elems sp ∧ elems.length = l.length ∧ ∀ (i : Nat) (a : α) (y : DataW H), l[i]? = some a → elems[i]? = some y → R a y) := by
  refine row_trodG ht hC hs hT avc R h (fun u => ∃ s, u = .string s) (fun b off u i hc hg => ?_) fun n cs y hy hl hh => ?_
  · obtain ⟨s, rfl⟩ := hg; exact hfr b off s i hc
  · obtain ⟨a, h1, h2, k, s, h3⟩ := elem n cs y hy hl hh
    exact ⟨a, h1, h2, k, _, h3, s, rfl⟩
end
end Go.Proofs.YtgedlbfdhekdgaaDoor
