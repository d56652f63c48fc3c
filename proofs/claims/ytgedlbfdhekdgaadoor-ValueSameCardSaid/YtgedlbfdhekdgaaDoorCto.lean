/- What cells are, told less well. -/
import Derived.Test.YtgedlbfdhekdgaaDoorLaw
set_option maxRecDepth 100000
set_option linter.unusedSimpArgs false
namespace Go.Proofs.YtgedlbfdhekdgaaDoor
open Go Go.RowKit Go.Proofs

/-- what a slice's elements are, told less well -/
theorem slc_to {T : TypeId → TR} {g : Gh} {w : World} {e : TypeId} {els els' : List (List AV)} {u : Value} (hl : els'.length = els.length)
    (h : ∀ (i : Nat) (a a' : List AV), els[i]? = some a → els'[i]? = some a' → a'.length = a.length ∧ ∀ (j : Nat) (c c' : AV) (x : Value), a[j]? = some c → a'[j]? = some c' → Dz T g w c x → Dz T g w c' x) (hz : Dz T g w (.slc e els) u) : Dz T g w (.slc e els') u := by
  cases hz with
  | slc e els p cap F hc hm hs hp hd =>
    have back : ∀ (i : Nat) (a' : List AV), els'[i]? = some a' → ∃ a, els[i]? = some a := fun i a' h' => ⟨_, List.getElem?_eq_getElem (by have := (List.getElem?_eq_some_iff.1 h').1; omega)⟩
    rw [← hl]
    refine .slc e els' p cap F (by omega) hm (fun a' ha' => ?_) (fun h0 => ?_) (fun i a' ha' j c' hc' => ?_)
    · obtain ⟨i, hi⟩ := List.getElem?_of_mem ha'
      obtain ⟨a, ha⟩ := back i a' hi
      rw [(h i a a' ha hi).1]; exact hs a (List.mem_of_getElem? ha)
    · obtain ⟨b, off, h1, h2⟩ := hp (by omega)
      refine ⟨b, off, h1, fun i a' ha' j hj => ?_⟩
      obtain ⟨a, ha⟩ := back i a' ha'
      exact h2 i a ha j hj
    · obtain ⟨a, ha⟩ := back i a' ha'
      obtain ⟨q1, q2⟩ := h i a a' ha ha'
      have hja : a[j]? = some (a[j]'(by have := (List.getElem?_eq_some_iff.1 hc').1; omega)) := List.getElem?_eq_getElem _
      exact q2 j _ c' _ hja hc' (hd i a ha j _ hja)
/-- cells told less well -/
def CellsTo (a b : List AV) : Prop := b.length = a.length ∧ ∀ (T : TypeId → TR) (g : Gh) (w : World) (j : Nat) (c c' : AV) (x : Value), a[j]? = some c → b[j]? = some c' → Dz T g w c x → Dz T g w c' x
theorem cells_slc {e : TypeId} {els els' : List (List AV)} (hl : els'.length = els.length) (h : ∀ (i : Nat) (a a' : List AV), els[i]? = some a → els'[i]? = some a' → CellsTo a a') {T : TypeId → TR} {g : Gh} {w : World} {u : Value} (hz : Dz T g w (.slc e els) u) : Dz T g w (.slc e els') u :=
  slc_to hl (fun i a a' ha ha' => ⟨(h i a a' ha ha').1, fun j c c' x hc hc' hd => (h i a a' ha ha').2 T g w j c c' x hc hc' hd⟩) hz
theorem cells_nil : CellsTo [] [] := ⟨rfl, fun _ _ _ j c c' x hc => by simp at hc⟩
theorem cells_cons {a b : AV} {r s : List AV} (h : ∀ T g w x, Dz T g w a x → Dz T g w b x) (hr : CellsTo r s) : CellsTo (a :: r) (b :: s) := by
  refine ⟨by simp [hr.1], fun T g w j c c' x hc hc' hd => ?_⟩
  cases j with
  | zero => cases hc; cases hc'; exact h T g w x hd
  | succ j => exact hr.2 T g w j c c' x hc hc' hd
theorem cells_app {a b r s : List AV} (h : CellsTo a b) (hr : CellsTo r s) : CellsTo (a ++ r) (b ++ s) := by
  refine ⟨by simp [h.1, hr.1], fun T g w j c c' x hc hc' hd => ?_⟩
  by_cases hj : j < a.length
  · rw [List.getElem?_append_left hj] at hc
    rw [List.getElem?_append_left (by rw [h.1]; exact hj)] at hc'
    exact h.2 T g w j c c' x hc hc' hd
  · rw [List.getElem?_append_right (by omega)] at hc
    rw [List.getElem?_append_right (by rw [h.1]; omega), h.1] at hc'
    exact hr.2 T g w _ c c' x hc hc' hd
theorem slc_one {e : TypeId} {a b : List AV} (h : CellsTo a b) : ∀ T g w x, Dz T g w (.slc e [a]) x → Dz T g w (.slc e [b]) x := fun T g w x hd =>
  cells_slc (by simp) (fun i p q hp hq => by
    match i with
    | 0 => cases hp; cases hq; exact h
    | i + 1 => simp at hp) hd
theorem slc_map {α : Type} {e : TypeId} {f g : α → List AV} (h : ∀ x, CellsTo (f x) (g x)) (l : List α) : ∀ T gh w x, Dz T gh w (.slc e (l.map f)) x → Dz T gh w (.slc e (l.map g)) x := fun T gh w x hd =>
  cells_slc (by simp) (fun i p q hp hq => by
    rw [List.getElem?_map] at hp hq
    cases hx : l[i]? with
    | none => rw [hx] at hp; cases hp
    | some y => rw [hx] at hp hq; cases hp; cases hq; exact h y) hd
theorem agg_to {a b : List AV} (h : CellsTo a b) : ∀ T g w x, Dz T g w (.agg a) x → Dz T g w (.agg b) x := fun T g w x hd => by
  cases hd with
  | agg _ us hl h1 h2 =>
    refine .agg _ _ (by rw [h.1]; exact hl) h1 fun i c u hc hu => ?_
    have hx : a[i]? = some (a[i]'(by have := (List.getElem?_eq_some_iff.1 hc).1; have := h.1; omega)) := List.getElem?_eq_getElem _
    exact h.2 T g w i _ c u hx hc (h2 i _ u hx hu)
theorem nil_to (e : TypeId) : ∀ T g w x, Dz T g w .nils x → Dz T g w (.slc e []) x := fun _ _ _ _ h => nils_dz e h
theorem same_to {a b : AV} (h : a = b) : ∀ T g w x, Dz T g w a x → Dz T g w b x := fun _ _ _ _ hd => h ▸ hd
theorem CallOk.arg1 {P : Program} {T : TypeId → TR} {f : FuncId} {a a' : AV} {G : Glob} {Q : AV → Glob → Prop} (h : CallOk P T f [a'] G Q) (ha : ∀ T g w x, Dz T g w a x → Dz T g w a' x) : CallOk P T f [a] G Q :=
  h.args rfl fun i x hx => by
    match i with
    | 0 => cases hx; exact ⟨_, rfl, ha T⟩
    | i + 1 => simp at hx
end Go.Proofs.YtgedlbfdhekdgaaDoor
