/- Maps of texts and rising rows of names, whatever stands beside: the plain law. -/
import Derived.Test.YtpnlhnhjedopgaaLtB
import Derived.Test.YtpnlhnhjedopgaaMapA
import Derived.Test.YtpnlhnhjedopgaaNamB
set_option maxRecDepth 100000
set_option linter.unusedSimpArgs false
namespace Go.Proofs.Ytpnlhnhjedopgaa
open Go Go.RowKit Go.Proofs

def leA (a b : ByteArray) : Bool := !(Op.bytesLess b.toList a.toList)
theorem leA_iff (a b : ByteArray) : leA a b = true ↔ ¬ ltB b a := by
  unfold leA ltB
  rw [ByteArray.toList_eq, ByteArray.toList_eq, bytesLess_eq]
  simp
section
variable {α : Type}
def delA (r : List (ByteArray × α)) (z : ByteArray) : List (ByteArray × α) := r.filter fun x => !decide (x.1 = z)
def putA (k : ByteArray) (v : α) : List (ByteArray × α) → Bool → List (ByteArray × α)
  | [], done => if done then [] else [(k, v)]
  | x :: r, done => (if (!done && leA k x.1) = true then [(k, v)] else []) ++ ((if x.1 = k then [] else [x]) ++ putA k v r (done || leA k x.1))
/-- strictly rising -/
def RiseA (r : List (ByteArray × α)) : Prop := r.Pairwise fun x y => ltB x.1 y.1
theorem rise_nodupA {r : List (ByteArray × α)} (h : RiseA r) : (r.map (·.1)).Nodup := List.pairwise_map.2 (h.imp fun hl e => by rw [e] at hl; exact ltB_irr _ hl)
theorem putK_doneA (k : ByteArray) (v : α) : ∀ r : List (ByteArray × α), putA k v r true = delA r k
  | [] => rfl
  | x :: r => by
    have := putK_doneA k v r
    unfold delA at this ⊢
    by_cases h : x.1 = k <;> simp [putA, h, this]
theorem putK_permA (k : ByteArray) (v : α) : ∀ r : List (ByteArray × α), (putA k v r false).Perm ((k, v) :: delA r k)
  | [] => by simp [putA, delA]
  | x :: r => by
    by_cases hle : leA k x.1 = true
    · simp only [putA, hle, Bool.not_false, Bool.true_and, if_true, Bool.or_true, putK_doneA]
      unfold delA
      by_cases h : x.1 = k <;> simp [h]
    · have ih := putK_permA k v r
      have hle' : leA k x.1 = false := by simpa using hle
      simp only [putA, hle', Bool.and_false, Bool.or_false, if_false, Bool.false_eq_true, List.nil_append]
      unfold delA at ih ⊢
      by_cases h : x.1 = k
      · simp only [h, if_true, List.nil_append, decide_true, Bool.not_true, List.filter_cons_of_neg, Bool.false_eq_true, not_false_eq_true]
        exact ih
      · simp only [h, if_false, decide_false, Bool.not_false, List.filter_cons_of_pos, List.cons_append, List.nil_append]
        exact (ih.cons x).trans (.swap _ _ _)
theorem delR_riseA {r : List (ByteArray × α)} (h : RiseA r) (k : ByteArray) : RiseA (delA r k) := h.filter _
theorem delR_neA {r : List (ByteArray × α)} {k : ByteArray} {x : ByteArray × α} (h : x ∈ delA r k) : x ∈ r ∧ x.1 ≠ k := by
  unfold delA at h
  rw [List.mem_filter] at h
  exact ⟨h.1, by simpa using h.2⟩
theorem putK_riseA {r : List (ByteArray × α)} (h : RiseA r) (k : ByteArray) (v : α) : RiseA (putA k v r false) := by
  induction r with
  | nil => simp [putA, RiseA]
  | cons x r ih =>
    have hx := List.pairwise_cons.1 h
    have hr : RiseA r := hx.2
    by_cases hle : leA k x.1 = true
    · simp only [putA, hle, Bool.not_false, Bool.true_and, if_true, Bool.or_true, putK_doneA]
      have e : ((if x.1 = k then [] else [x]) ++ delA r k) = delA (x :: r) k := by
        unfold delA
        by_cases h : x.1 = k <;> simp [h]
      rw [e]
      refine List.pairwise_cons.2 ⟨fun y hy => ?_, delR_riseA h k⟩
      obtain ⟨hy, hne⟩ := delR_neA hy
      have hkx := (leA_iff k x.1).1 hle
      rcases List.mem_cons.1 hy with rfl | hy
      · exact Classical.byContradiction fun hh => hne (ltB_tri hkx hh)
      · have hxy := hx.1 y hy
        by_cases hk : ltB k x.1
        · exact ltB_trans hk hxy
        · rw [ltB_tri hk hkx]; exact hxy
    · have hle' : leA k x.1 = false := by simpa using hle
      have hxk : ltB x.1 k := Classical.byContradiction fun hh => hle ((leA_iff k x.1).2 hh)
      have hne : x.1 ≠ k := fun e => by rw [e] at hxk; exact ltB_irr _ hxk
      simp only [putA, hle', Bool.and_false, Bool.or_false, if_false, Bool.false_eq_true, List.nil_append, hne, List.cons_append]
      refine List.pairwise_cons.2 ⟨fun y hy => ?_, ih hr⟩
      rcases List.mem_cons.1 ((putK_permA k v r).mem_iff.1 hy) with rfl | hy
      · exact hxk
      · exact hx.1 y (delR_neA hy).1
theorem lput_permA (k : ByteArray) (v : α) : ∀ m : List (ByteArray × α), (m.map (·.1)).Nodup → (lput m k v).Perm ((k, v) :: delA m k)
  | [], _ => by simp [lput, delA]
  | (z, y) :: r, hn => by
    simp only [List.map_cons, List.nodup_cons] at hn
    by_cases hz : k = z
    · subst hz
      have : delA r k = r := List.filter_eq_self.2 fun x hx => by
        have : x.1 ≠ k := fun e => hn.1 (List.mem_map.2 ⟨x, hx, e⟩)
        simp [this]
      simp only [lput, decide_true]
      unfold delA at this ⊢
      simp [this]
    · have hz' : ¬ z = k := fun e => hz e.symm
      have ih := lput_permA k v r hn.2
      simp only [lput, hz, decide_false]
      unfold delA at ih ⊢
      simp only [hz', decide_false, Bool.not_false, List.filter_cons_of_pos]
      exact (ih.cons _).trans (.swap _ _ _)
theorem ldel_eqA (k : ByteArray) : ∀ m : List (ByteArray × α), (m.map (·.1)).Nodup → ldel m k = delA m k
  | [], _ => rfl
  | (z, y) :: r, hn => by
    simp only [List.map_cons, List.nodup_cons] at hn
    by_cases hz : k = z
    · subst hz
      have : delA r k = r := List.filter_eq_self.2 fun x hx => by
        have : x.1 ≠ k := fun e => hn.1 (List.mem_map.2 ⟨x, hx, e⟩)
        simp [this]
      simp only [ldel, decide_true]
      unfold delA at this ⊢
      simp [this]
    · have hz' : ¬ z = k := fun e => hz e.symm
      have ih := ldel_eqA k r hn.2
      simp only [ldel, hz, decide_false]
      unfold delA at ih ⊢
      simp [hz', ih]
theorem lget_ofA {k : ByteArray} {v : α} : ∀ {m : List (ByteArray × α)}, (m.map (·.1)).Nodup → (k, v) ∈ m → lget m k = some v
  | [], _, h => by cases h
  | (z, y) :: r, hn, h => by
    simp only [List.map_cons, List.nodup_cons] at hn
    rcases List.mem_cons.1 h with h | h
    · cases h; simp [lget]
    · have hz : ¬ k = z := fun e => hn.1 (List.mem_map.2 ⟨_, h, e⟩)
      simp only [lget, hz, decide_false]
      exact lget_ofA hn.2 h
theorem lget_permA {m r : List (ByteArray × α)} (hm : (m.map (·.1)).Nodup) (h : m.Perm r) (z : ByteArray) : lget m z = lget r z := by
  have hr : (r.map (·.1)).Nodup := (h.map _).nodup_iff.1 hm
  cases hz : lget r z with
  | some v => exact lget_ofA hm (h.mem_iff.2 (lget_mem hz))
  | none =>
    cases hz' : lget m z with
    | none => rfl
    | some v => exact absurd rfl (lget_none hz _ (h.mem_iff.1 (lget_mem hz')))
/-- a map and the document's rows -/
structure AInv (m r : List (ByteArray × α)) : Prop where
  nd : (m.map (·.1)).Nodup
  pm : m.Perm r
  ri : RiseA r
theorem AInv.get {m r : List (ByteArray × α)} (h : AInv m r) (z : ByteArray) : lget m z = lget r z := lget_permA h.nd h.pm z
theorem AInv.put {m r : List (ByteArray × α)} (h : AInv m r) (k : ByteArray) (v : α) : AInv (lput m k v) (putA k v r false) :=
  ⟨nodup_lput _ _ _ h.nd, (lput_permA k v m h.nd).trans (((h.pm.filter _).cons _).trans (putK_permA k v r).symm), putK_riseA h.ri k v⟩
theorem AInv.del {m r : List (ByteArray × α)} (h : AInv m r) (k : ByteArray) : AInv (ldel m k) (delA r k) :=
  ⟨nodup_ldel _ _ h.nd, by rw [ldel_eqA k m h.nd]; exact h.pm.filter _, delR_riseA h.ri k⟩
theorem AInv.keys {m r : List (ByteArray × α)} (h : AInv m r) : keysE m = r.map fun x => [AV.str x.1] := by
  have e1 : keyL m = r.map fun x => x.1.data.toList := by
    unfold keyL
    rw [Go.mergeSort_of_perm (h.pm.map fun x => x.1.data.toList)]
    refine List.mergeSort_of_pairwise ?_
    refine List.pairwise_map.2 (h.ri.imp fun {x y} hl => ?_)
    simp only [leB, decide_eq_true_eq]
    exact List.le_of_lt hl
  rw [keysE, e1, List.map_map]
  refine List.map_congr_left fun x _ => ?_
  show [AV.str (S x.1.data.toList)] = _
  rw [S_of]
end
end Go.Proofs.Ytpnlhnhjedopgaa
