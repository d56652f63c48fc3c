/- A store and the document's rows: the plain law; Del; what is much. -/
import Derived.Test.YtpnlhnhjedopgaaKvB
import Derived.Test.YtpnlhnhjedopgaaLtB
set_option maxRecDepth 100000
set_option linter.unusedSimpArgs false
namespace Go.Proofs.Ytpnlhnhjedopgaa
open Go Go.RowKit Go.Proofs

theorem leB2_iff (a b : ByteArray) : leB2 a b = true ↔ ¬ ltB b a := by
  unfold leB2 ltB
  rw [ByteArray.toList_eq, ByteArray.toList_eq, bytesLess_eq]
  simp
/-- strictly rising -/
def Rise (r : KvL) : Prop := r.Pairwise fun x y => ltB x.1 y.1
theorem rise_nodup {r : KvL} (h : Rise r) : (r.map (·.1)).Nodup := List.pairwise_map.2 (h.imp fun hl e => by rw [e] at hl; exact ltB_irr _ hl)
theorem putK_done (k v : ByteArray) : ∀ r : KvL, putK k v r true = delR r k
  | [] => rfl
  | x :: r => by
    have := putK_done k v r
    unfold delR at this ⊢
    by_cases h : x.1 = k <;> simp [putK, h, this]
theorem putK_perm (k v : ByteArray) : ∀ r : KvL, (putK k v r false).Perm ((k, v) :: delR r k)
  | [] => by simp [putK, delR]
  | x :: r => by
    by_cases hle : leB2 k x.1 = true
    · simp only [putK, hle, Bool.not_false, Bool.true_and, if_true, Bool.or_true, putK_done]
      unfold delR
      by_cases h : x.1 = k <;> simp [h]
    · have ih := putK_perm k v r
      have hle' : leB2 k x.1 = false := by simpa using hle
      simp only [putK, hle', Bool.and_false, Bool.or_false, if_false, Bool.false_eq_true, List.nil_append]
      unfold delR at ih ⊢
      by_cases h : x.1 = k
      · simp only [h, if_true, List.nil_append, decide_true, Bool.not_true, List.filter_cons_of_neg, Bool.false_eq_true, not_false_eq_true]
        exact ih
      · simp only [h, if_false, decide_false, Bool.not_false, List.filter_cons_of_pos, List.cons_append, List.nil_append]
        exact (ih.cons x).trans (.swap _ _ _)
theorem delR_rise {r : KvL} (h : Rise r) (k : ByteArray) : Rise (delR r k) := h.filter _
theorem delR_ne {r : KvL} {k : ByteArray} {x : ByteArray × ByteArray} (h : x ∈ delR r k) : x ∈ r ∧ x.1 ≠ k := by
  unfold delR at h
  rw [List.mem_filter] at h
  exact ⟨h.1, by simpa using h.2⟩
theorem putK_rise {r : KvL} (h : Rise r) (k v : ByteArray) : Rise (putK k v r false) := by
  induction r with
  | nil => simp [putK, Rise]
  | cons x r ih =>
    have hx := List.pairwise_cons.1 h
    have hr : Rise r := hx.2
    by_cases hle : leB2 k x.1 = true
    · simp only [putK, hle, Bool.not_false, Bool.true_and, if_true, Bool.or_true, putK_done]
      have e : ((if x.1 = k then [] else [x]) ++ delR r k) = delR (x :: r) k := by
        unfold delR
        by_cases h : x.1 = k <;> simp [h]
      rw [e]
      refine List.pairwise_cons.2 ⟨fun y hy => ?_, delR_rise h k⟩
      obtain ⟨hy, hne⟩ := delR_ne hy
      have hkx := (leB2_iff k x.1).1 hle
      rcases List.mem_cons.1 hy with rfl | hy
      · exact Classical.byContradiction fun hh => hne (ltB_tri hkx hh)
      · have hxy := hx.1 y hy
        by_cases hk : ltB k x.1
        · exact ltB_trans hk hxy
        · rw [ltB_tri hk hkx]; exact hxy
    · have hle' : leB2 k x.1 = false := by simpa using hle
      have hxk : ltB x.1 k := Classical.byContradiction fun hh => hle ((leB2_iff k x.1).2 hh)
      have hne : x.1 ≠ k := fun e => by rw [e] at hxk; exact ltB_irr _ hxk
      simp only [putK, hle', Bool.and_false, Bool.or_false, if_false, Bool.false_eq_true, List.nil_append, hne, List.cons_append]
      refine List.pairwise_cons.2 ⟨fun y hy => ?_, ih hr⟩
      rcases List.mem_cons.1 ((putK_perm k v r).mem_iff.1 hy) with rfl | hy
      · exact hxk
      · exact hx.1 y (delR_ne hy).1
theorem lput_perm (k v : ByteArray) : ∀ m : KvL, (m.map (·.1)).Nodup → (lput m k v).Perm ((k, v) :: delR m k)
  | [], _ => by simp [lput, delR]
  | (z, y) :: r, hn => by
    simp only [List.map_cons, List.nodup_cons] at hn
    by_cases hz : k = z
    · subst hz
      have : delR r k = r := List.filter_eq_self.2 fun x hx => by
        have : x.1 ≠ k := fun e => hn.1 (List.mem_map.2 ⟨x, hx, e⟩)
        simp [this]
      simp only [lput, decide_true]
      unfold delR at this ⊢
      simp [this]
    · have hz' : ¬ z = k := fun e => hz e.symm
      have ih := lput_perm k v r hn.2
      simp only [lput, hz, decide_false]
      unfold delR at ih ⊢
      simp only [hz', decide_false, Bool.not_false, List.filter_cons_of_pos]
      exact (ih.cons _).trans (.swap _ _ _)
theorem ldel_eq (k : ByteArray) : ∀ m : KvL, (m.map (·.1)).Nodup → ldel m k = delR m k
  | [], _ => rfl
  | (z, y) :: r, hn => by
    simp only [List.map_cons, List.nodup_cons] at hn
    by_cases hz : k = z
    · subst hz
      have : delR r k = r := List.filter_eq_self.2 fun x hx => by
        have : x.1 ≠ k := fun e => hn.1 (List.mem_map.2 ⟨x, hx, e⟩)
        simp [this]
      simp only [ldel, decide_true]
      unfold delR at this ⊢
      simp [this]
    · have hz' : ¬ z = k := fun e => hz e.symm
      have ih := ldel_eq k r hn.2
      simp only [ldel, hz, decide_false]
      unfold delR at ih ⊢
      simp [hz', ih]
theorem lget_of {k v : ByteArray} : ∀ {m : KvL}, (m.map (·.1)).Nodup → (k, v) ∈ m → lget m k = some v
  | [], _, h => by cases h
  | (z, y) :: r, hn, h => by
    simp only [List.map_cons, List.nodup_cons] at hn
    rcases List.mem_cons.1 h with h | h
    · cases h; simp [lget]
    · have hz : ¬ k = z := fun e => hn.1 (List.mem_map.2 ⟨_, h, e⟩)
      simp only [lget, hz, decide_false]
      exact lget_of hn.2 h
theorem lget_perm {m r : KvL} (hm : (m.map (·.1)).Nodup) (h : m.Perm r) (z : ByteArray) : lget m z = lget r z := by
  have hr : (r.map (·.1)).Nodup := (h.map _).nodup_iff.1 hm
  cases hz : lget r z with
  | some v => exact lget_of hm (h.mem_iff.2 (lget_mem hz))
  | none =>
    cases hz' : lget m z with
    | none => rfl
    | some v => exact absurd rfl (lget_none hz _ (h.mem_iff.1 (lget_mem hz')))
theorem sizeR_perm {m r : KvL} (h : m.Perm r) : sizeR m = sizeR r := (h.map _).sum_nat
/-- a store's map and the document's rows -/
structure KInv (m r : KvL) : Prop where
  nd : (m.map (·.1)).Nodup
  pm : m.Perm r
  ri : Rise r
theorem KInv.get {m r : KvL} (h : KInv m r) (z : ByteArray) : lget m z = lget r z := lget_perm h.nd h.pm z
theorem KInv.put {m r : KvL} (h : KInv m r) (k v : ByteArray) : KInv (lput m k v) (putK k v r false) :=
  ⟨nodup_lput _ _ _ h.nd, (lput_perm k v m h.nd).trans (((h.pm.filter _).cons _).trans (putK_perm k v r).symm), putK_rise h.ri k v⟩
theorem KInv.del {m r : KvL} (h : KInv m r) (k : ByteArray) : KInv (ldel m k) (delR r k) :=
  ⟨nodup_ldel _ _ h.nd, by rw [ldel_eq k m h.nd]; exact h.pm.filter _, delR_rise h.ri k⟩
theorem KInv.keys {m r : KvL} (h : KInv m r) : keysE m = r.map fun x => [AV.str x.1] := by
  have e1 : keyL m = r.map fun x => x.1.data.toList := by
    unfold keyL
    rw [Go.mergeSort_of_perm (h.pm.map fun x => x.1.data.toList)]
    refine List.mergeSort_of_pairwise ?_
    refine List.pairwise_map.2 (h.ri.imp fun {x y} hl => ?_)
    simp only [leB, decide_eq_true_eq]
    exact List.le_of_lt hl
  rw [keysE, e1, List.map_map]
  refine List.map_congr_left fun x _ => ?_
  show [AV.str (S x.1.data.toList)] = _
  rw [S_of]
theorem sizeR_lput (k v : ByteArray) : ∀ m : KvL, ((sizeR (lput m k v) : Nat) : Int) = sizeR m + kgrow m k v
  | [] => by simp [sizeR, lput, kgrow, lget]
  | (z, y) :: r => by
    by_cases hz : k = z
    · subst hz
      simp [sizeR, lput, kgrow, lget]; omega
    · have := sizeR_lput k v r
      simp only [sizeR, lput, hz, decide_false, List.map_cons, List.sum_cons, kgrow, lget] at this ⊢
      omega
theorem sizeR_ldel (k : ByteArray) {w : ByteArray} : ∀ {m : KvL}, lget m k = some w → sizeR (ldel m k) + (16 + k.size + w.size) = sizeR m
  | [], h => by cases h
  | (z, y) :: r, h => by
    by_cases hz : k = z
    · subst hz
      simp only [lget, decide_true, Option.some.injEq] at h
      subst h
      simp [sizeR, ldel]; omega
    · simp only [lget, hz, decide_false] at h
      have := sizeR_ldel k h
      simp only [sizeR, ldel, hz, decide_false, List.map_cons, List.sum_cons] at this ⊢
      omega
end Go.Proofs.Ytpnlhnhjedopgaa
