/- A region that draws its order, two operations of which may stand in either order: told both ways. -/
import Derived.Test.YtofhakbmmgpgdaaDoorPrm
set_option maxRecDepth 100000
namespace Go.Proofs.YtofhakbmmgpgdaaDoor
open Go Go.RowKit Go.Proofs

/-- no call, nothing that waits -/
def plainB : Op → Bool
  | .move _ => true
  | .assign _ => true
  | .load _ _ => true
  | .fieldAddr _ _ _ => true
  | .indexAddr _ _ _ => true
  | .alloc _ => true
  | .store _ _ _ => true
  | _ => false
section
variable {P : Program} {Q : Exit → Act → World → Prop}
theorem plain_run {o : Oper} (h : plainB o.op = true) (ρ : Operand → Value) (w : World) : (∃ v w', (execOp ρ o).run P w = .ok (.value v) w') ∨ (∃ w', (execOp ρ o).run P w = .ok .skip w') ∨ ∃ x w', (execOp ρ o).run P w = .halt x w' := by
  have hv : ∀ s : Go.Sem Value, (∃ v w', (do pure (.value (← s)) : Go.Sem Next).run P w = .ok (.value v) w') ∨ (∃ w', (do pure (.value (← s)) : Go.Sem Next).run P w = .ok .skip w') ∨ ∃ x w', (do pure (.value (← s)) : Go.Sem Next).run P w = .halt x w' := fun s => by
    cases hs : s.run P w with
    | ok v w' => exact .inl ⟨v, w', by simp [hs]⟩
    | halt x w' => exact .inr (.inr ⟨x, w', by simp [hs]⟩)
  have hu : ∀ s : Go.Sem Unit, (∃ v w', (do s; pure .skip : Go.Sem Next).run P w = .ok (.value v) w') ∨ (∃ w', (do s; pure .skip : Go.Sem Next).run P w = .ok .skip w') ∨ ∃ x w', (do s; pure .skip : Go.Sem Next).run P w = .halt x w' := fun s => by
    cases hs : s.run P w with
    | ok v w' => exact .inr (.inl ⟨w', by simp [hs]⟩)
    | halt x w' => exact .inr (.inr ⟨x, w', by simp [hs]⟩)
  obtain ⟨dst, op, type, pos, after, guard⟩ := o
  cases op <;> first | cases h | skip
  all_goals unfold execOp
  all_goals first | exact hv _ | exact hu _ | exact .inl ⟨_, _, rfl⟩
theorem wp_both {o : Oper} (h : plainB o.op = true) {a : Act} {w : World} {K K' : Act → World → Prop} (h1 : o.wp P a w K Q) (h2 : o.wp P a w K' Q) : o.wp P a w (fun a w => K a w ∧ K' a w) Q := by
  unfold Oper.wp at *
  rcases plain_run (P := P) h a.eval w with ⟨v, w', e⟩ | ⟨w', e⟩ | ⟨x, w', e⟩ <;> rw [e] at h1 h2 ⊢
  · exact ⟨h1, h2⟩
  · exact ⟨h1, h2⟩
  · cases x <;> exact h1
/-- an edge that is met changes nothing -/
theorem met_ready {l : List Oper} {i j : Nat} {listed : Array Bool} (h : listed.getD j false = true) (p : Nat) : p ∈ Region.ready .any (addE i j l).toArray listed ↔ p ∈ Region.ready .any l.toArray listed := by
  rw [mem_ready, mem_ready]
  simp only [List.getElem?_toArray]
  by_cases hp : p = i
  · subst hp
    cases ho : l[p]? with
    | none =>
      have : addE p j l = l := by unfold addE; rw [ho]
      rw [this, ho]
    | some o =>
      rw [addE_at ho]
      constructor
      · rintro ⟨h1, o', h2, h3⟩
        cases h2
        exact ⟨h1, o, rfl, fun e he hb => h3 e (by simp [he]) hb⟩
      · rintro ⟨h1, o', h2, h3⟩
        cases h2
        refine ⟨h1, _, rfl, fun e he hb => ?_⟩
        simp only [Array.mem_push] at he
        rcases he with he | rfl
        · exact h3 e he hb
        · exact h
  · rw [addE_ne hp]
theorem other_ready {l : List Oper} {i j p : Nat} {listed : Array Bool} (h : p ≠ i) : p ∈ Region.ready .any (addE i j l).toArray listed ↔ p ∈ Region.ready .any l.toArray listed := by
  rw [mem_ready, mem_ready]
  simp only [List.getElem?_toArray]
  rw [addE_ne h]
theorem less_ready {l : List Oper} {i j p : Nat} {listed : Array Bool} (h : p ∈ Region.ready .any (addE i j l).toArray listed) : p ∈ Region.ready .any l.toArray listed := by
  by_cases hp : p = i
  · subst hp
    rw [mem_ready] at h ⊢
    simp only [List.getElem?_toArray] at h ⊢
    obtain ⟨h1, o', h2, h3⟩ := h
    cases ho : l[p]? with
    | none =>
      have : addE p j l = l := by unfold addE; rw [ho]
      rw [this, ho] at h2; cases h2
    | some o =>
      rw [addE_at ho] at h2
      cases h2
      exact ⟨h1, o, rfl, fun e he hb => h3 e (by simp [he]) hb⟩
  · exact (other_ready hp).1 h
/-- an operation is the same with an edge more -/
theorem op_edge {l : List Oper} {i j p : Nat} {K : Act → World → Prop} {a : Act} {w : World} (h : wpOp P (addE i j l).toArray Q p K a w) : wpOp P l.toArray Q p K a w := by
  cases ho : l[p]? with
  | none =>
    have : (addE i j l)[p]? = none := by
      by_cases hp : p = i
      · subst hp; have : addE p j l = l := by unfold addE; rw [ho]
        rw [this, ho]
      · rw [addE_ne hp]; exact ho
    unfold wpOp at *
    simp only [List.getElem?_toArray, ho, this] at h ⊢
    exact h
  | some o =>
    have key : ∀ o', o'.op = o.op → o'.dst = o.dst → o'.guard = o.guard → (∀ a w K, Oper.wp P o' a w K Q = Oper.wp P o a w K Q) → (o'.asks P a w = o.asks P a w) → (addE i j l)[p]? = some o' → wpOp P l.toArray Q p K a w := fun o' e1 e2 e3 e4 e5 ha => by
      unfold wpOp at h ⊢
      simp only [List.getElem?_toArray, ho, ha, more_yields] at h ⊢
      have hw : Region.wanted o' (yielded l.toArray a.tmps) = Region.wanted o (yielded l.toArray a.tmps) := by unfold Region.wanted; rw [e3]
      rw [hw, e4, e5, e2] at h
      exact h
    by_cases hpi : p = i
    · subst hpi
      exact key { o with after := o.after.push { on := j, ground := .data } } rfl rfl rfl (fun _ _ _ => rfl) rfl (addE_at ho)
    · exact key o rfl rfl rfl (fun _ _ _ => rfl) rfl (by rw [addE_ne hpi]; exact ho)
theorem met_any {l : List Oper} {i j : Nat} : ∀ (fuel : Nat) (listed : Array Bool) (a : Act) (w : World), listed.size = l.length → listed.getD j false = true → wpAny P .any (addE i j l).toArray Q fuel listed a w → wpAny P .any l.toArray Q fuel listed a w := by
  intro fuel
  induction fuel with
  | zero =>
    intro listed a w _ hd hh
    refine ⟨List.eq_nil_iff_forall_not_mem.2 fun p hp => ?_, hh.2⟩
    have := (met_ready (i := i) hd p).2 hp
    rw [hh.1] at this; cases this
  | succ fuel ih =>
    intro listed a w hs hd hh
    refine ⟨fun hn => hh.1 (List.eq_nil_iff_forall_not_mem.2 fun p hp => ?_), fun p hp => ?_⟩
    · have := (met_ready (i := i) hd p).1 hp
      rw [hn] at this; cases this
    · have h2 := hh.2 p ((met_ready hd p).2 hp)
      obtain ⟨_, o, ho, _⟩ := mem_ready.1 hp
      simp only [List.getElem?_toArray] at ho
      have hlt : p < listed.size := by rw [hs]; exact (List.getElem?_eq_some_iff.1 ho).1
      exact op_edge (wpOp_mono (fun a w hk => ih _ a w (by simp [hs]) ((getD_set hlt).2 (.inr hd)) hk) h2)
theorem wpOp_both {l : List Oper} (hpl : ∀ o ∈ l, plainB o.op = true) {p : Nat} {a : Act} {w : World} {K K' : Act → World → Prop} (h1 : wpOp P l.toArray Q p K a w) (h2 : wpOp P l.toArray Q p K' a w) : wpOp P l.toArray Q p (fun a w => K a w ∧ K' a w) a w := by
  unfold wpOp at *
  cases ho : l[p]? with
  | none =>
    simp only [List.getElem?_toArray, ho] at h1 h2 ⊢
    exact ⟨h1, h2⟩
  | some o =>
    simp only [List.getElem?_toArray, ho] at h1 h2 ⊢
    split
    · rename_i hw
      rw [if_pos hw] at h1 h2
      rcases h1 with h1 | h1
      · rcases h2 with h2 | h2
        · exact .inl (wp_both (hpl o (List.mem_of_getElem? ho)) h1 h2)
        · exact .inr h2
      · exact .inr h1
    · rename_i hw
      rw [if_neg hw] at h1 h2
      exact ⟨h1, h2⟩
theorem two_any {l : List Oper} (hpl : ∀ o ∈ l, plainB o.op = true) {i j : Nat} (hij : i ≠ j) : ∀ (fuel : Nat) (listed : Array Bool) (a : Act) (w : World), listed.size = l.length → wpAny P .any (addE j i l).toArray Q fuel listed a w → wpAny P .any (addE i j l).toArray Q fuel listed a w → wpAny P .any l.toArray Q fuel listed a w := by
  intro fuel
  induction fuel with
  | zero =>
    intro listed a w _ h1 h2
    refine ⟨List.eq_nil_iff_forall_not_mem.2 fun p hp => ?_, h1.2⟩
    by_cases hpj : p = j
    · have := (other_ready (i := i) (j := j) (show p ≠ i from fun e => hij (by rw [← e, hpj]))).2 hp
      rw [h2.1] at this; cases this
    · have := (other_ready (i := j) (j := i) hpj).2 hp
      rw [h1.1] at this; cases this
  | succ fuel ih =>
    intro listed a w hs h1 h2
    refine ⟨fun hn => h1.1 (List.eq_nil_iff_forall_not_mem.2 fun p hp => ?_), fun p hp => ?_⟩
    · have := less_ready hp
      rw [hn] at this; cases this
    · obtain ⟨_, o, ho, _⟩ := mem_ready.1 hp
      simp only [List.getElem?_toArray] at ho
      have hlt : p < listed.size := by rw [hs]; exact (List.getElem?_eq_some_iff.1 ho).1
      by_cases hpi : p = i
      · -- i comes first
        subst hpi
        have hA := h1.2 p ((other_ready hij).2 hp)
        exact op_edge (wpOp_mono (fun a w hk => met_any fuel _ a w (by simp [hs]) ((getD_set hlt).2 (.inl rfl)) hk) hA)
      · by_cases hpj : p = j
        · subst hpj
          have hB := h2.2 p ((other_ready (Ne.symm hij)).2 hp)
          exact op_edge (wpOp_mono (fun a w hk => met_any fuel _ a w (by simp [hs]) ((getD_set hlt).2 (.inl rfl)) hk) hB)
        · have hA := h1.2 p ((other_ready hpj).2 hp)
          have hB := h2.2 p ((other_ready hpi).2 hp)
          exact wpOp_mono (fun a w hk => ih _ a w (by simp [hs]) hk.1 hk.2) (wpOp_both hpl (op_edge hA) (op_edge hB))
theorem AnyOk.two {T : TypeId → TR} {c : Cf} {K : Cf → Prop} {l : List Oper} (hpl : (l.all fun o => plainB o.op) = true) {i j : Nat} (hij : i ≠ j) (h1 : AnyOk P T (addE j i l).toArray c K) (h2 : AnyOk P T (addE i j l).toArray c K) : AnyOk P T l.toArray c K :=
  ⟨fun g a w st Q hQ => by
    have d1 := h1.any g a w st Q hQ
    have d2 := h2.any g a w st Q hQ
    have e1 : (addE j i l).toArray.size = l.toArray.size := by simp [addE_len]
    have e2 : (addE i j l).toArray.size = l.toArray.size := by simp [addE_len]
    rw [e1] at d1
    rw [e2] at d2
    exact two_any (fun o ho => List.all_eq_true.1 hpl o ho) hij _ _ _ _ (by simp) d1 d2⟩
/-- two operations may stand in either order: each way told -/
theorem draw_two {T : TypeId → TR} {ops : Array Oper} {c : Cf} {K : Cf → Prop} (i j : Nat) (σ1 σ2 : List Nat) (TO : TOk P T) (hm : P.follows .mixedOrders = true) (hpl : (ops.toList.all fun o => plainB o.op) = true) (hij : i ≠ j)
    (p1 : permB σ1 (addE j i ops.toList).length = true) (b1 : drawB (permL σ1 (addE j i ops.toList)) [] = true) (p2 : permB σ2 (addE i j ops.toList).length = true) (b2 : drawB (permL σ2 (addE i j ops.toList)) [] = true)
    (h1 : evDraw P T (permL σ1 (addE j i ops.toList)) [] (permL σ1 (addE j i ops.toList)) 0 c [] K) (h2 : evDraw P T (permL σ2 (addE i j ops.toList)) [] (permL σ2 (addE i j ops.toList)) 0 c [] K) : DrawOk P T ops c K :=
  ⟨fun g a w st id Q hQ => wp_region_any hm (by
    have q1 : AnyOk P T (permL σ1 (addE j i ops.toList)).toArray c K := ⟨fun g a w st Q hQ => draw_any (ops := (permL σ1 (addE j i ops.toList)).toArray) TO b1 h1 st hQ⟩
    have q2 : AnyOk P T (permL σ2 (addE i j ops.toList)).toArray c K := ⟨fun g a w st Q hQ => draw_any (ops := (permL σ2 (addE i j ops.toList)).toArray) TO b2 h2 st hQ⟩
    have r1 : AnyOk P T (addE j i ops.toList).toArray c K := .perm (ops := (addE j i ops.toList).toArray) (by simpa using p1) q1
    have r2 : AnyOk P T (addE i j ops.toList).toArray c K := .perm (ops := (addE i j ops.toList).toArray) (by simpa using p2) q2
    exact (AnyOk.two (l := ops.toList) hpl hij r1 r2).any g a w st Q hQ)⟩
end
end Go.Proofs.YtofhakbmmgpgdaaDoor
