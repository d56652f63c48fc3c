/- A region that draws its order, few operations: all its orders, each run for itself. -/
import Derived.Test.YtofhakbmmgpgdaaDoorGc
set_option maxRecDepth 100000
namespace Go.Proofs.YtofhakbmmgpgdaaDoor
open Go Go.RowKit Go.Proofs

theorem letsOut_q' {Q Q' : Exit → Act → World → Prop} (hq : ∀ ex a w, ex ≠ .normal → Q' ex a w → Q ex a w) (h : LetsOut Q') : LetsOut Q := by
  obtain ⟨a, w, h⟩ := h
  exact ⟨a, w, hq _ _ _ (fun e => by cases e) h⟩
theorem wp_q' {P : Program} {o : Oper} {a : Act} {w : World} {K : Act → World → Prop} {Q Q' : Exit → Act → World → Prop} (hq : ∀ ex a w, ex ≠ .normal → Q' ex a w → Q ex a w) (hh : o.wp P a w K Q') : o.wp P a w K Q := by
  unfold Oper.wp at *
  generalize (execOp a.eval o).run P w = r at *
  cases r with
  | ok n w' =>
    cases n <;> simp only [Oper.upon] at hh ⊢ <;>
      first
        | exact hh
        | exact Calls.mono hh (fun e w'' he => by
            cases e
            · exact he
            · exact hq _ _ _ (fun e => by cases e) he
            · exact letsOut_q' hq he)
  | halt x w' => cases x <;> simp only [Oper.upon] at hh ⊢ <;> first | exact hq _ _ _ (fun e => by cases e) hh | exact hh
theorem wpAny_done' {P : Program} {ops : Array Oper} {Q : Exit → Act → World → Prop} {listed : Array Bool} (h : Region.ready .any ops listed = []) (fuel : Nat) {a : Act} {w : World} (hq : Q .normal a w) : wpAny P .any ops Q fuel listed a w := by
  cases fuel with
  | zero => exact ⟨h, hq⟩
  | succ fuel => exact ⟨fun _ => hq, fun i hi => by rw [h] at hi; cases hi⟩
theorem all_ready' {ops : Array Oper} {listed : Array Bool} (hl : listed.size = ops.size) (h : ∀ i, i < ops.size → listed.getD i false = true) : Region.ready .any ops listed = [] := by
  apply List.eq_nil_iff_forall_not_mem.2
  intro j hj
  obtain ⟨h1, o, h2, _⟩ := mem_ready.1 hj
  have hjl : j < ops.size := (Array.getElem?_eq_some_iff.1 h2).1
  rw [getD_ft (by omega), h j hjl] at h1; cases h1
def doneB (rest : List (Nat × Oper)) (i : Nat) : Bool := rest.all fun x => !(decide (x.1 = i))
def readyB (N : Nat) (rest : List (Nat × Oper)) (o : Oper) : Bool := o.after.toList.all fun e => !Region.binds .any e || (decide (e.on < N) && doneB rest e.on)
def remK (i : Nat) : List (Nat × Oper) → (List (Nat × Oper) → Prop) → Prop
  | [], K => K []
  | x :: r, K => match decide (x.1 = i) with | true => remK i r K | false => remK i r fun l => K (x :: l)
theorem remK_iff (i : Nat) : ∀ (l : List (Nat × Oper)) (K : List (Nat × Oper) → Prop), remK i l K ↔ K (l.filter fun x => !(decide (x.1 = i)))
  | [], K => Iff.rfl
  | x :: r, K => by
    unfold remK
    cases h : decide (x.1 = i) with
    | true => simp only [remK_iff i r]; rw [List.filter_cons, h]; simp
    | false => simp only [remK_iff i r]; rw [List.filter_cons, h]; simp
/-- what is ready, one after the other; something must be -/
def eachK (N : Nat) (whole : List (Nat × Oper)) (F : Nat × Oper → Prop) : List (Nat × Oper) → Prop
  | [] => False
  | y :: l => match readyB N whole y.2, l.any fun z => readyB N whole z.2 with
    | true, true => F y ∧ eachK N whole F l
    | true, false => F y
    | false, true => eachK N whole F l
    | false, false => False
theorem eachK_is {N : Nat} {whole : List (Nat × Oper)} {F : Nat × Oper → Prop} : ∀ {l : List (Nat × Oper)}, eachK N whole F l → (∃ y ∈ l, readyB N whole y.2 = true) ∧ ∀ y ∈ l, readyB N whole y.2 = true → F y
  | [], h => h.elim
  | y :: l, h => by
    have none_ : (l.any fun z => readyB N whole z.2) = false → ∀ z ∈ l, readyB N whole z.2 = true → F z := fun h z hz hr => by
      have := List.any_eq_false.1 h z hz
      exact absurd hr this
    unfold eachK at h
    split at h
    · rename_i h1 h2
      obtain ⟨q1, q2⟩ := eachK_is h.2
      exact ⟨⟨y, List.mem_cons_self, h1⟩, fun z hz hr => by
        rcases List.mem_cons.1 hz with rfl | hz
        · exact h.1
        · exact q2 z hz hr⟩
    · rename_i h1 h2
      exact ⟨⟨y, List.mem_cons_self, h1⟩, fun z hz hr => by
        rcases List.mem_cons.1 hz with rfl | hz
        · exact h
        · exact none_ h2 z hz hr⟩
    · rename_i h1 h2
      obtain ⟨⟨q0, q1, q2⟩, q3⟩ := eachK_is h
      exact ⟨⟨q0, List.mem_cons_of_mem _ q1, q2⟩, fun z hz hr => by
        rcases List.mem_cons.1 hz with rfl | hz
        · rw [h1] at hr; cases hr
        · exact q3 z hz hr⟩
    · exact h.elim
def allK (P : Program) (T : TypeId → TR) (N : Nat) (all : List Oper) : Nat → List (Nat × Oper) → Cf → (Cf → Prop) → Prop
  | 0, rest, c, K => (match rest with | [] => K c | _ :: _ => False)
  | n + 1, rest, c, K => (match rest with
    | [] => K c
    | x :: r => eachK N (x :: r) (fun y => evOps P T all [y.2] c fun c' => remK y.1 (x :: r) fun rest' => allK P T N all n rest' c' K) (x :: r))
theorem allK_nil {P : Program} {T : TypeId → TR} {N : Nat} {all : List Oper} {n : Nat} {c : Cf} {K : Cf → Prop} (h : allK P T N all n [] c K) : K c := by
  cases n <;> exact h
/-- behind an operation: what comes then -/
def thenQ (R : Act → World → Prop) (Q : Exit → Act → World → Prop) : Exit → Act → World → Prop
  | .normal, a, w => R a w
  | e, a, w => Q e a w
theorem thenQ_q {R : Act → World → Prop} {Q : Exit → Act → World → Prop} : ∀ ex a w, ex ≠ .normal → thenQ R Q ex a w → Q ex a w := fun ex a w hne h => by
  cases ex <;> first | exact absurd rfl hne | exact h
theorem all_sound {P : Program} {T : TypeId → TR} (TO : TOk P T) {ops : Array Oper} {Q : Exit → Act → World → Prop} {K : Cf → Prop} : ∀ (n : Nat) (rest : List (Nat × Oper)) (fuel : Nat) (listed : Array Bool) (g : Gh) (w : World) (a : Act) (c : Cf),
    rest.length ≤ fuel → listed.size = ops.size → (∀ x ∈ rest, ops[x.1]? = some x.2) → (∀ i, i < ops.size → (listed.getD i false = true ↔ doneB rest i = true)) → allK P T ops.size ops.toList n rest c K → St T g w a c →
    (∀ g' w' a' c', K c' → St T g' w' a' c' → Ext g w g' w' → Q .normal a' w') → wpAny P .any ops Q fuel listed a w := by
  intro n
  induction n with
  | zero =>
    intro rest fuel listed g w a c hf hl hr hd h hs hk
    cases rest with
    | nil => exact wpAny_done' (all_ready' hl fun i hi => (hd i hi).2 rfl) fuel (hk g w a c h hs (Ext.refl _ _))
    | cons x r => exact h.elim
  | succ n ih =>
    intro rest fuel listed g w a c hf hl hr hd h hs hk
    cases rest with
    | nil => exact wpAny_done' (all_ready' hl fun i hi => (hd i hi).2 rfl) fuel (hk g w a c h hs (Ext.refl _ _))
    | cons x r =>
      have h : eachK ops.size (x :: r) (fun y => evOps P T ops.toList [y.2] c fun c' => remK y.1 (x :: r) fun rest' => allK P T ops.size ops.toList n rest' c' K) (x :: r) := h
      generalize hrest : x :: r = rest at *
      obtain ⟨⟨y0, hy0, hy1⟩, hall⟩ := eachK_is h
      have hlen : 0 < rest.length := by rw [← hrest]; simp
      obtain ⟨fuel, rfl⟩ : ∃ k, fuel = k + 1 := ⟨fuel - 1, by omega⟩
      have hin : ∀ y ∈ rest, y.1 < ops.size ∧ listed.getD y.1 true = false := fun y hy => by
        have h1 : y.1 < ops.size := (Array.getElem?_eq_some_iff.1 (hr y hy)).1
        refine ⟨h1, ?_⟩
        rw [getD_ft (by omega)]
        cases hq : listed.getD y.1 false with
        | false => rfl
        | true =>
          have := List.all_eq_true.1 ((hd y.1 h1).1 hq) y hy
          simp at this
      have hready : ∀ y ∈ rest, readyB ops.size rest y.2 = true → y.1 ∈ Region.ready .any ops listed := fun y hy hb => by
        refine mem_ready.2 ⟨(hin y hy).2, y.2, hr y hy, fun e he hbn => ?_⟩
        have := List.all_eq_true.1 hb e (by simpa using he)
        rw [hbn] at this
        simp only [Bool.not_true, Bool.false_or, Bool.and_eq_true, decide_eq_true_eq] at this
        exact (hd e.on this.1).2 this.2
      refine ⟨fun hnil => ?_, fun i hi => ?_⟩
      · have := hready y0 hy0 hy1
        rw [hnil] at this; cases this
      · obtain ⟨h1, o, h2, h3⟩ := mem_ready.1 hi
        have hil : i < ops.size := (Array.getElem?_eq_some_iff.1 h2).1
        have hmem : (i, o) ∈ rest := by
          have h1' : listed.getD i false = false := by rw [← getD_ft (by omega)]; exact h1
          have h4 : doneB rest i ≠ true := fun hq => by rw [(hd i hil).2 hq] at h1'; cases h1'
          have h5 : ∃ y ∈ rest, y.1 = i := by
            rcases Classical.em (∃ y ∈ rest, y.1 = i) with h | h
            · exact h
            · exact absurd (List.all_eq_true.2 fun y hy => by simpa using fun e => h ⟨y, hy, e⟩) h4
          obtain ⟨⟨j, p⟩, h6, rfl⟩ := h5
          have := hr _ h6
          rw [h2] at this
          cases this
          exact h6
        have hb : readyB ops.size rest o = true := by
          refine List.all_eq_true.2 fun e he => ?_
          cases hbn : Region.binds .any e with
          | false => rfl
          | true =>
            have h4 := h3 e (by simpa using he) hbn
            have h5 : e.on < ops.size := by
              rcases Nat.lt_or_ge e.on ops.size with h | h
              · exact h
              · rw [Array.getD_eq_getD_getElem?, Array.getElem?_eq_none (by omega)] at h4; cases h4
            simp only [Bool.not_true, Bool.false_or, Bool.and_eq_true, decide_eq_true_eq]
            exact ⟨h5, (hd e.on h5).1 h4⟩
        have hgo := hall (i, o) hmem hb
        have hw := evOps_sound TO ops.toList [o] g w a c _ hgo hs (Q := thenQ (wpAny P .any ops Q fuel (listed.setIfInBounds i true)) Q) fun g' w' a' c' hK' hs' hx' => by
          rw [remK_iff] at hK'
          show wpAny P .any ops Q fuel (listed.setIfInBounds i true) a' w'
          have hil' : i < listed.size := by omega
          refine ih _ fuel _ g' w' a' c' ?_ (by simp [hl]) (fun z hz => hr z (List.mem_filter.1 hz).1) (fun j hj => ?_) hK' hs' (fun g2 w2 a2 c2 q1 q2 q3 => hk g2 w2 a2 c2 q1 q2 (hx'.trans q3))
          · have : (rest.filter fun x => !(decide (x.1 = i))).length < rest.length := by
              refine List.length_filter_lt_length_iff_exists.2 ⟨(i, o), hmem, by simp⟩
            have h8 : rest.length ≤ fuel + 1 := hf
            show (rest.filter fun x => !(decide (x.1 = i))).length ≤ fuel
            omega
          · rw [getD_set hil', hd j hj]
            unfold doneB
            constructor
            · rintro (rfl | h)
              · refine List.all_eq_true.2 fun z hz => ?_
                exact (List.mem_filter.1 hz).2
              · refine List.all_eq_true.2 fun z hz => List.all_eq_true.1 h z (List.mem_filter.1 hz).1
            · intro h
              by_cases hji : j = i
              · exact .inl hji
              · refine .inr (List.all_eq_true.2 fun z hz => ?_)
                by_cases hzi : z.1 = i
                · simp only [Bool.not_eq_true', decide_eq_false_iff_not]; intro e; exact hji (e.symm.trans hzi)
                · exact List.all_eq_true.1 h z (List.mem_filter.2 ⟨hz, by simpa using hzi⟩)
        have e1 : ops.toList.toArray = ops := by simp
        rw [e1] at hw
        unfold wpOp
        rw [h2]
        simp only [wpList] at hw
        show if Region.wanted o (yielded ops a.tmps) = true then _ else _
        split
        · rename_i hwn
          rw [if_pos hwn] at hw
          rcases hw with hw | ⟨q1, q2⟩
          · exact .inl (wp_q' thenQ_q hw)
          · exact .inr ⟨q1, letsOut_q' thenQ_q q2⟩
        · rename_i hwn
          rw [if_neg hwn] at hw
          exact hw
theorem draw_all {P : Program} {T : TypeId → TR} (TO : TOk P T) (hm : P.follows .mixedOrders = true) {ops : Array Oper} (n : Nat) (hn : ops.size = n) {c : Cf} {K : Cf → Prop} (h : allK P T n ops.toList n (ops.toList.zipIdx.map fun x => (x.2, x.1)) c K) : DrawOk P T ops c K := by
  subst hn
  refine ⟨fun g a w st id Q hQ => wp_region_any hm ?_⟩
  have cx : Cx (fun _ => False) g w g { w with drawn := w.drawn + 1 } := ⟨⟨fun _ _ _ h1 h2 => ⟨h1, h2⟩, Nat.le_refl _, fun _ _ => rfl⟩, Nat.le_refl _, fun _ _ => rfl, Nat.le_refl _, fun _ _ _ => ⟨rfl, fun _ _ _ _ _ => ⟨rfl, rfl⟩⟩⟩
  have ext : Ext g w g { w with drawn := w.drawn + 1 } := ⟨fun _ _ _ h1 h2 => ⟨h1, h2⟩, Nat.le_refl _, fun _ _ => rfl, fun _ _ _ => ⟨rfl, rfl⟩, Nat.le_refl _, rfl, rfl, rfl⟩
  refine all_sound TO ops.size _ ops.size _ g _ a c (by simp) (by simp) (fun x hx => ?_) (fun i hi => ?_) h (St.mk' (Rel.new st.rel cx (fun k _ => ⟨rfl, rfl⟩) rfl st.rel.ht) (st.env.keep cx)) (fun g' w' a' c' q1 q2 q3 => hQ g' w' a' c' q1 q2 (ext.trans q3))
  · obtain ⟨⟨p, i⟩, h1, rfl⟩ := List.mem_map.1 hx
    have := List.mk_mem_zipIdx_iff_getElem?.1 h1
    simpa using this
  · have e1 : (Array.replicate ops.size false).getD i false = false := by
      simp [Array.getElem?_replicate]
      split <;> rfl
    have e2 : doneB (ops.toList.zipIdx.map fun x => (x.2, x.1)) i = false := by
      unfold doneB
      refine List.all_eq_false.2 ⟨(i, ops[i]), List.mem_map.2 ⟨(ops[i], i), List.mk_mem_zipIdx_iff_getElem?.2 (by simp [hi]), rfl⟩, by simp⟩
    rw [e1, e2]
end Go.Proofs.YtofhakbmmgpgdaaDoor
