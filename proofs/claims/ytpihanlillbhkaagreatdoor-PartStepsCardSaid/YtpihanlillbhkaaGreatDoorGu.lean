/- One text out of several: Dfs, Dft, Lst, Prm, Lsn, Din. -/
import Derived.Test.YtpihanlillbhkaaGreatDoorGc
import Derived.Test.YtpihanlillbhkaaGreatDoorMapA

section
/- A region that draws its order, few operations: all its orders, each run for itself. -/
set_option maxRecDepth 100000
namespace Go.Proofs.YtpihanlillbhkaaGreatDoor
open Go Go.RowKit Go.Proofs

theorem letsOut_q' {Q Q' : Exit → Act → World → Prop} (hq : ∀ ex a w, ex ≠ .normal → Q' ex a w → Q ex a w) (h : LetsOut Q') : LetsOut Q := by
  obtain ⟨a, w, h⟩ := h
  exact ⟨a, w, hq _ _ _ (fun e => by cases e) h⟩
theorem wp_q' {P : Program} {o : Oper} {a : Act} {w : World} {K : Act → World → Prop} {Q Q' : Exit → Act → World → Prop} (hq : ∀ ex a w, ex ≠ .normal → Q' ex a w → Q ex a w) (hh : o.wp P a w K Q') : o.wp P a w K Q := by
  unfold Oper.wp at *
  generalize (execOp a.eval o).run P w = r at *
  cases r with
  | ok n w' =>
    cases n <;> simp only [Oper.upon] at hh ⊢ <;>
      first
        | exact hh
        | exact Calls.mono hh (fun e w'' he => by
            cases e
            · exact he
            · exact hq _ _ _ (fun e => by cases e) he
            · exact letsOut_q' hq he)
  | halt x w' => cases x <;> simp only [Oper.upon] at hh ⊢ <;> first | exact hq _ _ _ (fun e => by cases e) hh | exact hh
theorem wpAny_done' {P : Program} {ops : Array Oper} {Q : Exit → Act → World → Prop} {listed : Array Bool} (h : Region.ready .any ops listed = []) (fuel : Nat) {a : Act} {w : World} (hq : Q .normal a w) : wpAny P .any ops Q fuel listed a w := by
  cases fuel with
  | zero => exact ⟨h, hq⟩
  | succ fuel => exact ⟨fun _ => hq, fun i hi => by rw [h] at hi; cases hi⟩
theorem all_ready' {ops : Array Oper} {listed : Array Bool} (hl : listed.size = ops.size) (h : ∀ i, i < ops.size → listed.getD i false = true) : Region.ready .any ops listed = [] := by
  apply List.eq_nil_iff_forall_not_mem.2
  intro j hj
  obtain ⟨h1, o, h2, _⟩ := mem_ready.1 hj
  have hjl : j < ops.size := (Array.getElem?_eq_some_iff.1 h2).1
  rw [getD_ft (by omega), h j hjl] at h1; cases h1
def doneB (rest : List (Nat × Oper)) (i : Nat) : Bool := rest.all fun x => !(decide (x.1 = i))
def readyB (N : Nat) (rest : List (Nat × Oper)) (o : Oper) : Bool := o.after.toList.all fun e => !Region.binds .any e || (decide (e.on < N) && doneB rest e.on)
def remK (i : Nat) : List (Nat × Oper) → (List (Nat × Oper) → Prop) → Prop
  | [], K => K []
  | x :: r, K => match decide (x.1 = i) with | true => remK i r K | false => remK i r fun l => K (x :: l)
theorem remK_iff (i : Nat) : ∀ (l : List (Nat × Oper)) (K : List (Nat × Oper) → Prop), remK i l K ↔ K (l.filter fun x => !(decide (x.1 = i)))
  | [], K => Iff.rfl
  | x :: r, K => by
    unfold remK
    cases h : decide (x.1 = i) with
    | true => simp only [remK_iff i r]; rw [List.filter_cons, h]; simp
    | false => simp only [remK_iff i r]; rw [List.filter_cons, h]; simp
/-- what is ready, one after the other; something must be -/
def eachK (N : Nat) (whole : List (Nat × Oper)) (F : Nat × Oper → Prop) : List (Nat × Oper) → Prop
  | [] => False
  | y :: l => match readyB N whole y.2, l.any fun z => readyB N whole z.2 with
    | true, true => F y ∧ eachK N whole F l
    | true, false => F y
    | false, true => eachK N whole F l
    | false, false => False
theorem eachK_is {N : Nat} {whole : List (Nat × Oper)} {F : Nat × Oper → Prop} : ∀ {l : List (Nat × Oper)}, eachK N whole F l → (∃ y ∈ l, readyB N whole y.2 = true) ∧ ∀ y ∈ l, readyB N whole y.2 = true → F y
  | [], h => h.elim
  | y :: l, h => by
    have none_ : (l.any fun z => readyB N whole z.2) = false → ∀ z ∈ l, readyB N whole z.2 = true → F z := fun h z hz hr => by
      have := List.any_eq_false.1 h z hz
      exact absurd hr this
    unfold eachK at h
    split at h
    · rename_i h1 h2
      obtain ⟨q1, q2⟩ := eachK_is h.2
      exact ⟨⟨y, List.mem_cons_self, h1⟩, fun z hz hr => by
        rcases List.mem_cons.1 hz with rfl | hz
        · exact h.1
        · exact q2 z hz hr⟩
    · rename_i h1 h2
      exact ⟨⟨y, List.mem_cons_self, h1⟩, fun z hz hr => by
        rcases List.mem_cons.1 hz with rfl | hz
        · exact h
        · exact none_ h2 z hz hr⟩
    · rename_i h1 h2
      obtain ⟨⟨q0, q1, q2⟩, q3⟩ := eachK_is h
      exact ⟨⟨q0, List.mem_cons_of_mem _ q1, q2⟩, fun z hz hr => by
        rcases List.mem_cons.1 hz with rfl | hz
        · rw [h1] at hr; cases hr
        · exact q3 z hz hr⟩
    · exact h.elim
def allK (P : Program) (T : TypeId → TR) (N : Nat) (all : List Oper) : Nat → List (Nat × Oper) → Cf → (Cf → Prop) → Prop
  | 0, rest, c, K => (match rest with | [] => K c | _ :: _ => False)
  | n + 1, rest, c, K => (match rest with
    | [] => K c
    | x :: r => eachK N (x :: r) (fun y => evOps P T all [y.2] c fun c' => remK y.1 (x :: r) fun rest' => allK P T N all n rest' c' K) (x :: r))
/-- behind an operation: what comes then -/
def thenQ (R : Act → World → Prop) (Q : Exit → Act → World → Prop) : Exit → Act → World → Prop
  | .normal, a, w => R a w
  | e, a, w => Q e a w
theorem thenQ_q {R : Act → World → Prop} {Q : Exit → Act → World → Prop} : ∀ ex a w, ex ≠ .normal → thenQ R Q ex a w → Q ex a w := fun ex a w hne h => by
  cases ex <;> first | exact absurd rfl hne | exact h
theorem all_sound {P : Program} {T : TypeId → TR} (TO : TOk P T) {ops : Array Oper} {Q : Exit → Act → World → Prop} {K : Cf → Prop} : ∀ (n : Nat) (rest : List (Nat × Oper)) (fuel : Nat) (listed : Array Bool) (g : Gh) (w : World) (a : Act) (c : Cf),
    rest.length ≤ fuel → listed.size = ops.size → (∀ x ∈ rest, ops[x.1]? = some x.2) → (∀ i, i < ops.size → (listed.getD i false = true ↔ doneB rest i = true)) → allK P T ops.size ops.toList n rest c K → St T g w a c →
    (∀ g' w' a' c', K c' → St T g' w' a' c' → Ext g w g' w' → Q .normal a' w') → wpAny P .any ops Q fuel listed a w := by
  intro n
  induction n with
  | zero =>
    intro rest fuel listed g w a c hf hl hr hd h hs hk
    cases rest with
    | nil => exact wpAny_done' (all_ready' hl fun i hi => (hd i hi).2 rfl) fuel (hk g w a c h hs (Ext.refl _ _))
    | cons x r => exact h.elim
  | succ n ih =>
    intro rest fuel listed g w a c hf hl hr hd h hs hk
    cases rest with
    | nil => exact wpAny_done' (all_ready' hl fun i hi => (hd i hi).2 rfl) fuel (hk g w a c h hs (Ext.refl _ _))
    | cons x r =>
      have h : eachK ops.size (x :: r) (fun y => evOps P T ops.toList [y.2] c fun c' => remK y.1 (x :: r) fun rest' => allK P T ops.size ops.toList n rest' c' K) (x :: r) := h
      generalize hrest : x :: r = rest at *
      obtain ⟨⟨y0, hy0, hy1⟩, hall⟩ := eachK_is h
      have hlen : 0 < rest.length := by rw [← hrest]; simp
      obtain ⟨fuel, rfl⟩ : ∃ k, fuel = k + 1 := ⟨fuel - 1, by omega⟩
      have hin : ∀ y ∈ rest, y.1 < ops.size ∧ listed.getD y.1 true = false := fun y hy => by
        have h1 : y.1 < ops.size := (Array.getElem?_eq_some_iff.1 (hr y hy)).1
        refine ⟨h1, ?_⟩
        rw [getD_ft (by omega)]
        cases hq : listed.getD y.1 false with
        | false => rfl
        | true =>
          have := List.all_eq_true.1 ((hd y.1 h1).1 hq) y hy
          simp at this
      have hready : ∀ y ∈ rest, readyB ops.size rest y.2 = true → y.1 ∈ Region.ready .any ops listed := fun y hy hb => by
        refine mem_ready.2 ⟨(hin y hy).2, y.2, hr y hy, fun e he hbn => ?_⟩
        have := List.all_eq_true.1 hb e (by simpa using he)
        rw [hbn] at this
        simp only [Bool.not_true, Bool.false_or, Bool.and_eq_true, decide_eq_true_eq] at this
        exact (hd e.on this.1).2 this.2
      refine ⟨fun hnil => ?_, fun i hi => ?_⟩
      · have := hready y0 hy0 hy1
        rw [hnil] at this; cases this
      · obtain ⟨h1, o, h2, h3⟩ := mem_ready.1 hi
        have hil : i < ops.size := (Array.getElem?_eq_some_iff.1 h2).1
        have hmem : (i, o) ∈ rest := by
          have h1' : listed.getD i false = false := by rw [← getD_ft (by omega)]; exact h1
          have h4 : doneB rest i ≠ true := fun hq => by rw [(hd i hil).2 hq] at h1'; cases h1'
          have h5 : ∃ y ∈ rest, y.1 = i := by
            rcases Classical.em (∃ y ∈ rest, y.1 = i) with h | h
            · exact h
            · exact absurd (List.all_eq_true.2 fun y hy => by simpa using fun e => h ⟨y, hy, e⟩) h4
          obtain ⟨⟨j, p⟩, h6, rfl⟩ := h5
          have := hr _ h6
          rw [h2] at this
          cases this
          exact h6
        have hb : readyB ops.size rest o = true := by
          refine List.all_eq_true.2 fun e he => ?_
          cases hbn : Region.binds .any e with
          | false => rfl
          | true =>
            have h4 := h3 e (by simpa using he) hbn
            have h5 : e.on < ops.size := by
              rcases Nat.lt_or_ge e.on ops.size with h | h
              · exact h
              · rw [Array.getD_eq_getD_getElem?, Array.getElem?_eq_none (by omega)] at h4; cases h4
            simp only [Bool.not_true, Bool.false_or, Bool.and_eq_true, decide_eq_true_eq]
            exact ⟨h5, (hd e.on h5).1 h4⟩
        have hgo := hall (i, o) hmem hb
        have hw := evOps_sound TO ops.toList [o] g w a c _ hgo hs (Q := thenQ (wpAny P .any ops Q fuel (listed.setIfInBounds i true)) Q) fun g' w' a' c' hK' hs' hx' => by
          rw [remK_iff] at hK'
          show wpAny P .any ops Q fuel (listed.setIfInBounds i true) a' w'
          have hil' : i < listed.size := by omega
          refine ih _ fuel _ g' w' a' c' ?_ (by simp [hl]) (fun z hz => hr z (List.mem_filter.1 hz).1) (fun j hj => ?_) hK' hs' (fun g2 w2 a2 c2 q1 q2 q3 => hk g2 w2 a2 c2 q1 q2 (hx'.trans q3))
          · have : (rest.filter fun x => !(decide (x.1 = i))).length < rest.length := by
              refine List.length_filter_lt_length_iff_exists.2 ⟨(i, o), hmem, by simp⟩
            have h8 : rest.length ≤ fuel + 1 := hf
            show (rest.filter fun x => !(decide (x.1 = i))).length ≤ fuel
            omega
          · rw [getD_set hil', hd j hj]
            unfold doneB
            constructor
            · rintro (rfl | h)
              · refine List.all_eq_true.2 fun z hz => ?_
                exact (List.mem_filter.1 hz).2
              · refine List.all_eq_true.2 fun z hz => List.all_eq_true.1 h z (List.mem_filter.1 hz).1
            · intro h
              by_cases hji : j = i
              · exact .inl hji
              · refine .inr (List.all_eq_true.2 fun z hz => ?_)
                by_cases hzi : z.1 = i
                · simp only [Bool.not_eq_true', decide_eq_false_iff_not]; intro e; exact hji (e.symm.trans hzi)
                · exact List.all_eq_true.1 h z (List.mem_filter.2 ⟨hz, by simpa using hzi⟩)
        have e1 : ops.toList.toArray = ops := by simp
        rw [e1] at hw
        unfold wpOp
        rw [h2]
        simp only [wpList] at hw
        show if Region.wanted o (yielded ops a.tmps) = true then _ else _
        split
        · rename_i hwn
          rw [if_pos hwn] at hw
          rcases hw with hw | ⟨q1, q2⟩
          · exact .inl (wp_q' thenQ_q hw)
          · exact .inr ⟨q1, letsOut_q' thenQ_q q2⟩
        · rename_i hwn
          rw [if_neg hwn] at hw
          exact hw
theorem draw_all {P : Program} {T : TypeId → TR} (TO : TOk P T) (hm : P.follows .mixedOrders = true) {ops : Array Oper} (n : Nat) (hn : ops.size = n) {c : Cf} {K : Cf → Prop} (h : allK P T n ops.toList n (ops.toList.zipIdx.map fun x => (x.2, x.1)) c K) : DrawOk P T ops c K := by
  subst hn
  refine ⟨fun g a w st id Q hQ => wp_region_any hm ?_⟩
  have cx : Cx (fun _ => False) g w g { w with drawn := w.drawn + 1 } := ⟨⟨fun _ _ _ h1 h2 => ⟨h1, h2⟩, Nat.le_refl _, fun _ _ => rfl⟩, Nat.le_refl _, fun _ _ => rfl, Nat.le_refl _, fun _ _ _ => ⟨rfl, fun _ _ _ _ _ => ⟨rfl, rfl⟩⟩⟩
  have ext : Ext g w g { w with drawn := w.drawn + 1 } := ⟨fun _ _ _ h1 h2 => ⟨h1, h2⟩, Nat.le_refl _, fun _ _ => rfl, fun _ _ _ => ⟨rfl, rfl⟩, Nat.le_refl _, rfl, rfl, rfl⟩
  refine all_sound TO ops.size _ ops.size _ g _ a c (by simp) (by simp) (fun x hx => ?_) (fun i hi => ?_) h (St.mk' (Rel.new st.rel cx (fun k _ => ⟨rfl, rfl⟩) rfl st.rel.ht) (st.env.keep cx)) (fun g' w' a' c' q1 q2 q3 => hQ g' w' a' c' q1 q2 (ext.trans q3))
  · obtain ⟨⟨p, i⟩, h1, rfl⟩ := List.mem_map.1 hx
    have := List.mk_mem_zipIdx_iff_getElem?.1 h1
    simpa using this
  · have e1 : (Array.replicate ops.size false).getD i false = false := by
      simp [Array.getElem?_replicate]
      split <;> rfl
    have e2 : doneB (ops.toList.zipIdx.map fun x => (x.2, x.1)) i = false := by
      unfold doneB
      refine List.all_eq_false.2 ⟨(i, ops[i]), List.mem_map.2 ⟨(ops[i], i), List.mk_mem_zipIdx_iff_getElem?.2 (by simp [hi]), rfl⟩, by simp⟩
    rw [e1, e2]
end Go.Proofs.YtpihanlillbhkaaGreatDoor
end

section
/- A region that draws its order, few operations: all its orders; what hangs on no world (an address of a field, a copy) is taken first. -/
set_option maxRecDepth 100000
set_option linter.unusedSimpArgs false
set_option linter.unusedVariables false
namespace Go.Proofs.YtpihanlillbhkaaGreatDoor
open Go Go.RowKit Go.Proofs

def freeOp : Op → Bool
  | .fieldAddr .. => true
  | .move _ => true
  | .assign _ => true
  | _ => false
theorem free_sound {P : Program} {T : TypeId → TR} {g : Gh} {w : World} {a : Act} {env : List AV} {L : List LB} {G : Glob} {o : Oper} (TO : TOk P T) (he : EnvR T g w env a) (hf : freeOp o.op = true) (K : AV → Prop) (h : qOp T L G env o.op K) :
    ∃ v u, K v ∧ Cz T g w v u ∧ ∀ w', (execOp a.eval o).run P w' = .ok (.value u) w' := by
  cases hop : o.op <;> rw [hop] at hf h <;> first | (simp [freeOp] at hf; done) | skip
  case move x =>
    obtain ⟨v, h1, h2, _⟩ := opd_sound he x K h
    exact ⟨v, _, h1, h2, fun w' => by simp [execOp, hop]⟩
  case assign x =>
    obtain ⟨v, h1, h2, _⟩ := opd_sound he x K h
    exact ⟨v, _, h1, h2, fun w' => by simp [execOp, hop]⟩
  case fieldAddr t x i =>
    unfold qOp at h
    cases hd : (T t).desc <;> simp only [hd] at h <;> first | exact h.elim | skip
    rename_i fs
    have hv := und TO hd (by simp [kindD])
    cases hf : fs[i]? with
    | none => simp only [hf] at h
    | some f =>
      simp only [hf] at h
      cases hk : kindD (T f.type).desc with
      | none => simp only [hk] at h
      | some kb =>
        cases hc : (T f.type).cells with
        | zero => simp only [hk, hc] at h
        | succ n =>
          simp only [hk, hc] at h
          obtain ⟨p, h1, h2, h3⟩ := opd_sound he x _ h
          obtain ⟨z, ad, g1, g2, g3, g4⟩ := ptr_sound h2 _ _ h1
          refine ⟨z, _, g1, g3, fun w' => ?_⟩
          obtain ⟨_, i', hi, hs, _⟩ := TO f.type (by rw [hk]; simp)
          simp only [execOp, hop, g2]
          exact run_v (by simp [Instr.fieldAt, run_underlying hv, hf, Instr.sureAddr, fieldPlace, sizeOf, typeInfo, hi, hs, hc])
theorem freeEv {P : Program} {T : TypeId → TR} {env : List AV} {L : List LB} {nl nt : Nat} {G : Glob} {op : Op} {K : AV → Cf → Prop} (hf : freeOp op = true) (h : evOp P T op ⟨env, L, nl, nt, G⟩ K) : qOp T L G env op fun v => K v ⟨env, L, nl, nt, G⟩ := by
  cases op <;> first | exact h | (simp [freeOp] at hf; done)
def takesB (ops : Array Oper) (ts : List Nat) : Bool := ts.all fun i => match ops[i]? with
  | some oi => freeOp oi.op && oi.guard.isNone && (List.range ops.size).all fun j => j == i || match ops[j]? with
    | some oj => (oj.after.any fun e => Region.binds .any e && e.on == i) || oi.apart ops oj
    | none => true
  | none => false
theorem takes_spec {ops : Array Oper} {ts : List Nat} (h : takesB ops ts = true) {i : Nat} {o : Oper} (hi : i ∈ ts) (ho : ops[i]? = some o) : freeOp o.op = true ∧ o.guard = none ∧ ∀ listed : Array Bool, (∀ j oj, ops[j]? = some oj → listed.getD j true = false → True) → Region.free .any ops listed i = true := by
  have h1 := List.all_eq_true.1 h i hi
  rw [ho] at h1
  simp only [Bool.and_eq_true] at h1
  obtain ⟨⟨h2, h3⟩, h4⟩ := h1
  refine ⟨h2, by simpa using h3, fun listed _ => ?_⟩
  unfold Region.free
  rw [ho]
  simp only
  refine List.all_eq_true.2 fun j hj => ?_
  have h5 := List.all_eq_true.1 h4 j hj
  simp only [Bool.or_eq_true] at h5 ⊢
  rcases h5 with h5 | h5
  · exact .inl (.inl h5)
  · exact .inr h5
def tkK (N : Nat) (ts : List Nat) (whole : List (Nat × Oper)) (F : Nat × Oper → Prop) (E : Prop) : List (Nat × Oper) → Prop
  | [] => E
  | y :: l => match ts.elem y.1, readyB N whole y.2 with
    | true, true => F y
    | true, false => tkK N ts whole F E l
    | false, true => tkK N ts whole F E l
    | false, false => tkK N ts whole F E l
theorem tkK_is {N : Nat} {ts : List Nat} {whole : List (Nat × Oper)} {F : Nat × Oper → Prop} {E : Prop} : ∀ {l : List (Nat × Oper)}, tkK N ts whole F E l → (∃ y ∈ l, y.1 ∈ ts ∧ readyB N whole y.2 = true ∧ F y) ∨ E
  | [], h => .inr h
  | y :: l, h => by
    have up : tkK N ts whole F E l → (∃ z ∈ y :: l, z.1 ∈ ts ∧ readyB N whole z.2 = true ∧ F z) ∨ E := fun h => by
      rcases tkK_is h with ⟨z, h1, h2⟩ | h
      · exact .inl ⟨z, List.mem_cons_of_mem _ h1, h2⟩
      · exact .inr h
    unfold tkK at h
    split at h
    · rename_i h1 h2
      exact .inl ⟨y, List.mem_cons_self, by simpa using h1, h2, h⟩
    · exact up h
    · exact up h
    · exact up h
def allT (P : Program) (T : TypeId → TR) (N : Nat) (all : List Oper) (ts : List Nat) : Nat → List (Nat × Oper) → Cf → (Cf → Prop) → Prop
  | 0, rest, c, K => (match rest with | [] => K c | _ :: _ => False)
  | n + 1, rest, c, K => (match rest with
    | [] => K c
    | x :: r => tkK N ts (x :: r) (fun y => evOps P T all [y.2] c fun c' => remK y.1 (x :: r) fun rest' => allT P T N all ts n rest' c' K)
        (eachK N (x :: r) (fun y => evOps P T all [y.2] c fun c' => remK y.1 (x :: r) fun rest' => allT P T N all ts n rest' c' K) (x :: r)) (x :: r))
theorem wpAny_q' {P : Program} {ops : Array Oper} {Q Q' : Exit → Act → World → Prop} (hq : ∀ ex a w, Q' ex a w → Q ex a w) : ∀ (fuel : Nat) (listed : Array Bool) (a : Act) (w : World), wpAny P .any ops Q' fuel listed a w → wpAny P .any ops Q fuel listed a w
  | 0, _, _, _, h => ⟨h.1, hq _ _ _ h.2⟩
  | fuel + 1, listed, a, w, h => ⟨fun h0 => hq _ _ _ (h.1 h0), fun i hi => by
      have h1 := wpOp_mono (fun a' w' h' => wpAny_q' hq fuel (listed.setIfInBounds i true) a' w' h') (h.2 i hi)
      unfold wpOp at h1 ⊢
      split at h1
      · exact h1
      · split
        · rename_i hw
          rw [if_pos hw] at h1
          rcases h1 with h1 | ⟨q1, q2⟩
          · exact .inl (wp_q' (fun ex a w _ => hq ex a w) h1)
          · exact .inr ⟨q1, letsOut_q' (fun ex a w _ => hq ex a w) q2⟩
        · rename_i hw
          rw [if_neg hw] at h1
          exact h1⟩
theorem allT_sound {P : Program} {T : TypeId → TR} (TO : TOk P T) {ops : Array Oper} {Q : Exit → Act → World → Prop} {K : Cf → Prop} (ts : List Nat) (hts : takesB ops ts = true) (hsel : Region.noSelect ops = true) (hQn : ∀ c a w, ¬ Q (.panic c) a w) : ∀ (n : Nat) (rest : List (Nat × Oper)) (fuel : Nat) (listed : Array Bool) (g : Gh) (w : World) (a : Act) (c : Cf),
    rest.length ≤ fuel → listed.size = ops.size → (∀ x ∈ rest, ops[x.1]? = some x.2) → (∀ i, i < ops.size → (listed.getD i false = true ↔ doneB rest i = true)) → allT P T ops.size ops.toList ts n rest c K → St T g w a c →
    (∀ g' w' a' c', K c' → St T g' w' a' c' → Ext g w g' w' → Q .normal a' w') → wpAny P .any ops Q fuel listed a w := by
  intro n
  induction n with
  | zero =>
    intro rest fuel listed g w a c hf hl hr hd h hs hk
    cases rest with
    | nil => exact wpAny_done' (all_ready' hl fun i hi => (hd i hi).2 rfl) fuel (hk g w a c h hs (Ext.refl _ _))
    | cons x r => exact h.elim
  | succ n ih =>
    intro rest fuel listed g w a c hf hl hr hd h hs hk
    cases rest with
    | nil => exact wpAny_done' (all_ready' hl fun i hi => (hd i hi).2 rfl) fuel (hk g w a c h hs (Ext.refl _ _))
    | cons x r =>
      have h : tkK ops.size ts (x :: r) (fun y => evOps P T ops.toList [y.2] c fun c' => remK y.1 (x :: r) fun rest' => allT P T ops.size ops.toList ts n rest' c' K) (eachK ops.size (x :: r) (fun y => evOps P T ops.toList [y.2] c fun c' => remK y.1 (x :: r) fun rest' => allT P T ops.size ops.toList ts n rest' c' K) (x :: r)) (x :: r) := h
      generalize hrest : x :: r = rest at *
      have hlen : 0 < rest.length := by rw [← hrest]; simp
      obtain ⟨fuel, rfl⟩ : ∃ k, fuel = k + 1 := ⟨fuel - 1, by omega⟩
      have hin : ∀ y ∈ rest, y.1 < ops.size ∧ listed.getD y.1 true = false := fun y hy => by
        have h1 : y.1 < ops.size := (Array.getElem?_eq_some_iff.1 (hr y hy)).1
        refine ⟨h1, ?_⟩
        rw [getD_ft (by omega)]
        cases hq : listed.getD y.1 false with
        | false => rfl
        | true =>
          have := List.all_eq_true.1 ((hd y.1 h1).1 hq) y hy
          simp at this
      have hready : ∀ y ∈ rest, readyB ops.size rest y.2 = true → y.1 ∈ Region.ready .any ops listed := fun y hy hb => by
        refine mem_ready.2 ⟨(hin y hy).2, y.2, hr y hy, fun e he hbn => ?_⟩
        have := List.all_eq_true.1 hb e (by simpa using he)
        rw [hbn] at this
        simp only [Bool.not_true, Bool.false_or, Bool.and_eq_true, decide_eq_true_eq] at this
        exact (hd e.on this.1).2 this.2
      have next : ∀ (i : Nat) (o : Oper) (g' : Gh) (w' : World) (a' : Act) (c' : Cf), (i, o) ∈ rest → (remK i rest fun rest' => allT P T ops.size ops.toList ts n rest' c' K) → St T g' w' a' c' → Ext g w g' w' → wpAny P .any ops Q fuel (listed.setIfInBounds i true) a' w' := fun i o g' w' a' c' hmem hK' hs' hx' => by
        rw [remK_iff] at hK'
        have hil : i < ops.size := (hin _ hmem).1
        have hil' : i < listed.size := by omega
        refine ih _ fuel _ g' w' a' c' ?_ (by simp [hl]) (fun z hz => hr z (List.mem_filter.1 hz).1) (fun j hj => ?_) hK' hs' (fun g2 w2 a2 c2 q1 q2 q3 => hk g2 w2 a2 c2 q1 q2 (hx'.trans q3))
        · have : (rest.filter fun x => !(decide (x.1 = i))).length < rest.length := by
            refine List.length_filter_lt_length_iff_exists.2 ⟨(i, o), hmem, by simp⟩
          have h8 : rest.length ≤ fuel + 1 := hf
          show (rest.filter fun x => !(decide (x.1 = i))).length ≤ fuel
          omega
        · rw [getD_set hil', hd j hj]
          unfold doneB
          constructor
          · rintro (rfl | h)
            · refine List.all_eq_true.2 fun z hz => ?_
              exact (List.mem_filter.1 hz).2
            · refine List.all_eq_true.2 fun z hz => List.all_eq_true.1 h z (List.mem_filter.1 hz).1
          · intro h
            by_cases hji : j = i
            · exact .inl hji
            · refine .inr (List.all_eq_true.2 fun z hz => ?_)
              by_cases hzi : z.1 = i
              · simp only [Bool.not_eq_true', decide_eq_false_iff_not]; intro e; exact hji (e.symm.trans hzi)
              · exact List.all_eq_true.1 h z (List.mem_filter.2 ⟨hz, by simpa using hzi⟩)
      rcases tkK_is h with ⟨⟨i, o⟩, hmem, hti, hb, hgo⟩ | h
      · -- one that is taken first
        obtain ⟨t1, t2, t3⟩ := takes_spec hts hti (hr _ hmem)
        simp only at t1 t2 t3 hgo hb
        obtain ⟨dst, op, ty, pos, after, gd⟩ := o
        simp only at t1 t2
        subst t2
        simp only [evOps] at hgo
        obtain ⟨env, L, nl, nt, G⟩ := c
        obtain ⟨v, u, q1, q2, q3⟩ := free_sound TO hs.env (o := ⟨dst, op, ty, pos, after, none⟩) (L := L) (G := G) t1 _ (freeEv t1 hgo)
        obtain ⟨c', hK', hs'⟩ := put_sound hs q2 _ q1
        refine wpAny_take (i := i) (hr _ hmem) hsel (t3 listed fun j oj hj hun => ?_) (by simpa using hready _ hmem hb) (fun c a w hq => absurd hq (hQn _ _ _)) (.inl ⟨by simp [Region.wanted], q3⟩) (next i _ g w _ c' hmem hK' hs' (Ext.refl _ _))
        trivial
      obtain ⟨⟨y0, hy0, hy1⟩, hall⟩ := eachK_is h
      refine ⟨fun hnil => ?_, fun i hi => ?_⟩
      · have := hready y0 hy0 hy1
        rw [hnil] at this; cases this
      · obtain ⟨h1, o, h2, h3⟩ := mem_ready.1 hi
        have hil : i < ops.size := (Array.getElem?_eq_some_iff.1 h2).1
        have hmem : (i, o) ∈ rest := by
          have h1' : listed.getD i false = false := by rw [← getD_ft (by omega)]; exact h1
          have h4 : doneB rest i ≠ true := fun hq => by rw [(hd i hil).2 hq] at h1'; cases h1'
          have h5 : ∃ y ∈ rest, y.1 = i := by
            rcases Classical.em (∃ y ∈ rest, y.1 = i) with h | h
            · exact h
            · exact absurd (List.all_eq_true.2 fun y hy => by simpa using fun e => h ⟨y, hy, e⟩) h4
          obtain ⟨⟨j, p⟩, h6, rfl⟩ := h5
          have := hr _ h6
          rw [h2] at this
          cases this
          exact h6
        have hb : readyB ops.size rest o = true := by
          refine List.all_eq_true.2 fun e he => ?_
          cases hbn : Region.binds .any e with
          | false => rfl
          | true =>
            have h4 := h3 e (by simpa using he) hbn
            have h5 : e.on < ops.size := by
              rcases Nat.lt_or_ge e.on ops.size with h | h
              · exact h
              · rw [Array.getD_eq_getD_getElem?, Array.getElem?_eq_none (by omega)] at h4; cases h4
            simp only [Bool.not_true, Bool.false_or, Bool.and_eq_true, decide_eq_true_eq]
            exact ⟨h5, (hd e.on h5).1 h4⟩
        have hgo := hall (i, o) hmem hb
        have hw := evOps_sound TO ops.toList [o] g w a c _ hgo hs (Q := thenQ (wpAny P .any ops Q fuel (listed.setIfInBounds i true)) Q) fun g' w' a' c' hK' hs' hx' => by
          exact next i o g' w' a' c' hmem hK' hs' hx'
        have e1 : ops.toList.toArray = ops := by simp
        rw [e1] at hw
        unfold wpOp
        rw [h2]
        simp only [wpList] at hw
        show if Region.wanted o (yielded ops a.tmps) = true then _ else _
        split
        · rename_i hwn
          rw [if_pos hwn] at hw
          rcases hw with hw | ⟨q1, q2⟩
          · exact .inl (wp_q' thenQ_q hw)
          · exact .inr ⟨q1, letsOut_q' thenQ_q q2⟩
        · rename_i hwn
          rw [if_neg hwn] at hw
          exact hw
theorem draw_allT {P : Program} {T : TypeId → TR} (ts : List Nat) (TO : TOk P T) (hm : P.follows .mixedOrders = true) {ops : Array Oper} (n : Nat) (hn : ops.size = n) (hts : takesB ops ts = true) (hsel : Region.noSelect ops = true) {c : Cf} {K : Cf → Prop} (h : allT P T n ops.toList ts n (ops.toList.zipIdx.map fun x => (x.2, x.1)) c K) : DrawOk P T ops c K := by
  subst hn
  refine ⟨fun g a w st id Q hQ => wp_region_any hm ?_⟩
  have cx : Cx (fun _ => False) g w g { w with drawn := w.drawn + 1 } := ⟨⟨fun _ _ _ h1 h2 => ⟨h1, h2⟩, Nat.le_refl _, fun _ _ => rfl⟩, Nat.le_refl _, fun _ _ => rfl, Nat.le_refl _, fun _ _ _ => ⟨rfl, fun _ _ _ _ _ => ⟨rfl, rfl⟩⟩⟩
  have ext : Ext g w g { w with drawn := w.drawn + 1 } := ⟨fun _ _ _ h1 h2 => ⟨h1, h2⟩, Nat.le_refl _, fun _ _ => rfl, fun _ _ _ => ⟨rfl, rfl⟩, Nat.le_refl _, rfl, rfl, rfl⟩
  refine wpAny_q' (Q' := fun ex a' w' => ex = .normal ∧ Q .normal a' w') (fun ex a' w' hh => by obtain ⟨rfl, hh⟩ := hh; exact hh) _ _ _ _ ?_
  refine allT_sound TO ts hts hsel (fun c a w hh => by cases hh.1) ops.size _ ops.size _ g _ a c (by simp) (by simp) (fun x hx => ?_) (fun i hi => ?_) h (St.mk' (Rel.new st.rel cx (fun k _ => ⟨rfl, rfl⟩) rfl st.rel.ht) (st.env.keep cx)) (fun g' w' a' c' q1 q2 q3 => ⟨rfl, hQ g' w' a' c' q1 q2 (ext.trans q3)⟩)
  · obtain ⟨⟨p, i⟩, h1, rfl⟩ := List.mem_map.1 hx
    have := List.mk_mem_zipIdx_iff_getElem?.1 h1
    simpa using this
  · have e1 : (Array.replicate ops.size false).getD i false = false := by
      simp [Array.getElem?_replicate]
      split <;> rfl
    have e2 : doneB (ops.toList.zipIdx.map fun x => (x.2, x.1)) i = false := by
      unfold doneB
      refine List.all_eq_false.2 ⟨(i, ops[i]), List.mem_map.2 ⟨(ops[i], i), List.mk_mem_zipIdx_iff_getElem?.2 (by simp [hi]), rfl⟩, by simp⟩
    rw [e1, e2]
end Go.Proofs.YtpihanlillbhkaaGreatDoor
end

section
/- A region that draws its order, whose last operation hangs on all the others: the others in any order, then it. -/
set_option maxRecDepth 100000
namespace Go.Proofs.YtpihanlillbhkaaGreatDoor
open Go Go.RowKit Go.Proofs

theorem letsOut_q {Q Q' : Exit → Act → World → Prop} (hq : ∀ ex a w, ex ≠ .normal → Q' ex a w → Q ex a w) (h : LetsOut Q') : LetsOut Q := by
  obtain ⟨a, w, h⟩ := h
  exact ⟨a, w, hq _ _ _ (fun e => by cases e) h⟩
theorem wp_q {P : Program} {o : Oper} {a : Act} {w : World} {K : Act → World → Prop} {Q Q' : Exit → Act → World → Prop} (hq : ∀ ex a w, ex ≠ .normal → Q' ex a w → Q ex a w) (hh : o.wp P a w K Q') : o.wp P a w K Q := by
  unfold Oper.wp at *
  generalize (execOp a.eval o).run P w = r at *
  cases r with
  | ok n w' =>
    cases n <;> simp only [Oper.upon] at hh ⊢ <;>
      first
        | exact hh
        | exact Calls.mono hh (fun e w'' he => by
            cases e
            · exact he
            · exact hq _ _ _ (fun e => by cases e) he
            · exact letsOut_q hq he)
  | halt x w' => cases x <;> simp only [Oper.upon] at hh ⊢ <;> first | exact hq _ _ _ (fun e => by cases e) hh | exact hh
/-- every operation but the last has one behind it that waits for it -/
def lastB (ops : List Oper) : Bool :=
  (List.range (ops.length - 1)).all fun i => ops.zipIdx.any fun (p, j) => decide (i < j) && depB p i
theorem push_ready {ops : Array Oper} {o : Oper} {listed : Array Bool} (hl : listed.size = ops.size) (hf : ∀ (i : Nat) (p : Oper), ops[i]? = some p → ∀ e ∈ p.after, Region.binds .any e = true → e.on < i) {i : Nat} (hi : i < ops.size) :
    i ∈ Region.ready .any (ops.push o) (listed.push false) ↔ i ∈ Region.ready .any ops listed := by
  have hg : ∀ j, j < ops.size → ∀ d, (listed.push false).getD j d = listed.getD j d := fun j hj d => by
    simp [Array.getD, hl, hj, show j < ops.size + 1 by omega]
    exact Array.getElem_push_lt (by omega)
  have ho : (ops.push o)[i]? = ops[i]? := by simp [Array.getElem?_push, show i ≠ ops.size by omega]
  rw [mem_ready, mem_ready, hg i hi, ho]
  constructor
  · rintro ⟨h1, p, h2, h3⟩
    exact ⟨h1, p, h2, fun e he hb => by rw [← hg e.on (by have := hf i p h2 e he hb; omega)]; exact h3 e he hb⟩
  · rintro ⟨h1, p, h2, h3⟩
    exact ⟨h1, p, h2, fun e he hb => by rw [hg e.on (by have := hf i p h2 e he hb; omega)]; exact h3 e he hb⟩
/-- where the last one can be carried out, all others have been -/
theorem last_all {ops : Array Oper} {o : Oper} {listed : Array Bool} (hl : listed.size = ops.size) (hb : ∀ i, i < ops.size → ∃ j p, i < j ∧ (ops.push o)[j]? = some p ∧ depB p i = true)
    (hd : ∀ (i : Nat) (p : Oper), ops[i]? = some p → listed.getD i false = true → ∀ e ∈ p.after, Region.binds .any e = true → listed.getD e.on false = true)
    (ho : ∀ e ∈ o.after, Region.binds .any e = true → (listed.push false).getD e.on false = true) : ∀ (n i : Nat), ops.size - i ≤ n → i < ops.size → listed.getD i false = true
  | 0, i, h, hi => by omega
  | n + 1, i, h, hi => by
    obtain ⟨j, p, h1, h2, h3⟩ := hb i hi
    obtain ⟨e, he1, he2, he3⟩ := depB_iff.1 h3
    by_cases hj : j = ops.size
    · subst hj
      have : p = o := by simpa using h2.symm
      subst this
      have := ho e he1 he2
      rw [he3] at this
      have hlt : i < listed.size := by omega
      simpa [Array.getD, hlt, show i < listed.size + 1 by omega, Array.getElem_push_lt] using this
    · have hjl : j < ops.size := by
        have := (Array.getElem?_eq_some_iff.1 h2).1
        simp at this; omega
      have h2' : ops[j]? = some p := by simpa [Array.getElem?_push, hj] using h2
      have := hd j p h2' (last_all hl hb hd ho n j (by omega) hjl) e he1 he2
      rwa [he3] at this
def lastQ (P : Program) (ops : Array Oper) (o : Oper) (Q : Exit → Act → World → Prop) : Exit → Act → World → Prop
  | .normal, a, w => wpOp P (ops.push o) Q ops.size (Q .normal) a w
  | e, a, w => Q e a w
theorem lastQ_q {P : Program} {ops : Array Oper} {o : Oper} {Q : Exit → Act → World → Prop} : ∀ ex a w, ex ≠ .normal → lastQ P ops o Q ex a w → Q ex a w := fun ex a w hne h => by
  cases ex <;> first | exact absurd rfl hne | exact h
theorem wpOp_push {P : Program} {ops : Array Oper} {o : Oper} {Q : Exit → Act → World → Prop} {K : Act → World → Prop} {i : Nat} {a : Act} {w : World} (hi : i < ops.size) (hg : ∀ (i : Nat) (p : Oper), ops[i]? = some p → ∀ j want, p.guard = some (j, want) → j < ops.size)
    (h : wpOp P ops (lastQ P ops o Q) i K a w) : wpOp P (ops.push o) Q i K a w := by
  have ho : (ops.push o)[i]? = ops[i]? := by simp [Array.getElem?_push, show i ≠ ops.size by omega]
  unfold wpOp at h ⊢
  rw [ho]
  have hp : ops[i]? = some ops[i] := by simp [hi]
  simp only [hp] at h ⊢
  have hw : Region.wanted ops[i] (yielded (ops.push o) a.tmps) = Region.wanted ops[i] (yielded ops a.tmps) := by
    unfold Region.wanted
    cases hgd : ops[i].guard with
    | none => rfl
    | some g =>
      obtain ⟨j, want⟩ := g
      have hj := hg i _ hp j want hgd
      have : yielded (ops.push o) a.tmps j = yielded ops a.tmps j := by
        unfold yielded
        rw [Array.getElem?_push, if_neg (by omega)]
      simp only [this]
  rw [hw]
  split
  · rename_i hw'
    simp only [hw', if_true] at h
    rcases h with h | ⟨h1, h2⟩
    · exact .inl (wp_q lastQ_q h)
    · exact .inr ⟨h1, letsOut_q lastQ_q h2⟩
  · rename_i hw'
    simp only [hw'] at h
    exact h
theorem push_set {listed : Array Bool} {i : Nat} (hi : i < listed.size) : (listed.push false).setIfInBounds i true = (listed.setIfInBounds i true).push false := by
  apply Array.ext'
  simp [List.set_append_left, hi]
theorem all_ready {ops : Array Oper} {listed : Array Bool} (hl : listed.size = ops.size) (h : ∀ i, i < ops.size → listed.getD i false = true) : Region.ready .any ops listed = [] := by
  apply List.eq_nil_iff_forall_not_mem.2
  intro j hj
  obtain ⟨h1, o, h2, _⟩ := mem_ready.1 hj
  have hjl : j < ops.size := (Array.getElem?_eq_some_iff.1 h2).1
  rw [getD_ft (by omega), h j hjl] at h1; cases h1
theorem ready_all {ops : Array Oper} {listed : Array Bool} (hl : listed.size = ops.size) (hf : ∀ (i : Nat) (p : Oper), ops[i]? = some p → ∀ e ∈ p.after, Region.binds .any e = true → e.on < i) (hnil : Region.ready .any ops listed = []) : ∀ n i, i < n → i < ops.size → listed.getD i false = true := by
  intro n
  induction n with
  | zero => intro i h; omega
  | succ n ihn =>
    intro i hin' hi
    cases h : listed.getD i false with
    | true => rfl
    | false =>
      have ho : ops[i]? = some ops[i] := by simp [hi]
      have : i ∈ Region.ready .any ops listed := mem_ready.2 ⟨by rw [getD_ft (by omega)]; exact h, _, ho, fun e he hbn => by
        have := hf i ops[i] (by simp [hi]) e he hbn
        exact ihn e.on (by omega) (by omega)⟩
      rw [hnil] at this; cases this
theorem wpAny_done {P : Program} {ops : Array Oper} {Q : Exit → Act → World → Prop} {listed : Array Bool} (h : Region.ready .any ops listed = []) (fuel : Nat) {a : Act} {w : World} (hq : Q .normal a w) : wpAny P .any ops Q fuel listed a w := by
  cases fuel with
  | zero => exact ⟨h, hq⟩
  | succ fuel => exact ⟨fun _ => hq, fun i hi => by rw [h] at hi; cases hi⟩
theorem last_ready {ops : Array Oper} {o : Oper} {listed : Array Bool} (hfo : ∀ e ∈ o.after, Region.binds .any e = true → e.on < ops.size) (hl : listed.size = ops.size) (hall : ∀ i, i < ops.size → listed.getD i false = true) :
    ops.size ∈ Region.ready .any (ops.push o) (listed.push false) := by
  refine mem_ready.2 ⟨by simp [Array.getD, hl]; rw [Array.getElem_push, dif_neg (by omega)], o, by simp, fun e he hbn => ?_⟩
  have h1 := hfo e he hbn
  have h2 := hall e.on h1
  have hlt : e.on < listed.size := by omega
  simp only [Array.getD, Array.size_push, show e.on < listed.size + 1 by omega, hlt, dif_pos] at h2 ⊢
  rw [← h2]
  exact Array.getElem_push_lt hlt
theorem wpAny_end {P : Program} {ops : Array Oper} {o : Oper} {Q : Exit → Act → World → Prop} (hf : ∀ (i : Nat) (p : Oper), ops[i]? = some p → ∀ e ∈ p.after, Region.binds .any e = true → e.on < i)
    (hfo : ∀ e ∈ o.after, Region.binds .any e = true → e.on < ops.size) {listed : Array Bool} (hl : listed.size = ops.size) (hall : ∀ i, i < ops.size → listed.getD i false = true) (fuel : Nat) {a : Act} {w : World} (h : lastQ P ops o Q .normal a w) :
    wpAny P .any (ops.push o) Q (fuel + 1) (listed.push false) a w := by
  refine ⟨fun hnil => ?_, fun i hi => ?_⟩
  · have := last_ready hfo hl hall
    rw [hnil] at this; cases this
  · have hin : i = ops.size := by
      rcases Nat.lt_or_ge i ops.size with hlt | hge
      · have := (push_ready hl hf hlt).1 hi
        rw [all_ready hl hall] at this; cases this
      · obtain ⟨_, q, hq, _⟩ := mem_ready.1 hi
        have := (Array.getElem?_eq_some_iff.1 hq).1
        simp at this; omega
    subst hin
    refine wpOp_mono (fun a w hh => ?_) (show wpOp P (ops.push o) Q ops.size (Q .normal) a w from h)
    refine wpAny_done (all_ready (by simp [hl]) fun j hj => ?_) fuel hh
    have hsz : ops.size < (listed.push false).size := by simp [hl]
    refine (getD_set hsz).2 ?_
    by_cases hj' : j = ops.size
    · exact .inl hj'
    · refine .inr ?_
      have hjl : j < ops.size := by simp at hj; omega
      have h2 := hall j hjl
      have hlt : j < listed.size := by omega
      simp only [Array.getD, Array.size_push, show j < listed.size + 1 by omega, hlt, dif_pos] at h2 ⊢
      rw [← h2]
      exact Array.getElem_push_lt hlt
theorem wpAny_last {P : Program} {ops : Array Oper} {o : Oper} {Q : Exit → Act → World → Prop} (hf : ∀ (i : Nat) (p : Oper), ops[i]? = some p → ∀ e ∈ p.after, Region.binds .any e = true → e.on < i)
    (hfo : ∀ e ∈ o.after, Region.binds .any e = true → e.on < ops.size) (hb : ∀ i, i < ops.size → ∃ j p, i < j ∧ (ops.push o)[j]? = some p ∧ depB p i = true)
    (hg : ∀ (i : Nat) (p : Oper), ops[i]? = some p → ∀ j want, p.guard = some (j, want) → j < ops.size) :
    ∀ (fuel : Nat) (listed : Array Bool) (a : Act) (w : World), listed.size = ops.size → (∀ (i : Nat) (p : Oper), ops[i]? = some p → listed.getD i false = true → ∀ e ∈ p.after, Region.binds .any e = true → listed.getD e.on false = true) →
      wpAny P .any ops (lastQ P ops o Q) fuel listed a w → wpAny P .any (ops.push o) Q (fuel + 1) (listed.push false) a w := by
  intro fuel
  induction fuel with
  | zero =>
    intro listed a w hl hd h
    have hall : ∀ i, i < ops.size → listed.getD i false = true := fun i hi => ready_all hl hf h.1 (i + 1) i (by omega) hi
    exact wpAny_end hf hfo hl hall 0 h.2
  | succ fuel ih =>
    intro listed a w hl hd h
    have hgt : ∀ j, j < ops.size → ∀ d, (listed.push false).getD j d = listed.getD j d := fun j hj d => by
      simp [Array.getD, hl, hj, show j < ops.size + 1 by omega]
      exact Array.getElem_push_lt (by omega)
    refine ⟨fun hnil => ?_, fun i hi => ?_⟩
    · exfalso
      have hn0 : Region.ready .any ops listed = [] := by
        apply List.eq_nil_iff_forall_not_mem.2
        intro j hj
        obtain ⟨_, q, hq, _⟩ := mem_ready.1 hj
        have hjl : j < ops.size := (Array.getElem?_eq_some_iff.1 hq).1
        have := (push_ready (o := o) hl hf hjl).2 hj
        rw [hnil] at this; cases this
      have hall : ∀ i, i < ops.size → listed.getD i false = true := fun i hi => ready_all hl hf hn0 (i + 1) i (by omega) hi
      have := last_ready hfo hl hall
      rw [hnil] at this; cases this
    · by_cases hin : i = ops.size
      · subst hin
        obtain ⟨_, q, hq, hqr⟩ := mem_ready.1 hi
        have hqo : q = o := by simpa using hq.symm
        subst hqo
        have hall : ∀ i, i < ops.size → listed.getD i false = true := fun i hi => last_all hl hb hd hqr ops.size i (by omega) hi
        have hz := h.1 (all_ready hl hall)
        exact (wpAny_end hf hfo hl hall (fuel + 1) hz).2 _ hi
      · have hil : i < ops.size := by
          obtain ⟨_, p, hp, _⟩ := mem_ready.1 hi
          have := (Array.getElem?_eq_some_iff.1 hp).1
          simp at this; omega
        have hr := (push_ready hl hf hil).1 hi
        refine wpOp_push hil hg (wpOp_mono (fun a w hh => ?_) (h.2 i hr))
        rw [push_set (by omega)]
        refine ih _ a w (by simp [hl]) (fun j p hp hj e he hbn => ?_) hh
        obtain ⟨_, q, hq, hqr⟩ := mem_ready.1 hr
        have hii : i < listed.size := by omega
        rcases (getD_set hii).1 hj with rfl | hj
        · rw [hp] at hq; cases hq
          exact (getD_set hii).2 (.inr (hqr e he hbn))
        · exact (getD_set hii).2 (.inr (hd j p hp hj e he hbn))
end Go.Proofs.YtpihanlillbhkaaGreatDoor
end

section
/- A region that draws its order: its operations may be told in another order, what hangs on what being told alike. -/
set_option maxRecDepth 100000
namespace Go.Proofs.YtpihanlillbhkaaGreatDoor
open Go Go.RowKit Go.Proofs

def dumO : Oper := { dst := none, op := .alloc 0, type := 0, pos := "", after := #[], guard := none }
def remapO (σ : List Nat) (o : Oper) : Oper := { o with after := (o.after.toList.map fun e => { e with on := σ.idxOf e.on }).toArray, guard := o.guard.map fun g => (σ.idxOf g.1, g.2) }
def permL (σ : List Nat) (l : List Oper) : List Oper := σ.map fun i => remapO σ (l.getD i dumO)
def permB (σ : List Nat) (n : Nat) : Bool := σ.length == n && (List.range n).all fun i => (σ[σ.idxOf i]? == some i) && (σ.idxOf (σ.getD i 0) == i) && decide (σ.idxOf i < n) && decide (σ.getD i 0 < n)
section
variable {P : Program} {ops : Array Oper} {Q : Exit → Act → World → Prop} {σ : List Nat}
structure PermOk (σ : List Nat) (n : Nat) : Prop where
  len : σ.length = n
  lt : ∀ i, i < n → σ.idxOf i < n
  at_ : ∀ i, i < n → σ[σ.idxOf i]? = some i
  back : ∀ p, p < n → ∃ i, i < n ∧ σ.idxOf i = p
  out : ∀ j, ¬ j < n → σ.idxOf j = n
theorem permB_ok {n : Nat} (h : permB σ n = true) : PermOk σ n := by
  simp only [permB, Bool.and_eq_true, beq_iff_eq, List.all_eq_true, List.mem_range, decide_eq_true_eq] at h
  obtain ⟨h1, h2⟩ := h
  refine ⟨h1, fun i hi => (h2 i hi).1.2, fun i hi => (h2 i hi).1.1.1, fun p hp => ⟨σ.getD p 0, (h2 p hp).2, (h2 p hp).1.1.2⟩, fun j hj => ?_⟩
  rw [← h1]
  refine List.idxOf_eq_length fun hm => hj ?_
  obtain ⟨q, hq⟩ := List.getElem?_of_mem hm
  have hql : q < n := by rw [← h1]; exact (List.getElem?_eq_some_iff.1 hq).1
  have := (h2 q hql).2
  rw [List.getD_eq_getElem?_getD, hq] at this
  exact this
theorem PermOk.inj {n i j : Nat} (h : PermOk σ n) (hi : i < n) (e : σ.idxOf j = σ.idxOf i) : j = i := by
  by_cases hj : j < n
  · have h1 := h.at_ i hi
    have h2 := h.at_ j hj
    rw [e, h1, Option.some.injEq] at h2
    exact h2.symm
  · have := h.out j hj
    have := h.lt i hi
    omega
theorem perm_size (h : PermOk σ ops.size) : (permL σ ops.toList).toArray.size = ops.size := by simp [permL, h.len]
theorem perm_at (h : PermOk σ ops.size) {i : Nat} (hi : i < ops.size) : (permL σ ops.toList).toArray[σ.idxOf i]? = some (remapO σ (ops[i]'hi)) := by
  simp only [permL, List.getElem?_toArray, List.getElem?_map, h.at_ i hi, Option.map_some, Option.some.injEq]
  congr 1
  rw [List.getD_eq_getElem?_getD]
  simp [hi]
theorem perm_yields (h : PermOk σ ops.size) (tmps : Array Value) (j : Nat) : yielded (permL σ ops.toList).toArray tmps (σ.idxOf j) = yielded ops tmps j := by
  unfold yielded
  by_cases hj : j < ops.size
  · rw [perm_at h hj]
    have : ops[j]? = some (ops[j]'hj) := by simp [hj]
    rw [this]; rfl
  · rw [h.out j hj]
    have e1 : ops[j]? = none := by simp; omega
    have e2 : (permL σ ops.toList).toArray[ops.size]? = none := by rw [Array.getElem?_eq_none_iff]; rw [perm_size h]; omega
    rw [e1, e2]
theorem perm_wanted (h : PermOk σ ops.size) (tmps : Array Value) (o : Oper) : Region.wanted (remapO σ o) (yielded (permL σ ops.toList).toArray tmps) = Region.wanted o (yielded ops tmps) := by
  unfold Region.wanted
  cases hg : o.guard with
  | none => simp [remapO, hg]
  | some g =>
    obtain ⟨j, want⟩ := g
    simp only [remapO, hg, Option.map_some, perm_yields h]
structure PermS (σ : List Nat) (n : Nat) (listed listed' : Array Bool) : Prop where
  s : listed.size = n
  s' : listed'.size = n
  at_ : ∀ j, listed'.getD (σ.idxOf j) false = listed.getD j false
theorem perm_ready (h : PermOk σ ops.size) {listed listed' : Array Bool} (s : PermS σ ops.size listed listed') {i : Nat} (hi : i < ops.size) : σ.idxOf i ∈ Region.ready .any (permL σ ops.toList).toArray listed' ↔ i ∈ Region.ready .any ops listed := by
  have hp := h.lt i hi
  have ho : ops[i]? = some (ops[i]'hi) := by simp [hi]
  rw [mem_ready, mem_ready, getD_ft (by rw [s.s']; exact hp), getD_ft (by rw [s.s]; exact hi), s.at_, perm_at h hi, ho]
  constructor
  · rintro ⟨h1, o, h2, h3⟩
    cases h2
    refine ⟨h1, _, rfl, fun e he hb => ?_⟩
    rw [← s.at_]
    exact h3 { e with on := σ.idxOf e.on } (by simp only [remapO]; exact List.mem_toArray.2 (List.mem_map.2 ⟨e, by simpa using he, rfl⟩)) hb
  · rintro ⟨h1, o, h2, h3⟩
    cases h2
    refine ⟨h1, _, rfl, fun e he hb => ?_⟩
    simp only [remapO] at he
    obtain ⟨e0, he0, rfl⟩ := List.mem_map.1 (List.mem_toArray.1 he)
    have := h3 e0 (Array.mem_toList_iff.1 he0) hb
    rw [← s.at_] at this
    exact this
theorem perm_op (h : PermOk σ ops.size) {i : Nat} (hi : i < ops.size) {K K' : Act → World → Prop} (hk : ∀ a w, K' a w → K a w) {a : Act} {w : World} (hh : wpOp P (permL σ ops.toList).toArray Q (σ.idxOf i) K' a w) : wpOp P ops Q i K a w := by
  unfold wpOp at hh ⊢
  have ho : ops[i]? = some (ops[i]'hi) := by simp [hi]
  rw [perm_at h hi] at hh
  rw [ho]
  simp only [perm_wanted h] at hh ⊢
  split
  · rename_i hw
    rw [if_pos hw] at hh
    rcases hh with hh | hh
    · exact .inl (Oper.wp_mono hk hh)
    · exact .inr hh
  · rename_i hw
    rw [if_neg hw] at hh
    exact hk _ _ hh
theorem perm_any (h : PermOk σ ops.size) : ∀ (fuel : Nat) (listed listed' : Array Bool) (a : Act) (w : World), PermS σ ops.size listed listed' → wpAny P .any (permL σ ops.toList).toArray Q fuel listed' a w → wpAny P .any ops Q fuel listed a w := by
  have nil_to : ∀ (listed listed' : Array Bool), PermS σ ops.size listed listed' → Region.ready .any (permL σ ops.toList).toArray listed' = [] → Region.ready .any ops listed = [] := fun listed listed' s hn => by
    apply List.eq_nil_iff_forall_not_mem.2
    intro i hi
    obtain ⟨_, o, ho, _⟩ := mem_ready.1 hi
    have hlt := (Array.getElem?_eq_some_iff.1 ho).1
    have := (perm_ready h s hlt).2 hi
    rw [hn] at this; cases this
  have nil_of : ∀ (listed listed' : Array Bool), PermS σ ops.size listed listed' → Region.ready .any ops listed = [] → Region.ready .any (permL σ ops.toList).toArray listed' = [] := fun listed listed' s hn => by
    apply List.eq_nil_iff_forall_not_mem.2
    intro p hp
    obtain ⟨_, o, ho, _⟩ := mem_ready.1 hp
    have hlt := (Array.getElem?_eq_some_iff.1 ho).1
    rw [perm_size h] at hlt
    obtain ⟨i, hi, rfl⟩ := h.back p hlt
    have := (perm_ready h s hi).1 hp
    rw [hn] at this; cases this
  intro fuel
  induction fuel with
  | zero => intro listed listed' a w s hh; exact ⟨nil_to _ _ s hh.1, hh.2⟩
  | succ fuel ih =>
    intro listed listed' a w s hh
    refine ⟨fun hn => hh.1 (nil_of _ _ s hn), fun i hi => ?_⟩
    obtain ⟨_, o, ho, _⟩ := mem_ready.1 hi
    have hlt := (Array.getElem?_eq_some_iff.1 ho).1
    refine perm_op h hlt (fun a w hk => ih _ _ a w ⟨by simp [s.s], by simp [s.s'], fun j => ?_⟩ hk) (hh.2 _ ((perm_ready h s hlt).2 hi))
    have g1 : ∀ (j : Nat), (listed.setIfInBounds i true).getD j false = true ↔ j = i ∨ listed.getD j false = true := fun j => getD_set (by rw [s.s]; exact hlt)
    have g2 : ∀ (p : Nat), (listed'.setIfInBounds (σ.idxOf i) true).getD p false = true ↔ p = σ.idxOf i ∨ listed'.getD p false = true := fun p => getD_set (by rw [s.s']; exact h.lt i hlt)
    rw [Bool.eq_iff_iff, g1, g2, s.at_]
    exact ⟨fun hq => hq.imp (fun e => h.inj hlt e) id, fun hq => hq.imp (fun e => by rw [e]) id⟩
end
/-- every order of the operations does what is said -/
structure AnyOk (P : Program) (T : TypeId → TR) (ops : Array Oper) (c : Cf) (K : Cf → Prop) : Prop where
  any : ∀ (g : Gh) (a : Act) (w : World), St T g w a c → ∀ (Q : Exit → Act → World → Prop), (∀ g' w' a' c', K c' → St T g' w' a' c' → Ext g w g' w' → Q .normal a' w') → wpAny P .any ops Q ops.size (Array.replicate ops.size false) a { w with drawn := w.drawn + 1 }
section
variable {P : Program} {T : TypeId → TR} {ops : Array Oper} {c : Cf} {K : Cf → Prop}
theorem rep_false (n i : Nat) : (Array.replicate n false).getD i false = false := by
  simp [Array.getElem?_replicate]
  split <;> rfl
theorem AnyOk.perm {σ : List Nat} (hσ : permB σ ops.size = true) (h : AnyOk P T (permL σ ops.toList).toArray c K) : AnyOk P T ops c K :=
  ⟨fun g a w st Q hQ => by
    have hp := permB_ok hσ
    have hd := h.any g a w st Q hQ
    rw [perm_size hp] at hd
    exact perm_any hp _ _ _ _ _ ⟨by simp, by simp, fun j => by rw [rep_false, rep_false]⟩ hd⟩
end
end Go.Proofs.YtpihanlillbhkaaGreatDoor
end

section
/- A region that draws its order, whose last operations hang on all that is ahead of them: the first in any order, then these one by one. -/
set_option maxRecDepth 100000
namespace Go.Proofs.YtpihanlillbhkaaGreatDoor
open Go Go.RowKit Go.Proofs

section
variable {P : Program} {T : TypeId → TR}
def pushB (l : List Oper) (o : Oper) : Bool :=
  lastB (l ++ [o]) && ((l ++ [o]).zipIdx.all fun (p, i) => (p.after.toList.all fun e => !Region.binds .any e || decide (e.on < i))) && (l.all fun p => match p.guard with | none => true | some (j, _) => decide (j < l.length))
theorem AnyOk.push (TO : TOk P T) {l : List Oper} {o : Oper} {c : Cf} {K : Cf → Prop} (hb : pushB l o = true) (h : AnyOk P T l.toArray c fun c' => evOps P T (l ++ [o]) [o] c' K) : AnyOk P T (l ++ [o]).toArray c K := by
  simp only [pushB, Bool.and_eq_true, lastB, List.length_append, List.length_cons, List.length_nil, Nat.zero_add, Nat.add_sub_cancel] at hb
  obtain ⟨⟨h2, h3⟩, h4⟩ := hb
  have e1 : (⟨l ++ [o]⟩ : Array Oper) = (⟨l⟩ : Array Oper).push o := by simp
  refine ⟨fun g a w st Q hQ => ?_⟩
  rw [show (l ++ [o]).toArray = (⟨l⟩ : Array Oper).push o from e1]
  have hsz : ((⟨l⟩ : Array Oper).push o).size = (⟨l⟩ : Array Oper).size + 1 := by simp
  have hrep : Array.replicate ((⟨l⟩ : Array Oper).size + 1) false = (Array.replicate (⟨l⟩ : Array Oper).size false).push false := by
    rw [Array.replicate_succ]
  rw [hsz, hrep]
  have fl : ∀ (i : Nat) (p : Oper), (l ++ [o])[i]? = some p → ∀ e ∈ p.after, Region.binds .any e = true → e.on < i := fun i p hp e he hbn => by
    have h5 := List.all_eq_true.1 h3 (p, i) (List.mk_mem_zipIdx_iff_getElem?.2 hp)
    have h6 := List.all_eq_true.1 h5 e (by simpa using he)
    simpa [hbn] using h6
  refine wpAny_last (fun i p hp => fl i p ?_) (fun e he hbn => ?_) (fun i hi => ?_) (fun i p hp j want hgd => ?_) _ _ a _ (by simp) (fun i p hp hli => ?_) (h.any g a w st _ fun g' w' a' c' hK hs hx => ?_)
  · have hp' : l[i]? = some p := by simpa using hp
    have := (List.getElem?_eq_some_iff.1 hp').1
    rw [List.getElem?_append_left this]; exact hp'
  · have := fl l.length o (by simp) e he hbn
    simpa using this
  · have h5 := List.all_eq_true.1 h2 i (List.mem_range.2 (by simpa using hi))
    obtain ⟨⟨p, j⟩, hm', hj⟩ := List.any_eq_true.1 h5
    have hp := List.mk_mem_zipIdx_iff_getElem?.1 hm'
    simp only [Bool.and_eq_true, decide_eq_true_eq] at hj
    refine ⟨j, p, hj.1, ?_, hj.2⟩
    rw [← e1]; simpa using hp
  · have hp' : l[i]? = some p := by simpa using hp
    have h5 := List.all_eq_true.1 h4 p (List.mem_of_getElem? hp')
    rw [hgd] at h5
    simpa using h5
  · exfalso
    have : (Array.replicate (⟨l⟩ : Array Oper).size false).getD i false = false := by
      simp [Array.getElem?_replicate]
      split <;> rfl
    rw [this] at hli; cases hli
  · have hw := evOps_sound TO (l ++ [o]) [o] g' w' a' c' K hK hs (Q := Q) fun g2 w2 a2 c2 h5 h6 h7 => hQ g2 w2 a2 c2 h5 h6 (hx.trans h7)
    show wpOp P ((⟨l⟩ : Array Oper).push o) Q (⟨l⟩ : Array Oper).size (Q .normal) a' w'
    rw [← e1]
    unfold wpOp
    have ho : (⟨l ++ [o]⟩ : Array Oper)[(⟨l⟩ : Array Oper).size]? = some o := by simp
    rw [ho]
    exact hw
def lastsB (l : List Oper) : List Oper → Bool
  | [] => true
  | o :: r => pushB l o && lastsB (l ++ [o]) r
def lastsK (P : Program) (T : TypeId → TR) (l : List Oper) : List Oper → Cf → (Cf → Prop) → Prop
  | [], c, K => K c
  | o :: r, c, K => evOps P T (l ++ [o]) [o] c fun c' => lastsK P T (l ++ [o]) r c' K
theorem AnyOk.lasts (TO : TOk P T) : ∀ {m l : List Oper} {c : Cf} {K : Cf → Prop}, lastsB l m = true → (AnyOk P T l.toArray c fun c' => lastsK P T l m c' K) → AnyOk P T (l ++ m).toArray c K
  | [], l, c, K, _, h => by rw [List.append_nil]; exact h
  | o :: r, l, c, K, hb, h => by
    simp only [lastsB, Bool.and_eq_true] at hb
    have := AnyOk.lasts TO (m := r) (l := l ++ [o]) hb.2 (AnyOk.push TO hb.1 h)
    rwa [List.append_assoc] at this
theorem draw_lasts (n : Nat) {eff : List Nat} (TO : TOk P T) (hm : P.follows .mixedOrders = true) {ops : Array Oper} {c : Cf} {K : Cf → Prop} (hb : drawB (ops.toList.take n) eff = true) (hl : lastsB (ops.toList.take n) (ops.toList.drop n) = true)
    (h : evDraw P T (ops.toList.take n) eff (ops.toList.take n) 0 c [] fun c' => lastsK P T (ops.toList.take n) (ops.toList.drop n) c' K) : DrawOk P T ops c K :=
  ⟨fun g a w st id Q hQ => wp_region_any hm (by
    have h1 : AnyOk P T (ops.toList.take n).toArray c fun c' => lastsK P T (ops.toList.take n) (ops.toList.drop n) c' K := ⟨fun g a w st Q hQ => draw_any (ops := (ops.toList.take n).toArray) TO (by simpa using hb) (by simpa using h) st hQ⟩
    have h2 := AnyOk.lasts TO hl h1
    rw [List.take_append_drop, Array.toArray_toList] at h2
    exact h2.any g a w st Q hQ)⟩
end
end Go.Proofs.YtpihanlillbhkaaGreatDoor
end

section
/- A region that draws its order: what holds behind any of its operations, whichever came ahead: each operation is run once, with what else is done left open. -/
set_option maxRecDepth 100000
set_option linter.unusedSimpArgs false
set_option linter.unusedVariables false
namespace Go.Proofs.YtpihanlillbhkaaGreatDoor
open Go Go.RowKit Go.Proofs

def needsK (D : Nat → Bool) : List Edge → Prop
  | [] => True
  | e :: r => match Region.binds .any e with | true => D e.on = true ∧ needsK D r | false => needsK D r
theorem needsK_of {D : Nat → Bool} : ∀ {l : List Edge}, (∀ e ∈ l, Region.binds .any e = true → D e.on = true) → needsK D l
  | [], _ => trivial
  | e :: r, h => by
    have h2 := needsK_of (D := D) (l := r) fun e he => h e (List.mem_cons_of_mem _ he)
    unfold needsK
    split
    · rename_i hb
      exact ⟨h e List.mem_cons_self hb, h2⟩
    · exact h2
def doneAt (D : Nat → Bool) (i j : Nat) : Bool := cond (Nat.beq j i) true (D j)
def invK (P : Program) (T : TypeId → TR) (all : List Oper) (I : (Nat → Bool) → Cf → Prop) : Nat → List Oper → Prop
  | _, [] => True
  | i, o :: r => (∀ (D : Nat → Bool) (c : Cf), D i = false → needsK D o.after.toList → I D c → evOps P T all [o] c fun c' => I (doneAt D i) c') ∧ invK P T all I (i + 1) r
theorem invK_at {P : Program} {T : TypeId → TR} {all : List Oper} {I : (Nat → Bool) → Cf → Prop} : ∀ {l : List Oper} {k : Nat}, invK P T all I k l → ∀ (i : Nat) (o : Oper), l[i]? = some o →
    ∀ (D : Nat → Bool) (c : Cf), D (k + i) = false → needsK D o.after.toList → I D c → evOps P T all [o] c fun c' => I (doneAt D (k + i)) c'
  | [], _, _, i, o, ho => by simp at ho
  | x :: r, k, h, i, o, ho => by
    cases i with
    | zero =>
      simp only [List.getElem?_cons_zero, Option.some.injEq] at ho
      subst ho
      exact h.1
    | succ i =>
      have := invK_at h.2 i o (by simpa using ho)
      rw [show k + 1 + i = k + (i + 1) from by omega] at this
      exact this
def backB (ops : List Oper) : Bool := (List.range ops.length).all fun i => match ops[i]? with | some o => o.after.toList.all fun e => !Region.binds .any e || decide (e.on < i) | none => true
theorem inv_sound {P : Program} {T : TypeId → TR} (TO : TOk P T) {ops : Array Oper} {Q : Exit → Act → World → Prop} {K : Cf → Prop} (I : (Nat → Bool) → Cf → Prop) (hb : backB ops.toList = true) (hs : invK P T ops.toList I 0 ops.toList) (he : ∀ D c, (∀ j, j < ops.size → D j = true) → I D c → K c) : ∀ (fuel : Nat) (listed : Array Bool) (g : Gh) (w : World) (a : Act) (c : Cf),
    ((List.range ops.size).filter fun i => !listed.getD i false).length ≤ fuel → listed.size = ops.size → I (fun i => listed.getD i false) c → St T g w a c →
    (∀ g' w' a' c', K c' → St T g' w' a' c' → Ext g w g' w' → Q .normal a' w') → wpAny P .any ops Q fuel listed a w := by
  intro fuel
  induction fuel with
  | zero =>
    intro listed g w a c hf hl hi hst hk
    have hall : ∀ i, i < ops.size → listed.getD i false = true := fun i hil => by
      cases hq : listed.getD i false with
      | true => rfl
      | false =>
        have : i ∈ (List.range ops.size).filter fun i => !listed.getD i false := List.mem_filter.2 ⟨List.mem_range.2 hil, by rw [hq]; rfl⟩
        rw [List.eq_nil_of_length_eq_zero (Nat.le_zero.1 hf)] at this
        cases this
    exact wpAny_done' (all_ready' hl hall) 0 (hk g w a c (he _ _ hall hi) hst (Ext.refl _ _))
  | succ fuel ih =>
    intro listed g w a c hf hl hi hst hk
    refine ⟨fun hnil => ?_, fun i hir => ?_⟩
    · have hall : ∀ i, i < ops.size → listed.getD i false = true := by
        intro i
        induction i using Nat.strongRecOn with
        | _ i ihs =>
          intro hil
          cases hq : listed.getD i false with
          | true => rfl
          | false =>
            have ho : ops[i]? = some ops[i] := Array.getElem?_eq_getElem hil
            have hbk := List.all_eq_true.1 hb i (List.mem_range.2 (by rw [Array.length_toList]; exact hil))
            have ho' : ops.toList[i]? = some ops[i] := by simp
            rw [ho'] at hbk
            have : i ∈ Region.ready .any ops listed := by
              refine mem_ready.2 ⟨by rw [getD_ft (by omega)]; exact hq, ops[i], ho, fun e hem hbn => ?_⟩
              have h1 := List.all_eq_true.1 hbk e (by simpa using hem)
              rw [hbn] at h1
              simp only [Bool.not_true, Bool.false_or, decide_eq_true_eq] at h1
              exact ihs e.on h1 (by omega)
            rw [hnil] at this; cases this
      exact hk g w a c (he _ _ hall hi) hst (Ext.refl _ _)
    · obtain ⟨h1, o, h2, h3⟩ := mem_ready.1 hir
      have hil : i < ops.size := (Array.getElem?_eq_some_iff.1 h2).1
      have hil' : i < listed.size := by omega
      have hD : listed.getD i false = false := by rw [← getD_ft (by omega)]; exact h1
      have hgo := invK_at hs i o (by simpa using h2) (fun i => listed.getD i false) c (by simpa using hD) (needsK_of fun e hem hbn => h3 e (by simpa using hem) hbn) hi
      have hset : doneAt (fun i => listed.getD i false) (0 + i) = fun j => (listed.setIfInBounds i true).getD j false := by
        funext j
        rw [Bool.eq_iff_iff, getD_set hil', Nat.zero_add]
        unfold doneAt
        cases hji : Nat.beq j i with
        | true => simp only [cond_true, true_iff]; exact .inl (Nat.eq_of_beq_eq_true hji)
        | false =>
          have : j ≠ i := fun e => by subst e; rw [Nat.beq_refl] at hji; cases hji
          simp [this]
      rw [hset] at hgo
      have hw := evOps_sound TO ops.toList [o] g w a c _ hgo hst (Q := thenQ (wpAny P .any ops Q fuel (listed.setIfInBounds i true)) Q) fun g' w' a' c' hK' hs' hx' => by
        refine ih _ g' w' a' c' ?_ (by simp [hl]) hK' hs' fun g2 w2 a2 c2 q1 q2 q3 => hk g2 w2 a2 c2 q1 q2 (hx'.trans q3)
        have hsub : ((List.range ops.size).filter fun j => !(listed.setIfInBounds i true).getD j false) = (((List.range ops.size).filter fun j => !listed.getD j false).filter fun j => !(decide (j = i))) := by
          rw [List.filter_filter]
          refine List.filter_congr fun j _ => ?_
          rw [Bool.eq_iff_iff]
          have hg := getD_set (j := j) hil'
          by_cases hji : j = i
          · subst hji
            have : (listed.setIfInBounds j true).getD j false = true := hg.2 (.inl rfl)
            simp [this]
          · cases h8 : (listed.setIfInBounds i true).getD j false with
            | true =>
              rcases hg.1 h8 with h9 | h9
              · exact absurd h9 hji
              · rw [h9]; simp
            | false =>
              have h9 : listed.getD j false = false := by
                cases h10 : listed.getD j false with
                | false => rfl
                | true => rw [hg.2 (.inr h10)] at h8; cases h8
              rw [h9]; simp [hji]
        rw [hsub]
        have : (((List.range ops.size).filter fun j => !listed.getD j false).filter fun j => !(decide (j = i))).length < ((List.range ops.size).filter fun j => !listed.getD j false).length :=
          List.length_filter_lt_length_iff_exists.2 ⟨i, List.mem_filter.2 ⟨List.mem_range.2 hil, by rw [hD]; rfl⟩, by simp⟩
        omega
      have e1 : ops.toList.toArray = ops := by simp
      rw [e1] at hw
      unfold wpOp
      rw [h2]
      simp only [wpList] at hw
      show if Region.wanted o (yielded ops a.tmps) = true then _ else _
      split
      · rename_i hwn
        rw [if_pos hwn] at hw
        rcases hw with hw | ⟨q1, q2⟩
        · exact .inl (wp_q' thenQ_q hw)
        · exact .inr ⟨q1, letsOut_q' thenQ_q q2⟩
      · rename_i hwn
        rw [if_neg hwn] at hw
        exact hw
theorem draw_inv {P : Program} {T : TypeId → TR} (TO : TOk P T) (hm : P.follows .mixedOrders = true) {ops : Array Oper} {c : Cf} {K : Cf → Prop} (I : (Nat → Bool) → Cf → Prop) (hb : backB ops.toList = true) (h0 : I (fun _ => false) c) (hs : invK P T ops.toList I 0 ops.toList) (he : ∀ D c, (∀ j, j < ops.size → D j = true) → I D c → K c) : DrawOk P T ops c K := by
  refine ⟨fun g a w st id Q hQ => wp_region_any hm ?_⟩
  have cx : Cx (fun _ => False) g w g { w with drawn := w.drawn + 1 } := ⟨⟨fun _ _ _ h1 h2 => ⟨h1, h2⟩, Nat.le_refl _, fun _ _ => rfl⟩, Nat.le_refl _, fun _ _ => rfl, Nat.le_refl _, fun _ _ _ => ⟨rfl, fun _ _ _ _ _ => ⟨rfl, rfl⟩⟩⟩
  have ext : Ext g w g { w with drawn := w.drawn + 1 } := ⟨fun _ _ _ h1 h2 => ⟨h1, h2⟩, Nat.le_refl _, fun _ _ => rfl, fun _ _ _ => ⟨rfl, rfl⟩, Nat.le_refl _, rfl, rfl, rfl⟩
  have e0 : (fun i => (Array.replicate ops.size false).getD i false) = fun _ => false := by
    funext i
    simp [Array.getElem?_replicate]
    split <;> rfl
  refine inv_sound TO I hb hs he ops.size _ g _ a c ?_ (by simp) (by rw [e0]; exact h0) (St.mk' (Rel.new st.rel cx (fun k _ => ⟨rfl, rfl⟩) rfl st.rel.ht) (st.env.keep cx)) (fun g' w' a' c' q1 q2 q3 => hQ g' w' a' c' q1 q2 (ext.trans q3))
  refine Nat.le_trans (List.length_filter_le _ _) ?_
  simp
end Go.Proofs.YtpihanlillbhkaaGreatDoor
end
