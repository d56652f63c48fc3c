/- A region that draws its order, whose last operation hangs on all the others: the others in any order, then it. -/
import Derived.Test.YtofhakbmmgpgdaaGreatDoorMapA
set_option maxRecDepth 100000
namespace Go.Proofs.YtofhakbmmgpgdaaGreatDoor
open Go Go.RowKit Go.Proofs

theorem letsOut_q {Q Q' : Exit → Act → World → Prop} (hq : ∀ ex a w, ex ≠ .normal → Q' ex a w → Q ex a w) (h : LetsOut Q') : LetsOut Q := by
  obtain ⟨a, w, h⟩ := h
  exact ⟨a, w, hq _ _ _ (fun e => by cases e) h⟩
theorem wp_q {P : Program} {o : Oper} {a : Act} {w : World} {K : Act → World → Prop} {Q Q' : Exit → Act → World → Prop} (hq : ∀ ex a w, ex ≠ .normal → Q' ex a w → Q ex a w) (hh : o.wp P a w K Q') : o.wp P a w K Q := by
  unfold Oper.wp at *
  generalize (execOp a.eval o).run P w = r at *
  cases r with
  | ok n w' =>
    cases n <;> simp only [Oper.upon] at hh ⊢ <;>
      first
        | exact hh
        | exact Calls.mono hh (fun e w'' he => by
            cases e
            · exact he
            · exact hq _ _ _ (fun e => by cases e) he
            · exact letsOut_q hq he)
  | halt x w' => cases x <;> simp only [Oper.upon] at hh ⊢ <;> first | exact hq _ _ _ (fun e => by cases e) hh | exact hh
/-- every operation but the last has one behind it that waits for it -/
def lastB (ops : List Oper) : Bool :=
  (List.range (ops.length - 1)).all fun i => ops.zipIdx.any fun (p, j) => decide (i < j) && depB p i
theorem push_ready {ops : Array Oper} {o : Oper} {listed : Array Bool} (hl : listed.size = ops.size) (hf : ∀ (i : Nat) (p : Oper), ops[i]? = some p → ∀ e ∈ p.after, Region.binds .any e = true → e.on < i) {i : Nat} (hi : i < ops.size) :
    i ∈ Region.ready .any (ops.push o) (listed.push false) ↔ i ∈ Region.ready .any ops listed := by
  have hg : ∀ j, j < ops.size → ∀ d, (listed.push false).getD j d = listed.getD j d := fun j hj d => by
    simp [Array.getD, hl, hj, show j < ops.size + 1 by omega]
    exact Array.getElem_push_lt (by omega)
  have ho : (ops.push o)[i]? = ops[i]? := by simp [Array.getElem?_push, show i ≠ ops.size by omega]
  rw [mem_ready, mem_ready, hg i hi, ho]
  constructor
  · rintro ⟨h1, p, h2, h3⟩
    exact ⟨h1, p, h2, fun e he hb => by rw [← hg e.on (by have := hf i p h2 e he hb; omega)]; exact h3 e he hb⟩
  · rintro ⟨h1, p, h2, h3⟩
    exact ⟨h1, p, h2, fun e he hb => by rw [hg e.on (by have := hf i p h2 e he hb; omega)]; exact h3 e he hb⟩
/-- where the last one can be carried out, all others have been -/
theorem last_all {ops : Array Oper} {o : Oper} {listed : Array Bool} (hl : listed.size = ops.size) (hb : ∀ i, i < ops.size → ∃ j p, i < j ∧ (ops.push o)[j]? = some p ∧ depB p i = true)
    (hd : ∀ (i : Nat) (p : Oper), ops[i]? = some p → listed.getD i false = true → ∀ e ∈ p.after, Region.binds .any e = true → listed.getD e.on false = true)
    (ho : ∀ e ∈ o.after, Region.binds .any e = true → (listed.push false).getD e.on false = true) : ∀ (n i : Nat), ops.size - i ≤ n → i < ops.size → listed.getD i false = true
  | 0, i, h, hi => by omega
  | n + 1, i, h, hi => by
    obtain ⟨j, p, h1, h2, h3⟩ := hb i hi
    obtain ⟨e, he1, he2, he3⟩ := depB_iff.1 h3
    by_cases hj : j = ops.size
    · subst hj
      have : p = o := by simpa using h2.symm
      subst this
      have := ho e he1 he2
      rw [he3] at this
      have hlt : i < listed.size := by omega
      simpa [Array.getD, hlt, show i < listed.size + 1 by omega, Array.getElem_push_lt] using this
    · have hjl : j < ops.size := by
        have := (Array.getElem?_eq_some_iff.1 h2).1
        simp at this; omega
      have h2' : ops[j]? = some p := by simpa [Array.getElem?_push, hj] using h2
      have := hd j p h2' (last_all hl hb hd ho n j (by omega) hjl) e he1 he2
      rwa [he3] at this
def lastQ (P : Program) (ops : Array Oper) (o : Oper) (Q : Exit → Act → World → Prop) : Exit → Act → World → Prop
  | .normal, a, w => wpOp P (ops.push o) Q ops.size (Q .normal) a w
  | e, a, w => Q e a w
theorem lastQ_q {P : Program} {ops : Array Oper} {o : Oper} {Q : Exit → Act → World → Prop} : ∀ ex a w, ex ≠ .normal → lastQ P ops o Q ex a w → Q ex a w := fun ex a w hne h => by
  cases ex <;> first | exact absurd rfl hne | exact h
theorem wpOp_push {P : Program} {ops : Array Oper} {o : Oper} {Q : Exit → Act → World → Prop} {K : Act → World → Prop} {i : Nat} {a : Act} {w : World} (hi : i < ops.size) (hg : ∀ (i : Nat) (p : Oper), ops[i]? = some p → ∀ j want, p.guard = some (j, want) → j < ops.size)
    (h : wpOp P ops (lastQ P ops o Q) i K a w) : wpOp P (ops.push o) Q i K a w := by
  have ho : (ops.push o)[i]? = ops[i]? := by simp [Array.getElem?_push, show i ≠ ops.size by omega]
  unfold wpOp at h ⊢
  rw [ho]
  have hp : ops[i]? = some ops[i] := by simp [hi]
  simp only [hp] at h ⊢
  have hw : Region.wanted ops[i] (yielded (ops.push o) a.tmps) = Region.wanted ops[i] (yielded ops a.tmps) := by
    unfold Region.wanted
    cases hgd : ops[i].guard with
    | none => rfl
    | some g =>
      obtain ⟨j, want⟩ := g
      have hj := hg i _ hp j want hgd
      have : yielded (ops.push o) a.tmps j = yielded ops a.tmps j := by
        unfold yielded
        rw [Array.getElem?_push, if_neg (by omega)]
      simp only [this]
  rw [hw]
  split
  · rename_i hw'
    simp only [hw', if_true] at h
    rcases h with h | ⟨h1, h2⟩
    · exact .inl (wp_q lastQ_q h)
    · exact .inr ⟨h1, letsOut_q lastQ_q h2⟩
  · rename_i hw'
    simp only [hw'] at h
    exact h
theorem push_set {listed : Array Bool} {i : Nat} (hi : i < listed.size) : (listed.push false).setIfInBounds i true = (listed.setIfInBounds i true).push false := by
  apply Array.ext'
  simp [List.set_append_left, hi]
theorem all_ready {ops : Array Oper} {listed : Array Bool} (hl : listed.size = ops.size) (h : ∀ i, i < ops.size → listed.getD i false = true) : Region.ready .any ops listed = [] := by
  apply List.eq_nil_iff_forall_not_mem.2
  intro j hj
  obtain ⟨h1, o, h2, _⟩ := mem_ready.1 hj
  have hjl : j < ops.size := (Array.getElem?_eq_some_iff.1 h2).1
  rw [getD_ft (by omega), h j hjl] at h1; cases h1
theorem ready_all {ops : Array Oper} {listed : Array Bool} (hl : listed.size = ops.size) (hf : ∀ (i : Nat) (p : Oper), ops[i]? = some p → ∀ e ∈ p.after, Region.binds .any e = true → e.on < i) (hnil : Region.ready .any ops listed = []) : ∀ n i, i < n → i < ops.size → listed.getD i false = true := by
  intro n
  induction n with
  | zero => intro i h; omega
  | succ n ihn =>
    intro i hin' hi
    cases h : listed.getD i false with
    | true => rfl
    | false =>
      have ho : ops[i]? = some ops[i] := by simp [hi]
      have : i ∈ Region.ready .any ops listed := mem_ready.2 ⟨by rw [getD_ft (by omega)]; exact h, _, ho, fun e he hbn => by
        have := hf i ops[i] (by simp [hi]) e he hbn
        exact ihn e.on (by omega) (by omega)⟩
      rw [hnil] at this; cases this
theorem wpAny_done {P : Program} {ops : Array Oper} {Q : Exit → Act → World → Prop} {listed : Array Bool} (h : Region.ready .any ops listed = []) (fuel : Nat) {a : Act} {w : World} (hq : Q .normal a w) : wpAny P .any ops Q fuel listed a w := by
  cases fuel with
  | zero => exact ⟨h, hq⟩
  | succ fuel => exact ⟨fun _ => hq, fun i hi => by rw [h] at hi; cases hi⟩
theorem last_ready {ops : Array Oper} {o : Oper} {listed : Array Bool} (hfo : ∀ e ∈ o.after, Region.binds .any e = true → e.on < ops.size) (hl : listed.size = ops.size) (hall : ∀ i, i < ops.size → listed.getD i false = true) :
    ops.size ∈ Region.ready .any (ops.push o) (listed.push false) := by
  refine mem_ready.2 ⟨by simp [Array.getD, hl]; rw [Array.getElem_push, dif_neg (by omega)], o, by simp, fun e he hbn => ?_⟩
  have h1 := hfo e he hbn
  have h2 := hall e.on h1
  have hlt : e.on < listed.size := by omega
  simp only [Array.getD, Array.size_push, show e.on < listed.size + 1 by omega, hlt, dif_pos] at h2 ⊢
  rw [← h2]
  exact Array.getElem_push_lt hlt
theorem wpAny_end {P : Program} {ops : Array Oper} {o : Oper} {Q : Exit → Act → World → Prop} (hf : ∀ (i : Nat) (p : Oper), ops[i]? = some p → ∀ e ∈ p.after, Region.binds .any e = true → e.on < i)
    (hfo : ∀ e ∈ o.after, Region.binds .any e = true → e.on < ops.size) {listed : Array Bool} (hl : listed.size = ops.size) (hall : ∀ i, i < ops.size → listed.getD i false = true) (fuel : Nat) {a : Act} {w : World} (h : lastQ P ops o Q .normal a w) :
    wpAny P .any (ops.push o) Q (fuel + 1) (listed.push false) a w := by
  refine ⟨fun hnil => ?_, fun i hi => ?_⟩
  · have := last_ready hfo hl hall
    rw [hnil] at this; cases this
  · have hin : i = ops.size := by
      rcases Nat.lt_or_ge i ops.size with hlt | hge
      · have := (push_ready hl hf hlt).1 hi
        rw [all_ready hl hall] at this; cases this
      · obtain ⟨_, q, hq, _⟩ := mem_ready.1 hi
        have := (Array.getElem?_eq_some_iff.1 hq).1
        simp at this; omega
    subst hin
    refine wpOp_mono (fun a w hh => ?_) (show wpOp P (ops.push o) Q ops.size (Q .normal) a w from h)
    refine wpAny_done (all_ready (by simp [hl]) fun j hj => ?_) fuel hh
    have hsz : ops.size < (listed.push false).size := by simp [hl]
    refine (getD_set hsz).2 ?_
    by_cases hj' : j = ops.size
    · exact .inl hj'
    · refine .inr ?_
      have hjl : j < ops.size := by simp at hj; omega
      have h2 := hall j hjl
      have hlt : j < listed.size := by omega
      simp only [Array.getD, Array.size_push, show j < listed.size + 1 by omega, hlt, dif_pos] at h2 ⊢
      rw [← h2]
      exact Array.getElem_push_lt hlt
theorem wpAny_last {P : Program} {ops : Array Oper} {o : Oper} {Q : Exit → Act → World → Prop} (hf : ∀ (i : Nat) (p : Oper), ops[i]? = some p → ∀ e ∈ p.after, Region.binds .any e = true → e.on < i)
    (hfo : ∀ e ∈ o.after, Region.binds .any e = true → e.on < ops.size) (hb : ∀ i, i < ops.size → ∃ j p, i < j ∧ (ops.push o)[j]? = some p ∧ depB p i = true)
    (hg : ∀ (i : Nat) (p : Oper), ops[i]? = some p → ∀ j want, p.guard = some (j, want) → j < ops.size) :
    ∀ (fuel : Nat) (listed : Array Bool) (a : Act) (w : World), listed.size = ops.size → (∀ (i : Nat) (p : Oper), ops[i]? = some p → listed.getD i false = true → ∀ e ∈ p.after, Region.binds .any e = true → listed.getD e.on false = true) →
      wpAny P .any ops (lastQ P ops o Q) fuel listed a w → wpAny P .any (ops.push o) Q (fuel + 1) (listed.push false) a w := by
  intro fuel
  induction fuel with
  | zero =>
    intro listed a w hl hd h
    have hall : ∀ i, i < ops.size → listed.getD i false = true := fun i hi => ready_all hl hf h.1 (i + 1) i (by omega) hi
    exact wpAny_end hf hfo hl hall 0 h.2
  | succ fuel ih =>
    intro listed a w hl hd h
    have hgt : ∀ j, j < ops.size → ∀ d, (listed.push false).getD j d = listed.getD j d := fun j hj d => by
      simp [Array.getD, hl, hj, show j < ops.size + 1 by omega]
      exact Array.getElem_push_lt (by omega)
    refine ⟨fun hnil => ?_, fun i hi => ?_⟩
    · exfalso
      have hn0 : Region.ready .any ops listed = [] := by
        apply List.eq_nil_iff_forall_not_mem.2
        intro j hj
        obtain ⟨_, q, hq, _⟩ := mem_ready.1 hj
        have hjl : j < ops.size := (Array.getElem?_eq_some_iff.1 hq).1
        have := (push_ready (o := o) hl hf hjl).2 hj
        rw [hnil] at this; cases this
      have hall : ∀ i, i < ops.size → listed.getD i false = true := fun i hi => ready_all hl hf hn0 (i + 1) i (by omega) hi
      have := last_ready hfo hl hall
      rw [hnil] at this; cases this
    · by_cases hin : i = ops.size
      · subst hin
        obtain ⟨_, q, hq, hqr⟩ := mem_ready.1 hi
        have hqo : q = o := by simpa using hq.symm
        subst hqo
        have hall : ∀ i, i < ops.size → listed.getD i false = true := fun i hi => last_all hl hb hd hqr ops.size i (by omega) hi
        have hz := h.1 (all_ready hl hall)
        exact (wpAny_end hf hfo hl hall (fuel + 1) hz).2 _ hi
      · have hil : i < ops.size := by
          obtain ⟨_, p, hp, _⟩ := mem_ready.1 hi
          have := (Array.getElem?_eq_some_iff.1 hp).1
          simp at this; omega
        have hr := (push_ready hl hf hil).1 hi
        refine wpOp_push hil hg (wpOp_mono (fun a w hh => ?_) (h.2 i hr))
        rw [push_set (by omega)]
        refine ih _ a w (by simp [hl]) (fun j p hp hj e he hbn => ?_) hh
        obtain ⟨_, q, hq, hqr⟩ := mem_ready.1 hr
        have hii : i < listed.size := by omega
        rcases (getD_set hii).1 hj with rfl | hj
        · rw [hp] at hq; cases hq
          exact (getD_set hii).2 (.inr (hqr e he hbn))
        · exact (getD_set hii).2 (.inr (hd j p hp hj e he hbn))
/-- the last operation hangs on all others; the others draw their order -/
def lastOk (all : List Oper) (eff : List Nat) : Bool :=
  drawB all.dropLast eff && lastB all && (all.zipIdx.all fun (p, i) => (p.after.toList.all fun e => !Region.binds .any e || decide (e.on < i))) &&
  (all.dropLast.all fun p => match p.guard with | none => true | some (j, _) => decide (j < all.length - 1))
def lastK (P : Program) (T : TypeId → TR) (eff : List Nat) (c : Cf) (K : Cf → Prop) (l : List Oper) : Option Oper → Prop
  | some o => evDraw P T l eff l 0 c [] fun c' => evOps P T (l ++ [o]) [o] c' K
  | none => False
theorem draw_last {P : Program} {T : TypeId → TR} (TO : TOk P T) (hm : P.follows .mixedOrders = true) {all : Array Oper} {eff : List Nat} (hb : lastOk all.toList eff = true) {c : Cf} {K : Cf → Prop} (h : lastK P T eff c K all.toList.dropLast all.toList.getLast?) : DrawOk P T all c K := by
  obtain ⟨l⟩ := all
  simp only at hb h
  rcases List.eq_nil_or_concat l with rfl | ⟨l, o, rfl⟩
  · exact h.elim
  rw [List.concat_eq_append] at *
  simp only [List.dropLast_concat, List.getLast?_concat, lastK] at h
  simp only [lastOk, List.dropLast_concat, Bool.and_eq_true, List.length_append, List.length_cons, List.length_nil, Nat.zero_add, Nat.add_sub_cancel] at hb
  obtain ⟨⟨⟨h1, h2⟩, h3⟩, h4⟩ := hb
  have e1 : (⟨l ++ [o]⟩ : Array Oper) = (⟨l⟩ : Array Oper).push o := by simp
  refine ⟨fun g a w st id Q hQ => ?_⟩
  rw [e1]
  refine wp_region_any hm ?_
  have hsz : ((⟨l⟩ : Array Oper).push o).size = (⟨l⟩ : Array Oper).size + 1 := by simp
  have hrep : Array.replicate ((⟨l⟩ : Array Oper).size + 1) false = (Array.replicate (⟨l⟩ : Array Oper).size false).push false := by
    rw [Array.replicate_succ]
  rw [hsz, hrep]
  have fl : ∀ (i : Nat) (p : Oper), (l ++ [o])[i]? = some p → ∀ e ∈ p.after, Region.binds .any e = true → e.on < i := fun i p hp e he hbn => by
    have h5 := List.all_eq_true.1 h3 (p, i) (List.mk_mem_zipIdx_iff_getElem?.2 hp)
    have h6 := List.all_eq_true.1 h5 e (by simpa using he)
    simpa [hbn] using h6
  refine wpAny_last (fun i p hp => fl i p ?_) (fun e he hbn => ?_) (fun i hi => ?_) (fun i p hp j want hgd => ?_) _ _ a _ (by simp) (fun i p hp hli => ?_) (draw_any TO h1 h st fun g' w' a' c' hK hs hx => ?_)
  · have hp' : l[i]? = some p := by simpa using hp
    have := (List.getElem?_eq_some_iff.1 hp').1
    rw [List.getElem?_append_left this]; exact hp'
  · have := fl l.length o (by simp) e he hbn
    simpa using this
  · have h5 := List.all_eq_true.1 h2 i (List.mem_range.2 (by simpa using hi))
    obtain ⟨⟨p, j⟩, hm', hj⟩ := List.any_eq_true.1 h5
    have hp := List.mk_mem_zipIdx_iff_getElem?.1 hm'
    simp only [Bool.and_eq_true, decide_eq_true_eq] at hj
    refine ⟨j, p, hj.1, ?_, hj.2⟩
    rw [← e1]; simpa using hp
  · have hp' : l[i]? = some p := by simpa using hp
    have h5 := List.all_eq_true.1 h4 p (List.mem_of_getElem? hp')
    rw [hgd] at h5
    simpa using h5
  · exfalso
    have : (Array.replicate (⟨l⟩ : Array Oper).size false).getD i false = false := by
      simp [Array.getElem?_replicate]
      split <;> rfl
    rw [this] at hli; cases hli
  · have hw := evOps_sound TO (l ++ [o]) [o] g' w' a' c' K hK hs (Q := Q) fun g2 w2 a2 c2 h5 h6 h7 => hQ g2 w2 a2 c2 h5 h6 (hx.trans h7)
    show wpOp P ((⟨l⟩ : Array Oper).push o) Q (⟨l⟩ : Array Oper).size (Q .normal) a' w'
    rw [← e1]
    unfold wpOp
    have ho : (⟨l ++ [o]⟩ : Array Oper)[(⟨l⟩ : Array Oper).size]? = some o := by simp
    rw [ho]
    exact hw
end Go.Proofs.YtofhakbmmgpgdaaGreatDoor
