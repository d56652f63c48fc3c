/- A region that draws its order: its operations may be told in another order, what hangs on what being told alike. -/
import Derived.Test.YtofhakbmmgpgdaaDoorGc
set_option maxRecDepth 100000
namespace Go.Proofs.YtofhakbmmgpgdaaDoor
open Go Go.RowKit Go.Proofs

def dumO : Oper := { dst := none, op := .alloc 0, type := 0, pos := "", after := #[], guard := none }
def remapO (σ : List Nat) (o : Oper) : Oper := { o with after := (o.after.toList.map fun e => { e with on := σ.idxOf e.on }).toArray, guard := o.guard.map fun g => (σ.idxOf g.1, g.2) }
def permL (σ : List Nat) (l : List Oper) : List Oper := σ.map fun i => remapO σ (l.getD i dumO)
def permB (σ : List Nat) (n : Nat) : Bool := σ.length == n && (List.range n).all fun i => (σ[σ.idxOf i]? == some i) && (σ.idxOf (σ.getD i 0) == i) && decide (σ.idxOf i < n) && decide (σ.getD i 0 < n)
section
variable {P : Program} {ops : Array Oper} {Q : Exit → Act → World → Prop} {σ : List Nat}
structure PermOk (σ : List Nat) (n : Nat) : Prop where
  len : σ.length = n
  lt : ∀ i, i < n → σ.idxOf i < n
  at_ : ∀ i, i < n → σ[σ.idxOf i]? = some i
  back : ∀ p, p < n → ∃ i, i < n ∧ σ.idxOf i = p
  out : ∀ j, ¬ j < n → σ.idxOf j = n
theorem permB_ok {n : Nat} (h : permB σ n = true) : PermOk σ n := by
  simp only [permB, Bool.and_eq_true, beq_iff_eq, List.all_eq_true, List.mem_range, decide_eq_true_eq] at h
  obtain ⟨h1, h2⟩ := h
  refine ⟨h1, fun i hi => (h2 i hi).1.2, fun i hi => (h2 i hi).1.1.1, fun p hp => ⟨σ.getD p 0, (h2 p hp).2, (h2 p hp).1.1.2⟩, fun j hj => ?_⟩
  rw [← h1]
  refine List.idxOf_eq_length fun hm => hj ?_
  obtain ⟨q, hq⟩ := List.getElem?_of_mem hm
  have hql : q < n := by rw [← h1]; exact (List.getElem?_eq_some_iff.1 hq).1
  have := (h2 q hql).2
  rw [List.getD_eq_getElem?_getD, hq] at this
  exact this
theorem PermOk.inj {n i j : Nat} (h : PermOk σ n) (hi : i < n) (e : σ.idxOf j = σ.idxOf i) : j = i := by
  by_cases hj : j < n
  · have h1 := h.at_ i hi
    have h2 := h.at_ j hj
    rw [e, h1, Option.some.injEq] at h2
    exact h2.symm
  · have := h.out j hj
    have := h.lt i hi
    omega
theorem perm_size (h : PermOk σ ops.size) : (permL σ ops.toList).toArray.size = ops.size := by simp [permL, h.len]
theorem perm_at (h : PermOk σ ops.size) {i : Nat} (hi : i < ops.size) : (permL σ ops.toList).toArray[σ.idxOf i]? = some (remapO σ (ops[i]'hi)) := by
  simp only [permL, List.getElem?_toArray, List.getElem?_map, h.at_ i hi, Option.map_some, Option.some.injEq]
  congr 1
  rw [List.getD_eq_getElem?_getD]
  simp [hi]
theorem perm_yields (h : PermOk σ ops.size) (tmps : Array Value) (j : Nat) : yielded (permL σ ops.toList).toArray tmps (σ.idxOf j) = yielded ops tmps j := by
  unfold yielded
  by_cases hj : j < ops.size
  · rw [perm_at h hj]
    have : ops[j]? = some (ops[j]'hj) := by simp [hj]
    rw [this]; rfl
  · rw [h.out j hj]
    have e1 : ops[j]? = none := by simp; omega
    have e2 : (permL σ ops.toList).toArray[ops.size]? = none := by rw [Array.getElem?_eq_none_iff]; rw [perm_size h]; omega
    rw [e1, e2]
theorem perm_wanted (h : PermOk σ ops.size) (tmps : Array Value) (o : Oper) : Region.wanted (remapO σ o) (yielded (permL σ ops.toList).toArray tmps) = Region.wanted o (yielded ops tmps) := by
  unfold Region.wanted
  cases hg : o.guard with
  | none => simp [remapO, hg]
  | some g =>
    obtain ⟨j, want⟩ := g
    simp only [remapO, hg, Option.map_some, perm_yields h]
structure PermS (σ : List Nat) (n : Nat) (listed listed' : Array Bool) : Prop where
  s : listed.size = n
  s' : listed'.size = n
  at_ : ∀ j, listed'.getD (σ.idxOf j) false = listed.getD j false
theorem perm_ready (h : PermOk σ ops.size) {listed listed' : Array Bool} (s : PermS σ ops.size listed listed') {i : Nat} (hi : i < ops.size) : σ.idxOf i ∈ Region.ready .any (permL σ ops.toList).toArray listed' ↔ i ∈ Region.ready .any ops listed := by
  have hp := h.lt i hi
  have ho : ops[i]? = some (ops[i]'hi) := by simp [hi]
  rw [mem_ready, mem_ready, getD_ft (by rw [s.s']; exact hp), getD_ft (by rw [s.s]; exact hi), s.at_, perm_at h hi, ho]
  constructor
  · rintro ⟨h1, o, h2, h3⟩
    cases h2
    refine ⟨h1, _, rfl, fun e he hb => ?_⟩
    rw [← s.at_]
    exact h3 { e with on := σ.idxOf e.on } (by simp only [remapO]; exact List.mem_toArray.2 (List.mem_map.2 ⟨e, by simpa using he, rfl⟩)) hb
  · rintro ⟨h1, o, h2, h3⟩
    cases h2
    refine ⟨h1, _, rfl, fun e he hb => ?_⟩
    simp only [remapO] at he
    obtain ⟨e0, he0, rfl⟩ := List.mem_map.1 (List.mem_toArray.1 he)
    have := h3 e0 (Array.mem_toList_iff.1 he0) hb
    rw [← s.at_] at this
    exact this
theorem perm_op (h : PermOk σ ops.size) {i : Nat} (hi : i < ops.size) {K K' : Act → World → Prop} (hk : ∀ a w, K' a w → K a w) {a : Act} {w : World} (hh : wpOp P (permL σ ops.toList).toArray Q (σ.idxOf i) K' a w) : wpOp P ops Q i K a w := by
  unfold wpOp at hh ⊢
  have ho : ops[i]? = some (ops[i]'hi) := by simp [hi]
  rw [perm_at h hi] at hh
  rw [ho]
  simp only [perm_wanted h] at hh ⊢
  split
  · rename_i hw
    rw [if_pos hw] at hh
    rcases hh with hh | hh
    · exact .inl (Oper.wp_mono hk hh)
    · exact .inr hh
  · rename_i hw
    rw [if_neg hw] at hh
    exact hk _ _ hh
theorem perm_any (h : PermOk σ ops.size) : ∀ (fuel : Nat) (listed listed' : Array Bool) (a : Act) (w : World), PermS σ ops.size listed listed' → wpAny P .any (permL σ ops.toList).toArray Q fuel listed' a w → wpAny P .any ops Q fuel listed a w := by
  have nil_to : ∀ (listed listed' : Array Bool), PermS σ ops.size listed listed' → Region.ready .any (permL σ ops.toList).toArray listed' = [] → Region.ready .any ops listed = [] := fun listed listed' s hn => by
    apply List.eq_nil_iff_forall_not_mem.2
    intro i hi
    obtain ⟨_, o, ho, _⟩ := mem_ready.1 hi
    have hlt := (Array.getElem?_eq_some_iff.1 ho).1
    have := (perm_ready h s hlt).2 hi
    rw [hn] at this; cases this
  have nil_of : ∀ (listed listed' : Array Bool), PermS σ ops.size listed listed' → Region.ready .any ops listed = [] → Region.ready .any (permL σ ops.toList).toArray listed' = [] := fun listed listed' s hn => by
    apply List.eq_nil_iff_forall_not_mem.2
    intro p hp
    obtain ⟨_, o, ho, _⟩ := mem_ready.1 hp
    have hlt := (Array.getElem?_eq_some_iff.1 ho).1
    rw [perm_size h] at hlt
    obtain ⟨i, hi, rfl⟩ := h.back p hlt
    have := (perm_ready h s hi).1 hp
    rw [hn] at this; cases this
  intro fuel
  induction fuel with
  | zero => intro listed listed' a w s hh; exact ⟨nil_to _ _ s hh.1, hh.2⟩
  | succ fuel ih =>
    intro listed listed' a w s hh
    refine ⟨fun hn => hh.1 (nil_of _ _ s hn), fun i hi => ?_⟩
    obtain ⟨_, o, ho, _⟩ := mem_ready.1 hi
    have hlt := (Array.getElem?_eq_some_iff.1 ho).1
    refine perm_op h hlt (fun a w hk => ih _ _ a w ⟨by simp [s.s], by simp [s.s'], fun j => ?_⟩ hk) (hh.2 _ ((perm_ready h s hlt).2 hi))
    have g1 : ∀ (j : Nat), (listed.setIfInBounds i true).getD j false = true ↔ j = i ∨ listed.getD j false = true := fun j => getD_set (by rw [s.s]; exact hlt)
    have g2 : ∀ (p : Nat), (listed'.setIfInBounds (σ.idxOf i) true).getD p false = true ↔ p = σ.idxOf i ∨ listed'.getD p false = true := fun p => getD_set (by rw [s.s']; exact h.lt i hlt)
    rw [Bool.eq_iff_iff, g1, g2, s.at_]
    exact ⟨fun hq => hq.imp (fun e => h.inj hlt e) id, fun hq => hq.imp (fun e => by rw [e]) id⟩
end
/-- every order of the operations does what is said -/
structure AnyOk (P : Program) (T : TypeId → TR) (ops : Array Oper) (c : Cf) (K : Cf → Prop) : Prop where
  any : ∀ (g : Gh) (a : Act) (w : World), St T g w a c → ∀ (Q : Exit → Act → World → Prop), (∀ g' w' a' c', K c' → St T g' w' a' c' → Ext g w g' w' → Q .normal a' w') → wpAny P .any ops Q ops.size (Array.replicate ops.size false) a { w with drawn := w.drawn + 1 }
section
variable {P : Program} {T : TypeId → TR} {ops : Array Oper} {c : Cf} {K : Cf → Prop}
theorem rep_false (n i : Nat) : (Array.replicate n false).getD i false = false := by
  simp [Array.getElem?_replicate]
  split <;> rfl
theorem AnyOk.perm {σ : List Nat} (hσ : permB σ ops.size = true) (h : AnyOk P T (permL σ ops.toList).toArray c K) : AnyOk P T ops c K :=
  ⟨fun g a w st Q hQ => by
    have hp := permB_ok hσ
    have hd := h.any g a w st Q hQ
    rw [perm_size hp] at hd
    exact perm_any hp _ _ _ _ _ ⟨by simp, by simp, fun j => by rw [rep_false, rep_false]⟩ hd⟩
def addE (i j : Nat) (l : List Oper) : List Oper := match l[i]? with
  | some o => l.set i { o with after := o.after.push { on := j, ground := .data } }
  | none => l
def depAt (l : List Oper) (i k : Nat) : Bool := match l[i]? with
  | some o => depB o k
  | none => false
theorem addE_len (i j : Nat) (l : List Oper) : (addE i j l).length = l.length := by unfold addE; split <;> simp
theorem addE_ne {i j p : Nat} {l : List Oper} (h : p ≠ i) : (addE i j l)[p]? = l[p]? := by
  unfold addE
  split
  · exact List.getElem?_set_ne (Ne.symm h)
  · rfl
theorem addE_at {i j : Nat} {l : List Oper} {o : Oper} (h : l[i]? = some o) : (addE i j l)[i]? = some { o with after := o.after.push { on := j, ground := .data } } := by
  unfold addE
  rw [h]
  have := (List.getElem?_eq_some_iff.1 h).1
  simp [this]
def DownC (l : List Oper) (listed : Array Bool) : Prop := ∀ (i : Nat) (o : Oper), l[i]? = some o → listed.getD i false = true → ∀ e ∈ o.after, Region.binds .any e = true → listed.getD e.on false = true
theorem more_yields (i j : Nat) (l : List Oper) (tmps : Array Value) : yielded (addE i j l).toArray tmps = yielded l.toArray tmps := by
  funext p
  unfold yielded
  simp only [List.getElem?_toArray]
  by_cases hp : p = i
  · subst hp
    cases h : l[p]? with
    | none => unfold addE; rw [h]; simp only; rw [h]
    | some o => rw [addE_at h]; rfl
  · rw [addE_ne hp]
theorem more_any {l : List Oper} {i k j : Nat} (hik : depAt l i k = true) (hkj : depAt l k j = true) {Q : Exit → Act → World → Prop} : ∀ (fuel : Nat) (listed : Array Bool) (a : Act) (w : World), listed.size = l.length → DownC l listed → wpAny P .any (addE i j l).toArray Q fuel listed a w → wpAny P .any l.toArray Q fuel listed a w := by
  have hr : ∀ (listed : Array Bool), DownC l listed → ∀ p, p ∈ Region.ready .any (addE i j l).toArray listed ↔ p ∈ Region.ready .any l.toArray listed := fun listed hd p => by
    rw [mem_ready, mem_ready]
    simp only [List.getElem?_toArray]
    by_cases hp : p = i
    · subst hp
      unfold depAt at hik hkj
      cases h : l[p]? with
      | none => rw [h] at hik; cases hik
      | some o =>
        rw [h] at hik
        rw [addE_at h]
        constructor
        · rintro ⟨h1, o', h2, h3⟩
          cases h2
          exact ⟨h1, o, rfl, fun e he hb => h3 e (by simp [he]) hb⟩
        · rintro ⟨h1, o', h2, h3⟩
          cases h2
          refine ⟨h1, _, rfl, fun e he hb => ?_⟩
          simp only [Array.mem_push] at he
          rcases he with he | rfl
          · exact h3 e he hb
          · obtain ⟨e1, f1, f2, f3⟩ := depB_iff.1 hik
            have hk := h3 e1 f1 f2
            rw [f3] at hk
            cases hlk : l[k]? with
            | none => rw [hlk] at hkj; cases hkj
            | some ok =>
              rw [hlk] at hkj
              obtain ⟨e2, g1, g2, g3⟩ := depB_iff.1 hkj
              have := hd k ok hlk hk e2 g1 g2
              rw [g3] at this
              exact this
    · rw [addE_ne hp]
  intro fuel
  induction fuel with
  | zero =>
    intro listed a w _ hd hh
    refine ⟨?_, hh.2⟩
    apply List.eq_nil_iff_forall_not_mem.2
    intro p hp
    have := (hr listed hd p).2 hp
    rw [hh.1] at this; cases this
  | succ fuel ih =>
    intro listed a w hs hd hh
    refine ⟨fun hn => hh.1 ?_, fun p hp => ?_⟩
    · apply List.eq_nil_iff_forall_not_mem.2
      intro p hp
      have := (hr listed hd p).1 hp
      rw [hn] at this; cases this
    · have h2 := hh.2 p ((hr listed hd p).2 hp)
      obtain ⟨_, o, ho, hrd⟩ := mem_ready.1 hp
      simp only [List.getElem?_toArray] at ho
      have hlt : p < listed.size := by rw [hs]; exact (List.getElem?_eq_some_iff.1 ho).1
      have hd' : DownC l (listed.setIfInBounds p true) := fun q oq hq hl e he hb => by
        rcases (getD_set hlt).1 hl with rfl | hl
        · rw [ho] at hq; cases hq
          exact (getD_set hlt).2 (.inr (hrd e he hb))
        · exact (getD_set hlt).2 (.inr (hd q oq hq hl e he hb))
      have go : ∀ a w, wpAny P .any (addE i j l).toArray Q fuel (listed.setIfInBounds p true) a w → wpAny P .any l.toArray Q fuel (listed.setIfInBounds p true) a w := fun a w hk => ih _ a w (by simp [hs]) hd' hk
      have key : ∀ o', o'.op = o.op → o'.dst = o.dst → o'.guard = o.guard → (∀ a w K, Oper.wp P o' a w K Q = Oper.wp P o a w K Q) → (o'.asks P a w = o.asks P a w) → (addE i j l)[p]? = some o' → wpOp P l.toArray Q p (wpAny P .any l.toArray Q fuel (listed.setIfInBounds p true)) a w := fun o' e1 e2 e3 e4 e5 h => by
        unfold wpOp at h2 ⊢
        simp only [List.getElem?_toArray, ho, h, more_yields] at h2 ⊢
        have hw : Region.wanted o' (yielded l.toArray a.tmps) = Region.wanted o (yielded l.toArray a.tmps) := by unfold Region.wanted; rw [e3]
        rw [hw, e4, e5, e2] at h2
        split
        · rename_i hw'
          rw [if_pos hw'] at h2
          exact h2.imp (fun h => Oper.wp_mono go h) id
        · rename_i hw'
          rw [if_neg hw'] at h2
          exact go _ _ h2
      by_cases hpi : p = i
      · subst hpi
        exact key { o with after := o.after.push { on := j, ground := .data } } rfl rfl rfl (fun _ _ _ => rfl) rfl (addE_at ho)
      · exact key o rfl rfl rfl (fun _ _ _ => rfl) rfl (by rw [addE_ne hpi]; exact ho)
theorem AnyOk.more {l : List Oper} {i k j : Nat} (hik : depAt l i k = true) (hkj : depAt l k j = true) (h : AnyOk P T (addE i j l).toArray c K) : AnyOk P T l.toArray c K :=
  ⟨fun g a w st Q hQ => by
    have hd := h.any g a w st Q hQ
    have e : (addE i j l).toArray.size = l.toArray.size := by simp [addE_len]
    rw [e] at hd
    exact more_any hik hkj _ _ _ _ (by simp) (fun i o _ hl => by rw [rep_false] at hl; cases hl) hd⟩
def addEs : List (Nat × Nat × Nat) → List Oper → List Oper
  | [], l => l
  | (i, _, j) :: r, l => addEs r (addE i j l)
def exB : List (Nat × Nat × Nat) → List Oper → Bool
  | [], _ => true
  | (i, k, j) :: r, l => depAt l i k && depAt l k j && exB r (addE i j l)
theorem AnyOk.mores : ∀ {ex : List (Nat × Nat × Nat)} {l : List Oper}, exB ex l = true → AnyOk P T (addEs ex l).toArray c K → AnyOk P T l.toArray c K
  | [], _, _, h => h
  | (i, k, j) :: r, l, hb, h => by
    simp only [exB, Bool.and_eq_true] at hb
    exact .more hb.1.1 hb.1.2 (.mores hb.2 h)
/-- a region that draws its order, its operations told in another order, what hangs on what told at length -/
theorem draw_perm {eff σ : List Nat} (ex : List (Nat × Nat × Nat)) (TO : TOk P T) (hm : P.follows .mixedOrders = true) (he : exB ex ops.toList = true) (hσ : permB σ (addEs ex ops.toList).length = true) (hb : drawB (permL σ (addEs ex ops.toList)) eff = true)
    (h : evDraw P T (permL σ (addEs ex ops.toList)) eff (permL σ (addEs ex ops.toList)) 0 c [] K) : DrawOk P T ops c K :=
  ⟨fun g a w st id Q hQ => wp_region_any hm (by
    have h1 : AnyOk P T (permL σ (addEs ex ops.toList)).toArray c K := ⟨fun g a w st Q hQ => draw_any (ops := (permL σ (addEs ex ops.toList)).toArray) TO hb h st hQ⟩
    have h2 : AnyOk P T (addEs ex ops.toList).toArray c K := .perm (ops := (addEs ex ops.toList).toArray) (by simpa using hσ) h1
    exact (AnyOk.mores (l := ops.toList) he h2).any g a w st Q hQ)⟩
end
end Go.Proofs.YtofhakbmmgpgdaaDoor
