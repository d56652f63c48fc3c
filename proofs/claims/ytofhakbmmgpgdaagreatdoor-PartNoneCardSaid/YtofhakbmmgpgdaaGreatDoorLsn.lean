/- A region that draws its order, whose last operations hang on all that is ahead of them: the first in any order, then these one by one. -/
import Derived.Test.YtofhakbmmgpgdaaGreatDoorLst
import Derived.Test.YtofhakbmmgpgdaaGreatDoorPrm
set_option maxRecDepth 100000
namespace Go.Proofs.YtofhakbmmgpgdaaGreatDoor
open Go Go.RowKit Go.Proofs

section
variable {P : Program} {T : TypeId → TR}
def pushB (l : List Oper) (o : Oper) : Bool :=
  lastB (l ++ [o]) && ((l ++ [o]).zipIdx.all fun (p, i) => (p.after.toList.all fun e => !Region.binds .any e || decide (e.on < i))) && (l.all fun p => match p.guard with | none => true | some (j, _) => decide (j < l.length))
theorem AnyOk.push (TO : TOk P T) {l : List Oper} {o : Oper} {c : Cf} {K : Cf → Prop} (hb : pushB l o = true) (h : AnyOk P T l.toArray c fun c' => evOps P T (l ++ [o]) [o] c' K) : AnyOk P T (l ++ [o]).toArray c K := by
  simp only [pushB, Bool.and_eq_true, lastB, List.length_append, List.length_cons, List.length_nil, Nat.zero_add, Nat.add_sub_cancel] at hb
  obtain ⟨⟨h2, h3⟩, h4⟩ := hb
  have e1 : (⟨l ++ [o]⟩ : Array Oper) = (⟨l⟩ : Array Oper).push o := by simp
  refine ⟨fun g a w st Q hQ => ?_⟩
  rw [show (l ++ [o]).toArray = (⟨l⟩ : Array Oper).push o from e1]
  have hsz : ((⟨l⟩ : Array Oper).push o).size = (⟨l⟩ : Array Oper).size + 1 := by simp
  have hrep : Array.replicate ((⟨l⟩ : Array Oper).size + 1) false = (Array.replicate (⟨l⟩ : Array Oper).size false).push false := by
    rw [Array.replicate_succ]
  rw [hsz, hrep]
  have fl : ∀ (i : Nat) (p : Oper), (l ++ [o])[i]? = some p → ∀ e ∈ p.after, Region.binds .any e = true → e.on < i := fun i p hp e he hbn => by
    have h5 := List.all_eq_true.1 h3 (p, i) (List.mk_mem_zipIdx_iff_getElem?.2 hp)
    have h6 := List.all_eq_true.1 h5 e (by simpa using he)
    simpa [hbn] using h6
  refine wpAny_last (fun i p hp => fl i p ?_) (fun e he hbn => ?_) (fun i hi => ?_) (fun i p hp j want hgd => ?_) _ _ a _ (by simp) (fun i p hp hli => ?_) (h.any g a w st _ fun g' w' a' c' hK hs hx => ?_)
  · have hp' : l[i]? = some p := by simpa using hp
    have := (List.getElem?_eq_some_iff.1 hp').1
    rw [List.getElem?_append_left this]; exact hp'
  · have := fl l.length o (by simp) e he hbn
    simpa using this
  · have h5 := List.all_eq_true.1 h2 i (List.mem_range.2 (by simpa using hi))
    obtain ⟨⟨p, j⟩, hm', hj⟩ := List.any_eq_true.1 h5
    have hp := List.mk_mem_zipIdx_iff_getElem?.1 hm'
    simp only [Bool.and_eq_true, decide_eq_true_eq] at hj
    refine ⟨j, p, hj.1, ?_, hj.2⟩
    rw [← e1]; simpa using hp
  · have hp' : l[i]? = some p := by simpa using hp
    have h5 := List.all_eq_true.1 h4 p (List.mem_of_getElem? hp')
    rw [hgd] at h5
    simpa using h5
  · exfalso
    have : (Array.replicate (⟨l⟩ : Array Oper).size false).getD i false = false := by
      simp [Array.getElem?_replicate]
      split <;> rfl
    rw [this] at hli; cases hli
  · have hw := evOps_sound TO (l ++ [o]) [o] g' w' a' c' K hK hs (Q := Q) fun g2 w2 a2 c2 h5 h6 h7 => hQ g2 w2 a2 c2 h5 h6 (hx.trans h7)
    show wpOp P ((⟨l⟩ : Array Oper).push o) Q (⟨l⟩ : Array Oper).size (Q .normal) a' w'
    rw [← e1]
    unfold wpOp
    have ho : (⟨l ++ [o]⟩ : Array Oper)[(⟨l⟩ : Array Oper).size]? = some o := by simp
    rw [ho]
    exact hw
def lastsB (l : List Oper) : List Oper → Bool
  | [] => true
  | o :: r => pushB l o && lastsB (l ++ [o]) r
def lastsK (P : Program) (T : TypeId → TR) (l : List Oper) : List Oper → Cf → (Cf → Prop) → Prop
  | [], c, K => K c
  | o :: r, c, K => evOps P T (l ++ [o]) [o] c fun c' => lastsK P T (l ++ [o]) r c' K
theorem AnyOk.lasts (TO : TOk P T) : ∀ {m l : List Oper} {c : Cf} {K : Cf → Prop}, lastsB l m = true → (AnyOk P T l.toArray c fun c' => lastsK P T l m c' K) → AnyOk P T (l ++ m).toArray c K
  | [], l, c, K, _, h => by rw [List.append_nil]; exact h
  | o :: r, l, c, K, hb, h => by
    simp only [lastsB, Bool.and_eq_true] at hb
    have := AnyOk.lasts TO (m := r) (l := l ++ [o]) hb.2 (AnyOk.push TO hb.1 h)
    rwa [List.append_assoc] at this
theorem draw_lasts (n : Nat) {eff : List Nat} (TO : TOk P T) (hm : P.follows .mixedOrders = true) {ops : Array Oper} {c : Cf} {K : Cf → Prop} (hb : drawB (ops.toList.take n) eff = true) (hl : lastsB (ops.toList.take n) (ops.toList.drop n) = true)
    (h : evDraw P T (ops.toList.take n) eff (ops.toList.take n) 0 c [] fun c' => lastsK P T (ops.toList.take n) (ops.toList.drop n) c' K) : DrawOk P T ops c K :=
  ⟨fun g a w st id Q hQ => wp_region_any hm (by
    have h1 : AnyOk P T (ops.toList.take n).toArray c fun c' => lastsK P T (ops.toList.take n) (ops.toList.drop n) c' K := ⟨fun g a w st Q hQ => draw_any (ops := (ops.toList.take n).toArray) TO (by simpa using hb) (by simpa using h) st hQ⟩
    have h2 := AnyOk.lasts TO hl h1
    rw [List.take_append_drop, Array.toArray_toList] at h2
    exact h2.any g a w st Q hQ)⟩
end
end Go.Proofs.YtofhakbmmgpgdaaGreatDoor
