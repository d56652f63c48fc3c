/- Chapter 21 in plain words: what was issued, what of it is known, and a table that says the same. No program in sight. -/
import Derived.Test.YtmmmaekaoanceaaDiceA
namespace Go.Proofs.Ytmmmaekaoanceaa
open Go Go.RowKit

/-- what was issued -/
structure MRow where
  owner : Int
  epoch : Int
  tag : Nat
  known : Bool
def MRow.off (o : Int) (r : MRow) : MRow := if r.owner = o then { r with known := false } else r
def epochL (l : List MRow) (o : Int) : Nat := l.countP (fun r => r.owner == o)
def revokeL (l : List MRow) (o : Int) : List MRow := l.map (MRow.off o)
def wasL (l : List MRow) (o : Int) : Bool := l.any (fun r => r.owner == o && r.known)
def tagN (n e o : Nat) : Nat := if mixN n (256 * e + o) = 0 then 1 else mixN n (256 * e + o)
def issueL (l : List MRow) (o n : Nat) : List MRow := revokeL l o ++ [⟨o, (epochL l o + 1 : Nat), tagN n (epochL l o + 1) o, true⟩]
def knowsL (l : List MRow) (o e : Int) (t : Nat) : Bool := l.any (fun r => r.known && r.owner == o && r.epoch == e && r.tag == t)
theorem tagN_pos (n e o : Nat) : tagN n e o ≠ 0 := by unfold tagN; split <;> omega
theorem tagN_lt (n e o : Nat) : tagN n e o < 18446744073709551616 := by unfold tagN; split; omega; exact mixN_lt _ _
theorem tagN_max (n e o : Nat) : max (mixN n (256 * e + o)) 1 = tagN n e o := by unfold tagN; split <;> omega

/-- a table: of each owner the epoch, and the epoch and the tag that are known -/
structure Tab where
  es : Nat → Nat
  bs : Nat → Int × Nat
def knowsT (t : Tab) (o e : Int) (tag : Nat) : Bool := decide (0 ≤ o ∧ o ≤ 8 ∧ tag ≠ 0 ∧ t.bs o.toNat = (e, tag))
def Tab.clear (t : Tab) (o : Nat) : Tab := ⟨t.es, fun i => if i = o then (0, 0) else t.bs i⟩
def Tab.issue (t : Tab) (o n : Nat) : Tab := ⟨fun i => if i = o then t.es o + 1 else t.es i, fun i => if i = o then (((t.es o + 1 : Nat) : Int), tagN n (t.es o + 1) o) else t.bs i⟩
def Tab.none : Tab := ⟨fun _ => 0, fun _ => (0, 0)⟩
structure TabOf (l : List MRow) (t : Tab) : Prop where
  own : ∀ r ∈ l, 0 ≤ r.owner ∧ r.owner ≤ 8
  ep : ∀ o : Nat, o ≤ 8 → t.es o = epochL l o
  kn : ∀ o e tag, knowsL l o e tag = knowsT t o e tag
  bz : ∀ o, o ≤ 8 → t.bs o = (0, 0) ∨ (t.bs o).2 ≠ 0
theorem tabOf_start : TabOf [] Tab.none := by
  refine ⟨(fun r h => by cases h), fun o _ => rfl, fun o e tag => ?_, fun o _ => .inl rfl⟩
  show false = _
  symm
  unfold knowsT Tab.none
  simp
  intro _ _ h1 _ h2
  exact h1 h2.symm
theorem TabOf.was {l : List MRow} {t : Tab} (h : TabOf l t) {o : Nat} (ho : o ≤ 8) : wasL l o = decide (t.bs o ≠ (0, 0)) := by
  by_cases hz : t.bs o = (0, 0)
  · rw [hz]
    simp only [ne_eq, not_true_eq_false, decide_false]
    unfold wasL
    rw [List.any_eq_false]
    intro r hr hp
    simp only [Bool.and_eq_true, beq_iff_eq] at hp
    have hk := h.kn o r.epoch r.tag
    have h1 : knowsL l o r.epoch r.tag = true := by
      unfold knowsL
      rw [List.any_eq_true]
      exact ⟨r, hr, by simp [hp.1, hp.2]⟩
    rw [h1] at hk
    unfold knowsT at hk
    have hk2 := of_decide_eq_true hk.symm
    obtain ⟨_, _, h3, h4⟩ := hk2
    rw [Int.toNat_natCast, hz] at h4
    exact h3 (congrArg Prod.snd h4).symm
  · rw [decide_eq_true hz]
    have h2 := (h.bz o ho).resolve_left hz
    have hk := h.kn o (t.bs o).1 (t.bs o).2
    have h3 : knowsT t o (t.bs o).1 (t.bs o).2 = true := decide_eq_true ⟨by omega, by omega, h2, by rw [Int.toNat_natCast]⟩
    rw [h3] at hk
    unfold knowsL at hk
    obtain ⟨r, hr, hp⟩ := List.any_eq_true.1 hk
    simp only [Bool.and_eq_true, beq_iff_eq] at hp
    unfold wasL
    rw [List.any_eq_true]
    exact ⟨r, hr, by simp [hp.1.1.1, hp.1.1.2]⟩
theorem off_owner (o : Int) (r : MRow) : (r.off o).owner = r.owner := by unfold MRow.off; split <;> rfl
theorem off_epoch (o : Int) (r : MRow) : (r.off o).epoch = r.epoch := by unfold MRow.off; split <;> rfl
theorem off_tag (o : Int) (r : MRow) : (r.off o).tag = r.tag := by unfold MRow.off; split <;> rfl
theorem epoch_revoke (l : List MRow) (o p : Int) : epochL (revokeL l o) p = epochL l p := by
  unfold epochL revokeL
  rw [List.countP_map]
  congr 1
  funext r
  simp [Function.comp, off_owner]
theorem knows_revoke (l : List MRow) (o p e : Int) (t : Nat) : knowsL (revokeL l o) p e t = if p = o then false else knowsL l p e t := by
  unfold knowsL revokeL
  rw [List.any_map]
  induction l with
  | nil => simp
  | cons r l ih =>
    simp only [List.any_cons, Function.comp]
    rw [ih]
    rw [off_owner, off_epoch, off_tag]
    by_cases hp : p = o
    · subst hp
      rw [if_pos rfl, if_pos rfl]
      by_cases hr : r.owner = p
      · have : (r.off p).known = false := by unfold MRow.off; rw [if_pos hr]
        simp [this]
      · have : (r.owner == p) = false := beq_eq_false_iff_ne.2 hr
        simp [this]
    · rw [if_neg hp, if_neg hp]
      by_cases hr : r.owner = o
      · have : (r.owner == p) = false := beq_eq_false_iff_ne.2 (fun h => hp (h.symm.trans hr))
        simp [this]
      · have : r.off o = r := by unfold MRow.off; rw [if_neg hr]
        rw [this]
theorem revoke_out {l : List MRow} {t : Tab} (h : TabOf l t) {o : Int} (ho : ¬ (0 ≤ o ∧ o ≤ 8)) : revokeL l o = l ∧ wasL l o = false := by
  constructor
  · unfold revokeL
    conv => rhs; rw [← List.map_id l]
    refine List.map_congr_left fun r hr => ?_
    have := h.own r hr
    unfold MRow.off
    rw [if_neg (fun h => ho (by omega))]; rfl
  · unfold wasL
    rw [List.any_eq_false]
    intro r hr hp
    simp only [Bool.and_eq_true, beq_iff_eq] at hp
    have := h.own r hr
    exact ho (by omega)
theorem epoch_out {l : List MRow} {t : Tab} (h : TabOf l t) {o : Int} (ho : ¬ (0 ≤ o ∧ o ≤ 8)) : epochL l o = 0 := by
  unfold epochL
  rw [List.countP_eq_zero]
  intro r hr hp
  simp only [beq_iff_eq] at hp
  have := h.own r hr
  exact ho (by omega)
theorem epochL_le (l : List MRow) (o : Int) : epochL l o ≤ l.length := List.countP_le_length
theorem TabOf.revoke {l : List MRow} {t : Tab} (h : TabOf l t) (o : Nat) : TabOf (revokeL l o) (t.clear o) := by
  refine ⟨fun r hr => ?_, fun p hp => ?_, fun p e tag => ?_, fun p hp => ?_⟩
  · unfold revokeL at hr
    obtain ⟨x, hx, rfl⟩ := List.mem_map.1 hr
    rw [off_owner]; exact h.own x hx
  · rw [epoch_revoke]; exact h.ep p hp
  · rw [knows_revoke, h.kn]
    unfold knowsT Tab.clear
    by_cases hp : p = o
    · subst hp
      rw [if_pos rfl]
      symm
      rw [decide_eq_false_iff_not]
      simp
      intro _ h1 _ h2
      exact h1 h2.symm
    · rw [if_neg hp]
      by_cases hp2 : p.toNat = o
      · have : ¬ (0 ≤ p) := by omega
        simp [this]
      · simp [hp2]
  · unfold Tab.clear
    simp only
    split
    · exact .inl rfl
    · exact h.bz p hp
theorem TabOf.issue {l : List MRow} {t : Tab} (h : TabOf l t) {o : Nat} (n : Nat) (ho : o ≤ 8) : TabOf (issueL l o n) (t.issue o n) := by
  have h2 := h.revoke o
  have he := h.ep o ho
  refine ⟨fun r hr => ?_, fun p hp => ?_, fun p e tag => ?_, fun p hp => ?_⟩
  · unfold issueL at hr
    rcases List.mem_append.1 hr with hr | hr
    · exact h2.own r hr
    · rw [List.mem_singleton.1 hr]; exact ⟨by show (0 : Int) ≤ (o : Int); omega, by show (o : Int) ≤ 8; omega⟩
  · unfold issueL Tab.issue
    unfold epochL
    rw [List.countP_append, List.countP_singleton]
    have := epoch_revoke l o p
    unfold epochL at this
    rw [this]
    simp only [beq_iff_eq]
    by_cases hpo : p = o
    · subst hpo; rw [if_pos rfl, if_pos rfl, he]; rfl
    · rw [if_neg hpo, if_neg (by omega), h.ep p hp]; rfl
  · have hk := knows_revoke l o p e tag
    unfold issueL
    unfold knowsL at hk ⊢
    rw [List.any_append, hk]
    have hk2 := h.kn p e tag
    unfold knowsL at hk2
    rw [hk2]
    simp only [List.any_cons, List.any_nil, Bool.or_false, Bool.true_and]
    unfold knowsT Tab.issue
    by_cases hpo : p = o
    · subst hpo
      rw [if_pos rfl, Bool.false_or]
      simp only [Int.toNat_natCast, if_pos]
      rw [he]
      have ht := tagN_pos n (epochL l o + 1) o
      rw [Bool.eq_iff_iff]
      simp only [Bool.and_eq_true, beq_iff_eq, decide_eq_true_eq, Prod.mk.injEq, true_and]
      constructor
      · rintro ⟨h3, h4⟩
        exact ⟨by omega, by omega, by rw [← h4]; exact ht, h3, h4⟩
      · rintro ⟨_, _, _, h3, h4⟩
        exact ⟨h3, h4⟩
    · rw [if_neg hpo]
      have h5 : ((o : Int) == p) = false := beq_eq_false_iff_ne.2 (fun h => hpo h.symm)
      rw [h5, Bool.false_and, Bool.false_and, Bool.or_false]
      by_cases hp2 : p.toNat = o
      · have : ¬ (0 ≤ p) := by omega
        simp [this]
      · simp [hp2]
  · unfold Tab.issue
    simp only
    split
    · exact .inr (tagN_pos _ _ _)
    · exact h.bz p hp
end Go.Proofs.Ytmmmaekaoanceaa
