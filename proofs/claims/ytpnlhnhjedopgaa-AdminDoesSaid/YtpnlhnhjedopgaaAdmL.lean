/- who lives: the plain law of orders. -/
import Derived.Test.YtpnlhnhjedopgaaAllB
import Derived.Test.YtpnlhnhjedopgaaAdmH
set_option maxRecDepth 100000
set_option linter.unusedSimpArgs false
namespace Go.Proofs.Ytpnlhnhjedopgaa
open Go Go.RowKit Go.Proofs

theorem zget_del_ne {α : Type} {k z : Int} (hz : z ≠ k) : ∀ l : List (Int × α), zget (zdel l k) z = zget l z
  | [] => rfl
  | (x, y) :: r => by
    by_cases h : k = x
    · subst h; simp [zdel, zget, hz]
    · simp only [zdel, h, decide_false, zget]
      rw [zget_del_ne hz r]
theorem zget_not_mem {α : Type} {k : Int} : ∀ {l : List (Int × α)}, k ∉ l.map (·.1) → zget l k = none
  | [], _ => rfl
  | (x, y) :: r, h => by
    simp only [List.map_cons, List.mem_cons, not_or] at h
    simp only [zget, h.1, decide_false]
    exact zget_not_mem h.2
theorem zget_del_same {α : Type} {k : Int} : ∀ {l : List (Int × α)}, (l.map (·.1)).Nodup → zget (zdel l k) k = none
  | [], _ => rfl
  | (x, y) :: r, h => by
    simp only [List.map_cons, List.nodup_cons] at h
    by_cases hk : k = x
    · subst hk
      simp only [zdel, decide_true]
      exact zget_not_mem h.1
    · simp only [zdel, hk, decide_false, zget]
      exact zget_del_same h.2
theorem zput_len {α : Type} (k : Int) (v : α) : ∀ l : List (Int × α), (zput l k v).length ≤ l.length + 1
  | [] => by simp [zput]
  | (x, y) :: r => by
    by_cases hk : k = x
    · simp [zput, hk]
    · have := zput_len k v r
      simp only [zput, hk, decide_false, List.length_cons]; omega
structure TIn (l : TenL) (i : Nat) : Prop where
  nd : (l.map (·.1)).Nodup
  ky : ∀ e ∈ l, 1 ≤ e.1 ∧ e.1 ≤ 8
  ln : l.length ≤ i
theorem TIn.put {l : TenL} {i : Nat} (h : TIn l i) {k : Int} (hk : 1 ≤ k ∧ k ≤ 8) (v : Ten) : TIn (zput l k v) (i + 1) := by
  refine ⟨nodup_zput k v l h.nd, fun e he => ?_, by have := zput_len k v l; have := h.ln; omega⟩
  rcases mem_zput l h.nd he with rfl | ⟨he, _⟩
  · exact hk
  · exact h.ky e he
theorem TIn.del {l : TenL} {i : Nat} (h : TIn l i) (k : Int) : TIn (zdel l k) (i + 1) :=
  ⟨nodup_zdel k l h.nd, fun e he => h.ky e (mem_zdel l h.nd he).1, by have := (zdel_sub k l).length_le; have := h.ln; omega⟩
theorem do_zero {l : TenL} {o : Ord} (h : chkB l o = 0) : doB l o = if o.op = 1 then zput l o.owner ⟨o.c, false⟩ else if o.op = 2 then zput l o.owner ⟨(tenOf l o.owner).c, true⟩ else if o.op = 3 then zput l o.owner ⟨(tenOf l o.owner).c, false⟩ else if o.op = 4 then zdel l o.owner else if o.op = 6 then zput l o.owner ⟨o.c, (tenOf l o.owner).r⟩ else zput l o.owner (tenOf l o.owner) := by unfold doB; rw [if_neg (by simp [h])]
theorem do_no {l : TenL} {o : Ord} (h : chkB l o ≠ 0) : doB l o = l := by unfold doB; rw [if_pos h]
theorem TIn.step {l : TenL} {i : Nat} (h : TIn l i) (o : Ord) : TIn (doB l o) (i + 1) := by
  by_cases hz : chkB l o = 0
  · have hin := formB_in (chk_zero hz).1
    unfold inB at hin
    rw [do_zero hz]
    repeat' split
    all_goals first | exact h.put hin.2 _ | exact h.del _
  · rw [do_no hz]
    exact ⟨h.nd, h.ky, Nat.le_succ_of_le h.ln⟩
theorem do_other {l : TenL} {o : Ord} {z : Int} (hz : z ≠ o.owner) : zget (doB l o) z = zget l z := by
  by_cases hc : chkB l o = 0
  · rw [do_zero hc]
    repeat' split
    all_goals first | exact zget_put_ne hz _ l | exact zget_del_ne hz l
  · rw [do_no hc]
/-- what an order that was done has made of its owner -/
inductive DoW (l : TenL) (o : Ord) : Prop
  | c (h : o.op = 1) (h1 : zget l o.owner = none) (h2 : zget (doB l o) o.owner = some ⟨o.c, false⟩) (h3 : 1040 ≤ o.c.n0)
  | s (t : Ten) (h : o.op = 2) (h1 : zget l o.owner = some t) (h2 : zget (doB l o) o.owner = some ⟨t.c, true⟩) (h3 : t.r = false)
  | r (t : Ten) (h : o.op = 3) (h1 : zget l o.owner = some t) (h2 : zget (doB l o) o.owner = some ⟨t.c, false⟩) (h3 : t.r = true)
  | d (t : Ten) (h : o.op = 4) (h1 : zget l o.owner = some t) (h2 : zget (doB l o) o.owner = none)
  | k (t : Ten) (h : o.op = 5) (h1 : zget l o.owner = some t) (h2 : zget (doB l o) o.owner = some t)
  | q (t : Ten) (h : o.op = 6) (h1 : zget l o.owner = some t) (h2 : zget (doB l o) o.owner = some ⟨o.c, t.r⟩)
theorem doW {l : TenL} {i : Nat} (hl : TIn l i) {o : Ord} (hz : chkB l o = 0) : DoW l o := by
  obtain ⟨hf, hv⟩ := chk_zero hz
  have hin := formB_in hf
  unfold inB at hin
  have hd := do_zero hz
  have hn : o.op ≠ 1 → ∃ t, zget l o.owner = some t := fun h => by
    rcases hv with ⟨h1, _⟩ | ⟨_, h2⟩
    · exact absurd h1 h
    · exact Option.isSome_iff_exists.mp h2
  have ht : ∀ t, zget l o.owner = some t → tenOf l o.owner = t := fun t h => by unfold tenOf; rw [h]; rfl
  have hop : o.op = 1 ∨ o.op = 2 ∨ o.op = 3 ∨ o.op = 4 ∨ o.op = 5 ∨ o.op = 6 := by omega
  rcases hop with h | h | h | h | h | h
  · refine .c h ?_ ?_ ?_
    · rcases hv with ⟨_, h2⟩ | ⟨h2, _⟩
      · simpa [livB] using h2
      · exact absurd h h2
    · rw [hd, if_pos h]; exact zget_put_same _ _ l
    · have := formB_good hf (by simp [cfgB, h])
      rw [goodC_iff] at this
      exact this.1.1
  · obtain ⟨t, h1⟩ := hn (by omega)
    refine .s t h h1 ?_ ?_
    · rw [hd, if_neg (by omega), if_pos h, ht t h1]; exact zget_put_same _ _ l
    · unfold chkB at hz
      have hl : livB l o.owner = true := by unfold livB; rw [h1]; rfl
      rw [hf, hl, ht t h1] at hz
      cases hr : t.r with
      | false => rfl
      | true => rw [hr] at hz; simp [h] at hz
  · obtain ⟨t, h1⟩ := hn (by omega)
    refine .r t h h1 ?_ ?_
    · rw [hd, if_neg (by omega), if_neg (by omega), if_pos h, ht t h1]; exact zget_put_same _ _ l
    · unfold chkB at hz
      have hl : livB l o.owner = true := by unfold livB; rw [h1]; rfl
      rw [hf, hl, ht t h1] at hz
      cases hr : t.r with
      | true => rfl
      | false => rw [hr] at hz; simp [h] at hz
  · obtain ⟨t, h1⟩ := hn (by omega)
    refine .d t h h1 ?_
    rw [hd, if_neg (by omega), if_neg (by omega), if_neg (by omega), if_pos h]; exact zget_del_same hl.nd
  · obtain ⟨t, h1⟩ := hn (by omega)
    refine .k t h h1 ?_
    rw [hd, if_neg (by omega), if_neg (by omega), if_neg (by omega), if_neg (by omega), if_neg (by omega), ht t h1]; exact zget_put_same _ _ l
  · obtain ⟨t, h1⟩ := hn (by omega)
    refine .q t h h1 ?_
    rw [hd, if_neg (by omega), if_neg (by omega), if_neg (by omega), if_neg (by omega), if_pos h, ht t h1]; exact zget_put_same _ _ l
theorem TIn.wf {l : TenL} {i : Nat} (h : TIn l i) : ∀ x ∈ l, (Lit.int .i64 x.1).wf = true := fun x hx => by
  have := h.ky x hx
  simp only [Lit.wf, IntKind.min, IntKind.max, IntKind.signed, IntKind.bits, Bool.and_eq_true, decide_eq_true_eq]
  constructor <;> simp <;> omega
end Go.Proofs.Ytpnlhnhjedopgaa
