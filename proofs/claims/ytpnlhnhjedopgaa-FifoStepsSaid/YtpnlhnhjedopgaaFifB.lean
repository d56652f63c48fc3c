/- A hall by its queues' texts. -/
import Derived.Test.YtpnlhnhjedopgaaFifA
import Derived.Test.YtpnlhnhjedopgaaNamF
set_option maxRecDepth 100000
set_option linter.unusedSimpArgs false
namespace Go.Proofs.Ytpnlhnhjedopgaa
open Go Go.RowKit Go.Proofs

def fT (l : FiL) (k : ByteArray) : List ByteArray := match lget l k with | some x => x.2.map (·.2) | none => []
def qT (e : ByteArray × Qu) : Nat := 16 + e.1.size + (e.2.2.map fun x => 16 + x.2.size).sum
def totF (l : FiL) : Nat := (l.map qT).sum
theorem lget_del_ne {α : Type} {k z : ByteArray} (hz : z ≠ k) : ∀ (l : List (ByteArray × α)), lget (ldel l k) z = lget l z
  | [] => rfl
  | (y, x) :: r => by
    by_cases h : k = y
    · subst h
      simp [ldel, lget, hz]
    · simp only [ldel, h, decide_false, lget, lget_del_ne hz r]
theorem fT_put (l : FiL) (k : ByteArray) (x : Qu) : fT (lput l k x) k = x.2.map (·.2) := by unfold fT; rw [lget_put_same]
theorem fT_put_ne (l : FiL) {k z : ByteArray} (x : Qu) (hz : z ≠ k) : fT (lput l k x) z = fT l z := by unfold fT; rw [lget_put_ne hz]
theorem totF_put (l : FiL) (k : ByteArray) (x : Qu) : (totF (lput l k x) : Nat) + (match lget l k with | some y => qT (k, y) | none => 0) = totF l + qT (k, x) := by
  induction l with
  | nil => simp [totF, lput, lget]
  | cons a r ih =>
    obtain ⟨z, y⟩ := a
    by_cases h : k = z
    · subst h
      simp [totF, lput, lget]; omega
    · simp only [totF, lput, h, decide_false, List.map_cons, List.sum_cons, lget] at ih ⊢
      omega
theorem totF_del (l : FiL) (k : ByteArray) (y : Qu) (h : lget l k = some y) : totF (ldel l k) + qT (k, y) = totF l := by
  induction l with
  | nil => cases h
  | cons a r ih =>
    obtain ⟨z, x⟩ := a
    by_cases hz : k = z
    · subst hz
      simp only [lget, decide_true, Option.some.injEq] at h
      subst h
      simp [totF, ldel]; omega
    · simp only [lget, hz, decide_false] at h
      have := ih h
      simp only [totF, ldel, hz, decide_false, List.map_cons, List.sum_cons] at this ⊢
      omega
theorem len_lput {α : Type} (k : ByteArray) (v : α) : ∀ (m : List (ByteArray × α)), (lput m k v).length ≤ m.length + 1
  | [] => by simp [lput]
  | (z, y) :: r => by
    by_cases hz : k = z
    · simp [lput, hz]
    · have := len_lput k v r
      simp only [lput, hz, decide_false, List.length_cons]
      omega
theorem fpush_T (G : Glob) (b : Nat) (mv : AV) (l : FiL) (k v : ByteArray) (hk : k.size ≤ 140737488351232) (hv : v.size ≤ 140737488351232) (n1 : totF l ≤ 4611686018427387904) (h : HallG G b mv (totF l) l) (hc : (fT l k).length < 4611686018427387904) :
    CallOk Try.prog TT 55 [.gptr b 0, .str k, .str v] G (fun x G' => x = .tup [] ∧ ∃ mv' l', HallG G' b mv' (totF l') l' ∧ fT l' k = fT l k ++ [v] ∧ (∀ z, z ≠ k → fT l' z = fT l z) ∧ totF l' ≤ totF l + (32 + v.size + k.size) ∧ l'.length ≤ l.length + 1 ∧ ∀ e ∈ l', e.1 = k ∨ e ∈ l) := by
  refine (fpush_ok G b mv (totF l) l k v hk hv (by omega) (by omega) h fun x hx => ?_).mono fun x G' hh => ?_
  · unfold fT at hc
    rw [hx] at hc
    simpa using hc
  obtain ⟨rfl, mv', j, q, hH⟩ := hh
  have hp := totF_put l k (match lget l k with | some x => (x.1, x.2 ++ [(j, v)]) | none => (q, [(j, v)]))
  have hn : ((totF l : Nat) : Int) + fgrow l k v = totF (lput l k (match lget l k with | some x => (x.1, x.2 ++ [(j, v)]) | none => (q, [(j, v)]))) := by
    unfold fgrow
    cases hq : lget l k with
    | some y => rw [hq] at hp; simp [qT] at hp ⊢; omega
    | none => rw [hq] at hp; simp [qT] at hp ⊢; omega
  rw [hn] at hH
  refine ⟨rfl, mv', _, hH, ?_, fun z hz => fT_put_ne _ _ hz, ?_, len_lput _ _ _, fun e he => ?_⟩
  · rw [fT_put]
    unfold fT
    cases lget l k <;> simp
  · cases hq : lget l k with
    | some y => rw [hq] at hp; simp [qT] at hp ⊢; omega
    | none => rw [hq] at hp; simp [qT] at hp ⊢; omega
  · rcases mem_lput l h.2.1 he with rfl | ⟨he, -⟩
    · exact .inl rfl
    · exact .inr he
theorem fpop_T0 (G : Glob) (b : Nat) (mv : AV) (l : FiL) (k : ByteArray) (h : HallG G b mv (totF l) l) (hq : fT l k = []) : CallOk Try.prog TT 56 [.gptr b 0, .str k] G (fun x G' => x = .tup [.str ⟨#[]⟩, .bool false] ∧ G' = G) := by
  refine fpop_none G b mv _ l k h.1 ?_
  cases hl : lget l k with
  | none => rfl
  | some x =>
    obtain ⟨h1, -⟩ := h.2.2.1 _ (lget_mem hl)
    unfold fT at hq
    rw [hl] at hq
    simp at hq
    exact absurd hq h1
theorem fpop_T (G : Glob) (b : Nat) (mv : AV) (l : FiL) (k t : ByteArray) (r : List ByteArray) (hk : k.size ≤ 140737488351232) (ht : t.size ≤ 140737488351232) (n1 : totF l ≤ 4611686018427387904) (h : HallG G b mv (totF l) l) (hq : fT l k = t :: r) :
    CallOk Try.prog TT 56 [.gptr b 0, .str k] G (fun x G' => x = .tup [.str t, .bool true] ∧ ∃ l', HallG G' b mv (totF l') l' ∧ fT l' k = r ∧ (∀ z, z ≠ k → fT l' z = fT l z) ∧ totF l' ≤ totF l ∧ l'.length ≤ l.length + 1 ∧ ∀ e ∈ l', e.1 = k ∨ e ∈ l) := by
  obtain ⟨q, i, r', hl, rfl⟩ : ∃ q i r', lget l k = some (q, (i, t) :: r') ∧ r'.map (·.2) = r := by
    unfold fT at hq
    cases hl : lget l k with
    | none => rw [hl] at hq; cases hq
    | some x =>
      rw [hl] at hq
      obtain ⟨q, ls⟩ := x
      cases ls with
      | nil => cases hq
      | cons a r' =>
        obtain ⟨i, t'⟩ := a
        simp at hq
        obtain ⟨rfl, h2⟩ := hq
        exact ⟨q, i, r', rfl, h2⟩
  refine (fpop_ok G b mv (totF l) l k t q i r' hk ht (by omega) (by omega) h hl).mono fun x G' hh => ?_
  obtain ⟨rfl, l', hl', hH⟩ := hh
  cases r' with
  | nil =>
    simp only at hl'
    subst hl'
    have hd := totF_del l k _ hl
    have hn : ((totF l : Nat) : Int) - fgrow (ldel l k) k t = totF (ldel l k) := by
      unfold fgrow
      rw [lget_del h.2.1]
      simp [qT] at hd ⊢
      omega
    rw [hn] at hH
    refine ⟨rfl, _, hH, ?_, fun z hz => ?_, by omega, ?_, fun e he => .inr (mem_ldel l h.2.1 he).1⟩
    · unfold fT; rw [lget_del h.2.1]; rfl
    · unfold fT; rw [lget_del_ne hz]
    · have := (ldel_sub k l).length_le
      omega
  | cons a r' =>
    simp only at hl'
    subst hl'
    have hp := totF_put l k (q, a :: r')
    rw [hl] at hp
    have hn : ((totF l : Nat) : Int) - fgrow (lput l k (q, a :: r')) k t = totF (lput l k (q, a :: r')) := by
      unfold fgrow
      rw [lget_put_same]
      simp [qT] at hp ⊢
      omega
    rw [hn] at hH
    refine ⟨rfl, _, hH, fT_put _ _ _, fun z hz => fT_put_ne _ _ hz, ?_, len_lput _ _ _, fun e he => ?_⟩
    · simp [qT] at hp; omega
    · rcases mem_lput l h.2.1 he with rfl | ⟨he, -⟩
      · exact .inl rfl
      · exact .inr he
theorem hall_empty {G : Glob} {b : Nat} {mv : AV} {n : Int} {l : FiL} (h : HallG G b mv n l) (hq : ∀ z, fT l z = []) : l = [] := by
  cases l with
  | nil => rfl
  | cons e r =>
    obtain ⟨z, x⟩ := e
    have := hq z
    simp [fT, lget] at this
    exact absurd this (h.2.2.1 (z, x) (by simp)).1
end Go.Proofs.Ytpnlhnhjedopgaa
