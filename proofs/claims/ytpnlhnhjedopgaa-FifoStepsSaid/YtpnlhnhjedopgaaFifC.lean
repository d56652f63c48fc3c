/- A hall and the document's rows: the plain law. -/
import Derived.Test.YtpnlhnhjedopgaaFifB
import Derived.Test.YtpnlhnhjedopgaaPopC
set_option maxRecDepth 100000
set_option linter.unusedSimpArgs false
namespace Go.Proofs.Ytpnlhnhjedopgaa
open Go Go.RowKit Go.Proofs

theorem lget_in {α : Type} {k : ByteArray} {v : α} : ∀ {m : List (ByteArray × α)}, (m.map (·.1)).Nodup → (k, v) ∈ m → lget m k = some v
  | [], _, h => by cases h
  | (z, y) :: r, hn, h => by
    simp only [List.map_cons, List.nodup_cons] at hn
    rcases List.mem_cons.1 h with h | h
    · cases h; simp [lget]
    · have hz : ¬ k = z := fun e => hn.1 (List.mem_map.2 ⟨_, h, e⟩)
      simp only [lget, hz, decide_false]
      exact lget_in hn.2 h
theorem sum_add {α : Type} (f g : α → Nat) : ∀ l : List α, (l.map fun x => f x + g x).sum = (l.map f).sum + (l.map g).sum
  | [] => rfl
  | x :: r => by simp only [List.map_cons, List.sum_cons, sum_add f g r]; omega
theorem sum_zero {α : Type} (f : α → Nat) : ∀ l : List α, (∀ x ∈ l, f x = 0) → (l.map f).sum = 0
  | [], _ => rfl
  | x :: r, h => by simp only [List.map_cons, List.sum_cons, sum_zero f r fun y hy => h y (by simp [hy]), h x (by simp)]
theorem sum_one {k : ByteArray} (n : Nat) : ∀ {ks : List ByteArray}, ks.Nodup → k ∈ ks → (ks.map fun z => if k = z then n else 0).sum = n
  | [], _, h => by cases h
  | z :: r, hn, h => by
    simp only [List.nodup_cons] at hn
    by_cases e : k = z
    · subst e
      simp only [List.map_cons, List.sum_cons, if_true]
      rw [sum_zero _ r fun y hy => by
        have : ¬ k = y := fun e => hn.1 (e ▸ hy)
        simp [this]]
      rfl
    · simp only [List.map_cons, List.sum_cons, e, if_false, Nat.zero_add]
      rcases List.mem_cons.1 h with h | h
      · exact absurd h e
      · exact sum_one n hn.2 h
/-- rows put together by their names -/
theorem sum_group (f : ByteArray × ByteArray → Nat) {ks : List ByteArray} (hn : ks.Nodup) : ∀ r : KvL, (∀ x ∈ r, x.1 ∈ ks) → (ks.map fun z => ((r.filter fun x => decide (x.1 = z)).map f).sum).sum = (r.map f).sum
  | [], _ => sum_zero _ _ fun _ _ => rfl
  | x :: r, h => by
    have ih := sum_group f hn r fun y hy => h y (by simp [hy])
    have h1 := sum_one (f x) hn (h x (by simp))
    rw [List.map_cons, List.sum_cons, ← ih, ← h1, ← sum_add]
    congr 1
    refine List.map_congr_left fun z _ => ?_
    by_cases e : x.1 = z <;> simp [e]
structure FInv (fl : FiL) (r : KvL) : Prop where
  nd : (fl.map (·.1)).Nodup
  ne : ∀ e ∈ fl, e.2.2 ≠ []
  tx : ∀ z, fT fl z = (r.filter fun x => decide (x.1 = z)).map (·.2)
theorem FInv.nil : FInv [] [] := ⟨List.nodup_nil, fun _ h => (by cases h), fun _ => rfl⟩
theorem fT_in {fl : FiL} (hn : (fl.map (·.1)).Nodup) {e : ByteArray × Qu} (he : e ∈ fl) : fT fl e.1 = e.2.2.map (·.2) := by
  unfold fT
  rw [lget_in hn he]
theorem FInv.keys {fl : FiL} {r : KvL} (h : FInv fl r) (z : ByteArray) : z ∈ fl.map (·.1) ↔ z ∈ r.map (·.1) := by
  constructor
  · intro hz
    obtain ⟨e, he, rfl⟩ := List.mem_map.1 hz
    have h1 := h.tx e.1
    rw [fT_in h.nd he] at h1
    have h2 := h.ne e he
    cases hf : r.filter fun x => decide (x.1 = e.1) with
    | nil =>
      rw [hf] at h1
      simp at h1
      exact absurd h1 h2
    | cons y ys =>
      have hy : y ∈ r.filter fun x => decide (x.1 = e.1) := by rw [hf]; simp
      rw [List.mem_filter] at hy
      exact List.mem_map.2 ⟨y, hy.1, by simpa using hy.2⟩
  · intro hz
    obtain ⟨x, hx, rfl⟩ := List.mem_map.1 hz
    have h1 := h.tx x.1
    have hm : x ∈ r.filter fun y => decide (y.1 = x.1) := List.mem_filter.2 ⟨hx, by simp⟩
    unfold fT at h1
    cases hl : lget fl x.1 with
    | none =>
      rw [hl] at h1
      have : (r.filter fun y => decide (y.1 = x.1)) = [] := by simpa using h1.symm
      rw [this] at hm
      cases hm
    | some q => exact List.mem_map.2 ⟨_, lget_mem hl, rfl⟩
theorem FInv.tot {fl : FiL} {r : KvL} (h : FInv fl r) : totF fl = sz28 r := by
  have hp : (fl.map (·.1)).Perm (namesN (r.map (·.1))) := namesN_perm h.nd h.keys
  have e1 : totF fl = ((fl.map (·.1)).map fun z => (16 + z.size) + ((r.filter fun x => decide (x.1 = z)).map fun x => 16 + x.2.size).sum).sum := by
    unfold totF
    rw [List.map_map]
    congr 1
    refine List.map_congr_left fun e he => ?_
    have h1 := h.tx e.1
    rw [fT_in h.nd he] at h1
    have h2 := congrArg (fun l => (l.map fun s : ByteArray => 16 + s.size).sum) h1
    simp only [List.map_map] at h2
    show 16 + e.1.size + (e.2.2.map fun x => 16 + x.2.size).sum = 16 + e.1.size + ((r.filter fun x => decide (x.1 = e.1)).map fun x => 16 + x.2.size).sum
    have h3 : (e.2.2.map fun x => 16 + x.2.size).sum = ((r.filter fun x => decide (x.1 = e.1)).map fun x => 16 + x.2.size).sum := h2
    omega
  rw [e1, sum_add, sum_group _ h.nd r fun x hx => (h.keys _).2 (List.mem_map.2 ⟨x, hx, rfl⟩), (hp.map _).sum_nat]
  unfold sz28 szA szN
  omega
theorem FInv.push {fl fl' : FiL} {r : KvL} (h : FInv fl r) {k v : ByteArray} (hn : (fl'.map (·.1)).Nodup) (hne : ∀ e ∈ fl', e.2.2 ≠ []) (h1 : fT fl' k = fT fl k ++ [v]) (h2 : ∀ z, z ≠ k → fT fl' z = fT fl z) : FInv fl' (r ++ [(k, v)]) := by
  refine ⟨hn, hne, fun z => ?_⟩
  rw [List.filter_append, List.map_append, ← h.tx z]
  by_cases hz : z = k
  · subst hz
    rw [h1]
    simp
  · rw [h2 z hz]
    have : ¬ k = z := fun e => hz e.symm
    simp [this]
theorem fgrow_sz {fl : FiL} {r : KvL} (h : FInv fl r) (k v : ByteArray) : ((sz28 r : Nat) : Int) + fgrow fl k v = sz28 (r ++ [(k, v)]) := by
  let x : Qu := match lget fl k with | some x => (x.1, x.2 ++ [(0, v)]) | none => (0, [(0, v)])
  have hI : FInv (lput fl k x) (r ++ [(k, v)]) := by
    refine h.push (nodup_lput _ _ _ h.nd) (fun e he => ?_) ?_ fun z hz => fT_put_ne _ _ hz
    · rcases mem_lput fl h.nd he with rfl | ⟨he, -⟩
      · show x.2 ≠ []
        simp only [x]
        cases lget fl k <;> simp
      · exact h.ne e he
    · rw [fT_put]
      simp only [x]
      unfold fT
      cases lget fl k <;> simp
  have hp := totF_put fl k x
  rw [← h.tot, ← hI.tot]
  unfold fgrow
  cases hq : lget fl k with
  | some y =>
    have hp' : totF (lput fl k (y.1, y.2 ++ [(0, v)])) + qT (k, y) = totF fl + qT (k, (y.1, y.2 ++ [(0, v)])) := by simpa only [x, hq] using hp
    have q : qT (k, (y.1, y.2 ++ [(0, v)])) = qT (k, y) + (16 + v.size) := by simp [qT]; omega
    simp only [x, hq]
    omega
  | none =>
    have hp' : totF (lput fl k (0, [(0, v)])) + 0 = totF fl + qT (k, (0, [(0, v)])) := by simpa only [x, hq] using hp
    have q : qT (k, ((0, [(0, v)]) : Qu)) = (16 + v.size) + (16 + k.size) := by simp [qT]; omega
    simp only [x, hq]
    omega
theorem popAt_spec : ∀ {r r' : KvL} {k t : ByteArray}, popAt r k = some (r', t) → (r.filter fun x => decide (x.1 = k)).map (·.2) = t :: (r'.filter fun x => decide (x.1 = k)).map (·.2) ∧ (∀ z, z ≠ k → (r'.filter fun x => decide (x.1 = z)) = r.filter fun x => decide (x.1 = z)) ∧ r'.length ≤ r.length ∧ (∀ x ∈ r', x ∈ r) ∧ (k, t) ∈ r
  | [], _, _, _, h => by cases h
  | x :: r, r', k, t, h => by
    by_cases hx : x.1 = k
    · simp only [popAt, hx, if_true, Option.some.injEq, Prod.mk.injEq] at h
      obtain ⟨rfl, rfl⟩ := h
      refine ⟨by simp [hx], fun z hz => ?_, by simp, fun y hy => by simp [hy], by simp [← hx]⟩
      have : ¬ x.1 = z := fun e => hz (e.symm.trans hx)
      simp [this]
    · simp only [popAt, hx, if_false, Option.map_eq_some_iff] at h
      obtain ⟨⟨r1, t1⟩, h1, h2⟩ := h
      simp only [Prod.mk.injEq] at h2
      obtain ⟨rfl, rfl⟩ := h2
      obtain ⟨g1, g2, g3, g4, g5⟩ := popAt_spec h1
      refine ⟨by simp [hx, g1], fun z hz => ?_, by simp [g3], fun y hy => ?_, by simp [g5]⟩
      · by_cases e : x.1 = z <;> simp [e, g2 z hz]
      · rcases List.mem_cons.1 hy with rfl | hy
        · simp
        · simp [g4 y hy]
theorem popAt_nil : ∀ {r : KvL} {k : ByteArray}, popAt r k = none → (r.filter fun x => decide (x.1 = k)) = []
  | [], _, _ => rfl
  | x :: r, k, h => by
    by_cases hx : x.1 = k
    · simp [popAt, hx] at h
    · simp only [popAt, hx, if_false, Option.map_eq_none_iff] at h
      simp [hx, popAt_nil h]
theorem FInv.pop {fl fl' : FiL} {r r' : KvL} (h : FInv fl r) {k t : ByteArray} (hp : popAt r k = some (r', t)) (hn : (fl'.map (·.1)).Nodup) (hne : ∀ e ∈ fl', e.2.2 ≠ []) (h1 : fT fl' k = (r'.filter fun x => decide (x.1 = k)).map (·.2)) (h2 : ∀ z, z ≠ k → fT fl' z = fT fl z) : FInv fl' r' := by
  refine ⟨hn, hne, fun z => ?_⟩
  by_cases hz : z = k
  · subst hz
    exact h1
  · rw [h2 z hz, h.tx z, (popAt_spec hp).2.1 z hz]
theorem FInv.hall {G : Glob} {b : Nat} {mv : AV} {n : Int} {fl : FiL} (h : HallG G b mv n fl) : (fl.map (·.1)).Nodup ∧ ∀ e ∈ fl, e.2.2 ≠ [] := ⟨h.2.1, fun e he => (h.2.2.1 e he).1⟩
theorem FInv.waits {fl : FiL} {r : KvL} (h : FInv fl r) (k : ByteArray) : (match lget fl k with | some x => (x.2.length : Int) | none => 0) = ((waitN r k : Nat) : Int) := by
  have h1 := congrArg List.length (h.tx k)
  unfold fT at h1
  unfold waitN
  cases hq : lget fl k with
  | some x => rw [hq] at h1; simp at h1 ⊢; omega
  | none => rw [hq] at h1; simp at h1 ⊢; omega
theorem FInv.names {fl : FiL} {r : KvL} (h : FInv fl r) : keysE fl = (namesN (r.map (·.1))).map fun s => [AV.str s] := keysE_names h.nd h.keys
end Go.Proofs.Ytpnlhnhjedopgaa
