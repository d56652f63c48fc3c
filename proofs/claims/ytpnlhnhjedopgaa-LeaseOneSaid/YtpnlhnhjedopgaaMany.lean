/- Append of a whole slice to a row of the call's own; a store into such a row. -/
import Derived.Test.YtpnlhnhjedopgaaTwo
import Derived.Laws.AppendOwnNone
namespace Go.Proofs.Ytpnlhnhjedopgaa
open Go Go.RowKit

theorem flat_at {α : Type} {cells : α → List Value} {size : Nat} (hs : 0 < size) : ∀ (l : List α) (j : Nat) (u : Value), (∀ x ∈ l, (cells x).length = size) → (l.flatMap cells)[j]? = some u → ∃ i x, l[i]? = some x ∧ (cells x)[j % size]? = some u ∧ j = i * size + j % size
  | [], j, u, _, h => by simp at h
  | y :: r, j, u, hc, h => by
    have hy := hc y (by simp)
    rw [List.flatMap_cons] at h
    rcases Nat.lt_or_ge j size with h1 | h1
    · rw [List.getElem?_append_left (by omega)] at h
      exact ⟨0, y, rfl, by rw [Nat.mod_eq_of_lt h1]; exact h, by rw [Nat.mod_eq_of_lt h1]; omega⟩
    · rw [List.getElem?_append_right (by omega), hy] at h
      obtain ⟨i, x, h2, h3, h4⟩ := flat_at hs r (j - size) u (fun x hx => hc x (by simp [hx])) h
      have hm : (j - size) % size = j % size := by rw [Nat.mod_eq_sub_mod h1]
      rw [hm] at h3 h4
      exact ⟨i + 1, x, by simpa using h2, h3, by rw [Nat.add_mul, Nat.one_mul]; omega⟩
theorem flat_len {α : Type} {cells : α → List Value} {size : Nat} : ∀ (l : List α), (∀ x ∈ l, (cells x).length = size) → (l.flatMap cells).length = l.length * size
  | [], _ => by simp
  | y :: r, hc => by
    rw [List.flatMap_cons, List.length_append, flat_len r (fun x hx => hc x (by simp [hx])), hc y (by simp), List.length_cons, Nat.add_mul]; omega

theorem run_append_none {P : Program} (t ty e : TypeId) (i : TypeInfo) {size base : Nat} {w : World} (ht : P.underlying t = some (.slice e)) (hi : P.info? e = some i)
    {v : Value} {n : Nat} {xs : List Value} (hown : w.ownsRow base e size v n xs) (c : Nat) : (Builtin.append_ #[t, t] ty #[v, .slice none 0 c]).run P w = .ok v w := by
  obtain ⟨_, ⟨rfl, rfl⟩ | ⟨g, cap, cur, rfl, _, _, hc, _⟩⟩ := hown
  · simp [Builtin.append_, run_underlying ht, sizeOf, typeInfo, hi, Builtin.lenOf, Builtin.firstCells]
  · simp [Builtin.append_, run_underlying ht, sizeOf, typeInfo, hi, Builtin.lenOf, Builtin.firstCells, hc, storeCells]
/-- what an append of a slice leaves -/
structure AppsOut (w w' : World) (base : Nat) (e : TypeId) (size : Nat) (v v' : Value) (n : Nat) (xs : List Value) : Prop where
  own : w'.ownsRow base e size v' n xs
  rows : ∀ base' e' size' v'' n' xs', (v''.ownBlock = none ∨ v''.ownBlock ≠ v.ownBlock) → w.ownsRow base' e' size' v'' n' xs' → w'.ownsRow base' e' size' v'' n' xs'
  blocks : ∀ (k : Nat) (o : Obj), w.heap[k]? = some o → some k ≠ v.ownBlock → w'.heap[k]? = some o
  up : ∀ w0 : World, w0.heap.size ≤ base → Up w0 w → Up w0 w'
  size : w.heap.size ≤ w'.heap.size
  at_ : v'.ownBlock = v.ownBlock ∨ v'.ownBlock = some w.heap.size
theorem wpList_apps {P : Program} {ops : Array Oper} {rest : List Oper} {o : Oper} {a : Act} {Q : Exit → Act → World → Prop} {w : World} (hgd : o.guard = none) (s x : Operand) (t e : TypeId)
    (ho : o.op = .call { callee := .builtin .append, args := #[s, x], argTypes := #[t, t] })
    {z : Value} {size bytes : Nat} (hr : Row1 P t e z size bytes) {base : Nat} (hbase : base ≤ w.heap.size)
    {v : Value} {n : Nat} {xs : List Value} (hs : a.eval s = v) (hown : w.ownsRow base e size v n xs) {α : Type} {l : List α} {cells : α → List Value} {vx : Value} (hx : a.eval x = vx) (hrow : Row w vx l size cells)
    (hc : ∀ x ∈ l, (cells x).length = size) (h1 : ∀ x ∈ l, ∀ u ∈ cells x, u.oneCell' = true) (h63 : n + l.length ≤ maxLen) (hbytes : (n + l.length) * bytes ≤ 140737488355328)
    (h : ∀ v' w', AppsOut w w' base e size v v' (n + l.length) (xs ++ l.flatMap cells) → wpList P ops Q rest (a.put o.dst v') w') : wpList P ops Q (o :: rest) a w := by
  obtain ⟨ht, hi, hzs, hsz⟩ := hr
  obtain ⟨i0, hi0, hz0, hz1, hz2⟩ := info_parts hi
  obtain ⟨p, cap, rfl, hlc, hm, hcell⟩ := hrow
  have key : ∃ v' w', (Builtin.append_ #[t, t] o.type #[v, .slice p l.length cap]).run P w = .ok v' w' ∧ AppsOut w w' base e size v v' (n + l.length) (xs ++ l.flatMap cells) := by
    cases p with
    | none =>
      have h0 : l.length = 0 := by
        rcases Nat.eq_zero_or_pos l.length with h0 | h0
        · exact h0
        · obtain ⟨_, _, hp, _⟩ := hcell h0; cases hp
      have hl : l = [] := List.eq_nil_of_length_eq_zero h0
      subst hl
      refine ⟨v, w, run_append_none t o.type e i0 ht hi0 hown cap, ⟨by simpa using hown, fun _ _ _ _ _ _ _ h => h, fun _ _ h _ => h, fun _ _ h => h, Nat.le_refl _, .inl rfl⟩⟩
    | some ad =>
      obtain ⟨v', w', hrun, h2, h3, _, h5⟩ := run_append_own_at (P := P) w base t o.type e i0 z size bytes ht hi0 hz0 hz1 hz2 hzs hsz v n xs hown ad l.length cap (l.flatMap cells) (flat_len l hc) (fun j u hj => by
        have hpos : 0 < l.length := by
          rcases Nat.eq_zero_or_pos l.length with h0 | h0
          · rw [List.eq_nil_of_length_eq_zero h0] at hj; simp at hj
          · exact h0
        obtain ⟨b, off, hp, hb, hcc⟩ := hcell hpos
        cases hp
        obtain ⟨i, x, g1, g2, g3⟩ := flat_at hsz l j u hc hj
        have := hcc i x g1 _ u g2
        rw [← g3] at this
        rw [show (⟨b, off, none⟩ : Addr).add j = ⟨b, off + j, none⟩ from by rw [Go.WideShapes.add_plain]]
        exact this) (fun u hu => by obtain ⟨x, hx1, hx2⟩ := List.mem_flatMap.1 hu; exact h1 x hx1 u hx2) h63 hbytes hbase
      refine ⟨v', w', hrun, h2, fun base' e' size' v'' n' xs' hne h => h.kept h3 hne, fun k o hk hne => ?_, fun w0 h0 hup => hup.grown h3 (fun k hk => Nat.le_trans h0 ((hown.lt) k hk).1), h3.size, h5⟩
      rw [h3.block k (blk_lt hk) hne]; exact hk
  refine wpList_plain hgd fun K hK => ?_
  obtain ⟨v', w', hrun, h2⟩ := key
  unfold Oper.wp execOp
  simp only [ho, resolve, invoke, builtin, Sem.run_bind, Sem.run_pure, Result.andThen_ok, List.map_toArray, List.map_cons, List.map_nil, hs, hx, hrun]
  exact hK _ _ (h v' w' h2)
/-- a store into a row of the call's own -/
theorem own_set {w : World} {base : Nat} {e : TypeId} {size : Nat} {g n cap : Nat} {xs : List Value} (h : w.ownsRow base e size (.slice (some ⟨g, 0, none⟩) n cap) n xs) (j : Nat) (u : Value) : (w.setCell ⟨g, j, none⟩ u).ownsRow base e size (.slice (some ⟨g, 0, none⟩) n cap) n (xs.set j u) := by
  obtain ⟨hl, ⟨hv, _⟩ | ⟨g', cap', cur, hv, hg, hb, hc, hm, hs, ht⟩⟩ := h
  · cases hv
  · simp only [Value.slice.injEq, Option.some.injEq, Addr.mk.injEq] at hv
    obtain ⟨⟨rfl, _, _⟩, _, rfl⟩ := hv
    refine ⟨by simpa using hl, .inr ⟨g, cap, cur.setIfInBounds j u, rfl, hg, blk_set hb j u, hc, hm, by simpa using hs, ?_⟩⟩
    rw [Array.toList_setIfInBounds, List.take_set, ht]
end Go.Proofs.Ytpnlhnhjedopgaa
