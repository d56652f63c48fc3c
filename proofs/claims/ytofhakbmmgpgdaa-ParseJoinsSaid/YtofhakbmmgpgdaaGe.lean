/- One text out of several: App, Two, Many. -/
import Derived.Test.YtofhakbmmgpgdaaBase
import Derived.Test.YtofhakbmmgpgdaaRow
import Derived.Maps.AppendAt
import Derived.RegionTactic
import Derived.Laws.AppendOwnNone

section
/- Append of one element that was just laid in a block of its own, to a row of the call's own: what of the other blocks is said too. -/
namespace Go.Proofs.Ytofhakbmmgpgdaa
open Go

theorem wpList_app2 {P : Program} {ops : Array Oper} {rest : List Oper} {o : Oper} {a : Act} {Q : Exit → Act → World → Prop} (hgd : o.guard = none) (s x : Operand) (t e : TypeId)
    (ho : o.op = .call { callee := .builtin .append, args := #[s, x], argTypes := #[t, t] })
    {z : Value} {size bytes : Nat} (hr : Row1 P t e z size bytes) {base : Nat} {wr : World} (hbase : base ≤ wr.heap.size)
    {v : Value} {n : Nat} {xs : List Value} (hown : wr.ownsRow base e size v n xs) (hs : a.eval s = v) (us : Array Value) (hx : a.eval x = .slice (some ⟨wr.heap.size, 0, none⟩) 1 1)
    (hl : us.size = size) (h1 : ∀ u ∈ us.toList, u.oneCell' = true) (h63 : n + 1 ≤ maxLen) (hbytes : (n + 1) * bytes ≤ 140737488355328)
    (h : ∀ v' w', w'.ownsRow base e size v' (n + 1) (xs ++ us.toList) → (∀ (k : Nat) (o : Obj), wr.heap[k]? = some o → k < base → w'.heap[k]? = some o) → (∀ w0 : World, w0.heap.size ≤ base → Up w0 wr → Up w0 w') →
      wpList P ops Q rest (a.put o.dst v') w') :
    wpList P ops Q (o :: rest) a (wr.alloc (.cells us e (0, 0))) := by
  obtain ⟨ht, hi, hzs, hsz⟩ := hr
  obtain ⟨i0, hi0, hz0, hz1, hz2⟩ := info_parts hi
  refine wpList_append_own _ hgd s x t ho base e i0 z size bytes ht hi0 hz0 hz1 hz2 hzs hsz v n xs hs (hown.alloc _) ⟨wr.heap.size, 0, none⟩ 1 1 us.toList hx (by simp [hl]) ?_ h1 h63 hbytes ?_ ?_
  · intro j u hj
    have := World.cell?_alloc_mark wr us e (0, 0) j
    have hadd : (⟨wr.heap.size, 0, none⟩ : Addr).add j = ⟨wr.heap.size, j, none⟩ := by unfold Addr.add; split <;> simp_all
    rw [hadd, this]
    simpa using hj
  · simp; omega
  · intro v' w' hown' hg _
    refine h v' w' hown' (fun k o hk hkb => ?_) (fun w0 h0 hup => (hup.alloc _).grown hg (fun k hk => Nat.le_trans h0 ((hown.lt) k hk).1))
    have hk2 : (wr.alloc (.cells us e (0, 0))).heap[k]? = some o := blk_alloc hk
    rw [World.grownBy.block hg k (blk_lt hk2) (fun h => by have := ((hown.lt) k h.symm).1; omega)]
    exact hk2
/-- a cell of a row of the call's own, when the row's block is known -/
theorem own_shape {w : World} {base : Nat} {e : TypeId} {size : Nat} {v : Value} {n : Nat} {xs : List Value} (h : w.ownsRow base e size v n xs) (hn : 0 < n) : ∃ g cap, v = .slice (some ⟨g, 0, none⟩) n cap ∧ n ≤ cap ∧ cap ≤ maxLen ∧ base ≤ g ∧ g < w.heap.size := by
  obtain ⟨_, ⟨_, h0⟩ | ⟨g, cap, cur, rfl, hg, hb, hc, hm, _, _⟩⟩ := h
  · omega
  · exact ⟨g, cap, rfl, hc, hm, hg, blk_lt hb⟩
theorem own_up {w w' : World} {base : Nat} {e : TypeId} {size : Nat} {v : Value} {n : Nat} {xs : List Value} (h : w.ownsRow base e size v n xs) (hu : Up w w') : w'.ownsRow base e size v n xs := by
  obtain ⟨hl, h | ⟨g, cap, cur, hv, hg, hb, h⟩⟩ := h
  · exact ⟨hl, .inl h⟩
  · exact ⟨hl, .inr ⟨g, cap, cur, hv, hg, hu.keep hb, h⟩⟩
theorem own_base {w : World} {base base' : Nat} {e : TypeId} {size : Nat} {v : Value} {n : Nat} {xs : List Value} (h : w.ownsRow base e size v n xs) (hb : base' ≤ base) : w.ownsRow base' e size v n xs := by
  obtain ⟨hl, h | ⟨g, cap, cur, hv, hg, hw, h⟩⟩ := h
  · exact ⟨hl, .inl h⟩
  · exact ⟨hl, .inr ⟨g, cap, cur, hv, Nat.le_trans hb hg, hw, h⟩⟩
end Go.Proofs.Ytofhakbmmgpgdaa
end

section
/- Rows of the call's own side by side, of unlike elements: an append to one leaves the other; a step of a region that draws its order. -/
namespace Go.Proofs.Ytofhakbmmgpgdaa
open Go Go.RowKit

section
variable {w w' : World} {base base' : Nat} {e e' : TypeId} {size size' : Nat} {v v' : Value} {n n' : Nat} {xs xs' : List Value}
theorem own_slice (h : w.ownsRow base e size v n xs) : ∃ p cap, v = .slice p n cap ∧ n ≤ cap ∧ cap ≤ maxLen := by
  obtain ⟨_, ⟨rfl, rfl⟩ | ⟨g, cap, cur, rfl, _, _, hc, hm, _⟩⟩ := h
  · exact ⟨none, 0, rfl, Nat.le_refl _, by decide⟩
  · exact ⟨_, cap, rfl, hc, hm⟩
theorem own_drew (h : w.ownsRow base e size v n xs) : w.drew.ownsRow base e size v n xs := own_up h ((Up.refl _).drew)
theorem own_apart (h : w.ownsRow base e size v n xs) (h' : w.ownsRow base' e' size' v' n' xs') (hne : e ≠ e') : v.ownBlock = none ∨ v.ownBlock ≠ v'.ownBlock := by
  obtain ⟨_, ⟨rfl, _⟩ | ⟨g, cap, cur, rfl, _, hg, _⟩⟩ := h
  · exact .inl rfl
  · right
    obtain ⟨_, ⟨rfl, _⟩ | ⟨g', cap', cur', rfl, _, hg', _⟩⟩ := h'
    · simp [Value.ownBlock]
    · simp only [Value.ownBlock, ne_eq, Option.some.injEq]
      rintro rfl
      rw [hg] at hg'
      simp only [Option.some.injEq, Obj.cells.injEq] at hg'
      exact hne hg'.2.1
theorem own_not (h : w.ownsRow base e size v n xs) {k : Nat} {cs : Array Value} {T : TypeId} {fr : Nat × Nat} (hk : w.heap[k]? = some (.cells cs T fr)) (hne : T ≠ e) : some k ≠ v.ownBlock := by
  obtain ⟨_, ⟨rfl, _⟩ | ⟨g, cap, cur, rfl, _, hg, _⟩⟩ := h
  · simp [Value.ownBlock]
  · simp only [Value.ownBlock, ne_eq, Option.some.injEq]
    rintro rfl
    rw [hg] at hk
    simp only [Option.some.injEq, Obj.cells.injEq] at hk
    exact hne hk.2.1.symm
end
theorem own_symm {x y : Value} (h : x.ownBlock = none ∨ x.ownBlock ≠ y.ownBlock) : y.ownBlock = none ∨ y.ownBlock ≠ x.ownBlock := by
  rcases h with h | h
  · rw [h]; cases y.ownBlock <;> simp
  · exact .inr (Ne.symm h)
theorem blk_ne {w : World} {g : Nat} {o : Obj} (h : w.heap[g]? = some o) {k i : Nat} (hne : g ≠ k) (v : Value) : (w.setCell ⟨k, i, none⟩ v).heap[g]? = some o := by
  rw [Below.heap_setCell _ _ _ _ (by simpa using hne)]; exact h
theorem blk_drew {w : World} {g : Nat} {o : Obj} (h : w.heap[g]? = some o) : w.drew.heap[g]? = some o := h
theorem blk_new' {w : World} {o : Obj} {n : Nat} (h : w.heap.size = n) : (w.alloc o).heap[n]? = some o := by subst h; exact blk_new w o
/-- what an append of one element to a row leaves: the row; the rows of other elements; all other blocks -/
structure AppOut (P : Program) (w w' : World) (base : Nat) (e : TypeId) (size : Nat) (v v' : Value) (n : Nat) (xs us : List Value) : Prop where
  own : w'.ownsRow base e size v' (n + 1) (xs ++ us)
  rows : ∀ base' e' size' v'' n' xs', e ≠ e' → w.ownsRow base' e' size' v'' n' xs' → w'.ownsRow base' e' size' v'' n' xs'
  rows2 : ∀ base' e' size' v'' n' xs', v''.ownBlock = none ∨ v''.ownBlock ≠ v.ownBlock → w.ownsRow base' e' size' v'' n' xs' → w'.ownsRow base' e' size' v'' n' xs'
  blocks : ∀ (k : Nat) (o : Obj), w.heap[k]? = some o → some k ≠ v.ownBlock → w'.heap[k]? = some o
  up : ∀ w0 : World, w0.heap.size ≤ base → Up w0 w → Up w0 w'
  size : w.heap.size ≤ w'.heap.size
  at_ : v'.ownBlock = v.ownBlock ∨ v'.ownBlock = some w.heap.size
theorem run_app {P : Program} (t ty e : TypeId) {z : Value} {size bytes : Nat} (hr : Row1 P t e z size bytes) {base : Nat} {w : World} (hbase : base ≤ w.heap.size)
    {v : Value} {n : Nat} {xs : List Value} (hown : w.ownsRow base e size v n xs) (N : Nat) (us : Array Value) (hl : us.size = size) {T : TypeId} (hb : w.heap[N]? = some (.cells us T (0, 0))) (h1 : ∀ u ∈ us.toList, u.oneCell' = true)
    (h63 : n + 1 ≤ maxLen) (hbytes : (n + 1) * bytes ≤ 140737488355328) :
    ∃ v' w', (Builtin.append_ #[t, t] ty #[v, .slice (some ⟨N, 0, none⟩) 1 1]).run P w = .ok v' w' ∧ AppOut P w w' base e size v v' n xs us.toList := by
  obtain ⟨ht, hi, hzs, hsz⟩ := hr
  obtain ⟨i0, hi0, hz0, hz1, hz2⟩ := info_parts hi
  obtain ⟨v', w', hr, h2, h3, h4, h5⟩ := run_append_own_at (P := P) w base t ty e i0 z size bytes ht hi0 hz0 hz1 hz2 hzs hsz v n xs hown ⟨N, 0, none⟩ 1 1 us.toList (by simp [hl]) (fun j u hj => by
    have hadd : (⟨N, 0, none⟩ : Addr).add j = ⟨N, j, none⟩ := by unfold Addr.add; split <;> simp_all
    rw [hadd, blk_cell hb]; simpa using hj) h1 h63 hbytes hbase
  refine ⟨v', w', hr, h2, fun base' e' size' v'' n' xs' hne h => h.kept h3 (own_apart h hown (Ne.symm hne)), fun base' e' size' v'' n' xs' hne h => h.kept h3 hne, fun k o hk hne => ?_, fun w0 h0 hup => hup.grown h3 (fun k hk => Nat.le_trans h0 ((hown.lt) k hk).1), h3.size, h5⟩
  rw [h3.block k (blk_lt hk) hne]; exact hk
theorem step_app {P : Program} {ops : Array Oper} {o : Oper} {a : Act} {K : Act → World → Prop} {Q : Exit → Act → World → Prop} {E : Prop} {w : World} (hgd : o.guard = none) (s x : Operand) (t e : TypeId)
    (ho : o.op = .call { callee := .builtin .append, args := #[s, x], argTypes := #[t, t] })
    {z : Value} {size bytes : Nat} (hr : Row1 P t e z size bytes) {base : Nat} (hbase : base ≤ w.heap.size)
    {v : Value} {n : Nat} {xs : List Value} (hs : a.eval s = v) (hown : w.ownsRow base e size v n xs) (N : Nat) (us : Array Value) (hx : a.eval x = .slice (some ⟨N, 0, none⟩) 1 1) (hl : us.size = size) {T : TypeId} (hb : w.heap[N]? = some (.cells us T (0, 0))) (h1 : ∀ u ∈ us.toList, u.oneCell' = true)
    (h63 : n + 1 ≤ maxLen) (hbytes : (n + 1) * bytes ≤ 140737488355328)
    (h : ∀ v' w', AppOut P w w' base e size v v' n xs us.toList → K (a.put o.dst v') w') :
    if Region.wanted o (yielded ops a.tmps) = true then Oper.wp P o a w K Q else E := by
  have hw : Region.wanted o (yielded ops a.tmps) = true := by simp [Region.wanted, hgd]
  rw [if_pos hw]
  obtain ⟨v', w', hr, h2⟩ := run_app (P := P) t o.type e hr hbase hown N us hl hb h1 h63 hbytes
  unfold Oper.wp execOp
  simp only [ho, resolve, invoke, builtin, Sem.run_bind, Sem.run_pure, Result.andThen_ok, List.map_toArray, List.map_cons, List.map_nil, hs, hx, hr]
  exact h v' w' h2
theorem wpList_app {P : Program} {ops : Array Oper} {rest : List Oper} {o : Oper} {a : Act} {Q : Exit → Act → World → Prop} {w : World} (hgd : o.guard = none) (s x : Operand) (t e : TypeId)
    (ho : o.op = .call { callee := .builtin .append, args := #[s, x], argTypes := #[t, t] })
    {z : Value} {size bytes : Nat} (hr : Row1 P t e z size bytes) {base : Nat} (hbase : base ≤ w.heap.size)
    {v : Value} {n : Nat} {xs : List Value} (hs : a.eval s = v) (hown : w.ownsRow base e size v n xs) (N : Nat) (us : Array Value) (hx : a.eval x = .slice (some ⟨N, 0, none⟩) 1 1) (hl : us.size = size) {T : TypeId} (hb : w.heap[N]? = some (.cells us T (0, 0))) (h1 : ∀ u ∈ us.toList, u.oneCell' = true)
    (h63 : n + 1 ≤ maxLen) (hbytes : (n + 1) * bytes ≤ 140737488355328)
    (h : ∀ v' w', AppOut P w w' base e size v v' n xs us.toList → wpList P ops Q rest (a.put o.dst v') w') : wpList P ops Q (o :: rest) a w :=
  wpList_plain hgd fun K hK => by
    obtain ⟨v', w', hr, h2⟩ := run_app (P := P) t o.type e hr hbase hown N us hl hb h1 h63 hbytes
    unfold Oper.wp execOp
    simp only [ho, resolve, invoke, builtin, Sem.run_bind, Sem.run_pure, Result.andThen_ok, List.map_toArray, List.map_cons, List.map_nil, hs, hx, hr]
    exact hK _ _ (h v' w' h2)
/-- two rows that lie in blocks of their own stay so, when one of them is appended to -/
theorem AppOut.apart {P : Program} {w w' : World} {base : Nat} {e : TypeId} {size : Nat} {v v' : Value} {n : Nat} {xs us : List Value} (h : AppOut P w w' base e size v v' n xs us) {x : Value} (hx : x.ownBlock = none ∨ x.ownBlock ≠ v.ownBlock) (hl : ∀ k, x.ownBlock = some k → k < w.heap.size) :
    x.ownBlock = none ∨ x.ownBlock ≠ v'.ownBlock := by
  rcases hx with h0 | h0
  · exact .inl h0
  · right
    rcases h.at_ with h1 | h1
    · rw [h1]; exact h0
    · rw [h1]; intro h2; have := hl _ h2; omega
/-- a row of the call's own, as a slice that is handed on -/
theorem row_of_own {α : Type} {w : World} {base : Nat} {e : TypeId} {size : Nat} {v : Value} {n : Nat} {l : List α} {cells : α → List Value} (hc : ∀ x ∈ l, (cells x).length = size) (h : w.ownsRow base e size v n (l.flatMap cells)) (hn : l.length = n) : Row w v l size cells := by
  subst hn
  obtain ⟨hl, ⟨rfl, h0⟩ | ⟨g, cap, cur, rfl, hg, hb, hc1, hm, hs, ht⟩⟩ := h
  · have : l = [] := List.eq_nil_of_length_eq_zero h0
    subst this
    exact ⟨none, 0, rfl, Nat.le_refl _, by decide, fun h => by simp at h⟩
  · refine ⟨_, cap, rfl, hc1, hm, fun _ => ⟨g, 0, rfl, blk_lt hb, fun i x hx j u hj => ?_⟩⟩
    rw [blk_cell hb, Nat.zero_add]
    have key : ∀ (l : List α) (i : Nat) (x : α) (j : Nat) (u : Value), (∀ x ∈ l, (cells x).length = size) → l[i]? = some x → (cells x)[j]? = some u → (l.flatMap cells)[i * size + j]? = some u := by
      intro l
      induction l with
      | nil => intro i x j u _ h; simp at h
      | cons y r ih =>
        intro i x j u hc hx hj
        have hy := hc y (by simp)
        rw [List.flatMap_cons]
        cases i with
        | zero =>
          simp only [List.getElem?_cons_zero, Option.some.injEq] at hx
          subst hx
          have hjl := (List.getElem?_eq_some_iff.1 hj).1
          rw [List.getElem?_append_left (by omega), Nat.zero_mul, Nat.zero_add]; exact hj
        | succ i =>
          rw [List.getElem?_append_right (by rw [hy, Nat.add_mul]; omega)]
          have := ih i x j u (fun x hx => hc x (by simp [hx])) (by simpa using hx) hj
          rw [hy, Nat.add_mul, Nat.one_mul, show i * size + size + j - size = i * size + j from by omega]; exact this
    have h2 := key l i x j u hc hx hj
    rw [← ht] at h2
    have h3 := (List.getElem?_eq_some_iff.1 h2).1
    rw [List.getElem?_take_of_lt (by simp at h3; omega)] at h2
    simpa using h2
end Go.Proofs.Ytofhakbmmgpgdaa
end

section
/- Append of a whole slice to a row of the call's own; a store into such a row. -/
namespace Go.Proofs.Ytofhakbmmgpgdaa
open Go Go.RowKit

theorem flat_at {α : Type} {cells : α → List Value} {size : Nat} (hs : 0 < size) : ∀ (l : List α) (j : Nat) (u : Value), (∀ x ∈ l, (cells x).length = size) → (l.flatMap cells)[j]? = some u → ∃ i x, l[i]? = some x ∧ (cells x)[j % size]? = some u ∧ j = i * size + j % size
  | [], j, u, _, h => by simp at h
  | y :: r, j, u, hc, h => by
    have hy := hc y (by simp)
    rw [List.flatMap_cons] at h
    rcases Nat.lt_or_ge j size with h1 | h1
    · rw [List.getElem?_append_left (by omega)] at h
      exact ⟨0, y, rfl, by rw [Nat.mod_eq_of_lt h1]; exact h, by rw [Nat.mod_eq_of_lt h1]; omega⟩
    · rw [List.getElem?_append_right (by omega), hy] at h
      obtain ⟨i, x, h2, h3, h4⟩ := flat_at hs r (j - size) u (fun x hx => hc x (by simp [hx])) h
      have hm : (j - size) % size = j % size := by rw [Nat.mod_eq_sub_mod h1]
      rw [hm] at h3 h4
      exact ⟨i + 1, x, by simpa using h2, h3, by rw [Nat.add_mul, Nat.one_mul]; omega⟩
theorem flat_len {α : Type} {cells : α → List Value} {size : Nat} : ∀ (l : List α), (∀ x ∈ l, (cells x).length = size) → (l.flatMap cells).length = l.length * size
  | [], _ => by simp
  | y :: r, hc => by
    rw [List.flatMap_cons, List.length_append, flat_len r (fun x hx => hc x (by simp [hx])), hc y (by simp), List.length_cons, Nat.add_mul]; omega

theorem run_append_none {P : Program} (t ty e : TypeId) (i : TypeInfo) {size base : Nat} {w : World} (ht : P.underlying t = some (.slice e)) (hi : P.info? e = some i)
    {v : Value} {n : Nat} {xs : List Value} (hown : w.ownsRow base e size v n xs) (c : Nat) : (Builtin.append_ #[t, t] ty #[v, .slice none 0 c]).run P w = .ok v w := by
  obtain ⟨_, ⟨rfl, rfl⟩ | ⟨g, cap, cur, rfl, _, _, hc, _⟩⟩ := hown
  · simp [Builtin.append_, run_underlying ht, sizeOf, typeInfo, hi, Builtin.lenOf, Builtin.firstCells]
  · simp [Builtin.append_, run_underlying ht, sizeOf, typeInfo, hi, Builtin.lenOf, Builtin.firstCells, hc, storeCells]
/-- what an append of a slice leaves -/
structure AppsOut (w w' : World) (base : Nat) (e : TypeId) (size : Nat) (v v' : Value) (n : Nat) (xs : List Value) : Prop where
  own : w'.ownsRow base e size v' n xs
  rows : ∀ base' e' size' v'' n' xs', (v''.ownBlock = none ∨ v''.ownBlock ≠ v.ownBlock) → w.ownsRow base' e' size' v'' n' xs' → w'.ownsRow base' e' size' v'' n' xs'
  blocks : ∀ (k : Nat) (o : Obj), w.heap[k]? = some o → some k ≠ v.ownBlock → w'.heap[k]? = some o
  up : ∀ w0 : World, w0.heap.size ≤ base → Up w0 w → Up w0 w'
  size : w.heap.size ≤ w'.heap.size
  at_ : v'.ownBlock = v.ownBlock ∨ v'.ownBlock = some w.heap.size
theorem wpList_apps {P : Program} {ops : Array Oper} {rest : List Oper} {o : Oper} {a : Act} {Q : Exit → Act → World → Prop} {w : World} (hgd : o.guard = none) (s x : Operand) (t e : TypeId)
    (ho : o.op = .call { callee := .builtin .append, args := #[s, x], argTypes := #[t, t] })
    {z : Value} {size bytes : Nat} (hr : Row1 P t e z size bytes) {base : Nat} (hbase : base ≤ w.heap.size)
    {v : Value} {n : Nat} {xs : List Value} (hs : a.eval s = v) (hown : w.ownsRow base e size v n xs) {α : Type} {l : List α} {cells : α → List Value} {vx : Value} (hx : a.eval x = vx) (hrow : Row w vx l size cells)
    (hc : ∀ x ∈ l, (cells x).length = size) (h1 : ∀ x ∈ l, ∀ u ∈ cells x, u.oneCell' = true) (h63 : n + l.length ≤ maxLen) (hbytes : (n + l.length) * bytes ≤ 140737488355328)
    (h : ∀ v' w', AppsOut w w' base e size v v' (n + l.length) (xs ++ l.flatMap cells) → wpList P ops Q rest (a.put o.dst v') w') : wpList P ops Q (o :: rest) a w := by
  obtain ⟨ht, hi, hzs, hsz⟩ := hr
  obtain ⟨i0, hi0, hz0, hz1, hz2⟩ := info_parts hi
  obtain ⟨p, cap, rfl, hlc, hm, hcell⟩ := hrow
  have key : ∃ v' w', (Builtin.append_ #[t, t] o.type #[v, .slice p l.length cap]).run P w = .ok v' w' ∧ AppsOut w w' base e size v v' (n + l.length) (xs ++ l.flatMap cells) := by
    cases p with
    | none =>
      have h0 : l.length = 0 := by
        rcases Nat.eq_zero_or_pos l.length with h0 | h0
        · exact h0
        · obtain ⟨_, _, hp, _⟩ := hcell h0; cases hp
      have hl : l = [] := List.eq_nil_of_length_eq_zero h0
      subst hl
      refine ⟨v, w, run_append_none t o.type e i0 ht hi0 hown cap, ⟨by simpa using hown, fun _ _ _ _ _ _ _ h => h, fun _ _ h _ => h, fun _ _ h => h, Nat.le_refl _, .inl rfl⟩⟩
    | some ad =>
      obtain ⟨v', w', hrun, h2, h3, _, h5⟩ := run_append_own_at (P := P) w base t o.type e i0 z size bytes ht hi0 hz0 hz1 hz2 hzs hsz v n xs hown ad l.length cap (l.flatMap cells) (flat_len l hc) (fun j u hj => by
        have hpos : 0 < l.length := by
          rcases Nat.eq_zero_or_pos l.length with h0 | h0
          · rw [List.eq_nil_of_length_eq_zero h0] at hj; simp at hj
          · exact h0
        obtain ⟨b, off, hp, hb, hcc⟩ := hcell hpos
        cases hp
        obtain ⟨i, x, g1, g2, g3⟩ := flat_at hsz l j u hc hj
        have := hcc i x g1 _ u g2
        rw [← g3] at this
        rw [show (⟨b, off, none⟩ : Addr).add j = ⟨b, off + j, none⟩ from by rw [Go.WideShapes.add_plain]]
        exact this) (fun u hu => by obtain ⟨x, hx1, hx2⟩ := List.mem_flatMap.1 hu; exact h1 x hx1 u hx2) h63 hbytes hbase
      refine ⟨v', w', hrun, h2, fun base' e' size' v'' n' xs' hne h => h.kept h3 hne, fun k o hk hne => ?_, fun w0 h0 hup => hup.grown h3 (fun k hk => Nat.le_trans h0 ((hown.lt) k hk).1), h3.size, h5⟩
      rw [h3.block k (blk_lt hk) hne]; exact hk
  refine wpList_plain hgd fun K hK => ?_
  obtain ⟨v', w', hrun, h2⟩ := key
  unfold Oper.wp execOp
  simp only [ho, resolve, invoke, builtin, Sem.run_bind, Sem.run_pure, Result.andThen_ok, List.map_toArray, List.map_cons, List.map_nil, hs, hx, hrun]
  exact hK _ _ (h v' w' h2)
/-- a store into a row of the call's own -/
theorem own_set {w : World} {base : Nat} {e : TypeId} {size : Nat} {g n cap : Nat} {xs : List Value} (h : w.ownsRow base e size (.slice (some ⟨g, 0, none⟩) n cap) n xs) (j : Nat) (u : Value) : (w.setCell ⟨g, j, none⟩ u).ownsRow base e size (.slice (some ⟨g, 0, none⟩) n cap) n (xs.set j u) := by
  obtain ⟨hl, ⟨hv, _⟩ | ⟨g', cap', cur, hv, hg, hb, hc, hm, hs, ht⟩⟩ := h
  · cases hv
  · simp only [Value.slice.injEq, Option.some.injEq, Addr.mk.injEq] at hv
    obtain ⟨⟨rfl, _, _⟩, _, rfl⟩ := hv
    refine ⟨by simpa using hl, .inr ⟨g, cap, cur.setIfInBounds j u, rfl, hg, blk_set hb j u, hc, hm, by simpa using hs, ?_⟩⟩
    rw [Array.toList_setIfInBounds, List.take_set, ht]
end Go.Proofs.Ytofhakbmmgpgdaa
end
