/- Rows of the call's own side by side, of unlike elements: an append to one leaves the other; a step of a region that draws its order. -/
import Derived.Test.YtpnlhnhjedopgaaApp
import Derived.Test.YtpnlhnhjedopgaaRow
import Derived.Maps.AppendAt
import Derived.RegionTactic
namespace Go.Proofs.Ytpnlhnhjedopgaa
open Go Go.RowKit

section
variable {w w' : World} {base base' : Nat} {e e' : TypeId} {size size' : Nat} {v v' : Value} {n n' : Nat} {xs xs' : List Value}
theorem own_slice (h : w.ownsRow base e size v n xs) : ∃ p cap, v = .slice p n cap ∧ n ≤ cap ∧ cap ≤ maxLen := by
  obtain ⟨_, ⟨rfl, rfl⟩ | ⟨g, cap, cur, rfl, _, _, hc, hm, _⟩⟩ := h
  · exact ⟨none, 0, rfl, Nat.le_refl _, by decide⟩
  · exact ⟨_, cap, rfl, hc, hm⟩
theorem own_drew (h : w.ownsRow base e size v n xs) : w.drew.ownsRow base e size v n xs := own_up h ((Up.refl _).drew)
theorem own_apart (h : w.ownsRow base e size v n xs) (h' : w.ownsRow base' e' size' v' n' xs') (hne : e ≠ e') : v.ownBlock = none ∨ v.ownBlock ≠ v'.ownBlock := by
  obtain ⟨_, ⟨rfl, _⟩ | ⟨g, cap, cur, rfl, _, hg, _⟩⟩ := h
  · exact .inl rfl
  · right
    obtain ⟨_, ⟨rfl, _⟩ | ⟨g', cap', cur', rfl, _, hg', _⟩⟩ := h'
    · simp [Value.ownBlock]
    · simp only [Value.ownBlock, ne_eq, Option.some.injEq]
      rintro rfl
      rw [hg] at hg'
      simp only [Option.some.injEq, Obj.cells.injEq] at hg'
      exact hne hg'.2.1
theorem own_not (h : w.ownsRow base e size v n xs) {k : Nat} {cs : Array Value} {T : TypeId} {fr : Nat × Nat} (hk : w.heap[k]? = some (.cells cs T fr)) (hne : T ≠ e) : some k ≠ v.ownBlock := by
  obtain ⟨_, ⟨rfl, _⟩ | ⟨g, cap, cur, rfl, _, hg, _⟩⟩ := h
  · simp [Value.ownBlock]
  · simp only [Value.ownBlock, ne_eq, Option.some.injEq]
    rintro rfl
    rw [hg] at hk
    simp only [Option.some.injEq, Obj.cells.injEq] at hk
    exact hne hk.2.1.symm
end
theorem own_symm {x y : Value} (h : x.ownBlock = none ∨ x.ownBlock ≠ y.ownBlock) : y.ownBlock = none ∨ y.ownBlock ≠ x.ownBlock := by
  rcases h with h | h
  · rw [h]; cases y.ownBlock <;> simp
  · exact .inr (Ne.symm h)
theorem blk_ne {w : World} {g : Nat} {o : Obj} (h : w.heap[g]? = some o) {k i : Nat} (hne : g ≠ k) (v : Value) : (w.setCell ⟨k, i, none⟩ v).heap[g]? = some o := by
  rw [Below.heap_setCell _ _ _ _ (by simpa using hne)]; exact h
theorem blk_drew {w : World} {g : Nat} {o : Obj} (h : w.heap[g]? = some o) : w.drew.heap[g]? = some o := h
theorem blk_new' {w : World} {o : Obj} {n : Nat} (h : w.heap.size = n) : (w.alloc o).heap[n]? = some o := by subst h; exact blk_new w o
/-- what an append of one element to a row leaves: the row; the rows of other elements; all other blocks -/
structure AppOut (P : Program) (w w' : World) (base : Nat) (e : TypeId) (size : Nat) (v v' : Value) (n : Nat) (xs us : List Value) : Prop where
  own : w'.ownsRow base e size v' (n + 1) (xs ++ us)
  rows : ∀ base' e' size' v'' n' xs', e ≠ e' → w.ownsRow base' e' size' v'' n' xs' → w'.ownsRow base' e' size' v'' n' xs'
  rows2 : ∀ base' e' size' v'' n' xs', v''.ownBlock = none ∨ v''.ownBlock ≠ v.ownBlock → w.ownsRow base' e' size' v'' n' xs' → w'.ownsRow base' e' size' v'' n' xs'
  blocks : ∀ (k : Nat) (o : Obj), w.heap[k]? = some o → some k ≠ v.ownBlock → w'.heap[k]? = some o
  up : ∀ w0 : World, w0.heap.size ≤ base → Up w0 w → Up w0 w'
  size : w.heap.size ≤ w'.heap.size
  at_ : v'.ownBlock = v.ownBlock ∨ v'.ownBlock = some w.heap.size
theorem run_app {P : Program} (t ty e : TypeId) {z : Value} {size bytes : Nat} (hr : Row1 P t e z size bytes) {base : Nat} {w : World} (hbase : base ≤ w.heap.size)
    {v : Value} {n : Nat} {xs : List Value} (hown : w.ownsRow base e size v n xs) (N : Nat) (us : Array Value) (hl : us.size = size) {T : TypeId} (hb : w.heap[N]? = some (.cells us T (0, 0))) (h1 : ∀ u ∈ us.toList, u.oneCell' = true)
    (h63 : n + 1 ≤ maxLen) (hbytes : (n + 1) * bytes ≤ 140737488355328) :
    ∃ v' w', (Builtin.append_ #[t, t] ty #[v, .slice (some ⟨N, 0, none⟩) 1 1]).run P w = .ok v' w' ∧ AppOut P w w' base e size v v' n xs us.toList := by
  obtain ⟨ht, hi, hzs, hsz⟩ := hr
  obtain ⟨i0, hi0, hz0, hz1, hz2⟩ := info_parts hi
  obtain ⟨v', w', hr, h2, h3, h4, h5⟩ := run_append_own_at (P := P) w base t ty e i0 z size bytes ht hi0 hz0 hz1 hz2 hzs hsz v n xs hown ⟨N, 0, none⟩ 1 1 us.toList (by simp [hl]) (fun j u hj => by
    have hadd : (⟨N, 0, none⟩ : Addr).add j = ⟨N, j, none⟩ := by unfold Addr.add; split <;> simp_all
    rw [hadd, blk_cell hb]; simpa using hj) h1 h63 hbytes hbase
  refine ⟨v', w', hr, h2, fun base' e' size' v'' n' xs' hne h => h.kept h3 (own_apart h hown (Ne.symm hne)), fun base' e' size' v'' n' xs' hne h => h.kept h3 hne, fun k o hk hne => ?_, fun w0 h0 hup => hup.grown h3 (fun k hk => Nat.le_trans h0 ((hown.lt) k hk).1), h3.size, h5⟩
  rw [h3.block k (blk_lt hk) hne]; exact hk
theorem step_app {P : Program} {ops : Array Oper} {o : Oper} {a : Act} {K : Act → World → Prop} {Q : Exit → Act → World → Prop} {E : Prop} {w : World} (hgd : o.guard = none) (s x : Operand) (t e : TypeId)
    (ho : o.op = .call { callee := .builtin .append, args := #[s, x], argTypes := #[t, t] })
    {z : Value} {size bytes : Nat} (hr : Row1 P t e z size bytes) {base : Nat} (hbase : base ≤ w.heap.size)
    {v : Value} {n : Nat} {xs : List Value} (hs : a.eval s = v) (hown : w.ownsRow base e size v n xs) (N : Nat) (us : Array Value) (hx : a.eval x = .slice (some ⟨N, 0, none⟩) 1 1) (hl : us.size = size) {T : TypeId} (hb : w.heap[N]? = some (.cells us T (0, 0))) (h1 : ∀ u ∈ us.toList, u.oneCell' = true)
    (h63 : n + 1 ≤ maxLen) (hbytes : (n + 1) * bytes ≤ 140737488355328)
    (h : ∀ v' w', AppOut P w w' base e size v v' n xs us.toList → K (a.put o.dst v') w') :
    if Region.wanted o (yielded ops a.tmps) = true then Oper.wp P o a w K Q else E := by
  have hw : Region.wanted o (yielded ops a.tmps) = true := by simp [Region.wanted, hgd]
  rw [if_pos hw]
  obtain ⟨v', w', hr, h2⟩ := run_app (P := P) t o.type e hr hbase hown N us hl hb h1 h63 hbytes
  unfold Oper.wp execOp
  simp only [ho, resolve, invoke, builtin, Sem.run_bind, Sem.run_pure, Result.andThen_ok, List.map_toArray, List.map_cons, List.map_nil, hs, hx, hr]
  exact h v' w' h2
theorem wpList_app {P : Program} {ops : Array Oper} {rest : List Oper} {o : Oper} {a : Act} {Q : Exit → Act → World → Prop} {w : World} (hgd : o.guard = none) (s x : Operand) (t e : TypeId)
    (ho : o.op = .call { callee := .builtin .append, args := #[s, x], argTypes := #[t, t] })
    {z : Value} {size bytes : Nat} (hr : Row1 P t e z size bytes) {base : Nat} (hbase : base ≤ w.heap.size)
    {v : Value} {n : Nat} {xs : List Value} (hs : a.eval s = v) (hown : w.ownsRow base e size v n xs) (N : Nat) (us : Array Value) (hx : a.eval x = .slice (some ⟨N, 0, none⟩) 1 1) (hl : us.size = size) {T : TypeId} (hb : w.heap[N]? = some (.cells us T (0, 0))) (h1 : ∀ u ∈ us.toList, u.oneCell' = true)
    (h63 : n + 1 ≤ maxLen) (hbytes : (n + 1) * bytes ≤ 140737488355328)
    (h : ∀ v' w', AppOut P w w' base e size v v' n xs us.toList → wpList P ops Q rest (a.put o.dst v') w') : wpList P ops Q (o :: rest) a w :=
  wpList_plain hgd fun K hK => by
    obtain ⟨v', w', hr, h2⟩ := run_app (P := P) t o.type e hr hbase hown N us hl hb h1 h63 hbytes
    unfold Oper.wp execOp
    simp only [ho, resolve, invoke, builtin, Sem.run_bind, Sem.run_pure, Result.andThen_ok, List.map_toArray, List.map_cons, List.map_nil, hs, hx, hr]
    exact hK _ _ (h v' w' h2)
/-- two rows that lie in blocks of their own stay so, when one of them is appended to -/
theorem AppOut.apart {P : Program} {w w' : World} {base : Nat} {e : TypeId} {size : Nat} {v v' : Value} {n : Nat} {xs us : List Value} (h : AppOut P w w' base e size v v' n xs us) {x : Value} (hx : x.ownBlock = none ∨ x.ownBlock ≠ v.ownBlock) (hl : ∀ k, x.ownBlock = some k → k < w.heap.size) :
    x.ownBlock = none ∨ x.ownBlock ≠ v'.ownBlock := by
  rcases hx with h0 | h0
  · exact .inl h0
  · right
    rcases h.at_ with h1 | h1
    · rw [h1]; exact h0
    · rw [h1]; intro h2; have := hl _ h2; omega
/-- a row of the call's own, as a slice that is handed on -/
theorem row_of_own {α : Type} {w : World} {base : Nat} {e : TypeId} {size : Nat} {v : Value} {n : Nat} {l : List α} {cells : α → List Value} (hc : ∀ x ∈ l, (cells x).length = size) (h : w.ownsRow base e size v n (l.flatMap cells)) (hn : l.length = n) : Row w v l size cells := by
  subst hn
  obtain ⟨hl, ⟨rfl, h0⟩ | ⟨g, cap, cur, rfl, hg, hb, hc1, hm, hs, ht⟩⟩ := h
  · have : l = [] := List.eq_nil_of_length_eq_zero h0
    subst this
    exact ⟨none, 0, rfl, Nat.le_refl _, by decide, fun h => by simp at h⟩
  · refine ⟨_, cap, rfl, hc1, hm, fun _ => ⟨g, 0, rfl, blk_lt hb, fun i x hx j u hj => ?_⟩⟩
    rw [blk_cell hb, Nat.zero_add]
    have key : ∀ (l : List α) (i : Nat) (x : α) (j : Nat) (u : Value), (∀ x ∈ l, (cells x).length = size) → l[i]? = some x → (cells x)[j]? = some u → (l.flatMap cells)[i * size + j]? = some u := by
      intro l
      induction l with
      | nil => intro i x j u _ h; simp at h
      | cons y r ih =>
        intro i x j u hc hx hj
        have hy := hc y (by simp)
        rw [List.flatMap_cons]
        cases i with
        | zero =>
          simp only [List.getElem?_cons_zero, Option.some.injEq] at hx
          subst hx
          have hjl := (List.getElem?_eq_some_iff.1 hj).1
          rw [List.getElem?_append_left (by omega), Nat.zero_mul, Nat.zero_add]; exact hj
        | succ i =>
          rw [List.getElem?_append_right (by rw [hy, Nat.add_mul]; omega)]
          have := ih i x j u (fun x hx => hc x (by simp [hx])) (by simpa using hx) hj
          rw [hy, Nat.add_mul, Nat.one_mul, show i * size + size + j - size = i * size + j from by omega]; exact this
    have h2 := key l i x j u hc hx hj
    rw [← ht] at h2
    have h3 := (List.getElem?_eq_some_iff.1 h2).1
    rw [List.getElem?_take_of_lt (by simp at h3; omega)] at h2
    simpa using h2
end Go.Proofs.Ytpnlhnhjedopgaa
