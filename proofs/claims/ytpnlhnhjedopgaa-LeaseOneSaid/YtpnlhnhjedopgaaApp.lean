/- Append of one element that was just laid in a block of its own, to a row of the call's own: what of the other blocks is said too. -/
import Derived.Test.YtpnlhnhjedopgaaBase
namespace Go.Proofs.Ytpnlhnhjedopgaa
open Go

theorem wpList_app2 {P : Program} {ops : Array Oper} {rest : List Oper} {o : Oper} {a : Act} {Q : Exit → Act → World → Prop} (hgd : o.guard = none) (s x : Operand) (t e : TypeId)
    (ho : o.op = .call { callee := .builtin .append, args := #[s, x], argTypes := #[t, t] })
    {z : Value} {size bytes : Nat} (hr : Row1 P t e z size bytes) {base : Nat} {wr : World} (hbase : base ≤ wr.heap.size)
    {v : Value} {n : Nat} {xs : List Value} (hown : wr.ownsRow base e size v n xs) (hs : a.eval s = v) (us : Array Value) (hx : a.eval x = .slice (some ⟨wr.heap.size, 0, none⟩) 1 1)
    (hl : us.size = size) (h1 : ∀ u ∈ us.toList, u.oneCell' = true) (h63 : n + 1 ≤ maxLen) (hbytes : (n + 1) * bytes ≤ 140737488355328)
    (h : ∀ v' w', w'.ownsRow base e size v' (n + 1) (xs ++ us.toList) → (∀ (k : Nat) (o : Obj), wr.heap[k]? = some o → k < base → w'.heap[k]? = some o) → (∀ w0 : World, w0.heap.size ≤ base → Up w0 wr → Up w0 w') →
      wpList P ops Q rest (a.put o.dst v') w') :
    wpList P ops Q (o :: rest) a (wr.alloc (.cells us e (0, 0))) := by
  obtain ⟨ht, hi, hzs, hsz⟩ := hr
  obtain ⟨i0, hi0, hz0, hz1, hz2⟩ := info_parts hi
  refine wpList_append_own _ hgd s x t ho base e i0 z size bytes ht hi0 hz0 hz1 hz2 hzs hsz v n xs hs (hown.alloc _) ⟨wr.heap.size, 0, none⟩ 1 1 us.toList hx (by simp [hl]) ?_ h1 h63 hbytes ?_ ?_
  · intro j u hj
    have := World.cell?_alloc_mark wr us e (0, 0) j
    have hadd : (⟨wr.heap.size, 0, none⟩ : Addr).add j = ⟨wr.heap.size, j, none⟩ := by unfold Addr.add; split <;> simp_all
    rw [hadd, this]
    simpa using hj
  · simp; omega
  · intro v' w' hown' hg _
    refine h v' w' hown' (fun k o hk hkb => ?_) (fun w0 h0 hup => (hup.alloc _).grown hg (fun k hk => Nat.le_trans h0 ((hown.lt) k hk).1))
    have hk2 : (wr.alloc (.cells us e (0, 0))).heap[k]? = some o := blk_alloc hk
    rw [World.grownBy.block hg k (blk_lt hk2) (fun h => by have := ((hown.lt) k h.symm).1; omega)]
    exact hk2
/-- a cell of a row of the call's own, when the row's block is known -/
theorem own_shape {w : World} {base : Nat} {e : TypeId} {size : Nat} {v : Value} {n : Nat} {xs : List Value} (h : w.ownsRow base e size v n xs) (hn : 0 < n) : ∃ g cap, v = .slice (some ⟨g, 0, none⟩) n cap ∧ n ≤ cap ∧ cap ≤ maxLen ∧ base ≤ g ∧ g < w.heap.size := by
  obtain ⟨_, ⟨_, h0⟩ | ⟨g, cap, cur, rfl, hg, hb, hc, hm, _, _⟩⟩ := h
  · omega
  · exact ⟨g, cap, rfl, hc, hm, hg, blk_lt hb⟩
theorem own_up {w w' : World} {base : Nat} {e : TypeId} {size : Nat} {v : Value} {n : Nat} {xs : List Value} (h : w.ownsRow base e size v n xs) (hu : Up w w') : w'.ownsRow base e size v n xs := by
  obtain ⟨hl, h | ⟨g, cap, cur, hv, hg, hb, h⟩⟩ := h
  · exact ⟨hl, .inl h⟩
  · exact ⟨hl, .inr ⟨g, cap, cur, hv, hg, hu.keep hb, h⟩⟩
theorem own_base {w : World} {base base' : Nat} {e : TypeId} {size : Nat} {v : Value} {n : Nat} {xs : List Value} (h : w.ownsRow base e size v n xs) (hb : base' ≤ base) : w.ownsRow base' e size v n xs := by
  obtain ⟨hl, h | ⟨g, cap, cur, hv, hg, hw, h⟩⟩ := h
  · exact ⟨hl, .inl h⟩
  · exact ⟨hl, .inr ⟨g, cap, cur, hv, Nat.le_trans hb hg, hw, h⟩⟩
end Go.Proofs.Ytpnlhnhjedopgaa
