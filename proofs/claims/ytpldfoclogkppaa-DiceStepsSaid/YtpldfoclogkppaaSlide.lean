/- A slice of one-cell elements of the call's own that may begin inside its block ('left = left[1:]'), and append to it. -/
import Derived.Test.YtpldfoclogkppaaBase
import Derived.ArgAppend
namespace Go.Proofs.Ytpldfoclogkppaa
open Go Go.RowKit

/-- v is a slice over a block of the call's own, from some place of it on; it holds xs -/
def OwnS (w : World) (base : Nat) (e : TypeId) (v : Value) (xs : List Value) : Prop :=
  (v = .slice none 0 0 ∧ xs = []) ∨
  ∃ (g off cap : Nat) (cur : Array Value), v = .slice (some ⟨g, off, none⟩) xs.length cap ∧ base ≤ g ∧ w.heap[g]? = some (.cells cur e (0, 0)) ∧ xs.length ≤ cap ∧ cap ≤ maxLen ∧ off + cap ≤ cur.size ∧ ∀ j u, xs[j]? = some u → cur[off + j]? = some u

theorem OwnS.nil (w : World) (base : Nat) (e : TypeId) : OwnS w base e (.slice none 0 0) [] := .inl ⟨rfl, rfl⟩
theorem OwnS.up {w w' : World} {base : Nat} {e : TypeId} {v : Value} {xs : List Value} (h : OwnS w base e v xs) (hu : Up w w') : OwnS w' base e v xs := by
  rcases h with h | ⟨g, off, cap, cur, hv, hg, hb, h⟩
  · exact .inl h
  · exact .inr ⟨g, off, cap, cur, hv, hg, hu.keep hb, h⟩
theorem OwnS.only {w w' : World} {base k : Nat} {e : TypeId} {v : Value} {xs : List Value} (h : OwnS w base e v xs) (hu : Only k w w') (hk : k < base) : OwnS w' base e v xs := by
  rcases h with h | ⟨g, off, cap, cur, hv, hg, hb, h⟩
  · exact .inl h
  · exact .inr ⟨g, off, cap, cur, hv, hg, hu.keep hb (by omega), h⟩
theorem OwnS.of_row {w : World} {base : Nat} {e : TypeId} {v : Value} {n : Nat} {xs : List Value} (h : w.ownsRow base e 1 v n xs) : OwnS w base e v xs := by
  obtain ⟨hl, ⟨hv, hn⟩ | ⟨g, cap, cur, hv, hg, hb, hc, hm, hs, ht⟩⟩ := h
  · exact .inl ⟨hv, List.eq_nil_of_length_eq_zero (by rw [hl, hn])⟩
  · refine .inr ⟨g, 0, cap, cur, by rw [hv, hl, Nat.mul_one], hg, hb, by rw [hl]; omega, hm, by omega, fun j u hj => ?_⟩
    rw [← ht] at hj
    have h2 := (List.getElem?_eq_some_iff.1 hj).1
    rw [List.getElem?_take_of_lt (by simp at h2; omega)] at hj
    simpa using hj
/-- the value without its first element -/
theorem OwnS.tail {w : World} {base : Nat} {e : TypeId} {g off cap : Nat} {x : Value} {xs : List Value} (h : OwnS w base e (.slice (some ⟨g, off, none⟩) (xs.length + 1) cap) (x :: xs)) :
    OwnS w base e (.slice (some (if cap = 1 then ⟨g, off, none⟩ else ⟨g, off + 1, none⟩)) xs.length (cap - 1)) xs := by
  rcases h with ⟨h, _⟩ | ⟨g', off', cap', cur, hv, hg, hb, hc, hm, hs, ht⟩
  · cases h
  · simp only [Value.slice.injEq, Option.some.injEq, Addr.mk.injEq] at hv
    obtain ⟨⟨rfl, rfl, _⟩, _, rfl⟩ := hv
    simp only [List.length_cons] at hc
    by_cases h1 : cap = 1
    · subst h1
      have : xs = [] := List.eq_nil_of_length_eq_zero (by omega)
      subst this
      exact .inr ⟨g, off, 0, cur, by simp, hg, hb, by simp, by omega, by omega, fun j u hj => by simp at hj⟩
    · refine .inr ⟨g, off + 1, cap - 1, cur, by rw [if_neg h1], hg, hb, by omega, by omega, by omega, fun j u hj => ?_⟩
      rw [Nat.add_assoc, Nat.add_comm 1 j]
      exact ht (j + 1) u (by simpa using hj)
theorem OwnS.shape {w : World} {base : Nat} {e : TypeId} {v : Value} {xs : List Value} (h : OwnS w base e v xs) : ∃ p cap, v = .slice p xs.length cap ∧ xs.length ≤ cap ∧ cap ≤ maxLen := by
  rcases h with ⟨rfl, rfl⟩ | ⟨g, off, cap, cur, rfl, _, _, hc, hm, _⟩
  · exact ⟨none, 0, rfl, Nat.le_refl _, by decide⟩
  · exact ⟨_, cap, rfl, hc, hm⟩
theorem OwnS.shape1 {w : World} {base : Nat} {e : TypeId} {v : Value} {x : Value} {xs : List Value} (h : OwnS w base e v (x :: xs)) : ∃ g off cap, v = .slice (some ⟨g, off, none⟩) (xs.length + 1) cap ∧ xs.length + 1 ≤ cap ∧ cap ≤ maxLen ∧ base ≤ g ∧ g < w.heap.size ∧ w.cell? ⟨g, off, none⟩ = some x := by
  rcases h with ⟨_, h⟩ | ⟨g, off, cap, cur, rfl, hg, hb, hc, hm, _, ht⟩
  · cases h
  · exact ⟨g, off, cap, rfl, hc, hm, hg, blk_lt hb, by rw [blk_cell hb]; exact ht 0 x rfl⟩
theorem wpList_appS {P : Program} {ops : Array Oper} {rest : List Oper} {o : Oper} {a : Act} {Q : Exit → Act → World → Prop} (hgd : o.guard = none) (s x : Operand) (t e : TypeId)
    (ho : o.op = .call { callee := .builtin .append, args := #[s, x], argTypes := #[t, t] })
    {z : Value} {bytes : Nat} (hr : Row1 P t e z 1 bytes) {base : Nat} {wr : World} (hbase : base ≤ wr.heap.size)
    {v : Value} {xs : List Value} (hown : OwnS wr base e v xs) (hs : a.eval s = v) (u : Value) (hx : a.eval x = .slice (some ⟨wr.heap.size, 0, none⟩) 1 1)
    (h1 : u.oneCell' = true) (h63 : xs.length + 1 ≤ maxLen) (hbytes : (xs.length + 1) * bytes ≤ 140737488355328)
    (h : ∀ v' w', OwnS w' base e v' (xs ++ [u]) → (∀ (k : Nat) (o : Obj), wr.heap[k]? = some o → k < base → w'.heap[k]? = some o) → (∀ w0 : World, w0.heap.size ≤ base → Up w0 wr → Up w0 w') → wr.heap.size ≤ w'.heap.size →
      wpList P ops Q rest (a.put o.dst v') w') :
    wpList P ops Q (o :: rest) a (wr.alloc (.cells #[u] e (0, 0))) := by
  obtain ⟨ht, hi, hzs, hsz⟩ := hr
  obtain ⟨i0, hi0, hz0, hz1, hz2⟩ := info_parts hi
  have hnews : ∀ (j : Nat) (y : Value), [u][j]? = some y → (wr.alloc (.cells #[u] e (0, 0))).cell? ((⟨wr.heap.size, 0, none⟩ : Addr).add j) = some y := by
    intro j y hj
    have := World.cell?_alloc_mark wr #[u] e (0, 0) j
    have hadd : (⟨wr.heap.size, 0, none⟩ : Addr).add j = ⟨wr.heap.size, j, none⟩ := by unfold Addr.add; split <;> simp_all
    rw [hadd, this]
    simpa using hj
  have hone : ∀ y ∈ [u], y.oneCell' = true := fun y hy => by simp at hy; rw [hy]; exact h1
  have grows : ∀ v' w', w'.ownsRow (wr.alloc (.cells #[u] e (0, 0))).heap.size e 1 v' (xs.length + 1) (xs ++ [u]) → (wr.alloc (.cells #[u] e (0, 0))).grownBy w' none → wpList P ops Q rest (a.put o.dst v') w' := by
    intro v' w' hown' hg
    have hu : Up wr w' := ((Up.refl wr).alloc _).grown hg (fun k hk => by cases hk)
    refine h v' w' (OwnS.of_row (by
      obtain ⟨hl, h | ⟨g, cap, cur, hv, hg, hw, h⟩⟩ := hown'
      · exact ⟨hl, .inl h⟩
      · exact ⟨hl, .inr ⟨g, cap, cur, hv, Nat.le_trans (Nat.le_trans hbase (by simp)) hg, hw, h⟩⟩)) (fun k o hk _ => hu.keep hk) (fun w0 _ hup => hup.trans hu) hu.size
  rcases hown with ⟨rfl, rfl⟩ | ⟨g, off, cap, cur, rfl, hg, hb, hc, hm, hcs, hcell⟩
  · exact wpList_append_grows _ hgd s x t ho e i0 z 1 bytes ht hi0 hz0 hz1 hz2 hzs hsz none 0 0 [] hs (fun _ => ⟨rfl, rfl⟩) rfl (fun b hb => by cases hb) ⟨wr.heap.size, 0, none⟩ 1 1 [u] hx rfl hnews hone (by omega) (by simpa using h63) (by simpa using hbytes) (by simpa using grows)
  · have hgl := blk_lt hb
    have hb' : (wr.alloc (.cells #[u] e (0, 0))).heap[g]? = some (.cells cur e (0, 0)) := blk_alloc hb
    refine wpList_append_arg _ hgd s x t ho e i0 z 1 bytes ht hi0 hz0 hz1 hz2 hzs hsz g off xs.length cap xs hs (by simp) (fun j y hj => by rw [blk_cell hb']; exact hcell j y hj) ⟨wr.heap.size, 0, none⟩ 1 1 [u] hx rfl hnews hone ?_ h63 hbytes ?_ (fun _ => by simpa using grows)
    · intro hroom j hj
      simp only [List.length_cons, List.length_nil] at hj
      refine ⟨?_, blk_free hb' _⟩
      rw [blk_cell hb', Array.getElem?_eq_getElem (by omega)]; rfl
    · intro hroom
      have hw : (wr.alloc (.cells #[u] e (0, 0))).setCells g (off + xs.length * 1) [u] = (wr.alloc (.cells #[u] e (0, 0))).setCell ⟨g, off + xs.length * 1, none⟩ u := rfl
      rw [hw, Nat.mul_one]
      refine h _ _ (.inr ⟨g, off, cap, cur.setIfInBounds (off + xs.length) u, by simp, hg, blk_set hb' _ _, by simpa using hroom, hm, by simpa using hcs, fun j y hj => ?_⟩) (fun k o hk hkb => ?_) (fun w0 h0 hup => (hup.alloc _).set (Nat.le_trans h0 hg) _) (by simp [World.setCell])
      · rcases Nat.lt_or_ge j xs.length with hjl | hjl
        · rw [List.getElem?_append_left hjl] at hj
          rw [Array.getElem?_setIfInBounds_ne (by omega)]; exact hcell j y hj
        · have hjl2 := (List.getElem?_eq_some_iff.1 hj).1
          simp only [List.length_append, List.length_cons, List.length_nil] at hjl2
          obtain rfl : j = xs.length := by omega
          simp at hj
          subst hj
          rw [Array.getElem?_setIfInBounds_self_of_lt (by omega)]
      · have hk2 : (wr.alloc (.cells #[u] e (0, 0))).heap[k]? = some o := blk_alloc hk
        rw [Below.heap_setCell _ _ _ _ (by simpa using (show k ≠ g by omega))]; exact hk2
end Go.Proofs.Ytpldfoclogkppaa
