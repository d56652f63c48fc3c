/- One text out of several: PopA. -/
import Derived.Test.YtpihanlillbhkaaGreatDoorGe
import Derived.Deep.RegionHeld3

section
/- Appends of parts of slices in a region that draws its order. -/
namespace Go.Proofs.YtpihanlillbhkaaGreatDoor
open Go Go.RowKit

theorem run_apps {P : Program} (t ty e : TypeId) {z : Value} {size bytes : Nat} (hr : Row1 P t e z size bytes) {base : Nat} {w : World} (hbase : base ≤ w.heap.size)
    {v : Value} {n : Nat} {xs : List Value} (hown : w.ownsRow base e size v n xs) {α : Type} {l : List α} {cells : α → List Value} {vx : Value} (hrow : Row w vx l size cells)
    (hc : ∀ x ∈ l, (cells x).length = size) (h1 : ∀ x ∈ l, ∀ u ∈ cells x, u.oneCell' = true) (h63 : n + l.length ≤ maxLen) (hbytes : (n + l.length) * bytes ≤ 140737488355328) :
    ∃ v' w', (Builtin.append_ #[t, t] ty #[v, vx]).run P w = .ok v' w' ∧ AppsOut w w' base e size v v' (n + l.length) (xs ++ l.flatMap cells) := by
  obtain ⟨ht, hi, hzs, hsz⟩ := hr
  obtain ⟨i0, hi0, hz0, hz1, hz2⟩ := info_parts hi
  obtain ⟨p, cap, rfl, hlc, hm, hcell⟩ := hrow
  cases p with
  | none =>
    have h0 : l.length = 0 := by
      rcases Nat.eq_zero_or_pos l.length with h0 | h0
      · exact h0
      · obtain ⟨_, _, hp, _⟩ := hcell h0; cases hp
    have hl : l = [] := List.eq_nil_of_length_eq_zero h0
    subst hl
    refine ⟨v, w, run_append_none t ty e i0 ht hi0 hown cap, ⟨by simpa using hown, fun _ _ _ _ _ _ _ h => h, fun _ _ h _ => h, fun _ _ h => h, Nat.le_refl _, .inl rfl⟩⟩
  | some ad =>
    obtain ⟨v', w', hrun, h2, h3, _, h5⟩ := run_append_own_at (P := P) w base t ty e i0 z size bytes ht hi0 hz0 hz1 hz2 hzs hsz v n xs hown ad l.length cap (l.flatMap cells) (flat_len l hc) (fun j u hj => by
      have hpos : 0 < l.length := by
        rcases Nat.eq_zero_or_pos l.length with h0 | h0
        · rw [List.eq_nil_of_length_eq_zero h0] at hj; simp at hj
        · exact h0
      obtain ⟨b, off, hp, hb, hcc⟩ := hcell hpos
      cases hp
      obtain ⟨i, x, g1, g2, g3⟩ := flat_at hsz l j u hc hj
      have := hcc i x g1 _ u g2
      rw [← g3] at this
      rw [show (⟨b, off, none⟩ : Addr).add j = ⟨b, off + j, none⟩ from by rw [Go.WideShapes.add_plain]]
      exact this) (fun u hu => by obtain ⟨x, hx1, hx2⟩ := List.mem_flatMap.1 hu; exact h1 x hx1 u hx2) h63 hbytes hbase
    refine ⟨v', w', hrun, h2, fun base' e' size' v'' n' xs' hne h => h.kept h3 hne, fun k o hk hne => ?_, fun w0 h0 hup => hup.grown h3 (fun k hk => Nat.le_trans h0 ((hown.lt) k hk).1), h3.size, h5⟩
    rw [h3.block k (blk_lt hk) hne]; exact hk
theorem step_apps {P : Program} {ops : Array Oper} {o : Oper} {a : Act} {K : Act → World → Prop} {Q : Exit → Act → World → Prop} {E : Prop} {w : World} (hgd : o.guard = none) (s x : Operand) (t e : TypeId)
    (ho : o.op = .call { callee := .builtin .append, args := #[s, x], argTypes := #[t, t] })
    {z : Value} {size bytes : Nat} (hr : Row1 P t e z size bytes) {base : Nat} (hbase : base ≤ w.heap.size)
    {v : Value} {n : Nat} {xs : List Value} (hs : a.eval s = v) (hown : w.ownsRow base e size v n xs) {α : Type} {l : List α} {cells : α → List Value} {vx : Value} (hx : a.eval x = vx) (hrow : Row w vx l size cells)
    (hc : ∀ x ∈ l, (cells x).length = size) (h1 : ∀ x ∈ l, ∀ u ∈ cells x, u.oneCell' = true) (h63 : n + l.length ≤ maxLen) (hbytes : (n + l.length) * bytes ≤ 140737488355328)
    (h : ∀ v' w', AppsOut w w' base e size v v' (n + l.length) (xs ++ l.flatMap cells) → K (a.put o.dst v') w') :
    if Region.wanted o (yielded ops a.tmps) = true then Oper.wp P o a w K Q else E := by
  have hw : Region.wanted o (yielded ops a.tmps) = true := by simp [Region.wanted, hgd]
  rw [if_pos hw]
  obtain ⟨v', w', hrun, h2⟩ := run_apps (P := P) t o.type e hr hbase hown hrow hc h1 h63 hbytes
  unfold Oper.wp execOp
  simp only [ho, resolve, invoke, builtin, Sem.run_bind, Sem.run_pure, Result.andThen_ok, List.map_toArray, List.map_cons, List.map_nil, hs, hx, hrun]
  exact h v' w' h2
theorem step_go {P : Program} {ops : Array Oper} {o : Oper} {a : Act} {K : Act → World → Prop} {Q : Exit → Act → World → Prop} {E : Prop} {w : World} (hgd : o.guard = none) (h : Oper.wp P o a w K Q) :
    if Region.wanted o (yielded ops a.tmps) = true then Oper.wp P o a w K Q else E := by
  have hw : Region.wanted o (yielded ops a.tmps) = true := by simp [Region.wanted, hgd]
  rw [if_pos hw]
  exact h
theorem own_lower {w : World} {base base' : Nat} {e : TypeId} {size : Nat} {v : Value} {n : Nat} {xs : List Value} (hb : base' ≤ base) (h : w.ownsRow base e size v n xs) : w.ownsRow base' e size v n xs := by
  refine ⟨h.1, ?_⟩
  rcases h.2 with h1 | ⟨b, cap, cur, rfl, hb', r⟩
  · exact .inl h1
  · exact .inr ⟨b, cap, cur, rfl, Nat.le_trans hb hb', r⟩
/-- a part of a row -/
theorem row_take {α : Type} {w : World} {p : Option Addr} {n cap : Nat} {l : List α} {size : Nat} {cells : α → List Value} (h : Row w (.slice p n cap) l size cells) (k : Nat) (hk : k ≤ l.length) : Row w (.slice p k cap) (l.take k) size cells := by
  obtain ⟨p', cap', hv, h1, h2, h3⟩ := h
  simp only [Value.slice.injEq] at hv
  obtain ⟨rfl, rfl, rfl⟩ := hv
  have hl : (l.take k).length = k := by rw [List.length_take]; omega
  refine ⟨p, cap, by rw [hl], by omega, h2, fun hp => ?_⟩
  obtain ⟨b, off, h4, h5, h6⟩ := h3 (by omega)
  refine ⟨b, off, h4, h5, fun i x hx => h6 i x ?_⟩
  rw [List.getElem?_take] at hx
  split at hx
  · exact hx
  · cases hx
theorem row_drop {α : Type} {w : World} {b off n cap : Nat} {l : List α} {size : Nat} {cells : α → List Value} (h : Row w (.slice (some ⟨b, off, none⟩) n cap) l size cells) (k : Nat) (hk : k ≤ l.length) : Row w (.slice (some ⟨b, off + k * size, none⟩) (l.length - k) (cap - k)) (l.drop k) size cells := by
  obtain ⟨p', cap', hv, h1, h2, h3⟩ := h
  simp only [Value.slice.injEq] at hv
  obtain ⟨rfl, rfl, rfl⟩ := hv
  have hl : (l.drop k).length = l.length - k := by rw [List.length_drop]
  refine ⟨_, cap - k, by rw [hl], by omega, by omega, fun hp => ?_⟩
  obtain ⟨b', off', h4, h5, h6⟩ := h3 (by omega)
  simp only [Option.some.injEq, Addr.mk.injEq] at h4
  obtain ⟨rfl, rfl, -⟩ := h4
  refine ⟨b, off + k * size, rfl, h5, fun i x hx j u hj => ?_⟩
  rw [List.getElem?_drop] at hx
  have := h6 _ x hx j u hj
  rw [show off + k * size + (i * size + j) = off + ((k + i) * size + j) by rw [Nat.add_mul]; omega]
  exact this
end Go.Proofs.YtpihanlillbhkaaGreatDoor
end
