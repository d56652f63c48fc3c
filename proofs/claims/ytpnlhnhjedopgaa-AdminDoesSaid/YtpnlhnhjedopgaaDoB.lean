/- The document's book of tenants, in the model: New; what Do makes of a tenant. -/
import Derived.Test.YtpnlhnhjedopgaaDoA
import Derived.Test.YtpnlhnhjedopgaaGe
import Derived.OwnWalk
set_option maxRecDepth 100000
set_option linter.unusedSimpArgs false
namespace Go.Proofs.Ytpnlhnhjedopgaa
open Go Go.RowKit Go.Proofs

def RTen.cells (t : RTen) : List Value := [.bool t.lives, .bool t.rests, .int .i64 t.c.n0, .int .i64 t.c.n1, .int .i64 t.c.n2, .int .i64 t.c.n3, .int .i64 t.c.n4, .int .i64 t.c.n5, .int .i64 t.c.n6, .int .i64 t.c.n7, .int .i64 t.c.n8]
def zeroTV : Value := .agg #[.bool false, .bool false, .int .i64 0, .int .i64 0, .int .i64 0, .int .i64 0, .int .i64 0, .int .i64 0, .int .i64 0, .int .i64 0, .int .i64 0]
theorem rowTen : Row1 Try.prog 127 181 zeroTV 11 80 := ⟨by kernel_rfl, by kernel_rfl, rfl, by decide⟩
theorem refnew41_any (w : World) : Calls Try.prog 80 #[] w (fun x w' => ∃ u, x = .returned (.agg #[u]) ∧ w'.ownsRow w.heap.size 181 11 u 9 ((List.replicate 9 zeroR).flatMap RTen.cells) ∧ Up w w') := by
  obtain ⟨i0, hi, hz0, hz1, hz2⟩ := info_parts rowTen.2.1
  go_enter Try.func80, Try.ntmps80
  go_wp2_with (at_make; refine wpList_make_full _ rfl _ _ 127 rfl w.heap.size 181 i0 zeroTV 11 Try.underlying127 hi hz0 hz1 .i64 .i64 9 9 9 rfl rfl rfl rfl (by rw [hz2]; decide) (by decide) (by simp) ?_; intro w2 hA hG; have HA := Lib.hid hA; have hb := hG.block w.heap.size (by simp) (by simp); have hb : w2.heap[w.heap.size]? = some (.cells #[.slice none 0 0] 129 (0, 0)) := (by rw [hb]; exact blk_new _ _); have d1 := blk_cell hb 0; have d2 := blk_free hb 0; have HB := Lib.hid hb; have HG := Lib.hid hG; clear hA hb hG)
  have e1 : (w2.setCell ⟨w.heap.size, 0, none⟩ (.slice (some ⟨w.heap.size + 1, 0, none⟩) 9 9)).cell? ⟨w.heap.size, 0, none⟩ = some (.slice (some ⟨w.heap.size + 1, 0, none⟩) 9 9) := by rw [blk_cell (blk_set HB.out 0 _)]; rfl
  refine bodyPost_ret (v := .agg #[.slice (some ⟨w.heap.size + 1, 0, none⟩) 9 9]) (by simp [results, Try.results80, go_sem, e1]) rfl ?_
  have hE : (w.alloc (.cells #[.slice none 0 0] 129 (0, 0))).heap.size = w.heap.size + 1 := by simp
  refine ⟨_, rfl, ?_, ?_⟩
  · have h := HA.out
    rw [hE] at h
    have h : w2.ownsRow w.heap.size 181 11 (.slice (some ⟨w.heap.size + 1, 0, none⟩) 9 9) 9 ((List.replicate 9 zeroR).flatMap RTen.cells) := by rw [← show (madeCells zeroTV.cells (9 * 11)).toList = (List.replicate 9 zeroR).flatMap RTen.cells by kernel_rfl]; exact h
    exact ownsRow_keep h fun k hk => Below.heap_setCell _ _ _ _ (by intro e; subst e; simp [Value.ownBlock] at hk)
  · exact (((Up.refl w).alloc _).grown HG.out (fun k hk => by cases hk)).set (by simp) _
theorem of_world {X A B C : World → Prop} {W : World} (a : A W) (b : B W) (c : C W) (h : ∀ W, A W → B W → C W → X W) : X W := h W a b c
def newT (x : RTen) (o : Ord) : RTen := if o.op = 1 then ⟨true, false, o.c⟩ else if o.op = 2 then { x with rests := true } else if o.op = 3 then { x with rests := false } else if o.op = 4 then zeroR else if o.op = 6 then { x with c := o.c } else x
def Ord.arr (o : Ord) : Array Value := #[.int .u64 o.id, .int .i64 o.op, .int .i64 o.owner, .int .i64 o.c.n0, .int .i64 o.c.n1, .int .i64 o.c.n2, .int .i64 o.c.n3, .int .i64 o.c.n4, .int .i64 o.c.n5, .int .i64 o.c.n6, .int .i64 o.c.n7, .int .i64 o.c.n8]
theorem rten_at {w : World} {base : Nat} {g cap : Nat} {R : List RTen} (h : w.ownsRow base 181 11 (.slice (some ⟨g, 0, none⟩) 9 cap) 9 (R.flatMap RTen.cells)) {i : Nat} {x : RTen} (hx : R[i]? = some x) (j : Nat) (u : Value) (hj : x.cells[j]? = some u) : w.cell? ⟨g, i * 11 + j, none⟩ = some u := by
  have := h.cells (g := g) rfl (i * 11 + j) u (flat_get R i x j u (fun _ _ => rfl) hx hj)
  rwa [addr_add, Nat.zero_add] at this
theorem rten_free {w : World} {base : Nat} {g cap : Nat} {xs : List Value} (h : w.ownsRow base 181 11 (.slice (some ⟨g, 0, none⟩) 9 cap) 9 xs) (j : Nat) : w.frozen? ⟨g, j, none⟩ = false := by
  obtain ⟨_, ⟨hv, _⟩ | ⟨g2, cap2, cur, hv, _, hb, _⟩⟩ := h
  · cases hv
  · simp only [Value.slice.injEq, Option.some.injEq, Addr.mk.injEq] at hv
    obtain ⟨⟨rfl, _, _⟩, _, rfl⟩ := hv
    exact blk_free hb j
/-- what is known behind the append of Do -/
structure DoF (w w2 : World) (g cap : Nat) (R : List RTen) (o : Array Value) (i : Nat) (x : RTen) : Prop where
  own : w2.ownsRow w.heap.size 181 11 (.slice (some ⟨g, 0, none⟩) 9 cap) 9 (R.flatMap RTen.cells)
  up : Up w w2
  hg : w.heap.size ≤ g
  lt : g < w2.heap.size
  n1 : g ≠ w.heap.size + 1
  n2 : g ≠ w.heap.size + 2
  c3 : w2.heap[w.heap.size + 1]? = some (.cells o 26 (0, 0))
  c4 : w2.heap[w.heap.size + 2]? = some (.cells #[.slice none 0 0] 129 (0, 0))
  x0 : w2.cell? ⟨g, i * 11, none⟩ = some (.bool x.lives)
  x1 : w2.cell? ⟨g, i * 11 + 1, none⟩ = some (.bool x.rests)
  x2 : w2.cell? ⟨g, i * 11 + 2, none⟩ = some (.int .i64 x.c.n0)
  x3 : w2.cell? ⟨g, i * 11 + 3, none⟩ = some (.int .i64 x.c.n1)
  x4 : w2.cell? ⟨g, i * 11 + 4, none⟩ = some (.int .i64 x.c.n2)
  x5 : w2.cell? ⟨g, i * 11 + 5, none⟩ = some (.int .i64 x.c.n3)
  x6 : w2.cell? ⟨g, i * 11 + 6, none⟩ = some (.int .i64 x.c.n4)
  x7 : w2.cell? ⟨g, i * 11 + 7, none⟩ = some (.int .i64 x.c.n5)
  x8 : w2.cell? ⟨g, i * 11 + 8, none⟩ = some (.int .i64 x.c.n6)
  x9 : w2.cell? ⟨g, i * 11 + 9, none⟩ = some (.int .i64 x.c.n7)
  x10 : w2.cell? ⟨g, i * 11 + 10, none⟩ = some (.int .i64 x.c.n8)
  xf : ∀ j, w2.frozen? ⟨g, j, none⟩ = false
theorem do_facts {w w1 w2 : World} {v1 : Value} {R : List RTen} {o : Array Value} {i : Nat} {x : RTen} (hR : R.length = 9) (hx : R[i]? = some x) (hU : Up w w1) (B3 : w1.heap[w.heap.size + 1]? = some (.cells o 26 (0, 0))) (B4 : w1.heap[w.heap.size + 2]? = some (.cells #[.slice none 0 0] 129 (0, 0)))
    (hA : AppsOut (w1.alloc (.cells #[] 181 (0, 0))) w2 w.heap.size 181 11 (.slice (some ⟨w1.heap.size, 0, none⟩) 0 0) v1 (0 + R.length) ([] ++ R.flatMap RTen.cells)) : ∃ g cap, v1 = .slice (some ⟨g, 0, none⟩) 9 cap ∧ DoF w w2 g cap R o i x := by
  have hown : w2.ownsRow w.heap.size 181 11 v1 9 (R.flatMap RTen.cells) := by have h := hA.own; rw [hR, Nat.zero_add, List.nil_append] at h; exact h
  obtain ⟨g, cap1, rfl, hc1, hc2, hg1, hg2⟩ := own_shape hown (by omega)
  have z3 := blk_lt B3
  have z4 := blk_lt B4
  have C3 := hA.blocks (w.heap.size + 1) _ (blk_alloc B3) (by simp [Value.ownBlock]; omega)
  have C4 := hA.blocks (w.heap.size + 2) _ (blk_alloc B4) (by simp [Value.ownBlock]; omega)
  have hup2 : Up w w2 := hA.up w (Nat.le_refl _) (hU.alloc _)
  have n1 : g ≠ w.heap.size + 1 := by have h := own_not hown C3 (by decide); simp [Value.ownBlock] at h; omega
  have n2 : g ≠ w.heap.size + 2 := by have h := own_not hown C4 (by decide); simp [Value.ownBlock] at h; omega
  have hcx := rten_at hown hx
  exact ⟨g, cap1, rfl, hown, hup2, hg1, hg2, n1, n2, C3, C4, hcx 0 _ rfl, hcx 1 _ rfl, hcx 2 _ rfl, hcx 3 _ rfl, hcx 4 _ rfl, hcx 5 _ rfl, hcx 6 _ rfl, hcx 7 _ rfl, hcx 8 _ rfl, hcx 9 _ rfl, hcx 10 _ rfl, rten_free hown⟩
def set11 (l : List Value) (k : Nat) (y : RTen) : List Value := ((((((((((l.set k (.bool y.lives)).set (k + 1) (.bool y.rests)).set (k + 2) (.int .i64 y.c.n0)).set (k + 3) (.int .i64 y.c.n1)).set (k + 4) (.int .i64 y.c.n2)).set (k + 5) (.int .i64 y.c.n3)).set (k + 6) (.int .i64 y.c.n4)).set (k + 7) (.int .i64 y.c.n5)).set (k + 8) (.int .i64 y.c.n6)).set (k + 9) (.int .i64 y.c.n7)).set (k + 10) (.int .i64 y.c.n8)
theorem set11_right (a l : List Value) (k : Nat) (y : RTen) : set11 (a ++ l) (a.length + k) y = a ++ set11 l k y := by
  have h : ∀ (l : List Value) (j : Nat) (v : Value), (a ++ l).set (a.length + j) v = a ++ l.set j v := fun l j v => by rw [List.set_append_right _ _ (Nat.le_add_right _ _), Nat.add_sub_cancel_left]
  unfold set11
  simp only [Nat.add_assoc, h]
theorem set11_rows : ∀ (R : List RTen) (i : Nat) (y : RTen), i < R.length → set11 (R.flatMap RTen.cells) (i * 11) y = (R.set i y).flatMap RTen.cells
  | [], i, y, h => by simp at h
  | r :: R, 0, y, _ => rfl
  | r :: R, i + 1, y, h => by
    have ih := set11_rows R i y (by simpa using h)
    rw [List.flatMap_cons, List.set_cons_succ, List.flatMap_cons, ← ih, ← set11_right]
    congr 1
    show (i + 1) * 11 = 11 + i * 11
    omega
def put11 (w : World) (g k : Nat) (y : RTen) : World := ((((((((((w.setCell ⟨g, k, none⟩ (.bool y.lives)).setCell ⟨g, k + 1, none⟩ (.bool y.rests)).setCell ⟨g, k + 2, none⟩ (.int .i64 y.c.n0)).setCell ⟨g, k + 3, none⟩ (.int .i64 y.c.n1)).setCell ⟨g, k + 4, none⟩ (.int .i64 y.c.n2)).setCell ⟨g, k + 5, none⟩ (.int .i64 y.c.n3)).setCell ⟨g, k + 6, none⟩ (.int .i64 y.c.n4)).setCell ⟨g, k + 7, none⟩ (.int .i64 y.c.n5)).setCell ⟨g, k + 8, none⟩ (.int .i64 y.c.n6)).setCell ⟨g, k + 9, none⟩ (.int .i64 y.c.n7)).setCell ⟨g, k + 10, none⟩ (.int .i64 y.c.n8)
theorem do_fin {w w2 : World} {g cap : Nat} {R : List RTen} {o : Array Value} {i : Nat} {x : RTen} (F : DoF w w2 g cap R o i x) (hi : i < R.length) (y : RTen) (z : Obj) :
    (((put11 w2 g (i * 11) y).setCell ⟨w.heap.size + 1 + 1, 0, none⟩ (.slice (some ⟨g, 0, none⟩) 9 cap)).alloc z).cell? ⟨w.heap.size + 1 + 1, 0, none⟩ = some (.slice (some ⟨g, 0, none⟩) 9 cap) ∧
    (((put11 w2 g (i * 11) y).setCell ⟨w.heap.size + 1 + 1, 0, none⟩ (.slice (some ⟨g, 0, none⟩) 9 cap)).alloc z).ownsRow w.heap.size 181 11 (.slice (some ⟨g, 0, none⟩) 9 cap) 9 ((R.set i y).flatMap RTen.cells) ∧
    Up w (((put11 w2 g (i * 11) y).setCell ⟨w.heap.size + 1 + 1, 0, none⟩ (.slice (some ⟨g, 0, none⟩) 9 cap)).alloc z) := by
  have hup : Up w (put11 w2 g (i * 11) y) := by
    unfold put11
    repeat (refine Up.set ?_ F.hg _)
    exact F.up
  have hown : (put11 w2 g (i * 11) y).ownsRow w.heap.size 181 11 (.slice (some ⟨g, 0, none⟩) 9 cap) 9 ((R.set i y).flatMap RTen.cells) := by
    rw [← set11_rows R i y hi]
    unfold put11 set11
    repeat (refine own_set ?_ _ _)
    exact F.own
  have hc4 : (put11 w2 g (i * 11) y).heap[w.heap.size + 1 + 1]? = some (.cells #[.slice none 0 0] 129 (0, 0)) := by
    unfold put11
    have hne : w.heap.size + 1 + 1 ≠ g := Ne.symm F.n2
    repeat (refine blk_ne ?_ hne _)
    exact F.c4
  refine ⟨?_, ?_, ?_⟩
  · rw [blk_cell (blk_alloc (blk_set hc4 0 _))]; rfl
  · exact own_up (ownsRow_keep hown fun k hk => Below.heap_setCell _ _ _ _ (by
      have hk : g = k := by simpa [Value.ownBlock] using hk
      subst hk
      show g ≠ w.heap.size + 1 + 1
      exact F.n2)) ((Up.refl _).alloc _)
  · exact (hup.set (by show w.heap.size ≤ w.heap.size + 1 + 1; omega) _).alloc _
end Go.Proofs.Ytpnlhnhjedopgaa
