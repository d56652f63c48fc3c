/- The walks of mac.New, Issue, Revoke, Knows, Epoch: what each hands back, and what the table keeps. -/
import Derived.Test.YtmmmaekaoanceaaMacP
import Derived.Test.YtmmmaekaoanceaaDiceB
namespace Go.Proofs.Ytmmmaekaoanceaa
open Go Go.RowKit

/-- block g is a table -/
def TabAt (w : World) (g : Nat) (t : Tab) : Prop :=
  ∃ cs : Array Value, w.heap[g]? = some (.cells cs 55 (0, 0)) ∧ cs.size = 27 ∧ (∀ o, o ≤ 8 → cs[o]? = some (.int .i64 (t.es o : Nat))) ∧
    (∀ o, o ≤ 8 → cs[9 + o * 2]? = some (.int .i64 (t.bs o).1) ∧ cs[9 + o * 2 + 1]? = some (.int .u64 ((t.bs o).2 : Nat)))
def mptr (g : Nat) : Value := .pointer (some ⟨g, 0, none⟩)
theorem TabAt.up {w w' : World} {g : Nat} {t : Tab} (h : TabAt w g t) (hu : Up w w') : TabAt w' g t := by
  obtain ⟨cs, hb, r⟩ := h
  exact ⟨cs, hu.keep hb, r⟩
theorem TabAt.only {w w' : World} {g k : Nat} {t : Tab} (h : TabAt w g t) (hu : Only k w w') (hne : g ≠ k) : TabAt w' g t := by
  obtain ⟨cs, hb, r⟩ := h
  exact ⟨cs, hu.keep hb hne, r⟩
theorem TabAt.lt {w : World} {g : Nat} {t : Tab} (h : TabAt w g t) : g < w.heap.size := by
  obtain ⟨cs, hb, r⟩ := h
  exact blk_lt hb
theorem TabAt.ep {w : World} {g : Nat} {t : Tab} (h : TabAt w g t) {o : Nat} (ho : o ≤ 8) : w.cell? ⟨g, o, none⟩ = some (.int .i64 (t.es o : Nat)) := by
  obtain ⟨cs, hb, _, h1, _⟩ := h
  rw [blk_cell hb]; exact h1 o ho
theorem TabAt.b0 {w : World} {g : Nat} {t : Tab} (h : TabAt w g t) {o : Nat} (ho : o ≤ 8) : w.cell? ⟨g, 9 + o * 2, none⟩ = some (.int .i64 (t.bs o).1) := by
  obtain ⟨cs, hb, _, _, h1⟩ := h
  rw [blk_cell hb]; exact (h1 o ho).1
theorem TabAt.b1 {w : World} {g : Nat} {t : Tab} (h : TabAt w g t) {o : Nat} (ho : o ≤ 8) : w.cell? ⟨g, 9 + o * 2 + 1, none⟩ = some (.int .u64 ((t.bs o).2 : Nat)) := by
  obtain ⟨cs, hb, _, _, h1⟩ := h
  rw [blk_cell hb]; exact (h1 o ho).2
theorem TabAt.fz {w : World} {g : Nat} {t : Tab} (h : TabAt w g t) (o : Nat) : w.frozen? ⟨g, o, none⟩ = false := by
  obtain ⟨cs, hb, _⟩ := h
  exact blk_free hb o
theorem TabAt.setE {w : World} {g : Nat} {t : Tab} (h : TabAt w g t) (o : Nat) (n : Nat) (ho : o ≤ 8) : TabAt (w.setCell ⟨g, o, none⟩ (.int .i64 n)) g ⟨fun i => if i = o then n else t.es i, t.bs⟩ := by
  obtain ⟨cs, hb, hs, h1, h2⟩ := h
  refine ⟨_, blk_set hb _ _, by simp [hs], fun i hi => ?_, fun i hi => ?_⟩
  · by_cases he : i = o
    · subst he; rw [Array.getElem?_setIfInBounds_self_of_lt (by omega)]; simp
    · rw [Array.getElem?_setIfInBounds_ne (by omega), h1 i hi]; simp [he]
  · rw [Array.getElem?_setIfInBounds_ne (by omega), Array.getElem?_setIfInBounds_ne (by omega)]; exact h2 i hi
theorem TabAt.setB {w : World} {g : Nat} {t : Tab} (h : TabAt w g t) (o : Nat) (e : Int) (tag : Nat) (ho : o ≤ 8) : TabAt ((w.setCell ⟨g, 9 + o * 2, none⟩ (.int .i64 e)).setCell ⟨g, 9 + o * 2 + 1, none⟩ (.int .u64 tag)) g ⟨t.es, fun i => if i = o then (e, tag) else t.bs i⟩ := by
  obtain ⟨cs, hb, hs, h1, h2⟩ := h
  refine ⟨_, blk_set (blk_set hb _ _) _ _, by simp [hs], fun i hi => ?_, fun i hi => ?_⟩
  · rw [Array.getElem?_setIfInBounds_ne (by omega), Array.getElem?_setIfInBounds_ne (by omega)]; exact h1 i hi
  · by_cases he : i = o
    · subst he
      refine ⟨?_, ?_⟩
      · rw [Array.getElem?_setIfInBounds_ne (by omega), Array.getElem?_setIfInBounds_self_of_lt (by omega)]; simp
      · rw [Array.getElem?_setIfInBounds_self_of_lt (by simp; omega)]; simp
    · obtain ⟨h3, h4⟩ := h2 i hi
      refine ⟨?_, ?_⟩
      · rw [Array.getElem?_setIfInBounds_ne (by omega), Array.getElem?_setIfInBounds_ne (by omega), h3]; simp [he]
      · rw [Array.getElem?_setIfInBounds_ne (by omega), Array.getElem?_setIfInBounds_ne (by omega), h4]; simp [he]
def tabCells : Array Value := #[.int .i64 0, .int .i64 0, .int .i64 0, .int .i64 0, .int .i64 0, .int .i64 0, .int .i64 0, .int .i64 0, .int .i64 0, .int .i64 0, .int .u64 0, .int .i64 0, .int .u64 0, .int .i64 0, .int .u64 0, .int .i64 0, .int .u64 0, .int .i64 0, .int .u64 0, .int .i64 0, .int .u64 0, .int .i64 0, .int .u64 0, .int .i64 0, .int .u64 0, .int .i64 0, .int .u64 0]
theorem tab_new (w : World) : TabAt (w.alloc (.cells tabCells 55)) w.heap.size Tab.none := by
  have hz : ∀ i, i < 27 → tabCells[i]? = some (if i < 9 ∨ i % 2 = 1 then Value.int .i64 0 else Value.int .u64 0) := by
    have hc : tabCells = ((List.range 27).map fun i => if i < 9 ∨ i % 2 = 1 then Value.int .i64 0 else Value.int .u64 0).toArray := by kernel_rfl
    intro i hi
    rw [hc]; simp only [List.getElem?_toArray, List.getElem?_map]; rw [List.getElem?_range hi]; rfl
  refine ⟨_, blk_new _ _, rfl, fun o ho => ?_, fun o ho => ⟨?_, ?_⟩⟩
  · rw [hz o (by omega), if_pos (by omega)]; rfl
  · rw [hz _ (by omega), if_pos (by omega)]; rfl
  · rw [hz _ (by omega), if_neg (by omega)]; rfl
theorem macnew_any (w : World) : Calls Try.prog 20 #[] w (fun e w' => ∃ g, e = .returned (mptr g) ∧ w.heap.size ≤ g ∧ TabAt w' g Tab.none ∧ Up w w') := by
  go_enter Try.func20, Try.ntmps20
  go_wp2_with fail
  go_ret
  exact ⟨w.heap.size, rfl, Nat.le_refl _, tab_new w, (Up.refl _).alloc _⟩
def ownsB (o : Int) : Bool := decide (0 ≤ o ∧ o ≤ 8)
theorem owns_any (o : Int) (w : World) : Calls Try.prog 64 #[.int .i64 o] w (fun e w' => e = .returned (.bool (ownsB o)) ∧ w' = w) := by
  by_cases h0 : 0 ≤ o
  · by_cases h1 : o ≤ 8
    · have H := Lib.hid (show true = ownsB o from (decide_eq_true ⟨h0, h1⟩).symm)
      go_enter Try.func64, Try.ntmps64
      go_wp2_with fail
      go_ret
      exact ⟨ret_eq (congrArg Value.bool H.out), rfl⟩
    · have H := Lib.hid (show false = ownsB o from (decide_eq_false (by omega)).symm)
      go_enter Try.func64, Try.ntmps64
      go_wp2_with fail
      go_ret
      exact ⟨ret_eq (congrArg Value.bool H.out), rfl⟩
  · have H := Lib.hid (show false = ownsB o from (decide_eq_false (by omega)).symm)
    go_enter Try.func64, Try.ntmps64
    go_wp2_with fail
    go_ret
    exact ⟨ret_eq (congrArg Value.bool H.out), rfl⟩
theorem epoch_nil (o : Int) (w : World) : Calls Try.prog 28 #[.pointer none, .int .i64 o] w (fun e w' => e = .returned (.int .i64 0) ∧ w' = w) := by
  go_enter Try.func28, Try.ntmps28
  go_wp2_with fail
  go_ret
  exact ⟨rfl, rfl⟩
theorem mepoch_out (o : Int) (g : Nat) (w : World) (h : ¬ (0 ≤ o ∧ o ≤ 8)) : Calls Try.prog 28 #[mptr g, .int .i64 o] w (fun e w' => e = .returned (.int .i64 0) ∧ w' = w) := by
  have HB := Lib.hid (show ownsB o = false from decide_eq_false h)
  clear h
  unfold mptr
  go_enter Try.func28, Try.ntmps28
  go_wp2_with fail
  refine (owns_any _ _).mono ?_
  rintro e w1 ⟨rfl, rfl⟩
  rw [HB.out]
  go_wp2_with fail
  go_ret
  exact ⟨rfl, rfl⟩
theorem mepoch_in (o : Nat) (g : Nat) (t : Tab) (w : World) (ho : o ≤ 8) (h : TabAt w g t) : Calls Try.prog 28 #[mptr g, .int .i64 o] w (fun e w' => e = .returned (.int .i64 (t.es o : Nat)) ∧ w' = w) := by
  have HB := Lib.hid (show ownsB o = true from decide_eq_true (by omega))
  have c0 := h.ep ho
  have ho' : (o : Int) < 9 := by omega
  unfold mptr
  go_enter Try.func28, Try.ntmps28
  go_wp2_with fail
  refine (owns_any _ _).mono ?_
  rintro e w1 ⟨rfl, rfl⟩
  rw [HB.out]
  go_wp2_with fail
  go_ret
  exact ⟨rfl, rfl⟩
end Go.Proofs.Ytmmmaekaoanceaa
