/- The walks of dice.New, Put, Take, Left, and chapter 20's example: what each hands back, and what the dice keep. -/
import Derived.Test.YtmmmaekaoanceaaDiceA
import Derived.RegionTactic
namespace Go.Proofs.Ytmmmaekaoanceaa
open Go Go.RowKit

/-- block g keeps the numbers q, the first one first -/
def DiceAt (w : World) (g : Nat) (q : List Int) : Prop :=
  ∃ (cs : Array Value) (f : Nat), w.heap[g]? = some (.cells cs 108 (0, 0)) ∧ cs.size = 66 ∧ f < 64 ∧ q.length ≤ 64 ∧ cs[64]? = some (.int .i64 f) ∧ cs[65]? = some (.int .i64 q.length) ∧
    (∀ i, i < 64 → ∃ n : Int, cs[i]? = some (.int .u64 n)) ∧ (∀ i n, q[i]? = some n → cs[(f + i) % 64]? = some (.int .u64 n))
def ptr (g : Nat) : Value := .pointer (some ⟨g, 0, none⟩)

theorem dice_new (w : World) : DiceAt (w.alloc (.cells Try.zeroCells108 108)) w.heap.size [] := by
  have hc : Try.zeroCells108 = (List.replicate 64 (Value.int .u64 0) ++ [Value.int .i64 0, Value.int .i64 0]).toArray := by kernel_rfl
  have hz : ∀ i, i < 64 → Try.zeroCells108[i]? = some (Value.int .u64 0) := fun i hi => by
    rw [hc]; simp only [List.getElem?_toArray]; rw [List.getElem?_append_left (by simpa using hi), List.getElem?_replicate, if_pos hi]
  exact ⟨_, 0, blk_new _ _, by rw [hc]; rfl, by decide, by decide, by rw [hc]; rfl, by rw [hc]; rfl, fun i hi => ⟨0, hz i hi⟩, fun i n h => by simp at h⟩
theorem new_any (w : World) : Calls Try.prog 21 #[] w (fun e w' => ∃ g, e = .returned (ptr g) ∧ w.heap.size ≤ g ∧ DiceAt w' g [] ∧ Up w w') := by
  go_enter Try.func21, Try.ntmps21
  go_wp2_with fail
  go_ret
  exact ⟨w.heap.size, rfl, Nat.le_refl _, dice_new w, (Up.refl _).alloc _⟩
theorem left_any (w : World) (g : Nat) (q : List Int) (h : DiceAt w g q) : Calls Try.prog 32 #[ptr g] w (fun e w' => e = .returned (.int .i64 q.length) ∧ w' = w) := by
  obtain ⟨cs, f, hb, hs, hf, hq, h64, h65, hr, hm⟩ := h
  have c65 : w.cell? ⟨g, 65, none⟩ = some (.int .i64 q.length) := by rw [blk_cell hb]; exact h65
  unfold ptr
  go_enter Try.func32, Try.ntmps32
  go_wp2_with fail
  go_ret
  exact ⟨rfl, rfl⟩
theorem left_nil (w : World) : Calls Try.prog 32 #[.pointer none] w (fun e w' => e = .returned (.int .i64 0) ∧ w' = w) := by
  go_enter Try.func32, Try.ntmps32
  go_wp2_with fail
  go_ret
  exact ⟨rfl, rfl⟩
theorem take_empty (w : World) (g : Nat) (h : DiceAt w g []) : Calls Try.prog 24 #[ptr g] w (fun e w' => e = .returned (.tuple #[.int .u64 0, .bool false]) ∧ w' = w) := by
  obtain ⟨cs, f, hb, hs, hf, hq, h64, h65, hr, hm⟩ := h
  have c65 : w.cell? ⟨g, 65, none⟩ = some (.int .i64 0) := by rw [blk_cell hb]; exact h65
  unfold ptr
  go_enter Try.func24, Try.ntmps24
  go_wp2_with fail
  go_ret2
  exact ⟨rfl, rfl⟩
theorem take_nil (w : World) : Calls Try.prog 24 #[.pointer none] w (fun e w' => e = .returned (.tuple #[.int .u64 0, .bool false]) ∧ w' = w) := by
  go_enter Try.func24, Try.ntmps24
  go_wp2_with fail
  go_ret2
  exact ⟨rfl, rfl⟩
theorem take_some (w : World) (g : Nat) (n : Int) (q : List Int) (h : DiceAt w g (n :: q)) :
    Calls Try.prog 24 #[ptr g] w (fun e w' => e = .returned (.tuple #[.int .u64 n, .bool true]) ∧ DiceAt w' g q ∧ Only g w w') := by
  obtain ⟨cs, f, hb, hs, hf, hq, h64, h65, hr, hm⟩ := h
  simp only [List.length_cons] at hq h65
  have c65 : w.cell? ⟨g, 65, none⟩ = some (.int .i64 ((q.length : Int) + 1)) := by rw [blk_cell hb, h65]; rfl
  have c64 : w.cell? ⟨g, 64, none⟩ = some (.int .i64 f) := by rw [blk_cell hb]; exact h64
  have c0 : w.cell? ⟨g, f, none⟩ = some (.int .u64 n) := by
    rw [blk_cell hb]; have := hm 0 n rfl; rwa [Nat.add_zero, Nat.mod_eq_of_lt hf] at this
  have fz : ∀ o, w.frozen? ⟨g, o, none⟩ = false := fun o => blk_free hb o
  have e1 : ((q.length : Int) + 1 == 0) = false := by rw [beq_eq_false_iff_ne]; omega
  unfold ptr
  go_enter Try.func24, Try.ntmps24
  go_wp2_with fail
  refine wp_region_up (by kernel_rfl) (by kernel_rfl) (Up.refl _) ?_
  have hg := blk_lt hb
  repeat (go_big_quiet_step (fail))
  refine wpQuiet_nil ?_
  intro w1 hu
  have hb1 : w1.heap[g]? = some (.cells cs 108 (0, 0)) := by rw [hu.block hg]; exact hb
  clear c65 c64 c0 fz
  have c65 : w1.cell? ⟨g, 65, none⟩ = some (.int .i64 ((q.length : Int) + 1)) := by rw [blk_cell hb1, h65]; rfl
  have c64 : w1.cell? ⟨g, 64, none⟩ = some (.int .i64 f) := by rw [blk_cell hb1]; exact h64
  have fz : ∀ o, w1.frozen? ⟨g, o, none⟩ = false := fun o => blk_free hb1 o
  go_wp2_with fail
  go_ret2
  refine ⟨rfl, ⟨_, (f + 1) % 64, blk_set (blk_set hb1 _ _) _ _, by simp [hs], Nat.mod_lt _ (by decide), by omega, ?_, ?_, fun i hi => ?_, fun i m hi => ?_⟩, (((Only.up hu).set _ _).set _ _)⟩
  · rw [Array.getElem?_setIfInBounds_ne (by decide), Array.getElem?_setIfInBounds_self, if_pos (by omega)]; rw [show ((f : Int) + 1) % 64 = (((f + 1) % 64 : Nat) : Int) from by omega]
  · rw [Array.getElem?_setIfInBounds_self, if_pos (by simp [hs])]
  · rw [Array.getElem?_setIfInBounds_ne (by omega), Array.getElem?_setIfInBounds_ne (by omega)]; exact hr i hi
  · have hlt := Nat.mod_lt ((f + 1) % 64 + i) (y := 64) (by decide)
    rw [Array.getElem?_setIfInBounds_ne (by omega), Array.getElem?_setIfInBounds_ne (by omega), show ((f + 1) % 64 + i) % 64 = (f + (i + 1)) % 64 from by omega]
    exact hm (i + 1) m (by simpa using hi)
theorem put_nil (w : World) (n : Int) : Calls Try.prog 22 #[.pointer none, .int .u64 n] w (fun e w' => e = .returned (.bool false) ∧ w' = w) := by
  go_enter Try.func22, Try.ntmps22
  go_wp2_with fail
  go_ret
  exact ⟨rfl, rfl⟩
theorem put_full (w : World) (g : Nat) (n : Int) (q : List Int) (h : DiceAt w g q) (hl : q.length = 64) : Calls Try.prog 22 #[ptr g, .int .u64 n] w (fun e w' => e = .returned (.bool false) ∧ w' = w) := by
  obtain ⟨cs, f, hb, hs, hf, hq, h64, h65, hr, hm⟩ := h
  have c65 : w.cell? ⟨g, 65, none⟩ = some (.int .i64 64) := by rw [blk_cell hb, h65, hl]; rfl
  clear hl hq
  unfold ptr
  go_enter Try.func22, Try.ntmps22
  go_wp2_with fail
  go_ret
  exact ⟨rfl, rfl⟩
theorem put_room (w : World) (g : Nat) (n : Int) (q : List Int) (h : DiceAt w g q) (hl : q.length < 64) :
    Calls Try.prog 22 #[ptr g, .int .u64 n] w (fun e w' => e = .returned (.bool true) ∧ DiceAt w' g (q ++ [n]) ∧ Only g w w') := by
  obtain ⟨cs, f, hb, hs, hf, hq, h64, h65, hr, hm⟩ := h
  have c65 : w.cell? ⟨g, 65, none⟩ = some (.int .i64 q.length) := by rw [blk_cell hb]; exact h65
  have c64 : w.cell? ⟨g, 64, none⟩ = some (.int .i64 f) := by rw [blk_cell hb]; exact h64
  have hml : (f + q.length) % 64 < 64 := Nat.mod_lt _ (by decide)
  obtain ⟨v0, hv0⟩ := hr _ hml
  have c0 : w.cell? ⟨g, (f + q.length) % 64, none⟩ = some (.int .u64 v0) := by rw [blk_cell hb]; exact hv0
  have fz : ∀ o, w.frozen? ⟨g, o, none⟩ = false := fun o => blk_free hb o
  have e1 : ((q.length : Int) == 64) = false := by rw [beq_eq_false_iff_ne]; omega
  have hg := blk_lt hb
  unfold ptr
  go_enter Try.func22, Try.ntmps22
  go_wp2_with fail
  have d65 : (w.setCell ⟨g, (f + q.length) % 64, none⟩ (.int .u64 n)).cell? ⟨g, 65, none⟩ = some (.int .i64 q.length) := by
    rw [blk_cell (blk_set hb _ _), Array.getElem?_setIfInBounds_ne (by omega)]; exact h65
  have dz : ∀ o, (w.setCell ⟨g, (f + q.length) % 64, none⟩ (.int .u64 n)).frozen? ⟨g, o, none⟩ = false := fun o => blk_free (blk_set hb _ _) o
  go_region
  clear c65 c64 c0 fz
  go_wp2_with fail
  go_ret
  refine ⟨rfl, ⟨_, f, blk_set (blk_set hb _ _) _ _, by simp [hs], hf, by simp; omega, ?_, ?_, fun i hi => ?_, fun i m hi => ?_⟩, ((((Only.refl _ _).set _ _).drew).set _ _)⟩
  · rw [Array.getElem?_setIfInBounds_ne (by decide), Array.getElem?_setIfInBounds_ne (by omega)]; exact h64
  · rw [Array.getElem?_setIfInBounds_self, if_pos (by simp [hs])]; simp
  · by_cases he : i = (f + q.length) % 64
    · rw [Array.getElem?_setIfInBounds_ne (by omega), he, Array.getElem?_setIfInBounds_self, if_pos (by omega)]; exact ⟨n, rfl⟩
    · rw [Array.getElem?_setIfInBounds_ne (by omega), Array.getElem?_setIfInBounds_ne (fun h => he h.symm)]; exact hr i hi
  · have hlt := Nat.mod_lt (f + i) (y := 64) (by decide)
    rw [Array.getElem?_setIfInBounds_ne (by omega)]
    rcases Nat.lt_or_ge i q.length with h1 | h1
    · rw [List.getElem?_append_left h1] at hi
      rw [Array.getElem?_setIfInBounds_ne (by omega)]
      exact hm i m hi
    · obtain ⟨h2, h3⟩ := List.getElem?_eq_some_iff.1 hi
      simp at h2
      obtain rfl : i = q.length := by omega
      simp at h3
      rw [Array.getElem?_setIfInBounds_self, if_pos (by omega), h3]

end Go.Proofs.Ytmmmaekaoanceaa
