/- conf.Check in the model. Written by a small program of mine (genconfb.py). -/
import Derived.Test.YtpnlhnhjedopgaaConfA
import Derived.Test.YtpnlhnhjedopgaaRnd
import Derived.Test.YtpnlhnhjedopgaaPopA
set_option maxRecDepth 100000
set_option linter.unusedSimpArgs false
namespace Go.Proofs.Ytpnlhnhjedopgaa
open Go Go.RowKit Go.Shelf Go.Proofs
attribute [local go_sem] Oper.semAt_some

/-- a configuration's numbers, in order -/
structure Cnf where
  n0 : Int
  n1 : Int
  n2 : Int
  n3 : Int
  n4 : Int
  n5 : Int
  n6 : Int
  n7 : Int
  n8 : Int
def Cnf.l (c : Cnf) : List Int := [c.n0, c.n1, c.n2, c.n3, c.n4, c.n5, c.n6, c.n7, c.n8]
def Cnf.arr (c : Cnf) : Array Value := #[.int .i64 c.n0, .int .i64 c.n1, .int .i64 c.n2, .int .i64 c.n3, .int .i64 c.n4, .int .i64 c.n5, .int .i64 c.n6, .int .i64 c.n7, .int .i64 c.n8]
theorem Cnf.at (c : Cnf) {i : Nat} (h : i < 9) : c.arr[i]? = some (.int .i64 (c.l[i]?.getD 0)) := by
  have : i = 0 ∨ i = 1 ∨ i = 2 ∨ i = 3 ∨ i = 4 ∨ i = 5 ∨ i = 6 ∨ i = 7 ∨ i = 8 := by omega
  rcases this with rfl | rfl | rfl | rfl | rfl | rfl | rfl | rfl | rfl <;> rfl
def goodI (c : Cnf) (i : Fin 9) : Prop := leastL[i.val]?.getD 0 ≤ c.l[i.val]?.getD 0 ∧ c.l[i.val]?.getD 0 ≤ mostL[i.val]?.getD 0
instance (c : Cnf) (i : Fin 9) : Decidable (goodI c i) := inferInstanceAs (Decidable (_ ∧ _))
def goodC (c : Cnf) : Bool := nines.all fun i => decide (goodI c i)
/-- a block of the call's own -/
def BlkIs (W : World) (B : Nat) (us : Array Value) : Prop := ∃ T0, W.heap[B]? = some (.cells us T0 (0, 0))
theorem BlkIs.lt {W : World} {B : Nat} {us : Array Value} (h : BlkIs W B us) : B < W.heap.size := by
  obtain ⟨T0, h⟩ := h
  exact (Array.getElem?_eq_some_iff.1 h).1
theorem BlkIs.cell {W : World} {B : Nat} {us : Array Value} (h : BlkIs W B us) (i : Nat) : W.cell? ⟨B, i, none⟩ = us[i]? := by
  obtain ⟨T0, h⟩ := h
  simp [World.cell?, h]
theorem BlkIs.free {W : World} {B : Nat} {us : Array Value} (h : BlkIs W B us) (i : Nat) : W.frozen? ⟨B, i, none⟩ = false := by
  obtain ⟨T0, h⟩ := h
  exact blk_free h i
theorem BlkIs.own {β : Type} (B : Nat) (f : β → Array Value) : Go.Own (fun s W => BlkIs W B (f s)) := fun s X Y row hs hg hr => by
  obtain ⟨T0, h⟩ := hs
  exact ⟨T0, (grownBy_keeps_cells hg hr h rfl).trans h⟩
theorem BlkIs.alloc {W : World} {B : Nat} {us : Array Value} (h : BlkIs W B us) (o : Obj) : BlkIs (W.alloc o) B us := by
  obtain ⟨T0, h⟩ := h
  exact ⟨T0, blk_alloc h⟩
theorem BlkIs.up {W W' : World} {B : Nat} {us : Array Value} (h : BlkIs W B us) (hu : Up W W') : BlkIs W' B us := by
  have := h.lt
  obtain ⟨T0, h⟩ := h
  exact ⟨T0, (hu.block this).trans h⟩
theorem BlkIs.set {W : World} {B : Nat} {us : Array Value} (h : BlkIs W B us) (i : Nat) (v : Value) : BlkIs (W.setCell ⟨B, i, none⟩ v) B (us.setIfInBounds i v) := by
  obtain ⟨T0, h⟩ := h
  exact ⟨T0, blk_set h i v⟩
theorem BlkIs.other {W : World} {B : Nat} {us : Array Value} (h : BlkIs W B us) {b i : Nat} (v : Value) (hb : B ≠ b) : BlkIs (W.setCell ⟨b, i, none⟩ v) B us := by
  obtain ⟨T0, h⟩ := h
  exact ⟨T0, blk_ne h hb v⟩
theorem not_out {P : Program} {α : Type} {B : Nat} {Kp : World → World → Prop} {I : List α → World → Prop} {Ix : Code → List α → World → Prop} {xs : List α} {W : World} {F : Fence} {n : Nat} {c : Code} {k : Nat} :
    ¬ LetsOut (Exit.then (c.wpIn F n P (Exit.inBlock k (ownPostG B Kp I Ix xs W))) (Exit.inBlock k (ownPostG B Kp I Ix xs W))) := by
  rintro ⟨a, w, h⟩
  exact h

set_option maxHeartbeats 8000000 in
theorem confcheck_any (c : Cnf) (w : World) : Calls Try.prog 120 #[.agg c.arr] w (Gives w (.int .i64 (if goodC c then 0 else 1))) := by
  refine (callsIn_wide (n := 9)).1 ?_
  refine callsIn_of_wp_marks Try.func120 rfl trivial ?_ rfl
  simp only [Try.ntmps120, List.size_toArray, List.length_cons, List.length_nil, Nat.reduceAdd, Nat.reduceSub, Array.replicate_succ, Array.replicate_zero, List.push_toArray, List.append_toArray, List.nil_append, List.cons_append]
  obtain ⟨arr, harr⟩ : ∃ arr, c.arr = arr := ⟨_, rfl⟩
  have hat : ∀ i, i < 9 → arr[i]? = some (.int .i64 (c.l[i]?.getD 0)) := fun i hi => by rw [← harr]; exact c.at hi
  rw [harr]
  clear harr
  obtain ⟨r, hr⟩ : ∃ r : Int, r = (if goodC c then 0 else 1) := ⟨_, rfl⟩
  have HR := Lib.hid hr
  rw [← hr]
  clear hr
  gi_wp2_with (refine ⟨trivial, ?_⟩; gi_at_call 142; refine (callsIn_wide.2 (places_w _ _)).mono ?_; rintro e w1 ⟨A, T0, rfl, hA, hAl, hu⟩)
  have hu1 : Up w w1 := (((Up.refl w).alloc _).alloc _).trans hu
  have bC0 : BlkIs (w.alloc (.cells arr 24)) w.heap.size arr := ⟨_, blk_new w _⟩
  have bC : BlkIs w1 w.heap.size arr := (bC0.alloc _).up hu
  have bR0 : BlkIs ((w.alloc (.cells arr 24)).alloc (.cells #[.int .i64 0] 27)) (w.heap.size + 1) #[.int .i64 0] := ⟨_, blk_new' (by simp)⟩
  have bR : BlkIs w1 (w.heap.size + 1) #[.int .i64 0] := bR0.up hu
  have hsz : w.heap.size + 2 ≤ w1.heap.size := by have := hu.size; simp at this; omega
  clear hu
  refine wpIn_rangeFunc_ownH rfl (by omega) (gf := 158) (lb := #[.pointer (some ⟨A, 0, none⟩)]) rfl trivial (enters_of Try.func158 (by kernel_rfl) rfl)
    (places_stops 8 w.heap.size A T0 w1 hA) (fun _ _ => trivial) (fun _ _ _ _ _ _ _ _ => trivial) (Below.refl _ _) (fun _ => rfl)
    (fun pre W => ((BlkIs W w.heap.size arr ∧ BlkIs W (w.heap.size + 1) #[.int .i64 0]) ∧ ∀ i ∈ pre, goodI c i) ∧ Below w.heap.size w W)
    (fun q pre W => (q = .ret ∧ BlkIs W (w.heap.size + 1) #[.int .i64 1] ∧ ∃ i ∈ pre, ¬ goodI c i) ∧ Below w.heap.size w W)
    (OwnFrom.and (OwnFrom.and (OwnFrom.and (Go.Own.from (BlkIs.own _ (fun _ => arr)) _) (Go.Own.from (BlkIs.own _ (fun _ => #[.int .i64 0])) _)) (fun _ _ _ _ h _ _ => h)) (ownFrom_below (Nat.le_refl _) (by omega)))
    (fun q => OwnFrom.and (fun s X Y row h hg hr => ⟨h.1, Go.Own.from (BlkIs.own (β := Unit) (w.heap.size + 1) (fun _ => #[.int .i64 1])) _ () X Y row h.2.1 hg hr, h.2.2⟩) (ownFrom_below (Nat.le_refl _) (by omega)))
    ⟨⟨⟨bC, bR⟩, fun i hi => by cases hi⟩, hu1⟩
    (fun x a' W => ∃ Bx, w.heap.size + 1 < Bx ∧ BlkIs W Bx #[.pointer (some ⟨w.heap.size, x.val, none⟩), .int .i64 (leastL[x.val]?.getD 0), .int .i64 (mostL[x.val]?.getD 0)] ∧ a' = { tmps := #[.agg arr, .pointer (some ⟨w.heap.size, 0, none⟩), .pointer (some ⟨w.heap.size + 1, 0, none⟩), undef, .pointer (some ⟨Bx, 0, none⟩), .func (.func 158) #[] #[.pointer (some ⟨A, 0, none⟩)], .int .i64 (x.val : Nat), .agg #[.pointer (some ⟨w.heap.size, x.val, none⟩), .int .i64 (leastL[x.val]?.getD 0), .int .i64 (mostL[x.val]?.getD 0)], undef, undef, undef, undef, undef, undef, undef, undef, undef, undef, undef, undef, undef, undef, undef, undef], defers := [] })
    (fun x a' _ X Y row hs hg hr => by obtain ⟨Bx, h1, h2, h3⟩ := hs; exact ⟨Bx, h1, BlkIs.own (β := Unit) Bx (fun _ => _) () _ _ row h2 hg (fun r e => (hr r e).2), h3⟩)
    ?assign ?body ?done ?stop
  case assign =>
    rintro l pre x W K ⟨⟨⟨bC1, bR1⟩, hg⟩, hB1⟩ hK
    dsimp only [plEnc]
    gi_wp2
    exact hK _ _ ((KeepsOthers.alloc _ _).from _) trivial ⟨⟨⟨bC1.alloc _, bR1.alloc _⟩, hg⟩, hB1.alloc hB1.size _⟩ ⟨W.heap.size, bR1.lt, ⟨_, blk_new _ _⟩, rfl⟩
  case body =>
    rintro l pre x a' W hl ⟨rr, hrr⟩ ⟨⟨⟨bC1, bR1⟩, hg⟩, hB1⟩ ⟨Bx, hBx, bX, rfl⟩ hlt
    have hgd : goodI c x ↔ leastL[x.val]?.getD 0 ≤ c.l[x.val]?.getD 0 ∧ c.l[x.val]?.getD 0 ≤ mostL[x.val]?.getD 0 := Iff.rfl
    have x0 : W.drew.cell? ⟨Bx, 0, none⟩ = some (.pointer (some ⟨w.heap.size, x.val, none⟩)) := (bX.cell 0).trans rfl
    have x1 : W.drew.cell? ⟨Bx, 1, none⟩ = some (.int .i64 (leastL[x.val]?.getD 0)) := (bX.cell 1).trans rfl
    have x2 : W.drew.cell? ⟨Bx, 2, none⟩ = some (.int .i64 (mostL[x.val]?.getD 0)) := (bX.cell 2).trans rfl
    have x3 : W.drew.cell? ⟨w.heap.size, x.val, none⟩ = some (.int .i64 (c.l[x.val]?.getD 0)) := (bC1.cell x.val).trans (hat _ x.isLt)
    have cR : W.drew.cell? ⟨w.heap.size + 1, 0, none⟩ = some (.int .i64 0) := (bR1.cell 0).trans rfl
    have fR : W.drew.frozen? ⟨w.heap.size + 1, 0, none⟩ = false := bR1.free 0
    have hlW := bR1.lt
    have hall : ∀ y ∈ pre ++ [x], y ∈ pre ∨ y = x := fun y hy => by simpa using hy
    generalize leastL[x.val]?.getD 0 = lo at *
    generalize mostL[x.val]?.getD 0 = hi at *
    generalize c.l[x.val]?.getD 0 = v at *
    have HG := Lib.hid hgd
    have HP := Lib.hid hg
    have HA := Lib.hid hall
    clear hgd hg hall hat
    refine wpIn_block ?_
    refine wpIn_seq ?_
    refine region_held_in (S := fun w' => w' = W.drew ∧ True) (by kernel_rfl) (by kernel_rfl) not_out ⟨rfl, trivial⟩ fun hS => ?_
    refine wpAnyH_take (i := 0) (oi := { dst := some 8, op := _, type := _, pos := _, after := _, guard := _ }) (v := .pointer (some ⟨Bx, 0, none⟩)) rfl (by kernel_rfl) (by kernel_rfl) (by kernel_rfl) (fun _ _ _ h => h) (.inl ⟨rfl, fun w' hw' => ?_⟩) (by assumption) ?_
    · obtain ⟨rfl, -⟩ := hw'; go_simp
    simp only [Act.put, List.setIfInBounds_toArray, List.set_cons_zero, List.set_cons_succ]
    refine wpAnyH_take (i := 1) (oi := { dst := some 9, op := _, type := _, pos := _, after := _, guard := _ }) (v := .pointer (some ⟨w.heap.size, x.val, none⟩)) rfl (by kernel_rfl) (by kernel_rfl) (by kernel_rfl) (fun _ _ _ h => h) (.inl ⟨rfl, fun w' hw' => ?_⟩) (by assumption) ?_
    · obtain ⟨rfl, -⟩ := hw'; go_simp
    simp only [Act.put, List.setIfInBounds_toArray, List.set_cons_zero, List.set_cons_succ]
    refine wpAnyH_take (i := 2) (oi := { dst := some 10, op := _, type := _, pos := _, after := _, guard := _ }) (v := .pointer (some ⟨w.heap.size, x.val, none⟩)) rfl (by kernel_rfl) (by kernel_rfl) (by kernel_rfl) (fun _ _ _ h => h) (.inl ⟨rfl, fun w' hw' => ?_⟩) (by assumption) ?_
    · obtain ⟨rfl, -⟩ := hw'; go_simp
    simp only [Act.put, List.setIfInBounds_toArray, List.set_cons_zero, List.set_cons_succ]
    refine wpAnyH_take (i := 3) (oi := { dst := some 11, op := _, type := _, pos := _, after := _, guard := _ }) (v := .int .i64 v) rfl (by kernel_rfl) (by kernel_rfl) (by kernel_rfl) (fun _ _ _ h => h) (.inl ⟨rfl, fun w' hw' => ?_⟩) (by assumption) ?_
    · obtain ⟨rfl, -⟩ := hw'; go_simp
    simp only [Act.put, List.setIfInBounds_toArray, List.set_cons_zero, List.set_cons_succ]
    refine wpAnyH_take (i := 4) (oi := { dst := some 12, op := _, type := _, pos := _, after := _, guard := _ }) (v := .pointer (some ⟨Bx, 1, none⟩)) rfl (by kernel_rfl) (by kernel_rfl) (by kernel_rfl) (fun _ _ _ h => h) (.inl ⟨rfl, fun w' hw' => ?_⟩) (by assumption) ?_
    · obtain ⟨rfl, -⟩ := hw'; go_simp
    simp only [Act.put, List.setIfInBounds_toArray, List.set_cons_zero, List.set_cons_succ]
    refine wpAnyH_take (i := 5) (oi := { dst := some 13, op := _, type := _, pos := _, after := _, guard := _ }) (v := .int .i64 lo) rfl (by kernel_rfl) (by kernel_rfl) (by kernel_rfl) (fun _ _ _ h => h) (.inl ⟨rfl, fun w' hw' => ?_⟩) (by assumption) ?_
    · obtain ⟨rfl, -⟩ := hw'; go_simp
    simp only [Act.put, List.setIfInBounds_toArray, List.set_cons_zero, List.set_cons_succ]
    by_cases h1 : v < lo
    · have d1 : decide (v < lo) = true := by simpa using h1
      refine wpAnyH_take (i := 6) (oi := { dst := some 14, op := _, type := _, pos := _, after := _, guard := _ }) (v := .bool true) rfl (by kernel_rfl) (by kernel_rfl) (by kernel_rfl) (fun _ _ _ h => h) (.inl ⟨rfl, fun w' hw' => ?_⟩) (by assumption) ?_
      · obtain ⟨rfl, -⟩ := hw'; go_simp
      simp only [Act.put, List.setIfInBounds_toArray, List.set_cons_zero, List.set_cons_succ]
      refine wpAnyH_take (i := 7) (oi := { dst := some 15, op := _, type := _, pos := _, after := _, guard := _ }) (v := .bool true) rfl (by kernel_rfl) (by kernel_rfl) (by kernel_rfl) (fun _ _ _ h => h) (.inl ⟨rfl, fun w' hw' => ?_⟩) (by assumption) ?_
      · obtain ⟨rfl, -⟩ := hw'; go_simp
      simp only [Act.put, List.setIfInBounds_toArray, List.set_cons_zero, List.set_cons_succ]
      refine wpAnyH_take (i := 8) (oi := { dst := some 16, op := _, type := _, pos := _, after := _, guard := _ }) (v := undef) rfl (by kernel_rfl) (by kernel_rfl) (by kernel_rfl) (fun _ _ _ h => h) (.inr ⟨rfl, rfl⟩) (by assumption) ?_
      simp only [Act.put, List.setIfInBounds_toArray, List.set_cons_zero, List.set_cons_succ]
      refine wpAnyH_take (i := 9) (oi := { dst := some 17, op := _, type := _, pos := _, after := _, guard := _ }) (v := undef) rfl (by kernel_rfl) (by kernel_rfl) (by kernel_rfl) (fun _ _ _ h => h) (.inr ⟨rfl, rfl⟩) (by assumption) ?_
      simp only [Act.put, List.setIfInBounds_toArray, List.set_cons_zero, List.set_cons_succ]
      refine wpAnyH_take (i := 10) (oi := { dst := some 18, op := _, type := _, pos := _, after := _, guard := _ }) (v := undef) rfl (by kernel_rfl) (by kernel_rfl) (by kernel_rfl) (fun _ _ _ h => h) (.inr ⟨rfl, rfl⟩) (by assumption) ?_
      simp only [Act.put, List.setIfInBounds_toArray, List.set_cons_zero, List.set_cons_succ]
      refine wpAnyH_take (i := 11) (oi := { dst := some 19, op := _, type := _, pos := _, after := _, guard := _ }) (v := undef) rfl (by kernel_rfl) (by kernel_rfl) (by kernel_rfl) (fun _ _ _ h => h) (.inr ⟨rfl, rfl⟩) (by assumption) ?_
      simp only [Act.put, List.setIfInBounds_toArray, List.set_cons_zero, List.set_cons_succ]
      refine wpAnyH_take (i := 12) (oi := { dst := some 20, op := _, type := _, pos := _, after := _, guard := _ }) (v := undef) rfl (by kernel_rfl) (by kernel_rfl) (by kernel_rfl) (fun _ _ _ h => h) (.inr ⟨rfl, rfl⟩) (by assumption) ?_
      simp only [Act.put, List.setIfInBounds_toArray, List.set_cons_zero, List.set_cons_succ]
      refine wpAnyH_take (i := 13) (oi := { dst := some 21, op := _, type := _, pos := _, after := _, guard := _ }) (v := undef) rfl (by kernel_rfl) (by kernel_rfl) (by kernel_rfl) (fun _ _ _ h => h) (.inr ⟨rfl, rfl⟩) (by assumption) ?_
      simp only [Act.put, List.setIfInBounds_toArray, List.set_cons_zero, List.set_cons_succ]
      refine wpAnyH_take (i := 14) (oi := { dst := some 22, op := _, type := _, pos := _, after := _, guard := _ }) (v := undef) rfl (by kernel_rfl) (by kernel_rfl) (by kernel_rfl) (fun _ _ _ h => h) (.inr ⟨rfl, rfl⟩) (by assumption) ?_
      simp only [Act.put, List.setIfInBounds_toArray, List.set_cons_zero, List.set_cons_succ]
      refine wpAnyH_take (i := 15) (oi := { dst := some 23, op := _, type := _, pos := _, after := _, guard := _ }) (v := .bool true) rfl (by kernel_rfl) (by kernel_rfl) (by kernel_rfl) (fun _ _ _ h => h) (.inl ⟨rfl, fun w' hw' => ?_⟩) (by assumption) ?_
      · obtain ⟨rfl, -⟩ := hw'; go_simp
      simp only [Act.put, List.setIfInBounds_toArray, List.set_cons_zero, List.set_cons_succ]
      refine wpAnyH_done (by kernel_rfl) ?_ _
      gi_wp2
      exact ⟨((KeepsOthers.drew W).trans (KeepsOthers.setCell _ _ _)).from _, ⟨rfl, (show BlkIs W.drew _ _ from bR1).set 0 _, x, by simp, fun hg => by have := HG.out.1 hg; omega⟩, (hB1.drew).setCell (p := ⟨w.heap.size + 1, 0, none⟩) (by simp) _⟩
    · have d1 : decide (v < lo) = false := by simpa using h1
      refine wpAnyH_take (i := 6) (oi := { dst := some 14, op := _, type := _, pos := _, after := _, guard := _ }) (v := .bool false) rfl (by kernel_rfl) (by kernel_rfl) (by kernel_rfl) (fun _ _ _ h => h) (.inl ⟨rfl, fun w' hw' => ?_⟩) (by assumption) ?_
      · obtain ⟨rfl, -⟩ := hw'; go_simp
      simp only [Act.put, List.setIfInBounds_toArray, List.set_cons_zero, List.set_cons_succ]
      refine wpAnyH_take (i := 7) (oi := { dst := some 15, op := _, type := _, pos := _, after := _, guard := _ }) (v := .bool false) rfl (by kernel_rfl) (by kernel_rfl) (by kernel_rfl) (fun _ _ _ h => h) (.inl ⟨rfl, fun w' hw' => ?_⟩) (by assumption) ?_
      · obtain ⟨rfl, -⟩ := hw'; go_simp
      simp only [Act.put, List.setIfInBounds_toArray, List.set_cons_zero, List.set_cons_succ]
      refine wpAnyH_take (i := 8) (oi := { dst := some 16, op := _, type := _, pos := _, after := _, guard := _ }) (v := .pointer (some ⟨Bx, 0, none⟩)) rfl (by kernel_rfl) (by kernel_rfl) (by kernel_rfl) (fun _ _ _ h => h) (.inl ⟨rfl, fun w' hw' => ?_⟩) (by assumption) ?_
      · obtain ⟨rfl, -⟩ := hw'; go_simp
      simp only [Act.put, List.setIfInBounds_toArray, List.set_cons_zero, List.set_cons_succ]
      refine wpAnyH_take (i := 9) (oi := { dst := some 17, op := _, type := _, pos := _, after := _, guard := _ }) (v := .pointer (some ⟨w.heap.size, x.val, none⟩)) rfl (by kernel_rfl) (by kernel_rfl) (by kernel_rfl) (fun _ _ _ h => h) (.inl ⟨rfl, fun w' hw' => ?_⟩) (by assumption) ?_
      · obtain ⟨rfl, -⟩ := hw'; go_simp
      simp only [Act.put, List.setIfInBounds_toArray, List.set_cons_zero, List.set_cons_succ]
      refine wpAnyH_take (i := 10) (oi := { dst := some 18, op := _, type := _, pos := _, after := _, guard := _ }) (v := .pointer (some ⟨w.heap.size, x.val, none⟩)) rfl (by kernel_rfl) (by kernel_rfl) (by kernel_rfl) (fun _ _ _ h => h) (.inl ⟨rfl, fun w' hw' => ?_⟩) (by assumption) ?_
      · obtain ⟨rfl, -⟩ := hw'; go_simp
      simp only [Act.put, List.setIfInBounds_toArray, List.set_cons_zero, List.set_cons_succ]
      refine wpAnyH_take (i := 11) (oi := { dst := some 19, op := _, type := _, pos := _, after := _, guard := _ }) (v := .int .i64 v) rfl (by kernel_rfl) (by kernel_rfl) (by kernel_rfl) (fun _ _ _ h => h) (.inl ⟨rfl, fun w' hw' => ?_⟩) (by assumption) ?_
      · obtain ⟨rfl, -⟩ := hw'; go_simp
      simp only [Act.put, List.setIfInBounds_toArray, List.set_cons_zero, List.set_cons_succ]
      refine wpAnyH_take (i := 12) (oi := { dst := some 20, op := _, type := _, pos := _, after := _, guard := _ }) (v := .pointer (some ⟨Bx, 2, none⟩)) rfl (by kernel_rfl) (by kernel_rfl) (by kernel_rfl) (fun _ _ _ h => h) (.inl ⟨rfl, fun w' hw' => ?_⟩) (by assumption) ?_
      · obtain ⟨rfl, -⟩ := hw'; go_simp
      simp only [Act.put, List.setIfInBounds_toArray, List.set_cons_zero, List.set_cons_succ]
      refine wpAnyH_take (i := 13) (oi := { dst := some 21, op := _, type := _, pos := _, after := _, guard := _ }) (v := .int .i64 hi) rfl (by kernel_rfl) (by kernel_rfl) (by kernel_rfl) (fun _ _ _ h => h) (.inl ⟨rfl, fun w' hw' => ?_⟩) (by assumption) ?_
      · obtain ⟨rfl, -⟩ := hw'; go_simp
      simp only [Act.put, List.setIfInBounds_toArray, List.set_cons_zero, List.set_cons_succ]
      by_cases h2 : v > hi
      · have d2 : decide (v > hi) = true := by simpa using h2
        refine wpAnyH_take (i := 14) (oi := { dst := some 22, op := _, type := _, pos := _, after := _, guard := _ }) (v := .bool true) rfl (by kernel_rfl) (by kernel_rfl) (by kernel_rfl) (fun _ _ _ h => h) (.inl ⟨rfl, fun w' hw' => ?_⟩) (by assumption) ?_
        · obtain ⟨rfl, -⟩ := hw'; go_simp
        simp only [Act.put, List.setIfInBounds_toArray, List.set_cons_zero, List.set_cons_succ]
        refine wpAnyH_take (i := 15) (oi := { dst := some 23, op := _, type := _, pos := _, after := _, guard := _ }) (v := .bool true) rfl (by kernel_rfl) (by kernel_rfl) (by kernel_rfl) (fun _ _ _ h => h) (.inl ⟨rfl, fun w' hw' => ?_⟩) (by assumption) ?_
        · obtain ⟨rfl, -⟩ := hw'; go_simp
        simp only [Act.put, List.setIfInBounds_toArray, List.set_cons_zero, List.set_cons_succ]
        refine wpAnyH_done (by kernel_rfl) ?_ _
        gi_wp2
        exact ⟨((KeepsOthers.drew W).trans (KeepsOthers.setCell _ _ _)).from _, ⟨rfl, (show BlkIs W.drew _ _ from bR1).set 0 _, x, by simp, fun hg => by have := HG.out.1 hg; omega⟩, (hB1.drew).setCell (p := ⟨w.heap.size + 1, 0, none⟩) (by simp) _⟩
      · have d2 : decide (v > hi) = false := by simpa using h2
        refine wpAnyH_take (i := 14) (oi := { dst := some 22, op := _, type := _, pos := _, after := _, guard := _ }) (v := .bool false) rfl (by kernel_rfl) (by kernel_rfl) (by kernel_rfl) (fun _ _ _ h => h) (.inl ⟨rfl, fun w' hw' => ?_⟩) (by assumption) ?_
        · obtain ⟨rfl, -⟩ := hw'; go_simp
        simp only [Act.put, List.setIfInBounds_toArray, List.set_cons_zero, List.set_cons_succ]
        refine wpAnyH_take (i := 15) (oi := { dst := some 23, op := _, type := _, pos := _, after := _, guard := _ }) (v := .bool false) rfl (by kernel_rfl) (by kernel_rfl) (by kernel_rfl) (fun _ _ _ h => h) (.inl ⟨rfl, fun w' hw' => ?_⟩) (by assumption) ?_
        · obtain ⟨rfl, -⟩ := hw'; go_simp
        simp only [Act.put, List.setIfInBounds_toArray, List.set_cons_zero, List.set_cons_succ]
        refine wpAnyH_done (by kernel_rfl) ?_ _
        gi_wp2
        exact ⟨(KeepsOthers.drew W).from _, trivial, ⟨⟨bC1, bR1⟩, fun y hy => by rcases HA.out y hy with h | rfl; exact HP.out y h; exact HG.out.2 (by omega)⟩, hB1.drew⟩
  case done =>
    rintro D xs W hD rfl ⟨⟨⟨bC1, bR1⟩, hg⟩, hB1⟩ hK
    have hr0 : r = 0 := by
      rw [HR.out, if_pos]
      unfold goodC
      rw [List.all_eq_true]
      exact fun i hi => by simpa using hg i hi
    subst hr0
    have cR : W.cell? ⟨w.heap.size + 1, 0, none⟩ = some (.int .i64 0) := (bR1.cell 0).trans rfl
    have fR : W.frozen? ⟨w.heap.size + 1, 0, none⟩ = false := bR1.free 0
    have hDl : D < W.heap.size := (Array.getElem?_eq_some_iff.1 hK).1
    gi_wp2
    have hK2 := (KeepsOthers.setCell W ⟨w.heap.size + 1, 0, none⟩ (.int .i64 0)).same D _ hK rfl
    have cR2 : ((W.setCell ⟨w.heap.size + 1, 0, none⟩ (.int .i64 0)).putObj D (.deferred none)).cell? ⟨w.heap.size + 1, 0, none⟩ = some (.int .i64 0) := cell_kept (((bR1.set 0 (.int .i64 0)).cell 0).trans rfl) (grownBy_putObj' _ D _) (fun r e => by cases e; exact ⟨_, hK2, rfl⟩)
    refine ⟨by simp, .inl ⟨_, _, rfl, run_takeDeferred hK2, .int .i64 0, by simp [results, Try.results120, go_sem, cR2], ?_⟩⟩
    refine Gives.mk rfl ?_
    exact (hB1.setCell (p := ⟨w.heap.size + 1, 0, none⟩) (by simp) _).trans (belowK_b (w := w) (Nat.le_refl _) _ D _ _ (by omega) hK2 rfl rfl)
  case stop =>
    rintro D q pre W hD hpre ⟨⟨rfl, bR1, i, hi, hng⟩, hB1⟩ hK
    have hr1 : r = 1 := by
      rw [HR.out, if_neg]
      intro hall
      unfold goodC at hall
      rw [List.all_eq_true] at hall
      exact hng (by simpa using hall i (hpre.subset hi))
    subst hr1
    have cR : W.cell? ⟨w.heap.size + 1, 0, none⟩ = some (.int .i64 1) := (bR1.cell 0).trans rfl
    gi_wp2
    have cR2 : (W.putObj D (.deferred none)).cell? ⟨w.heap.size + 1, 0, none⟩ = some (.int .i64 1) := cell_kept cR (grownBy_putObj' _ D _) (fun r e => by cases e; exact ⟨_, hK, rfl⟩)
    refine ⟨by simp, .inl ⟨_, _, rfl, run_takeDeferred hK, .int .i64 1, by simp [results, Try.results120, go_sem, cR2], ?_⟩⟩
    refine Gives.mk rfl ?_
    exact hB1.trans (belowK_b (w := w) (Nat.le_refl _) _ D _ _ (by omega) hK rfl rfl)
end Go.Proofs.Ytpnlhnhjedopgaa
