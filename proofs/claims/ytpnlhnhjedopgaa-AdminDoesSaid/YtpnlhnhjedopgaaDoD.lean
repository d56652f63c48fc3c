/- The document's book of tenants, in the model: Do, one order after the other. -/
import Derived.Test.YtpnlhnhjedopgaaDoB
set_option maxRecDepth 100000
set_option linter.unusedSimpArgs false
namespace Go.Proofs.Ytpnlhnhjedopgaa
open Go Go.RowKit Go.Proofs

theorem refdo41_3 (b off cap : Nat) (R : List RTen) (id : Int) (i : Nat) (c : Cnf) (w : World) (hr : Row w (.slice (some ⟨b, off, none⟩) 9 cap) R 11 RTen.cells) (hR : R.length = 9) (hi : i < 9) (x : RTen) (hx : R[i]? = some x)
    (hchk : ∀ w', Up w w' → Calls Try.prog 81 #[.agg #[.slice (some ⟨b, off, none⟩) 9 cap], .agg #[.int .u64 id, .int .i64 3, .int .i64 (i : Nat), .int .i64 c.n0, .int .i64 c.n1, .int .i64 c.n2, .int .i64 c.n3, .int .i64 c.n4, .int .i64 c.n5, .int .i64 c.n6, .int .i64 c.n7, .int .i64 c.n8]] w' (Gives w' (.int .i64 0))) :
    Calls Try.prog 84 #[.agg #[.slice (some ⟨b, off, none⟩) 9 cap], .agg #[.int .u64 id, .int .i64 3, .int .i64 (i : Nat), .int .i64 c.n0, .int .i64 c.n1, .int .i64 c.n2, .int .i64 c.n3, .int .i64 c.n4, .int .i64 c.n5, .int .i64 c.n6, .int .i64 c.n7, .int .i64 c.n8]] w (fun e' w' => ∃ u, e' = .returned (.tuple #[.agg #[u], .int .i64 0]) ∧ w'.ownsRow w.heap.size 181 11 u 9 ((R.set i { x with rests := false }).flatMap RTen.cells) ∧ Up w w') := by
  have HR := Lib.hid hr
  have HC := Lib.hid hchk
  clear hr hchk
  go_enter Try.func84, Try.ntmps84
  go_wp2_with fail
  refine (HC.out _ (by repeat (first | exact Up.refl _ | refine Up.alloc ?_ _ | (refine Up.set ?_ (by simp) _)))).mono ?_
  rintro e w1 ⟨rfl, hu1⟩
  have B2 : w1.heap[w.heap.size]? = some (.cells #[.slice (some ⟨b, off, none⟩) 9 cap] 129 (0, 0)) := hu1.keep (blk_alloc (blk_alloc (blk_new' rfl)))
  have B3 : w1.heap[w.heap.size + 1]? = some (.cells #[.int .u64 id, .int .i64 3, .int .i64 (i : Nat), .int .i64 c.n0, .int .i64 c.n1, .int .i64 c.n2, .int .i64 c.n3, .int .i64 c.n4, .int .i64 c.n5, .int .i64 c.n6, .int .i64 c.n7, .int .i64 c.n8] 26 (0, 0)) := hu1.keep (blk_alloc (blk_new' (by simp)))
  have B4 : w1.heap[w.heap.size + 2]? = some (.cells #[.slice none 0 0] 129 (0, 0)) := hu1.keep (blk_new' (by simp))
  have hup1 : Up w w1 := Up.trans (by repeat (first | exact Up.refl _ | refine Up.alloc ?_ _)) hu1
  have z2 := blk_lt B2
  have z3 := blk_lt B3
  have z4 := blk_lt B4
  have b2 := blk_cell B2 0
  have b31 := blk_cell B3 1
  have b32 := blk_cell B3 2
  simp only [List.getElem?_toArray, List.getElem?_cons_zero, List.getElem?_cons_succ] at b2 b31 b32
  have hs1 := hup1.size
  have hmade := Lib.hid (World.ownsRow_made (base := w.heap.size) (e := 181) (size := 11) w1 #[] 0 hs1 (by decide) (by decide))
  have HR1 := Lib.hid ((HR.out.up hup1).up ((Up.refl w1).alloc (.cells #[] 181)))
  have HB2 := Lib.hid B2
  have HB3 := Lib.hid B3
  have HB4 := Lib.hid B4
  have HU1 := Lib.hid hup1
  clear B2 B3 B4 hu1 hup1 HC HR
  go_wp2_with (at_builtin; refine wpList_apps rfl _ _ 127 181 rfl rowTen (base := w.heap.size) (by simp; omega) rfl hmade.out rfl HR1.out (fun x hx => rfl) (fun x hx u hu => by simp [RTen.cells] at hu; rcases hu with rfl | rfl | rfl | rfl | rfl | rfl | rfl | rfl | rfl | rfl | rfl <;> rfl) (by unfold maxLen; omega) (by omega) ?_; intro v1 w2 hA; obtain ⟨g, cap1, rfl, F⟩ := do_facts hR hx HU1.out HB3.out HB4.out hA; have b31 := blk_cell F.c3 1; have b32 := blk_cell F.c3 2; simp only [List.getElem?_toArray, List.getElem?_cons_zero, List.getElem?_cons_succ] at b31 b32; have b40 := blk_cell F.c4 0; have b4f := blk_free F.c4 0; have z23 := blk_lt F.c3; have z24 := blk_lt F.c4; have x0 := F.x0; have x1 := F.x1; have x2 := F.x2; have x3 := F.x3; have x4 := F.x4; have x5 := F.x5; have x6 := F.x6; have x7 := F.x7; have x8 := F.x8; have x9 := F.x9; have x10 := F.x10; have xf := F.xf; have n1 := F.n1; have n2 := F.n2; have ng := F.lt; have q1 : (0 : Int) ≤ (i : Int) := (by omega); have q2 : (i : Int) < 9 := (by omega); have HF := Lib.hid F; clear F hA)
  obtain ⟨e1, e2, e3⟩ := do_fin HF.out (by omega) ({ x with rests := false }) (.cells (RTen.cells ({ x with rests := false })).toArray 181 (0, 0))
  refine of_world (X := fun W => bodyPost _ _ _ _ _ W) (A := fun W => W.cell? ⟨w.heap.size + 1 + 1, 0, none⟩ = some (.slice (some ⟨g, 0, none⟩) 9 cap1)) (B := fun W => W.ownsRow _ _ _ _ _ _) (C := fun W => Up w W) e1 e2 e3 fun W h1 h2 h3 => ?_
  exact bodyPost_ret (v := .tuple #[.agg #[.slice (some ⟨g, 0, none⟩) 9 cap1], .int .i64 0]) (by simp [results, Try.results84, go_sem, h1]) rfl ⟨_, rfl, h2, h3⟩

theorem refdo41_4 (b off cap : Nat) (R : List RTen) (id : Int) (i : Nat) (c : Cnf) (w : World) (hr : Row w (.slice (some ⟨b, off, none⟩) 9 cap) R 11 RTen.cells) (hR : R.length = 9) (hi : i < 9) (x : RTen) (hx : R[i]? = some x)
    (hchk : ∀ w', Up w w' → Calls Try.prog 81 #[.agg #[.slice (some ⟨b, off, none⟩) 9 cap], .agg #[.int .u64 id, .int .i64 4, .int .i64 (i : Nat), .int .i64 c.n0, .int .i64 c.n1, .int .i64 c.n2, .int .i64 c.n3, .int .i64 c.n4, .int .i64 c.n5, .int .i64 c.n6, .int .i64 c.n7, .int .i64 c.n8]] w' (Gives w' (.int .i64 0))) :
    Calls Try.prog 84 #[.agg #[.slice (some ⟨b, off, none⟩) 9 cap], .agg #[.int .u64 id, .int .i64 4, .int .i64 (i : Nat), .int .i64 c.n0, .int .i64 c.n1, .int .i64 c.n2, .int .i64 c.n3, .int .i64 c.n4, .int .i64 c.n5, .int .i64 c.n6, .int .i64 c.n7, .int .i64 c.n8]] w (fun e' w' => ∃ u, e' = .returned (.tuple #[.agg #[u], .int .i64 0]) ∧ w'.ownsRow w.heap.size 181 11 u 9 ((R.set i zeroR).flatMap RTen.cells) ∧ Up w w') := by
  have HR := Lib.hid hr
  have HC := Lib.hid hchk
  clear hr hchk
  go_enter Try.func84, Try.ntmps84
  go_wp2_with fail
  refine (HC.out _ (by repeat (first | exact Up.refl _ | refine Up.alloc ?_ _ | (refine Up.set ?_ (by simp) _)))).mono ?_
  rintro e w1 ⟨rfl, hu1⟩
  have B2 : w1.heap[w.heap.size]? = some (.cells #[.slice (some ⟨b, off, none⟩) 9 cap] 129 (0, 0)) := hu1.keep (blk_alloc (blk_alloc (blk_new' rfl)))
  have B3 : w1.heap[w.heap.size + 1]? = some (.cells #[.int .u64 id, .int .i64 4, .int .i64 (i : Nat), .int .i64 c.n0, .int .i64 c.n1, .int .i64 c.n2, .int .i64 c.n3, .int .i64 c.n4, .int .i64 c.n5, .int .i64 c.n6, .int .i64 c.n7, .int .i64 c.n8] 26 (0, 0)) := hu1.keep (blk_alloc (blk_new' (by simp)))
  have B4 : w1.heap[w.heap.size + 2]? = some (.cells #[.slice none 0 0] 129 (0, 0)) := hu1.keep (blk_new' (by simp))
  have hup1 : Up w w1 := Up.trans (by repeat (first | exact Up.refl _ | refine Up.alloc ?_ _)) hu1
  have z2 := blk_lt B2
  have z3 := blk_lt B3
  have z4 := blk_lt B4
  have b2 := blk_cell B2 0
  have b31 := blk_cell B3 1
  have b32 := blk_cell B3 2
  simp only [List.getElem?_toArray, List.getElem?_cons_zero, List.getElem?_cons_succ] at b2 b31 b32
  have hs1 := hup1.size
  have hmade := Lib.hid (World.ownsRow_made (base := w.heap.size) (e := 181) (size := 11) w1 #[] 0 hs1 (by decide) (by decide))
  have HR1 := Lib.hid ((HR.out.up hup1).up ((Up.refl w1).alloc (.cells #[] 181)))
  have HB2 := Lib.hid B2
  have HB3 := Lib.hid B3
  have HB4 := Lib.hid B4
  have HU1 := Lib.hid hup1
  clear B2 B3 B4 hu1 hup1 HC HR
  go_wp2_with (at_builtin; refine wpList_apps rfl _ _ 127 181 rfl rowTen (base := w.heap.size) (by simp; omega) rfl hmade.out rfl HR1.out (fun x hx => rfl) (fun x hx u hu => by simp [RTen.cells] at hu; rcases hu with rfl | rfl | rfl | rfl | rfl | rfl | rfl | rfl | rfl | rfl | rfl <;> rfl) (by unfold maxLen; omega) (by omega) ?_; intro v1 w2 hA; obtain ⟨g, cap1, rfl, F⟩ := do_facts hR hx HU1.out HB3.out HB4.out hA; have b31 := blk_cell F.c3 1; have b32 := blk_cell F.c3 2; simp only [List.getElem?_toArray, List.getElem?_cons_zero, List.getElem?_cons_succ] at b31 b32; have b40 := blk_cell F.c4 0; have b4f := blk_free F.c4 0; have z23 := blk_lt F.c3; have z24 := blk_lt F.c4; have x0 := F.x0; have x1 := F.x1; have x2 := F.x2; have x3 := F.x3; have x4 := F.x4; have x5 := F.x5; have x6 := F.x6; have x7 := F.x7; have x8 := F.x8; have x9 := F.x9; have x10 := F.x10; have xf := F.xf; have n1 := F.n1; have n2 := F.n2; have ng := F.lt; have q1 : (0 : Int) ≤ (i : Int) := (by omega); have q2 : (i : Int) < 9 := (by omega); have HF := Lib.hid F; clear F hA)
  obtain ⟨e1, e2, e3⟩ := do_fin HF.out (by omega) (zeroR) (.cells (RTen.cells (zeroR)).toArray 181 (0, 0))
  refine of_world (X := fun W => bodyPost _ _ _ _ _ W) (A := fun W => W.cell? ⟨w.heap.size + 1 + 1, 0, none⟩ = some (.slice (some ⟨g, 0, none⟩) 9 cap1)) (B := fun W => W.ownsRow _ _ _ _ _ _) (C := fun W => Up w W) e1 e2 e3 fun W h1 h2 h3 => ?_
  exact bodyPost_ret (v := .tuple #[.agg #[.slice (some ⟨g, 0, none⟩) 9 cap1], .int .i64 0]) (by simp [results, Try.results84, go_sem, h1]) rfl ⟨_, rfl, h2, h3⟩
end Go.Proofs.Ytpnlhnhjedopgaa
