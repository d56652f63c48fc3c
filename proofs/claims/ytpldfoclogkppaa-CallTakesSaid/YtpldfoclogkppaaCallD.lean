/- The walks of call.TakeBind, TakeSchema, TakeCancel: what each hands back. -/
import Derived.Test.YtpldfoclogkppaaCallC
namespace Go.Proofs.Ytpldfoclogkppaa
open Go Go.RowKit

/-- the steps that a bind's body is taken by -/
def b2 (b : ByteArray) : Nat × Nat × Int := intS b (c1 b).2.1 (c1 b).2.2 1048576
def b3 (b : ByteArray) : ByteArray × Nat × Int := textS b (b2 b).2.1 (b2 b).2.2 16
def b4 (b : ByteArray) : ByteArray × Nat × Int := textS b (b3 b).2.1 (b3 b).2.2 16
def b5 (b : ByteArray) : Nat × Nat × Int := intS b (b4 b).2.1 (b4 b).2.2 1048576
def bindOk (b : ByteArray) : Int := doneE b (b5 b).2.1 (b5 b).2.2
def bindA (b : ByteArray) : Value := if bindOk b = 0 then .agg #[.int .u64 (c1 b).1, .int .i64 (b2 b).1, .string (b3 b).1, .string (b4 b).1, .int .i64 (b5 b).1] else .agg #[.int .u64 0, .int .i64 0, .string ⟨#[]⟩, .string ⟨#[]⟩, .int .i64 0]

theorem b_bd (b : ByteArray) : (c1 b).2.1 ≤ b.size ∧ (b2 b).2.1 ≤ b.size ∧ (b3 b).2.1 ≤ b.size ∧ (b4 b).2.1 ≤ b.size ∧ (b5 b).2.1 ≤ b.size := by
  have h1 := numS_bd (b := b) (a := 0) (e := 0) (Nat.zero_le _) (by omega) (by omega)
  have h2 := intS_bd (b := b) (a := (c1 b).2.1) (e := (c1 b).2.2) 1048576 h1.1 h1.2.1 h1.2.2.1
  have h3 := textS_bd (b := b) (a := (b2 b).2.1) (e := (b2 b).2.2) 16 h2.1 h2.2.1 h2.2.2.1
  have h4 := textS_bd (b := b) (a := (b3 b).2.1) (e := (b3 b).2.2) 16 h3.1 h3.2.1 h3.2.2.1
  have h5 := intS_bd (b := b) (a := (b4 b).2.1) (e := (b4 b).2.2) 1048576 h4.1 h4.2.1 h4.2.2.1
  exact ⟨h1.1, h2.1, h3.1, h4.1, h5.1⟩

set_option maxHeartbeats 1600000 in
set_option maxRecDepth 100000 in
theorem takebind_any (b : ByteArray) (w : World) (hb : b.size ≤ maxLen) : Calls Try.prog 78 #[.string b] w (Gives w (.tuple #[bindA b, .int .i64 (okE (bindOk b))])) := by
  have hd := b_bd b
  obtain ⟨⟨n1, a1, e1⟩, h1⟩ : ∃ r, c1 b = r := ⟨_, rfl⟩
  obtain ⟨⟨n2, a2, e2⟩, h2⟩ : ∃ r, b2 b = r := ⟨_, rfl⟩
  obtain ⟨⟨s3, a3, e3⟩, h3⟩ : ∃ r, b3 b = r := ⟨_, rfl⟩
  obtain ⟨⟨s4, a4, e4⟩, h4⟩ : ∃ r, b4 b = r := ⟨_, rfl⟩
  obtain ⟨⟨n5, a5, e5⟩, h5⟩ : ∃ r, b5 b = r := ⟨_, rfl⟩
  rw [h1, h2, h3, h4, h5] at hd
  obtain ⟨d1, d2, d3, d4, d5⟩ := hd
  have g1 : numS b 0 0 = (n1, a1, e1) := h1
  have g2 : intS b a1 e1 1048576 = (n2, a2, e2) := by have := h2; unfold b2 at this; rw [h1] at this; exact this
  have g3 : textS b a2 e2 16 = (s3, a3, e3) := by have := h3; unfold b3 at this; rw [h2] at this; exact this
  have g4 : textS b a3 e3 16 = (s4, a4, e4) := by have := h4; unfold b4 at this; rw [h3] at this; exact this
  have g5 : intS b a4 e4 1048576 = (n5, a5, e5) := by have := h5; unfold b5 at this; rw [h4] at this; exact this
  have g6 : doneE b a5 e5 = bindOk b := by unfold bindOk; rw [h5]
  have G1 := Lib.hid g1; have G2 := Lib.hid g2; have G3 := Lib.hid g3; have G4 := Lib.hid g4; have G5 := Lib.hid g5; have G6 := Lib.hid g6
  have HA : Hid (bindA b = if bindOk b = 0 then .agg #[.int .u64 n1, .int .i64 n2, .string s3, .string s4, .int .i64 n5] else .agg #[.int .u64 0, .int .i64 0, .string ⟨#[]⟩, .string ⟨#[]⟩, .int .i64 0]) := by
    unfold Hid bindA; rw [h1, h2, h3, h4, h5]
  clear h1 h2 h3 h4 h5 g1 g2 g3 g4 g5 g6
  go_enter Try.func78, Try.ntmps78
  go_wp2_with fail
  refine (read_any _ _).mono ?_
  rintro e w3 ⟨g, rfl, hg, hr, hu3⟩
  go_wp2_with fail
  refine (num_any _ _ _ _ _ hr hb (Nat.zero_le _)).mono ?_
  rintro e w4 ⟨rfl, hr4, ho4⟩
  rw [G1.out] at hr4 ⊢
  go_wp2_with fail
  refine (int_any _ _ _ _ _ _ hr4 hb d1 (by omega) (by omega)).mono ?_
  rintro e w5 ⟨rfl, hr5, ho5⟩
  rw [G2.out] at hr5 ⊢
  go_wp2_with fail
  refine (text_any _ _ _ _ _ _ hr5 hb d2 (by omega) (by omega)).mono ?_
  rintro e w6 ⟨rfl, hr6, ho6⟩
  rw [G3.out] at hr6 ⊢
  go_wp2_with fail
  refine (text_any _ _ _ _ _ _ hr6 hb d3 (by omega) (by omega)).mono ?_
  rintro e w7 ⟨rfl, hr7, ho7⟩
  rw [G4.out] at hr7 ⊢
  go_wp2_with fail
  refine (int_any _ _ _ _ _ _ hr7 hb d4 (by omega) (by omega)).mono ?_
  rintro e w8 ⟨rfl, hr8, ho8⟩
  rw [G5.out] at hr8 ⊢
  go_wp2_with fail
  have hup9 : Up w8 (w8.alloc (.cells #[.int .u64 n1, .int .i64 n2, .string s3, .string s4, .int .i64 n5] 32)) := (Up.refl _).alloc _
  refine (done_any _ _ _ _ _ (hr8.up hup9)).mono ?_
  rintro e w9 ⟨rfl, hu9⟩
  rw [G6.out]
  have hne : w.heap.size ≠ g := by simp at hg; omega
  have hz3 := hu3.keep (blk_new w (.cells #[.int .u64 0, .int .i64 0, .string ⟨#[]⟩, .string ⟨#[]⟩, .int .i64 0] 32))
  have hz8 := ho8.keep (ho7.keep (ho6.keep (ho5.keep (ho4.keep hz3 hne) hne) hne) hne) hne
  have hz9 := hu9.keep (hup9.keep hz8)
  have hlt8 := blk_lt hz8
  have z0 : w9.cell? ⟨w.heap.size, 0, none⟩ = some (.int .u64 0) := blk_cell hz9 0
  have z1 : w9.cell? ⟨w.heap.size, 1, none⟩ = some (.int .i64 0) := blk_cell hz9 1
  have z2 : w9.cell? ⟨w.heap.size, 2, none⟩ = some (.string ⟨#[]⟩) := blk_cell hz9 2
  have z3 : w9.cell? ⟨w.heap.size, 3, none⟩ = some (.string ⟨#[]⟩) := blk_cell hz9 3
  have z4 : w9.cell? ⟨w.heap.size, 4, none⟩ = some (.int .i64 0) := blk_cell hz9 4
  have zf : ∀ o, w9.frozen? ⟨w.heap.size, o, none⟩ = false := blk_free hz9
  have hy9 : w9.heap[w8.heap.size]? = some (.cells #[.int .u64 n1, .int .i64 n2, .string s3, .string s4, .int .i64 n5] 32 (0, 0)) := hu9.keep (blk_new _ _)
  have y0 : w9.cell? ⟨w8.heap.size, 0, none⟩ = some (.int .u64 n1) := blk_cell hy9 0
  have y1 : w9.cell? ⟨w8.heap.size, 1, none⟩ = some (.int .i64 n2) := blk_cell hy9 1
  have y2 : w9.cell? ⟨w8.heap.size, 2, none⟩ = some (.string s3) := blk_cell hy9 2
  have y3 : w9.cell? ⟨w8.heap.size, 3, none⟩ = some (.string s4) := blk_cell hy9 3
  have y4 : w9.cell? ⟨w8.heap.size, 4, none⟩ = some (.int .i64 n5) := blk_cell hy9 4
  have hup3 : Up w w3 := ((Up.refl w).alloc _).trans hu3
  have hg1 : w.heap.size ≤ g := by simp at hg; omega
  have hup : Up w w9 := ((((((hup3.only ho4 hg1).only ho5 hg1).only ho6 hg1).only ho7 hg1).only ho8 hg1).trans hup9).trans hu9
  by_cases hok : bindOk b = 0
  · have HV := Lib.hid (show Value.tuple #[.agg #[.int .u64 n1, .int .i64 n2, .string s3, .string s4, .int .i64 n5], .int .i64 0] = Value.tuple #[bindA b, .int .i64 (okE (bindOk b))] by rw [HA.out, if_pos hok, hok]; rfl)
    have HO := Lib.hid hok
    clear hok
    rw [HO.out]
    go_wp2_with fail
    refine bodyPost_ret (v := .tuple #[.agg #[.int .u64 n1, .int .i64 n2, .string s3, .string s4, .int .i64 n5], .int .i64 0]) (by simp [results, Try.results78, go_sem, z0, z1, z2, z3, z4]) rfl ?_
    exact Gives.mk HV.out (((((hup.set (Nat.le_refl _) _).set (Nat.le_refl _) _).set (Nat.le_refl _) _).set (Nat.le_refl _) _).set (Nat.le_refl _) _)
  · have HV := Lib.hid (show Value.tuple #[.agg #[.int .u64 0, .int .i64 0, .string ⟨#[]⟩, .string ⟨#[]⟩, .int .i64 0], .int .i64 1] = Value.tuple #[bindA b, .int .i64 (okE (bindOk b))] by rw [HA.out, if_neg hok]; unfold okE; rw [if_neg hok])
    have hd : (bindOk b != 0) = true := by rw [bne_iff_ne]; exact hok
    clear hok
    go_wp2_with fail
    refine bodyPost_ret (v := .tuple #[.agg #[.int .u64 0, .int .i64 0, .string ⟨#[]⟩, .string ⟨#[]⟩, .int .i64 0], .int .i64 1]) (by simp [results, Try.results78, go_sem, z0, z1, z2, z3, z4]) rfl ?_
    exact Gives.mk HV.out (((((hup.set (Nat.le_refl _) _).set (Nat.le_refl _) _).set (Nat.le_refl _) _).set (Nat.le_refl _) _).set (Nat.le_refl _) _)

def s2 (b : ByteArray) : ByteArray × Nat × Int := restS b (c1 b).2.1 (c1 b).2.2
def schemaOk (b : ByteArray) : Int := doneE b (s2 b).2.1 (s2 b).2.2
def schemaV (b : ByteArray) : Value := if schemaOk b = 0 then .tuple #[.int .u64 (c1 b).1, .string (s2 b).1, .int .i64 0] else .tuple #[.int .u64 0, .string ⟨#[]⟩, .int .i64 1]
def cancelOk (b : ByteArray) : Int := doneE b (c1 b).2.1 (c1 b).2.2
def cancelV (b : ByteArray) : Value := if cancelOk b = 0 then .tuple #[.int .u64 (c1 b).1, .int .i64 0] else .tuple #[.int .u64 0, .int .i64 1]
theorem takeschema_any (b : ByteArray) (w : World) (hb : b.size ≤ maxLen) : Calls Try.prog 80 #[.string b] w (Gives w (schemaV b)) := by
  have hd := (b_bd b).1
  obtain ⟨⟨n1, a1, e1⟩, h1⟩ : ∃ r, c1 b = r := ⟨_, rfl⟩
  obtain ⟨⟨t2, a2, e2⟩, h2⟩ : ∃ r, s2 b = r := ⟨_, rfl⟩
  rw [h1] at hd
  have g1 : numS b 0 0 = (n1, a1, e1) := h1
  have g2 : restS b a1 e1 = (t2, a2, e2) := by have := h2; unfold s2 at this; rw [h1] at this; exact this
  have g3 : doneE b a2 e2 = schemaOk b := by unfold schemaOk; rw [h2]
  have G1 := Lib.hid g1; have G2 := Lib.hid g2; have G3 := Lib.hid g3
  have HA : Hid (schemaV b = if schemaOk b = 0 then .tuple #[.int .u64 n1, .string t2, .int .i64 0] else .tuple #[.int .u64 0, .string ⟨#[]⟩, .int .i64 1]) := by
    unfold Hid schemaV; rw [h1, h2]
  clear h1 h2 g1 g2 g3
  go_enter Try.func80, Try.ntmps80
  go_wp2_with fail
  refine (read_any _ _).mono ?_
  rintro e w3 ⟨g, rfl, hg, hr, hu3⟩
  go_wp2_with fail
  refine (num_any _ _ _ _ _ hr hb (Nat.zero_le _)).mono ?_
  rintro e w4 ⟨rfl, hr4, ho4⟩
  rw [G1.out] at hr4 ⊢
  go_wp2_with fail
  refine (rest_any _ _ _ _ _ hr4 hb hd).mono ?_
  rintro e w5 ⟨rfl, hr5, ho5⟩
  rw [G2.out] at hr5 ⊢
  go_wp2_with fail
  refine (done_any _ _ _ _ _ hr5).mono ?_
  rintro e w6 ⟨rfl, hu6⟩
  rw [G3.out]
  have hup : Up w w6 := ((hu3.only ho4 hg).only ho5 hg).trans hu6
  by_cases hok : schemaOk b = 0
  · have HV := Lib.hid (show Value.tuple #[.int .u64 n1, .string t2, .int .i64 0] = schemaV b by rw [HA.out, if_pos hok])
    have HO := Lib.hid hok
    clear hok
    rw [HO.out]
    go_wp2_with fail
    go_ret3
    exact Gives.mk HV.out hup
  · have HV := Lib.hid (show Value.tuple #[.int .u64 0, .string ⟨#[]⟩, .int .i64 1] = schemaV b by rw [HA.out, if_neg hok])
    have hd : (schemaOk b != 0) = true := by rw [bne_iff_ne]; exact hok
    clear hok
    go_wp2_with fail
    go_ret3
    exact Gives.mk HV.out hup
theorem takecancel_any (b : ByteArray) (w : World) (hb : b.size ≤ maxLen) : Calls Try.prog 82 #[.string b] w (Gives w (cancelV b)) := by
  obtain ⟨⟨n1, a1, e1⟩, h1⟩ : ∃ r, c1 b = r := ⟨_, rfl⟩
  have g1 : numS b 0 0 = (n1, a1, e1) := h1
  have g3 : doneE b a1 e1 = cancelOk b := by unfold cancelOk; rw [h1]
  have G1 := Lib.hid g1; have G3 := Lib.hid g3
  have HA : Hid (cancelV b = if cancelOk b = 0 then .tuple #[.int .u64 n1, .int .i64 0] else .tuple #[.int .u64 0, .int .i64 1]) := by
    unfold Hid cancelV; rw [h1]
  clear h1 g1 g3
  go_enter Try.func82, Try.ntmps82
  go_wp2_with fail
  refine (read_any _ _).mono ?_
  rintro e w3 ⟨g, rfl, hg, hr, hu3⟩
  go_wp2_with fail
  refine (num_any _ _ _ _ _ hr hb (Nat.zero_le _)).mono ?_
  rintro e w4 ⟨rfl, hr4, ho4⟩
  rw [G1.out] at hr4 ⊢
  go_wp2_with fail
  refine (done_any _ _ _ _ _ hr4).mono ?_
  rintro e w6 ⟨rfl, hu6⟩
  rw [G3.out]
  have hup : Up w w6 := (hu3.only ho4 hg).trans hu6
  by_cases hok : cancelOk b = 0
  · have HV := Lib.hid (show Value.tuple #[.int .u64 n1, .int .i64 0] = cancelV b by rw [HA.out, if_pos hok])
    have HO := Lib.hid hok
    clear hok
    rw [HO.out]
    go_wp2_with fail
    go_ret2
    exact Gives.mk HV.out hup
  · have HV := Lib.hid (show Value.tuple #[.int .u64 0, .int .i64 1] = cancelV b by rw [HA.out, if_neg hok])
    have hd : (cancelOk b != 0) = true := by rw [bne_iff_ne]; exact hok
    clear hok
    go_wp2_with fail
    go_ret2
    exact Gives.mk HV.out hup
end Go.Proofs.Ytpldfoclogkppaa
