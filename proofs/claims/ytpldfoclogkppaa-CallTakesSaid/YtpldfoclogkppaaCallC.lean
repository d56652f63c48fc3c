/- The walks of call.TakeCall, TakeBind, TakeSchema, TakeCancel: what each hands back. -/
import Derived.Test.YtpldfoclogkppaaReadB
namespace Go.Proofs.Ytpldfoclogkppaa
open Go Go.RowKit

def maxConf : Int := 1048576
/-- the steps that a call's body is taken by -/
def c1 (b : ByteArray) : Nat × Nat × Int := numS b 0 0
def c2 (b : ByteArray) : Nat × Nat × Int := intS b (c1 b).2.1 (c1 b).2.2 1048576
def c3 (b : ByteArray) : Nat × Nat × Int := intS b (c2 b).2.1 (c2 b).2.2 1048576
def c4 (b : ByteArray) : ByteArray × Nat × Int := restS b (c3 b).2.1 (c3 b).2.2
def callOk (b : ByteArray) : Int := doneE b (c4 b).2.1 (c4 b).2.2
def callA (b : ByteArray) : Value := if callOk b = 0 then .agg #[.int .u64 (c1 b).1, .int .i64 (c2 b).1, .int .i64 (c3 b).1, .string (c4 b).1] else .agg #[.int .u64 0, .int .i64 0, .int .i64 0, .string ⟨#[]⟩]
def okE (e : Int) : Int := if e = 0 then 0 else 1

theorem c_bd (b : ByteArray) : (c1 b).2.1 ≤ b.size ∧ (c2 b).2.1 ≤ b.size ∧ (c3 b).2.1 ≤ b.size ∧ (c4 b).2.1 ≤ b.size ∧ 0 ≤ (c4 b).2.2 ∧ (c4 b).2.2 ≤ 9 := by
  have h1 := numS_bd (b := b) (a := 0) (e := 0) (Nat.zero_le _) (by omega) (by omega)
  have h2 := intS_bd (b := b) (a := (c1 b).2.1) (e := (c1 b).2.2) 1048576 h1.1 h1.2.1 h1.2.2.1
  have h3 := intS_bd (b := b) (a := (c2 b).2.1) (e := (c2 b).2.2) 1048576 h2.1 h2.2.1 h2.2.2.1
  have h4 := restS_bd (b := b) (a := (c3 b).2.1) (e := (c3 b).2.2) h3.1 h3.2.1 h3.2.2.1
  exact ⟨h1.1, h2.1, h3.1, h4.1, h4.2.1, h4.2.2.1⟩

set_option maxHeartbeats 1600000 in
set_option maxRecDepth 100000 in
theorem takecall_any (b : ByteArray) (w : World) (hb : b.size ≤ maxLen) : Calls Try.prog 76 #[.string b] w (Gives w (.tuple #[callA b, .int .i64 (okE (callOk b))])) := by
  have hd := c_bd b
  obtain ⟨⟨n1, a1, e1⟩, h1⟩ : ∃ r, c1 b = r := ⟨_, rfl⟩
  obtain ⟨⟨n2, a2, e2⟩, h2⟩ : ∃ r, c2 b = r := ⟨_, rfl⟩
  obtain ⟨⟨n3, a3, e3⟩, h3⟩ : ∃ r, c3 b = r := ⟨_, rfl⟩
  obtain ⟨⟨s4, a4, e4⟩, h4⟩ : ∃ r, c4 b = r := ⟨_, rfl⟩
  rw [h1, h2, h3, h4] at hd
  obtain ⟨d1, d2, d3, d4, _, _⟩ := hd
  have g1 : numS b 0 0 = (n1, a1, e1) := h1
  have g2 : intS b a1 e1 1048576 = (n2, a2, e2) := by have := h2; unfold c2 at this; rw [h1] at this; exact this
  have g3 : intS b a2 e2 1048576 = (n3, a3, e3) := by have := h3; unfold c3 at this; rw [h2] at this; exact this
  have g4 : restS b a3 e3 = (s4, a4, e4) := by have := h4; unfold c4 at this; rw [h3] at this; exact this
  have g5 : doneE b a4 e4 = callOk b := by unfold callOk; rw [h4]
  have G1 := Lib.hid g1; have G2 := Lib.hid g2; have G3 := Lib.hid g3; have G4 := Lib.hid g4; have G5 := Lib.hid g5
  have HA : Hid (callA b = if callOk b = 0 then .agg #[.int .u64 n1, .int .i64 n2, .int .i64 n3, .string s4] else .agg #[.int .u64 0, .int .i64 0, .int .i64 0, .string ⟨#[]⟩]) := by
    unfold Hid callA; rw [h1, h2, h3, h4]
  clear h1 h2 h3 h4 g1 g2 g3 g4 g5
  go_enter Try.func76, Try.ntmps76
  go_wp2_with fail
  refine (read_any _ _).mono ?_
  rintro e w3 ⟨g, rfl, hg, hr, hu3⟩
  go_wp2_with fail
  refine (num_any _ _ _ _ _ hr hb (Nat.zero_le _)).mono ?_
  rintro e w4 ⟨rfl, hr4, ho4⟩
  rw [G1.out] at hr4 ⊢
  go_wp2_with fail
  refine (int_any _ _ _ _ _ _ hr4 hb d1 (by omega) (by omega)).mono ?_
  rintro e w5 ⟨rfl, hr5, ho5⟩
  rw [G2.out] at hr5 ⊢
  go_wp2_with fail
  refine (int_any _ _ _ _ _ _ hr5 hb d2 (by omega) (by omega)).mono ?_
  rintro e w6 ⟨rfl, hr6, ho6⟩
  rw [G3.out] at hr6 ⊢
  go_wp2_with fail
  refine (rest_any _ _ _ _ _ hr6 hb d3).mono ?_
  rintro e w7 ⟨rfl, hr7, ho7⟩
  rw [G4.out] at hr7 ⊢
  go_wp2_with fail
  have hup8 : Up w7 (w7.alloc (.cells #[.int .u64 n1, .int .i64 n2, .int .i64 n3, .string s4] 28)) := (Up.refl _).alloc _
  refine (done_any _ _ _ _ _ (hr7.up hup8)).mono ?_
  rintro e w8 ⟨rfl, hu8⟩
  rw [G5.out]
  have hne : w.heap.size ≠ g := by simp at hg; omega
  have hz3 := hu3.keep (blk_new w (.cells #[.int .u64 0, .int .i64 0, .int .i64 0, .string ⟨#[]⟩] 28))
  have hz7 := ho7.keep (ho6.keep (ho5.keep (ho4.keep hz3 hne) hne) hne) hne
  have hz8 := hu8.keep (hup8.keep hz7)
  have hlt7 := blk_lt hz7
  have z0 : w8.cell? ⟨w.heap.size, 0, none⟩ = some (.int .u64 0) := blk_cell hz8 0
  have z1 : w8.cell? ⟨w.heap.size, 1, none⟩ = some (.int .i64 0) := blk_cell hz8 1
  have z2 : w8.cell? ⟨w.heap.size, 2, none⟩ = some (.int .i64 0) := blk_cell hz8 2
  have z3 : w8.cell? ⟨w.heap.size, 3, none⟩ = some (.string ⟨#[]⟩) := blk_cell hz8 3
  have zf : ∀ o, w8.frozen? ⟨w.heap.size, o, none⟩ = false := blk_free hz8
  have hy8 : w8.heap[w7.heap.size]? = some (.cells #[.int .u64 n1, .int .i64 n2, .int .i64 n3, .string s4] 28 (0, 0)) := by
    exact hu8.keep (blk_new _ _)
  have y0 : w8.cell? ⟨w7.heap.size, 0, none⟩ = some (.int .u64 n1) := blk_cell hy8 0
  have y1 : w8.cell? ⟨w7.heap.size, 1, none⟩ = some (.int .i64 n2) := blk_cell hy8 1
  have y2 : w8.cell? ⟨w7.heap.size, 2, none⟩ = some (.int .i64 n3) := blk_cell hy8 2
  have y3 : w8.cell? ⟨w7.heap.size, 3, none⟩ = some (.string s4) := blk_cell hy8 3
  have hup3 : Up w w3 := ((Up.refl w).alloc _).trans hu3
  have hg1 : w.heap.size ≤ g := by simp at hg; omega
  have hup : Up w w8 := (((((hup3.only ho4 hg1).only ho5 hg1).only ho6 hg1).only ho7 hg1).trans hup8).trans hu8
  by_cases hok : callOk b = 0
  · have HV := Lib.hid (show Value.tuple #[.agg #[.int .u64 n1, .int .i64 n2, .int .i64 n3, .string s4], .int .i64 0] = Value.tuple #[callA b, .int .i64 (okE (callOk b))] by rw [HA.out, if_pos hok, hok]; rfl)
    have HO := Lib.hid hok
    clear hok
    rw [HO.out]
    go_wp2_with fail
    refine bodyPost_ret (v := .tuple #[.agg #[.int .u64 n1, .int .i64 n2, .int .i64 n3, .string s4], .int .i64 0]) (by simp [results, Try.results76, go_sem, z0, z1, z2, z3]) rfl ?_
    exact Gives.mk HV.out ((((hup.set (Nat.le_refl _) _).set (Nat.le_refl _) _).set (Nat.le_refl _) _).set (Nat.le_refl _) _)
  · have HV := Lib.hid (show Value.tuple #[.agg #[.int .u64 0, .int .i64 0, .int .i64 0, .string ⟨#[]⟩], .int .i64 1] = Value.tuple #[callA b, .int .i64 (okE (callOk b))] by rw [HA.out, if_neg hok]; unfold okE; rw [if_neg hok])
    have hd : (callOk b != 0) = true := by rw [bne_iff_ne]; exact hok
    clear hok
    go_wp2_with fail
    refine bodyPost_ret (v := .tuple #[.agg #[.int .u64 0, .int .i64 0, .int .i64 0, .string ⟨#[]⟩], .int .i64 1]) (by simp [results, Try.results76, go_sem, z0, z1, z2, z3]) rfl ?_
    exact Gives.mk HV.out ((((hup.set (Nat.le_refl _) _).set (Nat.le_refl _) _).set (Nat.le_refl _) _).set (Nat.le_refl _) _)
end Go.Proofs.Ytpldfoclogkppaa
