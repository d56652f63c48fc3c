/- The walks of hello.Take and of the document's: what each hands back. -/
import Derived.Test.YtmmmaekaoanceaaHelloA
namespace Go.Proofs.Ytmmmaekaoanceaa
open Go Go.RowKit

theorem hello_no {b : ByteArray} (h : helloOk b ≠ 0) : helloT b = (0, 0, 0, 1) := by unfold helloT; rw [if_neg h]
theorem hello_bad3 {b : ByteArray} (h : (h3 b).2.2 ≠ 0) : helloT b = (0, 0, 0, 1) := hello_no (done_wrong h)
theorem hello_bad2 {b : ByteArray} (h : (h2 b).2.2 ≠ 0) : helloT b = (0, 0, 0, 1) := hello_bad3 (by unfold h3; rw [num_sticks h]; exact h)
theorem hello_bad1 {b : ByteArray} (h : (h1 b).2.2 ≠ 0) : helloT b = (0, 0, 0, 1) := hello_bad2 (by unfold h2; rw [int_sticks h]; exact h)
theorem hello_left {b : ByteArray} {n a : Nat} (h : h3 b = (n, a, 0)) (ha : a ≠ b.size) : helloT b = (0, 0, 0, 1) := by
  have hb := (h_bd b).2.2.1
  refine hello_no ?_
  unfold helloOk doneE
  rw [h] at hb ⊢
  rw [if_neg (by simp), if_pos (by show a < b.size; simp only at hb; omega)]
  decide
theorem hello_yes {b : ByteArray} {n : Nat} (h : h3 b = (n, b.size, 0)) : helloT b = ((h1 b).1, (h2 b).1, n, 0) := by
  have h0 : helloOk b = 0 := by unfold helloOk; rw [h]; exact done_put (Nat.le_refl _)
  unfold helloT
  rw [if_pos h0, h]
theorem rest_zero' (b : ByteArray) : rest b 0 = b := by
  unfold rest
  rw [← S_of b, S_extract, List.drop_zero, S_size, List.take_of_length_le (by omega)]
theorem run_from {P : Program} {t : TypeId} (ht : P.underlying t = some .string) (b : ByteArray) (lo : Int) (h0 : 0 ≤ lo) (h1 : lo ≤ b.size) (w : World) :
    (Instr.slice t (.string b) (some (.int .i64 lo)) none none).run P w = .ok (.string (rest b lo.toNat)) w := by
  have e1 : lo.toNat ≤ b.size := by omega
  simp [Instr.slice, Instr.sliceBounds, Instr.sliceBound, run_underlying ht, asIntOf, h0, Sem.run_bind, Sem.run_pure, rest]
  omega
set_option maxHeartbeats 1600000 in
set_option maxRecDepth 100000 in
theorem htake_any (b : ByteArray) (w : World) (hb : b.size ≤ maxLen) : Calls Try.prog 35 #[.string b] w (Gives w (helloV (helloT b))) := by
  obtain ⟨d1, d2, d3, _, _, _, m1, m2, m3⟩ := h_bd b
  obtain ⟨⟨n1, a1, e1⟩, q1⟩ : ∃ r, h1 b = r := ⟨_, rfl⟩
  obtain ⟨⟨n2, a2, e2⟩, q2⟩ : ∃ r, h2 b = r := ⟨_, rfl⟩
  obtain ⟨⟨n3, a3, e3⟩, q3⟩ : ∃ r, h3 b = r := ⟨_, rfl⟩
  rw [q1] at d1; rw [q2] at d2; rw [q3] at d3
  have G1 := Lib.hid (show intS b 0 0 2147483647 = (n1, a1, e1) from q1)
  have G2 := Lib.hid (show intS b a1 e1 2147483647 = (n2, a2, e2) by have := q2; unfold h2 at this; rw [q1] at this; exact this)
  have G3 := Lib.hid (show numS b a2 e2 = (n3, a3, e3) by have := q3; unfold h3 at this; rw [q2] at this; exact this)
  have G6 := Lib.hid (show doneE b a3 e3 = helloOk b by unfold helloOk; rw [q3])
  have HA : Hid (helloT b = if helloOk b = 0 then (n1, n2, n3, 0) else (0, 0, 0, 1)) := by unfold Hid helloT; rw [q1, q2, q3]
  clear q1 q2 q3 m1 m2 m3
  go_enter Try.func35, Try.ntmps35
  go_wp2_with fail
  refine (read_any _ _).mono ?_
  rintro e w3 ⟨g, rfl, hg, hr, hu3⟩
  go_wp2_with fail
  refine (int_any _ _ _ _ _ _ hr hb (Nat.zero_le _) (by omega) (by omega)).mono ?_
  rintro e w4 ⟨rfl, hr4, ho4⟩
  rw [G1.out] at hr4 ⊢
  go_wp2_with fail
  refine (int_any _ _ _ _ _ _ hr4 hb d1 (by omega) (by omega)).mono ?_
  rintro e w5 ⟨rfl, hr5, ho5⟩
  rw [G2.out] at hr5 ⊢
  go_wp2_with fail
  refine (num_any _ _ _ _ _ hr5 hb d2).mono ?_
  rintro e w6 ⟨rfl, hr6, ho6⟩
  rw [G3.out] at hr6 ⊢
  go_wp2_with fail
  have hup9 : Up w6 (w6.alloc (.cells #[.int .i64 n1, .int .i64 n2, .int .u64 n3] 62)) := (Up.refl _).alloc _
  refine (done_any _ _ _ _ _ (hr6.up hup9)).mono ?_
  rintro e w9 ⟨rfl, hu9⟩
  rw [G6.out]
  have hne : w.heap.size ≠ g := by simp at hg; omega
  have hz3 := hu3.keep (blk_new w (.cells #[.int .i64 0, .int .i64 0, .int .u64 0] 62))
  have hz6 := ho6.keep (ho5.keep (ho4.keep hz3 hne) hne) hne
  have hz9 := hu9.keep (hup9.keep hz6)
  have hlt6 := blk_lt hz6
  have z0 : w9.cell? ⟨w.heap.size, 0, none⟩ = some (.int .i64 0) := blk_cell hz9 0
  have z1 : w9.cell? ⟨w.heap.size, 1, none⟩ = some (.int .i64 0) := blk_cell hz9 1
  have z2 : w9.cell? ⟨w.heap.size, 2, none⟩ = some (.int .u64 0) := blk_cell hz9 2
  have zf : ∀ o, w9.frozen? ⟨w.heap.size, o, none⟩ = false := blk_free hz9
  have hy9 : w9.heap[w6.heap.size]? = some (.cells #[.int .i64 n1, .int .i64 n2, .int .u64 n3] 62 (0, 0)) := hu9.keep (blk_new _ _)
  have y0 : w9.cell? ⟨w6.heap.size, 0, none⟩ = some (.int .i64 n1) := blk_cell hy9 0
  have y1 : w9.cell? ⟨w6.heap.size, 1, none⟩ = some (.int .i64 n2) := blk_cell hy9 1
  have y2 : w9.cell? ⟨w6.heap.size, 2, none⟩ = some (.int .u64 n3) := blk_cell hy9 2
  have hup3 : Up w w3 := ((Up.refl w).alloc _).trans hu3
  have hg1 : w.heap.size ≤ g := by simp at hg; omega
  have hup : Up w w9 := ((((hup3.only ho4 hg1).only ho5 hg1).only ho6 hg1).trans hup9).trans hu9
  by_cases hok : helloOk b = 0
  · have HV := Lib.hid (show Value.tuple #[.agg #[.int .i64 n1, .int .i64 n2, .int .u64 n3], .int .i64 0] = helloV (helloT b) by rw [HA.out, if_pos hok]; rfl)
    have HO := Lib.hid hok
    clear hok
    rw [HO.out]
    go_wp2_with fail
    refine bodyPost_ret (v := .tuple #[.agg #[.int .i64 n1, .int .i64 n2, .int .u64 n3], .int .i64 0]) (by simp [results, Try.results35, go_sem, z0, z1, z2]) rfl ?_
    exact Gives.mk HV.out (((hup.set (Nat.le_refl _) _).set (Nat.le_refl _) _).set (Nat.le_refl _) _)
  · have HV := Lib.hid (show Value.tuple #[.agg #[.int .i64 0, .int .i64 0, .int .u64 0], .int .i64 1] = helloV (helloT b) by rw [HA.out, if_neg hok]; rfl)
    have hd : (helloOk b != 0) = true := by rw [bne_iff_ne]; exact hok
    clear hok
    go_wp2_with fail
    refine bodyPost_ret (v := .tuple #[.agg #[.int .i64 0, .int .i64 0, .int .u64 0], .int .i64 1]) (by simp [results, Try.results35, go_sem, z0, z1, z2]) rfl ?_
    exact Gives.mk HV.out (((hup.set (Nat.le_refl _) _).set (Nat.le_refl _) _).set (Nat.le_refl _) _)

set_option maxHeartbeats 1600000 in
set_option maxRecDepth 100000 in
theorem refhtake_any (b : ByteArray) (w : World) (hb : b.size ≤ maxLen) : Calls Try.prog 36 #[.string b] w (Gives w (helloV (helloT b))) := by
  have hb' : b.size ≤ 9223372036854775807 := hb
  have r1 := intT_bd b 2147483647
  obtain ⟨⟨n1, i, e1⟩, q1⟩ : ∃ r, intT b 2147483647 = r := ⟨_, rfl⟩
  have p1 : h1 b = (n1, i, e1) := by unfold h1 intS; rw [if_neg (by simp), rest_zero', q1]; simp
  rw [q1] at r1
  obtain ⟨_, _, s1, s2, _⟩ := r1
  simp only at s1 s2
  have Q1 := Lib.hid q1
  clear q1
  by_cases he : e1 = 0
  · subst he
    have r2 := intT_bd (rest b i) 2147483647
    obtain ⟨⟨n2, k, e2⟩, q2⟩ : ∃ r, intT (rest b i) 2147483647 = r := ⟨_, rfl⟩
    have p2 : h2 b = (n2, i + k, e2) := by unfold h2 intS; rw [p1, if_neg (by simp), q2]
    rw [q2, rest_size] at r2
    obtain ⟨_, _, s3, s4, _⟩ := r2
    simp only at s3 s4
    have Q2 := Lib.hid q2
    have hr1 : (rest b i).size ≤ maxLen := by rw [rest_size]; unfold maxLen; omega
    have hsl1 := fun w => run_from (P := Try.prog) Try.underlying9 b i (by omega) (by omega) w
    simp only [Int.toNat_natCast] at hsl1
    clear q2
    by_cases he : e2 = 0
    · subst he
      have r3 := takeL_bd (rest b (i + k)).data.toList
      have r4 := takeL_small (rest b (i + k)).data.toList
      obtain ⟨⟨n3, j, e3⟩, q3⟩ : ∃ r, takeL (rest b (i + k)).data.toList = r := ⟨_, rfl⟩
      have p3 : h3 b = (n3, i + k + j, e3) := by unfold h3 numS; rw [p2, if_neg (by simp), q3]
      rw [q3, rest_list] at r3
      rw [q3] at r4
      obtain ⟨_, _, _, s5⟩ := r3
      simp only at s5 r4
      have Q3 := Lib.hid q3
      have hr2 : (rest b (i + k)).size ≤ maxLen := by rw [rest_size]; unfold maxLen; omega
      have hsl2 := fun w => run_from (P := Try.prog) Try.underlying9 b (i + k) (by omega) (by omega) w
      rw [show ((i : Int) + k).toNat = i + k by omega] at hsl2
      clear q3
      by_cases he : e3 = 0
      · subst he
        by_cases hz : i + k + j = b.size
        · have HV := Lib.hid (show helloT b = (n1, n2, n3, 0) by rw [hello_yes (by rw [p3, hz]), p1, p2])
          have c1 : (((i : Int) + k + j) != (b.size : Int)) = false := by rw [bne_eq_false_iff_eq]; omega
          clear p1 p2 p3 hz
          go_enter Try.func36, Try.ntmps36
          go_wp2_with fail
          refine (refint_any _ _ _ hb (by omega) (by omega)).mono ?_
          rintro e w1 ⟨rfl, hu1⟩
          rw [Q1.out]
          unfold intV
          go_wp2_with fail
          refine (refint_any _ _ _ hr1 (by omega) (by omega)).mono ?_
          rintro e w2 ⟨rfl, hu2⟩
          rw [Q2.out]
          unfold intV
          go_wp2_with fail
          refine (reftake_any _ _ hr2).mono ?_
          rintro e w3 ⟨rfl, hu3⟩
          rw [Q3.out]
          unfold takeV
          have hz3 := (((hu1.trans hu2).trans hu3)).keep (blk_new w (.cells #[.int .i64 0, .int .i64 0, .int .u64 0] 59))
          have z0 : w3.cell? ⟨w.heap.size, 0, none⟩ = some (.int .i64 0) := blk_cell hz3 0
          have z1 : w3.cell? ⟨w.heap.size, 1, none⟩ = some (.int .i64 0) := blk_cell hz3 1
          have z2 : w3.cell? ⟨w.heap.size, 2, none⟩ = some (.int .u64 0) := blk_cell hz3 2
          have zf : ∀ o, w3.frozen? ⟨w.heap.size, o, none⟩ = false := blk_free hz3
          have hup : Up w w3 := ((((Up.refl w).alloc _).trans hu1).trans hu2).trans hu3
          clear hz3 hu1 hu2 hu3
          go_wp2_with fail
          refine bodyPost_ret (v := .tuple #[.agg #[.int .i64 n1, .int .i64 n2, .int .u64 n3], .int .i64 0]) (by simp [results, Try.results36, go_sem, z0, z1, z2]) rfl ?_
          exact Gives.mk (by rw [HV.out]; rfl) (((hup.set (Nat.le_refl _) _).set (Nat.le_refl _) _).set (Nat.le_refl _) _)
        · have HV := Lib.hid (hello_left p3 hz)
          have c1 : (((i : Int) + k + j) != (b.size : Int)) = true := by rw [bne_iff_ne]; omega
          clear p1 p2 p3 hz
          go_enter Try.func36, Try.ntmps36
          go_wp2_with fail
          refine (refint_any _ _ _ hb (by omega) (by omega)).mono ?_
          rintro e w1 ⟨rfl, hu1⟩
          rw [Q1.out]
          unfold intV
          go_wp2_with fail
          refine (refint_any _ _ _ hr1 (by omega) (by omega)).mono ?_
          rintro e w2 ⟨rfl, hu2⟩
          rw [Q2.out]
          unfold intV
          go_wp2_with fail
          refine (reftake_any _ _ hr2).mono ?_
          rintro e w3 ⟨rfl, hu3⟩
          rw [Q3.out]
          unfold takeV
          have hz3 := (((hu1.trans hu2).trans hu3)).keep (blk_new w (.cells #[.int .i64 0, .int .i64 0, .int .u64 0] 59))
          have z0 : w3.cell? ⟨w.heap.size, 0, none⟩ = some (.int .i64 0) := blk_cell hz3 0
          have z1 : w3.cell? ⟨w.heap.size, 1, none⟩ = some (.int .i64 0) := blk_cell hz3 1
          have z2 : w3.cell? ⟨w.heap.size, 2, none⟩ = some (.int .u64 0) := blk_cell hz3 2
          have zf : ∀ o, w3.frozen? ⟨w.heap.size, o, none⟩ = false := blk_free hz3
          have hup : Up w w3 := ((((Up.refl w).alloc _).trans hu1).trans hu2).trans hu3
          clear hz3 hu1 hu2 hu3
          go_wp2_with fail
          refine bodyPost_ret (v := .tuple #[.agg #[.int .i64 0, .int .i64 0, .int .u64 0], .int .i64 1]) (by simp [results, Try.results36, go_sem, z0, z1, z2]) rfl ?_
          exact Gives.mk (by rw [HV.out]; rfl) (((hup.set (Nat.le_refl _) _).set (Nat.le_refl _) _).set (Nat.le_refl _) _)
      · have HV := Lib.hid (hello_bad3 (b := b) (by rw [p3]; exact he))
        have c1 : (e3 != 0) = true := by rw [bne_iff_ne]; exact he
        clear p1 p2 p3 he
        go_enter Try.func36, Try.ntmps36
        go_wp2_with fail
        refine (refint_any _ _ _ hb (by omega) (by omega)).mono ?_
        rintro e w1 ⟨rfl, hu1⟩
        rw [Q1.out]
        unfold intV
        go_wp2_with fail
        refine (refint_any _ _ _ hr1 (by omega) (by omega)).mono ?_
        rintro e w2 ⟨rfl, hu2⟩
        rw [Q2.out]
        unfold intV
        go_wp2_with fail
        refine (reftake_any _ _ hr2).mono ?_
        rintro e w3 ⟨rfl, hu3⟩
        rw [Q3.out]
        unfold takeV
        have hz3 := (((hu1.trans hu2).trans hu3)).keep (blk_new w (.cells #[.int .i64 0, .int .i64 0, .int .u64 0] 59))
        have z0 : w3.cell? ⟨w.heap.size, 0, none⟩ = some (.int .i64 0) := blk_cell hz3 0
        have z1 : w3.cell? ⟨w.heap.size, 1, none⟩ = some (.int .i64 0) := blk_cell hz3 1
        have z2 : w3.cell? ⟨w.heap.size, 2, none⟩ = some (.int .u64 0) := blk_cell hz3 2
        have zf : ∀ o, w3.frozen? ⟨w.heap.size, o, none⟩ = false := blk_free hz3
        have hup : Up w w3 := ((((Up.refl w).alloc _).trans hu1).trans hu2).trans hu3
        clear hz3 hu1 hu2 hu3
        go_wp2_with fail
        refine bodyPost_ret (v := .tuple #[.agg #[.int .i64 0, .int .i64 0, .int .u64 0], .int .i64 1]) (by simp [results, Try.results36, go_sem, z0, z1, z2]) rfl ?_
        exact Gives.mk (by rw [HV.out]; rfl) (((hup.set (Nat.le_refl _) _).set (Nat.le_refl _) _).set (Nat.le_refl _) _)
    · have HV := Lib.hid (hello_bad2 (b := b) (by rw [p2]; exact he))
      have c1 : (e2 != 0) = true := by rw [bne_iff_ne]; exact he
      clear p1 p2 he
      go_enter Try.func36, Try.ntmps36
      go_wp2_with fail
      refine (refint_any _ _ _ hb (by omega) (by omega)).mono ?_
      rintro e w1 ⟨rfl, hu1⟩
      rw [Q1.out]
      unfold intV
      go_wp2_with fail
      refine (refint_any _ _ _ hr1 (by omega) (by omega)).mono ?_
      rintro e w3 ⟨rfl, hu3⟩
      rw [Q2.out]
      unfold intV
      have hz3 := ((hu1.trans hu3)).keep (blk_new w (.cells #[.int .i64 0, .int .i64 0, .int .u64 0] 59))
      have z0 : w3.cell? ⟨w.heap.size, 0, none⟩ = some (.int .i64 0) := blk_cell hz3 0
      have z1 : w3.cell? ⟨w.heap.size, 1, none⟩ = some (.int .i64 0) := blk_cell hz3 1
      have z2 : w3.cell? ⟨w.heap.size, 2, none⟩ = some (.int .u64 0) := blk_cell hz3 2
      have zf : ∀ o, w3.frozen? ⟨w.heap.size, o, none⟩ = false := blk_free hz3
      have hup : Up w w3 := (((Up.refl w).alloc _).trans hu1).trans hu3
      clear hz3 hu1 hu3
      go_wp2_with fail
      refine bodyPost_ret (v := .tuple #[.agg #[.int .i64 0, .int .i64 0, .int .u64 0], .int .i64 1]) (by simp [results, Try.results36, go_sem, z0, z1, z2]) rfl ?_
      exact Gives.mk (by rw [HV.out]; rfl) (((hup.set (Nat.le_refl _) _).set (Nat.le_refl _) _).set (Nat.le_refl _) _)
  · have HV := Lib.hid (hello_bad1 (b := b) (by rw [p1]; exact he))
    have c1 : (e1 != 0) = true := by rw [bne_iff_ne]; exact he
    clear p1 he
    go_enter Try.func36, Try.ntmps36
    go_wp2_with fail
    refine (refint_any _ _ _ hb (by omega) (by omega)).mono ?_
    rintro e w3 ⟨rfl, hu3⟩
    rw [Q1.out]
    unfold intV
    have hz3 := hu3.keep (blk_new w (.cells #[.int .i64 0, .int .i64 0, .int .u64 0] 59))
    have z0 : w3.cell? ⟨w.heap.size, 0, none⟩ = some (.int .i64 0) := blk_cell hz3 0
    have z1 : w3.cell? ⟨w.heap.size, 1, none⟩ = some (.int .i64 0) := blk_cell hz3 1
    have z2 : w3.cell? ⟨w.heap.size, 2, none⟩ = some (.int .u64 0) := blk_cell hz3 2
    have zf : ∀ o, w3.frozen? ⟨w.heap.size, o, none⟩ = false := blk_free hz3
    have hup : Up w w3 := ((Up.refl w).alloc _).trans hu3
    clear hz3 hu3
    go_wp2_with fail
    refine bodyPost_ret (v := .tuple #[.agg #[.int .i64 0, .int .i64 0, .int .u64 0], .int .i64 1]) (by simp [results, Try.results36, go_sem, z0, z1, z2]) rfl ?_
    exact Gives.mk (by rw [HV.out]; rfl) (((hup.set (Nat.le_refl _) _).set (Nat.le_refl _) _).set (Nat.le_refl _) _)
end Go.Proofs.Ytmmmaekaoanceaa
