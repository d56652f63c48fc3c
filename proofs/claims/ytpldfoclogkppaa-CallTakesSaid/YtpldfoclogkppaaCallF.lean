/- The walks of the document's TakeBind, TakeSchema, TakeCancel: they hand back what the program's do. -/
import Derived.Test.YtpldfoclogkppaaCallE
namespace Go.Proofs.Ytpldfoclogkppaa
open Go Go.RowKit

theorem steps_lit {b : ByteArray} (hb : b.size ≤ maxLen) {l : List Stp} (hl : l.length ≤ 1000) (hok : ∀ x ∈ l, x.Ok) {a : Nat} {e : Int} (hen : endS b 0 0 l = (a, e)) (ha : a ≤ b.size) {gs : List Gt} (hst : stepsS b 0 0 l = gs) (w1 : World) (n : Nat) (hn : w1.heap.size = n) :
    Calls Try.prog 99 #[.string b, .slice (some ⟨n, 0, none⟩) l.length l.length] (w1.alloc (.cells (l.flatMap fun x => [Value.int .i64 x.kind, .int .i64 x.most]).toArray 98 (0, 0))) (fun y w' => ∃ v', y = .returned (.tuple #[v', .bool (doneE b a e == 0)]) ∧ w'.ownsRow w1.heap.size 95 4 v' l.length (cellsG gs) ∧ Up w1 w') := by
  subst hn
  refine (steps_any b hb _ l _ (row_lit w1 l 98 hl) hok hl).mono ?_
  rintro y w' ⟨v', rfl, ho, hu⟩
  rw [hst] at ho
  exact ⟨v', by rw [ok_done hen ha], own_base ho (by simp), ((Up.refl w1).alloc _).trans hu⟩

set_option maxHeartbeats 1600000 in
set_option maxRecDepth 100000 in
theorem reftakebind_any (b : ByteArray) (w : World) (hb : b.size ≤ maxLen) : Calls Try.prog 79 #[.string b] w (Gives w (.tuple #[bindA b, .int .i64 (okE (bindOk b))])) := by
  have r1 := numS_bd (b := b) (a := 0) (e := 0) (Nat.zero_le _) (by omega) (by omega)
  have r2 := intS_bd (b := b) (a := (c1 b).2.1) (e := (c1 b).2.2) 1048576 r1.1 r1.2.1 r1.2.2.1
  have r3 := textS_bd (b := b) (a := (b2 b).2.1) (e := (b2 b).2.2) 16 r2.1 r2.2.1 r2.2.2.1
  have r4 := textS_bd (b := b) (a := (b3 b).2.1) (e := (b3 b).2.2) 16 r3.1 r3.2.1 r3.2.2.1
  have r5 := intS_bd (b := b) (a := (b4 b).2.1) (e := (b4 b).2.2) 1048576 r4.1 r4.2.1 r4.2.2.1
  have hx2 := r2.2.2.2
  have hx5 := r5.2.2.2
  change (((b2 b).1 : Nat) : Int) ≤ _ at hx2
  change (((b5 b).1 : Nat) : Int) ≤ _ at hx5
  obtain ⟨hst, hen⟩ := steps_bind b
  have hC : ∀ (w1 : World) (n : Nat), w1.heap.size = n → Calls Try.prog 99 #[.string b, .slice (some ⟨n, 0, none⟩) 5 5] (w1.alloc (.cells #[.int .i64 1, .int .i64 0, .int .i64 2, .int .i64 1048576, .int .i64 3, .int .i64 16, .int .i64 3, .int .i64 16, .int .i64 2, .int .i64 1048576] 98 (0, 0))) (fun y w' => ∃ v', y = .returned (.tuple #[v', .bool (bindOk b == 0)]) ∧ w'.ownsRow w1.heap.size 95 4 v' 5 (cellsG [⟨(c1 b).1, ⟨#[]⟩, (c1 b).2.1, (c1 b).2.2⟩, ⟨(b2 b).1, ⟨#[]⟩, (b2 b).2.1, (b2 b).2.2⟩, ⟨0, (b3 b).1, (b3 b).2.1, (b3 b).2.2⟩, ⟨0, (b4 b).1, (b4 b).2.1, (b4 b).2.2⟩, ⟨(b5 b).1, ⟨#[]⟩, (b5 b).2.1, (b5 b).2.2⟩]) ∧ Up w1 w') := steps_lit hb (l := [stp1, stpN, stpT, stpT, stpN]) (by decide) (fun x hx => by
    simp only [List.mem_cons, List.not_mem_nil, or_false] at hx
    rcases hx with rfl | rfl | rfl | rfl | rfl
    all_goals first | exact stp_ok.1 | exact stp_ok.2.1 | exact stp_ok.2.2.1 | exact stp_ok.2.2.2) hen (b_bd b).2.2.2.2 hst
  clear r1 r2 r3 r4 r5
  obtain ⟨⟨n1, a1, e1⟩, h1⟩ : ∃ r, c1 b = r := ⟨_, rfl⟩
  obtain ⟨⟨n2, a2, e2⟩, h2⟩ : ∃ r, b2 b = r := ⟨_, rfl⟩
  obtain ⟨⟨s3, a3, e3⟩, h3⟩ : ∃ r, b3 b = r := ⟨_, rfl⟩
  obtain ⟨⟨s4, a4, e4⟩, h4⟩ : ∃ r, b4 b = r := ⟨_, rfl⟩
  obtain ⟨⟨n5, a5, e5⟩, h5⟩ : ∃ r, b5 b = r := ⟨_, rfl⟩
  rw [h2] at hx2; rw [h5] at hx5
  simp only at hx2 hx5
  have HA : Hid (bindA b = if bindOk b = 0 then .agg #[.int .u64 n1, .int .i64 n2, .string s3, .string s4, .int .i64 n5] else .agg #[.int .u64 0, .int .i64 0, .string ⟨#[]⟩, .string ⟨#[]⟩, .int .i64 0]) := by
    unfold Hid bindA; rw [h1, h2, h3, h4, h5]
  rw [h1, h2, h3, h4, h5] at hC
  have HC := Lib.hid hC
  have hw2 : IntKind.i64.wrap (n2 : Int) = n2 := IntWalk.i64_in _ (by omega)
  have hw5 : IntKind.i64.wrap (n5 : Int) = n5 := IntWalk.i64_in _ (by omega)
  clear h1 h2 h3 h4 h5 hC hst hen
  by_cases hok : bindOk b = 0
  · have HV := Lib.hid (show Value.tuple #[.agg #[.int .u64 n1, .int .i64 n2, .string s3, .string s4, .int .i64 n5], .int .i64 0] = Value.tuple #[bindA b, .int .i64 (okE (bindOk b))] by rw [HA.out, if_pos hok, hok]; rfl)
    have HO := Lib.hid hok
    clear hok
    go_enter Try.func79, Try.ntmps79
    go_wp2_with fail
    refine (HC.out _ _ (by simp)).mono ?_
    rintro y w1 ⟨v', rfl, hown, hu1⟩
    rw [HO.out]
    obtain ⟨g, cap, rfl, hc4, hcm, hbg, hg1⟩ := own_shape hown (by decide)
    unfold maxLen at hcm
    have k0 : w1.cell? ⟨g, 0, none⟩ = some (.int .u64 n1) := hown.cellAt 0 (by decide)
    have k1 : w1.cell? ⟨g, 4, none⟩ = some (.int .u64 n2) := hown.cellAt 4 (by decide)
    have k2 : w1.cell? ⟨g, 9, none⟩ = some (.string s3) := hown.cellAt 9 (by decide)
    have k3 : w1.cell? ⟨g, 13, none⟩ = some (.string s4) := hown.cellAt 13 (by decide)
    have k4 : w1.cell? ⟨g, 16, none⟩ = some (.int .u64 n5) := hown.cellAt 16 (by decide)
    have hz := hu1.keep (blk_alloc (blk_alloc (blk_new w (.cells #[.int .u64 0, .int .i64 0, .string ⟨#[]⟩, .string ⟨#[]⟩, .int .i64 0] 26))))
    have hlt := blk_lt hz
    have hup : Up w w1 := ((((Up.refl w).alloc _).alloc _).alloc _).trans hu1
    have HZ := Lib.hid hz
    clear hz hown
    go_wp2_with fail
    refine wp_region_up_tail 23 (by kernel_rfl) (by kernel_rfl) (Up.refl _) ?_
    simp only [List.take_succ_cons, List.take_zero, List.drop_succ_cons, List.drop_zero]
    repeat (go_big_quiet_step (fail))
    refine wpQuiet_nil ?_
    intro w2 hu2
    have hz2 := hu2.keep HZ.out
    have z0 : w2.cell? ⟨w.heap.size, 0, none⟩ = some (.int .u64 0) := blk_cell hz2 0
    have z1 : w2.cell? ⟨w.heap.size, 1, none⟩ = some (.int .i64 0) := blk_cell hz2 1
    have z2 : w2.cell? ⟨w.heap.size, 2, none⟩ = some (.string ⟨#[]⟩) := blk_cell hz2 2
    have z3 : w2.cell? ⟨w.heap.size, 3, none⟩ = some (.string ⟨#[]⟩) := blk_cell hz2 3
    have z4 : w2.cell? ⟨w.heap.size, 4, none⟩ = some (.int .i64 0) := blk_cell hz2 4
    have zf : ∀ o, w2.frozen? ⟨w.heap.size, o, none⟩ = false := blk_free hz2
    have hup2 := hup.trans hu2
    clear hz2 hu2
    go_wp2_with fail
    refine bodyPost_ret (v := .tuple #[.agg #[.int .u64 n1, .int .i64 n2, .string s3, .string s4, .int .i64 n5], .int .i64 0]) (by simp [results, Try.results79, go_sem, z0, z1, z2, z3, z4]) rfl ?_
    exact Gives.mk HV.out (((((hup2.set (Nat.le_refl _) _).set (Nat.le_refl _) _).set (Nat.le_refl _) _).set (Nat.le_refl _) _).set (Nat.le_refl _) _)
  · have HV := Lib.hid (show Value.tuple #[.agg #[.int .u64 0, .int .i64 0, .string ⟨#[]⟩, .string ⟨#[]⟩, .int .i64 0], .int .i64 1] = Value.tuple #[bindA b, .int .i64 (okE (bindOk b))] by rw [HA.out, if_neg hok]; unfold okE; rw [if_neg hok])
    have hB : (bindOk b == 0) = false := by rw [beq_eq_false_iff_ne]; exact hok
    have HB := Lib.hid hB
    clear hok hB
    go_enter Try.func79, Try.ntmps79
    go_wp2_with fail
    refine (HC.out _ _ (by simp)).mono ?_
    rintro y w1 ⟨v', rfl, hown, hu1⟩
    rw [HB.out]
    have hz2 := hu1.keep (blk_alloc (blk_alloc (blk_new w (.cells #[.int .u64 0, .int .i64 0, .string ⟨#[]⟩, .string ⟨#[]⟩, .int .i64 0] 26))))
    have z0 : w1.cell? ⟨w.heap.size, 0, none⟩ = some (.int .u64 0) := blk_cell hz2 0
    have z1 : w1.cell? ⟨w.heap.size, 1, none⟩ = some (.int .i64 0) := blk_cell hz2 1
    have z2 : w1.cell? ⟨w.heap.size, 2, none⟩ = some (.string ⟨#[]⟩) := blk_cell hz2 2
    have z3 : w1.cell? ⟨w.heap.size, 3, none⟩ = some (.string ⟨#[]⟩) := blk_cell hz2 3
    have z4 : w1.cell? ⟨w.heap.size, 4, none⟩ = some (.int .i64 0) := blk_cell hz2 4
    have zf : ∀ o, w1.frozen? ⟨w.heap.size, o, none⟩ = false := blk_free hz2
    have hup2 : Up w w1 := ((((Up.refl w).alloc _).alloc _).alloc _).trans hu1
    clear hz2 hu1 hown
    go_wp2_with fail
    refine bodyPost_ret (v := .tuple #[.agg #[.int .u64 0, .int .i64 0, .string ⟨#[]⟩, .string ⟨#[]⟩, .int .i64 0], .int .i64 1]) (by simp [results, Try.results79, go_sem, z0, z1, z2, z3, z4]) rfl ?_
    exact Gives.mk HV.out (((((hup2.set (Nat.le_refl _) _).set (Nat.le_refl _) _).set (Nat.le_refl _) _).set (Nat.le_refl _) _).set (Nat.le_refl _) _)

set_option maxHeartbeats 1600000 in
set_option maxRecDepth 100000 in
theorem reftakeschema_any (b : ByteArray) (w : World) (hb : b.size ≤ maxLen) : Calls Try.prog 81 #[.string b] w (Gives w (schemaV b)) := by
  have r1 := numS_bd (b := b) (a := 0) (e := 0) (Nat.zero_le _) (by omega) (by omega)
  have r2 := restS_bd (b := b) (a := (c1 b).2.1) (e := (c1 b).2.2) r1.1 r1.2.1 r1.2.2.1
  obtain ⟨hst, hen⟩ := steps_schema b
  have hC : ∀ (w1 : World) (n : Nat), w1.heap.size = n → Calls Try.prog 99 #[.string b, .slice (some ⟨n, 0, none⟩) 2 2] (w1.alloc (.cells #[.int .i64 1, .int .i64 0, .int .i64 4, .int .i64 0] 98 (0, 0))) (fun y w' => ∃ v', y = .returned (.tuple #[v', .bool (schemaOk b == 0)]) ∧ w'.ownsRow w1.heap.size 95 4 v' 2 (cellsG [⟨(c1 b).1, ⟨#[]⟩, (c1 b).2.1, (c1 b).2.2⟩, ⟨0, (s2 b).1, (s2 b).2.1, (s2 b).2.2⟩]) ∧ Up w1 w') := steps_lit hb (l := [stp1, stpR]) (by decide) (fun x hx => by
    simp only [List.mem_cons, List.not_mem_nil, or_false] at hx
    rcases hx with rfl | rfl
    all_goals first | exact stp_ok.1 | exact stp_ok.2.1 | exact stp_ok.2.2.1 | exact stp_ok.2.2.2) hen r2.1 hst
  clear r1 r2
  obtain ⟨⟨n1, a1, e1⟩, h1⟩ : ∃ r, c1 b = r := ⟨_, rfl⟩
  obtain ⟨⟨t2, a2, e2⟩, h2⟩ : ∃ r, s2 b = r := ⟨_, rfl⟩
  have HA : Hid (schemaV b = if schemaOk b = 0 then .tuple #[.int .u64 n1, .string t2, .int .i64 0] else .tuple #[.int .u64 0, .string ⟨#[]⟩, .int .i64 1]) := by
    unfold Hid schemaV; rw [h1, h2]
  rw [h1, h2] at hC
  have HC := Lib.hid hC
  clear h1 h2 hC hst hen
  by_cases hok : schemaOk b = 0
  · have HV := Lib.hid (show Value.tuple #[.int .u64 n1, .string t2, .int .i64 0] = schemaV b by rw [HA.out, if_pos hok])
    have HO := Lib.hid hok
    clear hok
    go_enter Try.func81, Try.ntmps81
    go_wp2_with fail
    refine (HC.out _ _ (by simp)).mono ?_
    rintro y w1 ⟨v', rfl, hown, hu1⟩
    rw [HO.out]
    obtain ⟨g, cap, rfl, hc4, hcm, hbg, hg1⟩ := own_shape hown (by decide)
    unfold maxLen at hcm
    have k0 : w1.cell? ⟨g, 0, none⟩ = some (.int .u64 n1) := hown.cellAt 0 (by decide)
    have k1 : w1.cell? ⟨g, 5, none⟩ = some (.string t2) := hown.cellAt 5 (by decide)
    clear hown
    go_wp2_with fail
    refine wp_region_up (by kernel_rfl) (by kernel_rfl) (Up.refl _) ?_
    repeat (go_big_quiet_step (fail))
    refine wpQuiet_nil ?_
    intro w2 hu2
    go_wp2_with fail
    go_ret3
    exact Gives.mk HV.out (hu1.trans hu2)
  · have HV := Lib.hid (show Value.tuple #[.int .u64 0, .string ⟨#[]⟩, .int .i64 1] = schemaV b by rw [HA.out, if_neg hok])
    have hB : (schemaOk b == 0) = false := by rw [beq_eq_false_iff_ne]; exact hok
    have HB := Lib.hid hB
    clear hok hB
    go_enter Try.func81, Try.ntmps81
    go_wp2_with fail
    refine (HC.out _ _ (by simp)).mono ?_
    rintro y w1 ⟨v', rfl, hown, hu1⟩
    rw [HB.out]
    clear hown
    go_wp2_with fail
    go_ret3
    exact Gives.mk HV.out hu1

set_option maxHeartbeats 1600000 in
set_option maxRecDepth 100000 in
theorem reftakecancel_any (b : ByteArray) (w : World) (hb : b.size ≤ maxLen) : Calls Try.prog 83 #[.string b] w (Gives w (cancelV b)) := by
  obtain ⟨hst, hen⟩ := steps_cancel b
  have hC : ∀ (w1 : World) (n : Nat), w1.heap.size = n → Calls Try.prog 99 #[.string b, .slice (some ⟨n, 0, none⟩) 1 1] (w1.alloc (.cells #[.int .i64 1, .int .i64 0] 98 (0, 0))) (fun y w' => ∃ v', y = .returned (.tuple #[v', .bool (cancelOk b == 0)]) ∧ w'.ownsRow w1.heap.size 95 4 v' 1 (cellsG [⟨(c1 b).1, ⟨#[]⟩, (c1 b).2.1, (c1 b).2.2⟩]) ∧ Up w1 w') := steps_lit hb (l := [stp1]) (by decide) (fun x hx => by
    simp only [List.mem_cons, List.not_mem_nil, or_false] at hx
    rcases hx with rfl
    all_goals first | exact stp_ok.1 | exact stp_ok.2.1 | exact stp_ok.2.2.1 | exact stp_ok.2.2.2) hen (b_bd b).1 hst
  obtain ⟨⟨n1, a1, e1⟩, h1⟩ : ∃ r, c1 b = r := ⟨_, rfl⟩
  have HA : Hid (cancelV b = if cancelOk b = 0 then .tuple #[.int .u64 n1, .int .i64 0] else .tuple #[.int .u64 0, .int .i64 1]) := by
    unfold Hid cancelV; rw [h1]
  rw [h1] at hC
  have HC := Lib.hid hC
  clear h1 hC hst hen
  by_cases hok : cancelOk b = 0
  · have HV := Lib.hid (show Value.tuple #[.int .u64 n1, .int .i64 0] = cancelV b by rw [HA.out, if_pos hok])
    have HO := Lib.hid hok
    clear hok
    go_enter Try.func83, Try.ntmps83
    go_wp2_with fail
    refine (HC.out _ _ (by simp)).mono ?_
    rintro y w1 ⟨v', rfl, hown, hu1⟩
    rw [HO.out]
    obtain ⟨g, cap, rfl, hc4, hcm, hbg, hg1⟩ := own_shape hown (by decide)
    unfold maxLen at hcm
    have k0 : w1.cell? ⟨g, 0, none⟩ = some (.int .u64 n1) := hown.cellAt 0 (by decide)
    clear hown
    go_wp2_with fail
    go_ret2
    exact Gives.mk HV.out hu1
  · have HV := Lib.hid (show Value.tuple #[.int .u64 0, .int .i64 1] = cancelV b by rw [HA.out, if_neg hok])
    have hB : (cancelOk b == 0) = false := by rw [beq_eq_false_iff_ne]; exact hok
    have HB := Lib.hid hB
    clear hok hB
    go_enter Try.func83, Try.ntmps83
    go_wp2_with fail
    refine (HC.out _ _ (by simp)).mono ?_
    rintro y w1 ⟨v', rfl, hown, hu1⟩
    rw [HB.out]
    clear hown
    go_wp2_with fail
    go_ret2
    exact Gives.mk HV.out hu1
end Go.Proofs.Ytpldfoclogkppaa
