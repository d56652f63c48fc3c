/- The walks of the document's TakeCall, TakeBind, TakeSchema, TakeCancel: they hand back what the program's do. -/
import Derived.Test.YtpldfoclogkppaaStepsA
import Derived.Test.YtpldfoclogkppaaCallD
import Derived.IntWalk
import Derived.RegionTactic
namespace Go.Proofs.Ytpldfoclogkppaa
open Go Go.RowKit

def stp1 : Stp := ⟨1, 0⟩
def stpN : Stp := ⟨2, 1048576⟩
def stpT : Stp := ⟨3, 16⟩
def stpR : Stp := ⟨4, 0⟩
theorem stp_ok : stp1.Ok ∧ stpN.Ok ∧ stpT.Ok ∧ stpR.Ok := ⟨⟨by decide, by decide, by decide, by decide⟩, ⟨by decide, by decide, by decide, by decide⟩, ⟨by decide, by decide, by decide, by decide⟩, ⟨by decide, by decide, by decide, by decide⟩⟩
/-- a list of steps that was just laid in a block of its own -/
theorem row_lit (w : World) (l : List Stp) (T : TypeId) (hl : l.length ≤ 1000) : Row (w.alloc (.cells (l.flatMap fun x => [Value.int .i64 x.kind, .int .i64 x.most]).toArray T (0, 0))) (.slice (some ⟨w.heap.size, 0, none⟩) l.length l.length) l 2 (fun x => [.int .i64 x.kind, .int .i64 x.most]) := by
  refine ⟨_, _, rfl, Nat.le_refl _, by unfold maxLen; omega, fun _ => ⟨w.heap.size, 0, rfl, by simp, fun i x hx j u hj => ?_⟩⟩
  rw [blk_cell (blk_new w _)]
  have h : ∀ (l : List Stp) (i : Nat) (x : Stp) (j : Nat) (u : Value), l[i]? = some x → [Value.int .i64 x.kind, .int .i64 x.most][j]? = some u → (l.flatMap fun x => [Value.int .i64 x.kind, .int .i64 x.most])[i * 2 + j]? = some u := by
    intro l
    induction l with
    | nil => intro i x j u h; simp at h
    | cons y r ih =>
      intro i x j u hx hj
      have hjl : j < 2 := (List.getElem?_eq_some_iff.1 hj).1
      rw [List.flatMap_cons]
      cases i with
      | zero =>
        simp only [List.getElem?_cons_zero, Option.some.injEq] at hx
        subst hx
        rw [List.getElem?_append_left (by simp; omega), Nat.zero_mul, Nat.zero_add]; exact hj
      | succ i =>
        rw [List.getElem?_append_right (by simp; omega)]
        have := ih i x j u (by simpa using hx) hj
        rw [show (i + 1) * 2 + j - [Value.int .i64 y.kind, Value.int .i64 y.most].length = i * 2 + j by simp; omega]; exact this
  have := h l i x j u hx hj
  simpa using this

theorem ok_done {b : ByteArray} {l : List Stp} {a : Nat} {e : Int} (h : endS b 0 0 l = (a, e)) (ha : a ≤ b.size) : okS b l = (doneE b a e == 0) := by
  unfold okS doneE
  rw [h]
  by_cases he : e = 0
  · subst he
    rw [if_neg (by simp)]
    by_cases h2 : a < b.size
    · rw [if_pos h2]
      have : (a == b.size) = false := by rw [beq_eq_false_iff_ne]; omega
      simp [this]
    · rw [if_neg h2]
      have : a = b.size := by omega
      simp [this]
  · rw [if_pos he]
    simp [he]
theorem steps_call (b : ByteArray) : stepsS b 0 0 [stp1, stpN, stpN, stpR] = [⟨(c1 b).1, ⟨#[]⟩, (c1 b).2.1, (c1 b).2.2⟩, ⟨(c2 b).1, ⟨#[]⟩, (c2 b).2.1, (c2 b).2.2⟩, ⟨(c3 b).1, ⟨#[]⟩, (c3 b).2.1, (c3 b).2.2⟩, ⟨0, (c4 b).1, (c4 b).2.1, (c4 b).2.2⟩] ∧ endS b 0 0 [stp1, stpN, stpN, stpR] = ((c4 b).2.1, (c4 b).2.2) := by
  simp only [stepsS, endS, nextS_one (s := stp1) rfl, nextS_two (s := stpN) rfl, nextS_all (s := stpR) (by decide) (by decide) (by decide)]
  exact ⟨rfl, rfl⟩
theorem steps_bind (b : ByteArray) : stepsS b 0 0 [stp1, stpN, stpT, stpT, stpN] = [⟨(c1 b).1, ⟨#[]⟩, (c1 b).2.1, (c1 b).2.2⟩, ⟨(b2 b).1, ⟨#[]⟩, (b2 b).2.1, (b2 b).2.2⟩, ⟨0, (b3 b).1, (b3 b).2.1, (b3 b).2.2⟩, ⟨0, (b4 b).1, (b4 b).2.1, (b4 b).2.2⟩, ⟨(b5 b).1, ⟨#[]⟩, (b5 b).2.1, (b5 b).2.2⟩] ∧ endS b 0 0 [stp1, stpN, stpT, stpT, stpN] = ((b5 b).2.1, (b5 b).2.2) := by
  simp only [stepsS, endS, nextS_one (s := stp1) rfl, nextS_two (s := stpN) rfl, nextS_three (s := stpT) rfl]
  exact ⟨rfl, rfl⟩
theorem steps_schema (b : ByteArray) : stepsS b 0 0 [stp1, stpR] = [⟨(c1 b).1, ⟨#[]⟩, (c1 b).2.1, (c1 b).2.2⟩, ⟨0, (s2 b).1, (s2 b).2.1, (s2 b).2.2⟩] ∧ endS b 0 0 [stp1, stpR] = ((s2 b).2.1, (s2 b).2.2) := by
  simp only [stepsS, endS, nextS_one (s := stp1) rfl, nextS_all (s := stpR) (by decide) (by decide) (by decide)]
  exact ⟨rfl, rfl⟩
theorem steps_cancel (b : ByteArray) : stepsS b 0 0 [stp1] = [⟨(c1 b).1, ⟨#[]⟩, (c1 b).2.1, (c1 b).2.2⟩] ∧ endS b 0 0 [stp1] = ((c1 b).2.1, (c1 b).2.2) := by
  simp only [stepsS, endS, nextS_one (s := stp1) rfl]
  exact ⟨rfl, rfl⟩

set_option maxHeartbeats 1600000 in
set_option maxRecDepth 100000 in
theorem reftakecall_any (b : ByteArray) (w : World) (hb : b.size ≤ maxLen) : Calls Try.prog 77 #[.string b] w (Gives w (.tuple #[callA b, .int .i64 (okE (callOk b))])) := by
  have hd := c_bd b
  have hx2 := (intS_bd (b := b) (a := (c1 b).2.1) (e := (c1 b).2.2) 1048576 hd.1 (numS_bd (b := b) (a := 0) (e := 0) (Nat.zero_le _) (by omega) (by omega)).2.1 (numS_bd (b := b) (a := 0) (e := 0) (Nat.zero_le _) (by omega) (by omega)).2.2.1)
  have hx3 := (intS_bd (b := b) (a := (c2 b).2.1) (e := (c2 b).2.2) 1048576 hd.2.1 hx2.2.1 hx2.2.2.1).2.2.2
  have hx2 := hx2.2.2.2
  change (((c2 b).1 : Nat) : Int) ≤ _ at hx2
  change (((c3 b).1 : Nat) : Int) ≤ _ at hx3
  obtain ⟨hst, hen⟩ := steps_call b
  have hokd := ok_done hen hd.2.2.2.1
  have hC : ∀ (w1 : World) (n : Nat), w1.heap.size = n → Calls Try.prog 99 #[.string b, .slice (some ⟨n, 0, none⟩) 4 4] (w1.alloc (.cells #[.int .i64 1, .int .i64 0, .int .i64 2, .int .i64 1048576, .int .i64 2, .int .i64 1048576, .int .i64 4, .int .i64 0] 98 (0, 0))) (fun y w' => ∃ v', y = .returned (.tuple #[v', .bool (callOk b == 0)]) ∧ w'.ownsRow w1.heap.size 95 4 v' 4 (cellsG [⟨(c1 b).1, ⟨#[]⟩, (c1 b).2.1, (c1 b).2.2⟩, ⟨(c2 b).1, ⟨#[]⟩, (c2 b).2.1, (c2 b).2.2⟩, ⟨(c3 b).1, ⟨#[]⟩, (c3 b).2.1, (c3 b).2.2⟩, ⟨0, (c4 b).1, (c4 b).2.1, (c4 b).2.2⟩]) ∧ Up w1 w') := fun w1 n hn => by
    subst hn
    refine (steps_any b hb _ [stp1, stpN, stpN, stpR] _ (row_lit w1 [stp1, stpN, stpN, stpR] 98 (by decide)) (fun x hx => ?_) (by decide)).mono ?_
    · simp only [List.mem_cons, List.not_mem_nil, or_false] at hx
      rcases hx with rfl | rfl | rfl | rfl
      all_goals first | exact stp_ok.1 | exact stp_ok.2.1 | exact stp_ok.2.2.1 | exact stp_ok.2.2.2
    · rintro y w' ⟨v', rfl, ho, hu⟩
      rw [hst] at ho
      exact ⟨v', by rw [hokd]; rfl, own_base ho (by simp), ((Up.refl w1).alloc _).trans hu⟩
  obtain ⟨⟨n1, a1, e1⟩, h1⟩ : ∃ r, c1 b = r := ⟨_, rfl⟩
  obtain ⟨⟨n2, a2, e2⟩, h2⟩ : ∃ r, c2 b = r := ⟨_, rfl⟩
  obtain ⟨⟨n3, a3, e3⟩, h3⟩ : ∃ r, c3 b = r := ⟨_, rfl⟩
  obtain ⟨⟨s4, a4, e4⟩, h4⟩ : ∃ r, c4 b = r := ⟨_, rfl⟩
  rw [h2] at hx2; rw [h3] at hx3
  simp only at hx2 hx3
  have HA : Hid (callA b = if callOk b = 0 then .agg #[.int .u64 n1, .int .i64 n2, .int .i64 n3, .string s4] else .agg #[.int .u64 0, .int .i64 0, .int .i64 0, .string ⟨#[]⟩]) := by
    unfold Hid callA; rw [h1, h2, h3, h4]
  rw [h1, h2, h3, h4] at hC
  have HC := Lib.hid hC
  have hw2 : IntKind.i64.wrap (n2 : Int) = n2 := IntWalk.i64_in _ (by omega)
  have hw3 : IntKind.i64.wrap (n3 : Int) = n3 := IntWalk.i64_in _ (by omega)
  clear h1 h2 h3 h4 hC hst hen hokd hd
  by_cases hok : callOk b = 0
  · have HV := Lib.hid (show Value.tuple #[.agg #[.int .u64 n1, .int .i64 n2, .int .i64 n3, .string s4], .int .i64 0] = Value.tuple #[callA b, .int .i64 (okE (callOk b))] by rw [HA.out, if_pos hok, hok]; rfl)
    have HO := Lib.hid hok
    clear hok
    go_enter Try.func77, Try.ntmps77
    go_wp2_with fail
    refine (HC.out _ _ (by simp)).mono ?_
    rintro y w1 ⟨v', rfl, hown, hu1⟩
    rw [HO.out]
    obtain ⟨g, cap, rfl, hc4, hcm, hbg, hg1⟩ := own_shape hown (by decide)
    unfold maxLen at hcm
    have k0 : w1.cell? ⟨g, 0, none⟩ = some (.int .u64 n1) := hown.cellAt 0 (by decide)
    have k1 : w1.cell? ⟨g, 4, none⟩ = some (.int .u64 n2) := hown.cellAt 4 (by decide)
    have k2 : w1.cell? ⟨g, 8, none⟩ = some (.int .u64 n3) := hown.cellAt 8 (by decide)
    have k3 : w1.cell? ⟨g, 13, none⟩ = some (.string s4) := hown.cellAt 13 (by decide)
    have hz := hu1.keep (blk_alloc (blk_new w (.cells #[.int .u64 0, .int .i64 0, .int .i64 0, .string ⟨#[]⟩] 24)))
    have hlt := blk_lt hz
    have hup : Up w w1 := (((Up.refl w).alloc _).alloc _).trans hu1
    have HZ := Lib.hid hz
    clear hz hown
    go_wp2_with fail
    refine wp_region_up_tail 19 (by kernel_rfl) (by kernel_rfl) (Up.refl _) ?_
    simp only [List.take_succ_cons, List.take_zero, List.drop_succ_cons, List.drop_zero]
    repeat (go_big_quiet_step (fail))
    refine wpQuiet_nil ?_
    intro w2 hu2
    have hz2 := hu2.keep HZ.out
    have z0 : w2.cell? ⟨w.heap.size, 0, none⟩ = some (.int .u64 0) := blk_cell hz2 0
    have z1 : w2.cell? ⟨w.heap.size, 1, none⟩ = some (.int .i64 0) := blk_cell hz2 1
    have z2 : w2.cell? ⟨w.heap.size, 2, none⟩ = some (.int .i64 0) := blk_cell hz2 2
    have z3 : w2.cell? ⟨w.heap.size, 3, none⟩ = some (.string ⟨#[]⟩) := blk_cell hz2 3
    have zf : ∀ o, w2.frozen? ⟨w.heap.size, o, none⟩ = false := blk_free hz2
    have hup2 := hup.trans hu2
    clear hz2 hu2
    go_wp2_with fail
    refine bodyPost_ret (v := .tuple #[.agg #[.int .u64 n1, .int .i64 n2, .int .i64 n3, .string s4], .int .i64 0]) (by simp [results, Try.results77, go_sem, z0, z1, z2, z3]) rfl ?_
    exact Gives.mk HV.out ((((hup2.set (Nat.le_refl _) _).set (Nat.le_refl _) _).set (Nat.le_refl _) _).set (Nat.le_refl _) _)
  · have HV := Lib.hid (show Value.tuple #[.agg #[.int .u64 0, .int .i64 0, .int .i64 0, .string ⟨#[]⟩], .int .i64 1] = Value.tuple #[callA b, .int .i64 (okE (callOk b))] by rw [HA.out, if_neg hok]; unfold okE; rw [if_neg hok])
    have hB : (callOk b == 0) = false := by rw [beq_eq_false_iff_ne]; exact hok
    have HB := Lib.hid hB
    clear hok hB
    go_enter Try.func77, Try.ntmps77
    go_wp2_with fail
    refine (HC.out _ _ (by simp)).mono ?_
    rintro y w1 ⟨v', rfl, hown, hu1⟩
    rw [HB.out]
    have hz2 := hu1.keep (blk_alloc (blk_new w (.cells #[.int .u64 0, .int .i64 0, .int .i64 0, .string ⟨#[]⟩] 24)))
    have z0 : w1.cell? ⟨w.heap.size, 0, none⟩ = some (.int .u64 0) := blk_cell hz2 0
    have z1 : w1.cell? ⟨w.heap.size, 1, none⟩ = some (.int .i64 0) := blk_cell hz2 1
    have z2 : w1.cell? ⟨w.heap.size, 2, none⟩ = some (.int .i64 0) := blk_cell hz2 2
    have z3 : w1.cell? ⟨w.heap.size, 3, none⟩ = some (.string ⟨#[]⟩) := blk_cell hz2 3
    have zf : ∀ o, w1.frozen? ⟨w.heap.size, o, none⟩ = false := blk_free hz2
    have hup2 : Up w w1 := (((Up.refl w).alloc _).alloc _).trans hu1
    clear hz2 hu1 hown
    go_wp2_with fail
    refine bodyPost_ret (v := .tuple #[.agg #[.int .u64 0, .int .i64 0, .int .i64 0, .string ⟨#[]⟩], .int .i64 1]) (by simp [results, Try.results77, go_sem, z0, z1, z2, z3]) rfl ?_
    exact Gives.mk HV.out ((((hup2.set (Nat.le_refl _) _).set (Nat.le_refl _) _).set (Nat.le_refl _) _).set (Nat.le_refl _) _)
end Go.Proofs.Ytpldfoclogkppaa
