/- The walks of script.Plain and of the document's: an event without what its kind has not. -/
import Derived.Test.YtmmmaekaoanceaaVarD
import Derived.Test.YtmmmaekaoanceaaCallA
import Derived.Outline
namespace Go.Proofs.Ytmmmaekaoanceaa
open Go Go.RowKit

structure Ev where
  kind : Int
  conn : Int
  num : Nat
  bytes : ByteArray
def Ev.vals (v : Ev) : List Value := [.int .i64 v.kind, .int .i64 v.conn, .int .u64 (v.num : Nat), .string v.bytes]
def Ev.val (v : Ev) : Value := .agg #[.int .i64 v.kind, .int .i64 v.conn, .int .u64 (v.num : Nat), .string v.bytes]
/-- has a kind a connection, a number, bytes? -/
def hasC (k : Int) : Bool := decide (k = 2 ∨ k = 6 ∨ k = 7)
def hasN (k : Int) : Bool := decide (k = 4)
def hasB (k : Int) : Bool := decide (k = 2)
def plainE (v : Ev) : Ev := ⟨v.kind, if hasC v.kind then v.conn else 0, if hasN v.kind then v.num else 0, if hasB v.kind then v.bytes else ⟨#[]⟩⟩
theorem kind_cases (k : Int) : k = 4 ∨ k = 2 ∨ k = 6 ∨ k = 7 ∨ (k ≠ 4 ∧ k ≠ 2 ∧ k ≠ 6 ∧ k ≠ 7) := by omega

set_option maxHeartbeats 1600000 in
set_option maxRecDepth 100000 in
theorem splain_any (v : Ev) (w : World) : Calls Try.prog 40 #[v.val] w (Gives w (plainE v).val) := by
  obtain ⟨kind, conn, num, bytes⟩ := v
  show Calls _ _ #[.agg #[.int .i64 kind, .int .i64 conn, .int .u64 (num : Nat), .string bytes]] w _
  rcases kind_cases kind with rfl | rfl | rfl | rfl | ⟨q1, q2, q3, q4⟩
  · have HV := Lib.hid (show (Value.agg #[.int .i64 4, .int .i64 0, .int .u64 (num : Nat), .string ⟨#[]⟩]) = (plainE ⟨4, conn, num, bytes⟩).val from by unfold plainE Ev.val hasC hasN hasB; simp)
    go_enter Try.func40, Try.ntmps40
    go_wp2_with fail
    refine bodyPost_ret (v := .agg #[.int .i64 4, .int .i64 0, .int .u64 (num : Nat), .string ⟨#[]⟩]) (by simp [results, Try.results40, go_sem]) rfl ?_
    refine Gives.mk HV.out ?_
    repeat (first | exact Up.refl _ | with_reducible refine Up.alloc ?_ _ | (refine Up.set ?_ (by simp) _))
  · have HV := Lib.hid (show (Value.agg #[.int .i64 2, .int .i64 conn, .int .u64 0, .string bytes]) = (plainE ⟨2, conn, num, bytes⟩).val from by unfold plainE Ev.val hasC hasN hasB; simp)
    go_enter Try.func40, Try.ntmps40
    go_wp2_with fail
    refine bodyPost_ret (v := .agg #[.int .i64 2, .int .i64 conn, .int .u64 0, .string bytes]) (by simp [results, Try.results40, go_sem]) rfl ?_
    refine Gives.mk HV.out ?_
    repeat (first | exact Up.refl _ | with_reducible refine Up.alloc ?_ _ | (refine Up.set ?_ (by simp) _))
  · have HV := Lib.hid (show (Value.agg #[.int .i64 6, .int .i64 conn, .int .u64 0, .string ⟨#[]⟩]) = (plainE ⟨6, conn, num, bytes⟩).val from by unfold plainE Ev.val hasC hasN hasB; simp)
    go_enter Try.func40, Try.ntmps40
    go_wp2_with fail
    refine bodyPost_ret (v := .agg #[.int .i64 6, .int .i64 conn, .int .u64 0, .string ⟨#[]⟩]) (by simp [results, Try.results40, go_sem]) rfl ?_
    refine Gives.mk HV.out ?_
    repeat (first | exact Up.refl _ | with_reducible refine Up.alloc ?_ _ | (refine Up.set ?_ (by simp) _))
  · have HV := Lib.hid (show (Value.agg #[.int .i64 7, .int .i64 conn, .int .u64 0, .string ⟨#[]⟩]) = (plainE ⟨7, conn, num, bytes⟩).val from by unfold plainE Ev.val hasC hasN hasB; simp)
    go_enter Try.func40, Try.ntmps40
    go_wp2_with fail
    refine bodyPost_ret (v := .agg #[.int .i64 7, .int .i64 conn, .int .u64 0, .string ⟨#[]⟩]) (by simp [results, Try.results40, go_sem]) rfl ?_
    refine Gives.mk HV.out ?_
    repeat (first | exact Up.refl _ | with_reducible refine Up.alloc ?_ _ | (refine Up.set ?_ (by simp) _))
  · have HV := Lib.hid (show (Value.agg #[.int .i64 kind, .int .i64 0, .int .u64 0, .string ⟨#[]⟩]) = (plainE ⟨kind, conn, num, bytes⟩).val from by unfold plainE Ev.val hasC hasN hasB; simp [q1, q2, q3, q4])
    have d4 : (kind == 4) = false := by rw [beq_eq_false_iff_ne]; exact q1
    have d2 : (kind == 2) = false := by rw [beq_eq_false_iff_ne]; exact q2
    have d6 : (kind == 6) = false := by rw [beq_eq_false_iff_ne]; exact q3
    have d7 : (kind == 7) = false := by rw [beq_eq_false_iff_ne]; exact q4
    clear q1 q2 q3 q4
    go_enter Try.func40, Try.ntmps40
    go_wp2_with fail
    refine bodyPost_ret (v := .agg #[.int .i64 kind, .int .i64 0, .int .u64 0, .string ⟨#[]⟩]) (by simp [results, Try.results40, go_sem]) rfl ?_
    refine Gives.mk HV.out ?_
    repeat (first | exact Up.refl _ | with_reducible refine Up.alloc ?_ _ | (refine Up.set ?_ (by simp) _))

theorem has_any (k : Int) (w : World) : Calls Try.prog 78 #[.int .i64 k] w (fun e w' => e = .returned (.tuple #[.bool (hasC k), .bool (hasN k), .bool (hasB k)]) ∧ w' = w) := by
  rcases kind_cases k with rfl | rfl | rfl | rfl | ⟨q1, q2, q3, q4⟩
  · have HC := Lib.hid (show hasC 4 = false from decide_eq_false (by omega))
    have HN := Lib.hid (show hasN 4 = true from decide_eq_true (by omega))
    have HB := Lib.hid (show hasB 4 = false from decide_eq_false (by omega))
    go_enter Try.func78, Try.ntmps78
    go_wp2_with fail
    go_ret3
    exact ⟨by rw [HC.out, HN.out, HB.out]; rfl, rfl⟩
  · have HC := Lib.hid (show hasC 2 = true from decide_eq_true (by omega))
    have HN := Lib.hid (show hasN 2 = false from decide_eq_false (by omega))
    have HB := Lib.hid (show hasB 2 = true from decide_eq_true (by omega))
    go_enter Try.func78, Try.ntmps78
    go_wp2_with fail
    go_ret3
    exact ⟨by rw [HC.out, HN.out, HB.out]; rfl, rfl⟩
  · have HC := Lib.hid (show hasC 6 = true from decide_eq_true (by omega))
    have HN := Lib.hid (show hasN 6 = false from decide_eq_false (by omega))
    have HB := Lib.hid (show hasB 6 = false from decide_eq_false (by omega))
    go_enter Try.func78, Try.ntmps78
    go_wp2_with fail
    go_ret3
    exact ⟨by rw [HC.out, HN.out, HB.out]; rfl, rfl⟩
  · have HC := Lib.hid (show hasC 7 = true from decide_eq_true (by omega))
    have HN := Lib.hid (show hasN 7 = false from decide_eq_false (by omega))
    have HB := Lib.hid (show hasB 7 = false from decide_eq_false (by omega))
    go_enter Try.func78, Try.ntmps78
    go_wp2_with fail
    go_ret3
    exact ⟨by rw [HC.out, HN.out, HB.out]; rfl, rfl⟩
  · have HC := Lib.hid (show hasC k = false from decide_eq_false (by omega))
    have HN := Lib.hid (show hasN k = false from decide_eq_false (by omega))
    have HB := Lib.hid (show hasB k = false from decide_eq_false (by omega))
    have d4 : (k == 4) = false := by rw [beq_eq_false_iff_ne]; exact q1
    have d2 : (k == 2) = false := by rw [beq_eq_false_iff_ne]; exact q2
    have d6 : (k == 6) = false := by rw [beq_eq_false_iff_ne]; exact q3
    have d7 : (k == 7) = false := by rw [beq_eq_false_iff_ne]; exact q4
    clear q1 q2 q3 q4
    go_enter Try.func78, Try.ntmps78
    go_wp2_with fail
    go_ret3
    exact ⟨by rw [HC.out, HN.out, HB.out]; rfl, rfl⟩

set_option maxHeartbeats 1600000 in
set_option maxRecDepth 100000 in
theorem refplain_any (v : Ev) (w : World) : Calls Try.prog 41 #[v.val] w (Gives w (plainE v).val) := by
  obtain ⟨kind, conn, num, bytes⟩ := v
  show Calls _ _ #[.agg #[.int .i64 kind, .int .i64 conn, .int .u64 (num : Nat), .string bytes]] w _
  rcases kind_cases kind with rfl | rfl | rfl | rfl | ⟨q1, q2, q3, q4⟩
  · have HV := Lib.hid (show (Value.agg #[.int .i64 4, .int .i64 0, .int .u64 (num : Nat), .string ⟨#[]⟩]) = (plainE ⟨4, conn, num, bytes⟩).val from by unfold plainE Ev.val hasC hasN hasB; simp)
    go_enter Try.func41, Try.ntmps41
    go_wp2_with fail
    refine (has_any 4 _).mono ?_
    rintro e w1 ⟨rfl, rfl⟩
    rw [show hasC 4 = false from decide_eq_false (by omega), show hasN 4 = true from decide_eq_true (by omega), show hasB 4 = false from decide_eq_false (by omega)]
    go_wp2_with fail
    refine bodyPost_ret (v := .agg #[.int .i64 4, .int .i64 0, .int .u64 (num : Nat), .string ⟨#[]⟩]) (by simp [results, Try.results41, go_sem]) rfl ?_
    refine Gives.mk HV.out ?_
    repeat (first | exact Up.refl _ | with_reducible refine Up.alloc ?_ _ | (refine Up.set ?_ (by simp) _))
  · have HV := Lib.hid (show (Value.agg #[.int .i64 2, .int .i64 conn, .int .u64 0, .string bytes]) = (plainE ⟨2, conn, num, bytes⟩).val from by unfold plainE Ev.val hasC hasN hasB; simp)
    go_enter Try.func41, Try.ntmps41
    go_wp2_with fail
    refine (has_any 2 _).mono ?_
    rintro e w1 ⟨rfl, rfl⟩
    rw [show hasC 2 = true from decide_eq_true (by omega), show hasN 2 = false from decide_eq_false (by omega), show hasB 2 = true from decide_eq_true (by omega)]
    go_wp2_with fail
    refine bodyPost_ret (v := .agg #[.int .i64 2, .int .i64 conn, .int .u64 0, .string bytes]) (by simp [results, Try.results41, go_sem]) rfl ?_
    refine Gives.mk HV.out ?_
    repeat (first | exact Up.refl _ | with_reducible refine Up.alloc ?_ _ | (refine Up.set ?_ (by simp) _))
  · have HV := Lib.hid (show (Value.agg #[.int .i64 6, .int .i64 conn, .int .u64 0, .string ⟨#[]⟩]) = (plainE ⟨6, conn, num, bytes⟩).val from by unfold plainE Ev.val hasC hasN hasB; simp)
    go_enter Try.func41, Try.ntmps41
    go_wp2_with fail
    refine (has_any 6 _).mono ?_
    rintro e w1 ⟨rfl, rfl⟩
    rw [show hasC 6 = true from decide_eq_true (by omega), show hasN 6 = false from decide_eq_false (by omega), show hasB 6 = false from decide_eq_false (by omega)]
    go_wp2_with fail
    refine bodyPost_ret (v := .agg #[.int .i64 6, .int .i64 conn, .int .u64 0, .string ⟨#[]⟩]) (by simp [results, Try.results41, go_sem]) rfl ?_
    refine Gives.mk HV.out ?_
    repeat (first | exact Up.refl _ | with_reducible refine Up.alloc ?_ _ | (refine Up.set ?_ (by simp) _))
  · have HV := Lib.hid (show (Value.agg #[.int .i64 7, .int .i64 conn, .int .u64 0, .string ⟨#[]⟩]) = (plainE ⟨7, conn, num, bytes⟩).val from by unfold plainE Ev.val hasC hasN hasB; simp)
    go_enter Try.func41, Try.ntmps41
    go_wp2_with fail
    refine (has_any 7 _).mono ?_
    rintro e w1 ⟨rfl, rfl⟩
    rw [show hasC 7 = true from decide_eq_true (by omega), show hasN 7 = false from decide_eq_false (by omega), show hasB 7 = false from decide_eq_false (by omega)]
    go_wp2_with fail
    refine bodyPost_ret (v := .agg #[.int .i64 7, .int .i64 conn, .int .u64 0, .string ⟨#[]⟩]) (by simp [results, Try.results41, go_sem]) rfl ?_
    refine Gives.mk HV.out ?_
    repeat (first | exact Up.refl _ | with_reducible refine Up.alloc ?_ _ | (refine Up.set ?_ (by simp) _))
  · have HV := Lib.hid (show (Value.agg #[.int .i64 kind, .int .i64 0, .int .u64 0, .string ⟨#[]⟩]) = (plainE ⟨kind, conn, num, bytes⟩).val from by unfold plainE Ev.val hasC hasN hasB; simp [q1, q2, q3, q4])
    have d4 : (kind == 4) = false := by rw [beq_eq_false_iff_ne]; exact q1
    have d2 : (kind == 2) = false := by rw [beq_eq_false_iff_ne]; exact q2
    have d6 : (kind == 6) = false := by rw [beq_eq_false_iff_ne]; exact q3
    have d7 : (kind == 7) = false := by rw [beq_eq_false_iff_ne]; exact q4
    clear q1 q2 q3 q4
    go_enter Try.func41, Try.ntmps41
    go_wp2_with fail
    refine (has_any kind _).mono ?_
    rintro e w1 ⟨rfl, rfl⟩
    rw [show hasC kind = false from decide_eq_false (by simp at d2 d6 d7; omega), show hasN kind = false from decide_eq_false (by simp at d4; omega), show hasB kind = false from decide_eq_false (by simp at d2; omega)]
    go_wp2_with fail
    refine bodyPost_ret (v := .agg #[.int .i64 kind, .int .i64 0, .int .u64 0, .string ⟨#[]⟩]) (by simp [results, Try.results41, go_sem]) rfl ?_
    refine Gives.mk HV.out ?_
    repeat (first | exact Up.refl _ | with_reducible refine Up.alloc ?_ _ | (refine Up.set ?_ (by simp) _))
end Go.Proofs.Ytmmmaekaoanceaa
