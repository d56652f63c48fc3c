/- The walks of span.Take and of the document's Int and Take: what each hands back. -/
import Derived.Test.YtpnlhnhjedopgaaVarD
import Derived.Test.YtpnlhnhjedopgaaCallA
namespace Go.Proofs.Ytpnlhnhjedopgaa
open Go Go.RowKit

/-- a number with which bytes begin that is not too great -/
def intT (b : ByteArray) (most : Int) : Nat × Nat × Int :=
  if (takeL b.data.toList).2.2 ≠ 0 then (0, 0, (takeL b.data.toList).2.2)
  else if max most 0 < (takeL b.data.toList).1 then (0, 0, 3) else takeL b.data.toList
/-- the span with which bytes begin -/
def spanT (b : ByteArray) (most : Int) : ByteArray × Nat × Int :=
  if (intT b most).2.2 ≠ 0 then (⟨#[]⟩, 0, (intT b most).2.2)
  else if b.size - (intT b most).2.1 < (intT b most).1 then (⟨#[]⟩, 0, 2)
  else (b.extract (intT b most).2.1 ((intT b most).2.1 + (intT b most).1), (intT b most).2.1 + (intT b most).1, 0)
def spanV (r : ByteArray × Nat × Int) : Value := .tuple #[.string r.1, .int .i64 (r.2.1 : Nat), .int .i64 r.2.2]
def intV (r : Nat × Nat × Int) : Value := .tuple #[.int .i64 (r.1 : Nat), .int .i64 (r.2.1 : Nat), .int .i64 r.2.2]

theorem intT_bad {b : ByteArray} {most : Int} {n k : Nat} {e : Int} (h : takeL b.data.toList = (n, k, e)) (he : e ≠ 0) : Value.tuple #[.int .i64 0, .int .i64 0, .int .i64 e] = intV (intT b most) := by
  unfold intT; rw [h, if_pos he]; rfl
theorem intT_long {b : ByteArray} {most : Int} {n k : Nat} {e : Int} (h : takeL b.data.toList = (n, k, e)) (he : e = 0) (hn : max most 0 < n) : Value.tuple #[.int .i64 0, .int .i64 0, .int .i64 3] = intV (intT b most) := by
  unfold intT; rw [h, if_neg (by simpa using he), if_pos hn]; rfl
theorem intT_ok {b : ByteArray} {most : Int} {n k : Nat} {e : Int} (h : takeL b.data.toList = (n, k, e)) (he : e = 0) (hn : ¬ max most 0 < n) : Value.tuple #[.int .i64 n, .int .i64 k, .int .i64 0] = intV (intT b most) := by
  subst he; unfold intT; rw [h, if_neg (by simp), if_neg hn]; rfl

set_option maxHeartbeats 800000 in
set_option maxRecDepth 100000 in
theorem refint_any (b : ByteArray) (most : Int) (w : World) (hb : b.size ≤ maxLen) (m0 : -9223372036854775808 ≤ most) (m1 : most ≤ 9223372036854775807) :
    Calls Try.prog 104 #[.string b, .int .i64 most] w (Gives w (intV (intT b most))) := by
  have hd := takeL_bd b.data.toList
  have hs2 := takeL_small b.data.toList
  obtain ⟨⟨n, k, e⟩, hr⟩ : ∃ r, takeL b.data.toList = r := ⟨_, rfl⟩
  rw [hr] at hd hs2
  have HR := Lib.hid hr; clear hr
  simp only at hd hs2
  obtain ⟨hb0, hb1, hb2, hb3⟩ := hd
  by_cases he : e = 0
  · subst he
    go_enter Try.func104, Try.ntmps104
    go_wp2_with fail
    refine (reftake_any b _ hb).mono ?_
    rintro e w1 ⟨rfl, hu1⟩
    rw [HR.out]
    unfold takeV
    go_wp2_with fail
    all_goals go_ret3
    all_goals first
      | exact Gives.mk (intT_long HR.out rfl (by omega)) hu1
      | exact Gives.mk (intT_ok HR.out rfl (by omega)) hu1
  · have hd : (e != 0) = true := by rw [bne_iff_ne]; exact he
    have HE := Lib.hid he; clear he
    go_enter Try.func104, Try.ntmps104
    go_wp2_with fail
    refine (reftake_any b _ hb).mono ?_
    rintro e w1 ⟨rfl, hu1⟩
    rw [HR.out]
    unfold takeV
    go_wp2_with fail
    go_ret3
    exact Gives.mk (intT_bad HR.out HE.out) hu1

theorem spanT_bad {b : ByteArray} {most : Int} {n k : Nat} {e : Int} (h : intT b most = (n, k, e)) (he : e ≠ 0) : Value.tuple #[.string ⟨#[]⟩, .int .i64 0, .int .i64 e] = spanV (spanT b most) := by
  unfold spanT; rw [h, if_pos he]; rfl
theorem spanT_short {b : ByteArray} {most : Int} {n k : Nat} (h : intT b most = (n, k, 0)) (hn : b.size - k < n) : Value.tuple #[.string ⟨#[]⟩, .int .i64 0, .int .i64 2] = spanV (spanT b most) := by
  unfold spanT; rw [h, if_neg (by simp), if_pos hn]; rfl
theorem spanT_ok {b : ByteArray} {most : Int} {n k : Nat} (h : intT b most = (n, k, 0)) (hn : ¬ b.size - k < n) : Value.tuple #[.string (b.extract k (k + n)), .int .i64 (k + n), .int .i64 0] = spanV (spanT b most) := by
  unfold spanT; rw [h, if_neg (by simp), if_neg hn]; rfl
theorem intT_bd (b : ByteArray) (most : Int) : 0 ≤ (intT b most).2.2 ∧ (intT b most).2.2 ≤ 3 ∧ (intT b most).2.1 ≤ b.size ∧ ((intT b most).1 : Int) ≤ max most 0 ∧ (intT b most).2.1 ≤ 10 := by
  have := takeL_bd b.data.toList
  have hs : b.data.toList.length = b.size := by simp
  unfold intT
  split
  · simp; omega
  · split
    · simp; omega
    · omega

theorem spanT_bad' {b : ByteArray} {most : Int} {n k : Nat} {e : Int} (h : takeL b.data.toList = (n, k, e)) (he : e ≠ 0) : Value.tuple #[.string ⟨#[]⟩, .int .i64 0, .int .i64 e] = spanV (spanT b most) :=
  spanT_bad (n := 0) (k := 0) (by unfold intT; rw [h, if_pos he]) he
theorem spanT_long' {b : ByteArray} {most : Int} {n k : Nat} (h : takeL b.data.toList = (n, k, 0)) (hn : max most 0 < n) : Value.tuple #[.string ⟨#[]⟩, .int .i64 0, .int .i64 3] = spanV (spanT b most) :=
  spanT_bad (n := 0) (k := 0) (by unfold intT; rw [h, if_neg (by simp), if_pos hn]) (by decide)
theorem intT_ok' {b : ByteArray} {most : Int} {n k : Nat} (h : takeL b.data.toList = (n, k, 0)) (hn : ¬ max most 0 < n) : intT b most = (n, k, 0) := by
  unfold intT; rw [h, if_neg (by simp), if_neg hn]

end Go.Proofs.Ytpnlhnhjedopgaa
