/- The walks of key.Skip and of the document's: what each hands back. -/
import Derived.Test.YtpldfoclogkppaaKeyA
namespace Go.Proofs.Ytpldfoclogkppaa
open Go Go.RowKit

/-- how long a content is -/
def kSkipT (b : ByteArray) (wire : Int) : Nat × Int :=
  if wire = 0 then (takeL b.data.toList).2
  else if ¬ wire = 1 then (0, 4)
  else if (takeL b.data.toList).2.2 ≠ 0 then (0, (takeL b.data.toList).2.2)
  else if b.size - (takeL b.data.toList).2.1 < (takeL b.data.toList).1 then (0, 2)
  else ((takeL b.data.toList).2.1 + (takeL b.data.toList).1, 0)
def skipV (r : Nat × Int) : Value := .tuple #[.int .i64 (r.1 : Nat), .int .i64 r.2]
theorem kSkipT_num {b : ByteArray} {n k : Nat} {e : Int} (h : takeL b.data.toList = (n, k, e)) : Value.tuple #[.int .i64 k, .int .i64 e] = skipV (kSkipT b 0) := by
  unfold kSkipT; rw [h, if_pos rfl]; rfl
theorem kSkipT_kind {b : ByteArray} {wire : Int} (h0 : wire ≠ 0) (h1 : wire ≠ 1) : Value.tuple #[.int .i64 0, .int .i64 4] = skipV (kSkipT b wire) := by
  unfold kSkipT; rw [if_neg h0, if_pos h1]; rfl
theorem kSkipT_bad {b : ByteArray} {n k : Nat} {e : Int} (h : takeL b.data.toList = (n, k, e)) (he : e ≠ 0) : Value.tuple #[.int .i64 0, .int .i64 e] = skipV (kSkipT b 1) := by
  unfold kSkipT; rw [h, if_neg (by decide), if_neg (by decide), if_pos he]; rfl
theorem kSkipT_short {b : ByteArray} {n k : Nat} (h : takeL b.data.toList = (n, k, 0)) (hn : b.size - k < n) : Value.tuple #[.int .i64 0, .int .i64 2] = skipV (kSkipT b 1) := by
  unfold kSkipT; rw [h, if_neg (by decide), if_neg (by decide), if_neg (by simp), if_pos hn]; rfl
theorem kSkipT_ok {b : ByteArray} {n k : Nat} (h : takeL b.data.toList = (n, k, 0)) (hn : ¬ b.size - k < n) : Value.tuple #[.int .i64 (k + n), .int .i64 0] = skipV (kSkipT b 1) := by
  unfold kSkipT; rw [h, if_neg (by decide), if_neg (by decide), if_neg (by simp), if_neg hn]; rfl

theorem refskip_any (b : ByteArray) (wire : Int) (w : World) (hb : b.size ≤ maxLen) : Calls Try.prog 71 #[.string b, .int .i64 wire] w (Gives w (skipV (kSkipT b wire))) := by
  have hd := takeL_bd b.data.toList
  have hs2 := takeL_small b.data.toList
  have hsz : b.data.toList.length = b.size := by simp
  obtain ⟨⟨n, k, e⟩, hr⟩ : ∃ r, takeL b.data.toList = r := ⟨_, rfl⟩
  rw [hr] at hd hs2
  have HR := Lib.hid hr; clear hr
  simp only at hd hs2
  obtain ⟨hb0, hb1, hb2, hb3⟩ := hd
  have hk : k ≤ b.size := by omega
  clear hsz hb3
  have hb' : b.size ≤ 9223372036854775807 := hb
  by_cases h0 : wire = 0
  · subst h0
    go_enter Try.func71, Try.ntmps71
    go_wp2_with fail
    refine (reftake_any b _ hb).mono ?_
    rintro e w1 ⟨rfl, hu1⟩
    rw [HR.out]
    unfold takeV
    go_wp2_with fail
    go_ret2
    exact Gives.mk (kSkipT_num HR.out) hu1
  · have e0 : (wire == 0) = false := by rw [beq_eq_false_iff_ne]; exact h0
    by_cases h1 : wire = 1
    · subst h1
      by_cases he : e = 0
      · subst he
        go_enter Try.func71, Try.ntmps71
        go_wp2_with fail
        refine (reftake_any b _ hb).mono ?_
        rintro e w1 ⟨rfl, hu1⟩
        rw [HR.out]
        unfold takeV
        go_wp2_with fail
        all_goals go_ret2
        all_goals first
          | exact Gives.mk (kSkipT_short HR.out (by omega)) hu1
          | exact Gives.mk (kSkipT_ok HR.out (by omega)) hu1
      · have hd : (e != 0) = true := by rw [bne_iff_ne]; exact he
        have HE := Lib.hid he; clear he
        go_enter Try.func71, Try.ntmps71
        go_wp2_with fail
        refine (reftake_any b _ hb).mono ?_
        rintro e w1 ⟨rfl, hu1⟩
        rw [HR.out]
        unfold takeV
        go_wp2_with fail
        go_ret2
        exact Gives.mk (kSkipT_bad HR.out HE.out) hu1
    · have e1 : (wire != 1) = true := by rw [bne_iff_ne]; exact h1
      have HE := Lib.hid h0; have HF := Lib.hid h1; clear h0 h1
      go_enter Try.func71, Try.ntmps71
      go_wp2_with fail
      go_ret2
      exact Gives.mk (kSkipT_kind HE.out HF.out) (Up.refl _)

theorem skip_span {b : ByteArray} {n k : Nat} {e : Int} (h : takeL b.data.toList = (n, k, e)) :
    spanT b b.size = if e ≠ 0 then (⟨#[]⟩, 0, e) else if (b.size : Int) < n then (⟨#[]⟩, 0, 3) else if b.size - k < n then (⟨#[]⟩, 0, 2) else (b.extract k (k + n), k + n, 0) := by
  by_cases he : e = 0
  · subst he
    rw [if_neg (by simp)]
    by_cases h1 : (b.size : Int) < n
    · have hi : intT b b.size = (0, 0, 3) := by unfold intT; rw [h, if_neg (by simp), if_pos (by show max (b.size : Int) 0 < (n : Int); omega)]
      rw [if_pos h1]; unfold spanT; rw [hi]; rfl
    · have hi : intT b b.size = (n, k, 0) := intT_ok' h (by omega)
      rw [if_neg h1]; unfold spanT; rw [hi, if_neg (by simp)]
  · have hi : intT b b.size = (0, 0, e) := by unfold intT; rw [h, if_pos he]
    rw [if_pos he]; unfold spanT; rw [hi, if_pos he]

theorem skip_any (b : ByteArray) (wire : Int) (w : World) (hb : b.size ≤ maxLen) : Calls Try.prog 70 #[.string b, .int .i64 wire] w (Gives w (skipV (kSkipT b wire))) := by
  have hd := takeL_bd b.data.toList
  have hs2 := takeL_small b.data.toList
  have hsz : b.data.toList.length = b.size := by simp
  obtain ⟨⟨n, k, e⟩, hr⟩ : ∃ r, takeL b.data.toList = r := ⟨_, rfl⟩
  rw [hr] at hd hs2
  have HS := Lib.hid (skip_span hr)
  have HR := Lib.hid hr; clear hr
  simp only at hd hs2
  obtain ⟨hb0, hb1, hb2, hb3⟩ := hd
  have hk : k ≤ b.size := by omega
  clear hsz hb3
  have hb' : b.size ≤ 9223372036854775807 := hb
  by_cases h0 : wire = 0
  · subst h0
    go_enter Try.func70, Try.ntmps70
    go_wp2_with fail
    refine (vartake_any b _ hb).mono ?_
    rintro e w1 ⟨rfl, hu1⟩
    rw [HR.out]
    unfold takeV
    go_wp2_with fail
    go_ret2
    exact Gives.mk (kSkipT_num HR.out) hu1
  · have e0 : (wire == 0) = false := by rw [beq_eq_false_iff_ne]; exact h0
    by_cases h1 : wire = 1
    · subst h1
      by_cases he : e = 0
      · subst he
        by_cases hc1 : (b.size : Int) < n
        · have HV := Lib.hid (show spanT b b.size = (⟨#[]⟩, 0, 3) by rw [HS.out, if_neg (by simp), if_pos hc1])
          go_enter Try.func70, Try.ntmps70
          go_wp2_with fail
          refine (spantake_any b _ _ hb (by omega) (by omega)).mono ?_
          rintro e w1 ⟨rfl, hu1⟩
          rw [HV.out]
          unfold spanV
          go_wp2_with fail
          go_ret2
          exact Gives.mk (kSkipT_short HR.out (by omega)) hu1
        · by_cases hc2 : b.size - k < n
          · have HV := Lib.hid (show spanT b b.size = (⟨#[]⟩, 0, 2) by rw [HS.out, if_neg (by simp), if_neg hc1, if_pos hc2])
            go_enter Try.func70, Try.ntmps70
            go_wp2_with fail
            refine (spantake_any b _ _ hb (by omega) (by omega)).mono ?_
            rintro e w1 ⟨rfl, hu1⟩
            rw [HV.out]
            unfold spanV
            go_wp2_with fail
            go_ret2
            exact Gives.mk (kSkipT_short HR.out (by omega)) hu1
          · have HV := Lib.hid (show spanT b b.size = (b.extract k (k + n), k + n, 0) by rw [HS.out, if_neg (by simp), if_neg hc1, if_neg hc2])
            go_enter Try.func70, Try.ntmps70
            go_wp2_with fail
            refine (spantake_any b _ _ hb (by omega) (by omega)).mono ?_
            rintro e w1 ⟨rfl, hu1⟩
            rw [HV.out]
            unfold spanV
            go_wp2_with fail
            go_ret2
            exact Gives.mk (kSkipT_ok HR.out (by omega)) hu1
      · have hd : (e == 3) = false := by rw [beq_eq_false_iff_ne]; omega
        have HV := Lib.hid (show spanT b b.size = (⟨#[]⟩, 0, e) by rw [HS.out, if_pos he])
        have HE := Lib.hid he; clear he
        go_enter Try.func70, Try.ntmps70
        go_wp2_with fail
        refine (spantake_any b _ _ hb (by omega) (by omega)).mono ?_
        rintro e w1 ⟨rfl, hu1⟩
        rw [HV.out]
        unfold spanV
        go_wp2_with fail
        go_ret2
        exact Gives.mk (kSkipT_bad HR.out HE.out) hu1
    · have e1 : (wire == 1) = false := by rw [beq_eq_false_iff_ne]; exact h1
      have HE := Lib.hid h0; have HF := Lib.hid h1; clear h0 h1
      go_enter Try.func70, Try.ntmps70
      go_wp2_with fail
      go_ret2
      exact Gives.mk (kSkipT_kind HE.out HF.out) (Up.refl _)
end Go.Proofs.Ytpldfoclogkppaa
