/- The walks of key.Put, Take, Skip and of the document's: what each hands back. -/
import Derived.Test.YtpldfoclogkppaaSpanA
namespace Go.Proofs.Ytpldfoclogkppaa
open Go Go.RowKit

def tagB (n : Int) : Bool := decide (1 ≤ n ∧ n ≤ 255)
def kindB (n : Int) : Bool := decide (n = 0 ∨ n = 1)
theorem tagged_any (n : Int) (w : World) : Calls Try.prog 91 #[.int .i64 n] w (Gives w (.bool (tagB n))) := by
  by_cases h1 : 1 ≤ n
  · by_cases h2 : n ≤ 255
    · have H := Lib.hid (show true = tagB n by unfold tagB; simp; omega)
      go_enter Try.func91, Try.ntmps91
      go_wp2_with fail
      go_ret
      exact Gives.mk (congrArg Value.bool H.out) (Up.refl _)
    · have H := Lib.hid (show false = tagB n by unfold tagB; simp; omega)
      go_enter Try.func91, Try.ntmps91
      go_wp2_with fail
      go_ret
      exact Gives.mk (congrArg Value.bool H.out) (Up.refl _)
  · have H := Lib.hid (show false = tagB n by unfold tagB; simp; omega)
    go_enter Try.func91, Try.ntmps91
    go_wp2_with fail
    go_ret
    exact Gives.mk (congrArg Value.bool H.out) (Up.refl _)
theorem known_any (n : Int) (w : World) : Calls Try.prog 92 #[.int .i64 n] w (Gives w (.bool (kindB n))) := by
  by_cases h1 : n = 0
  · have H := Lib.hid (show true = kindB n by unfold kindB; simp; omega)
    have e1 : (n == 0) = true := by rw [beq_iff_eq]; exact h1
    clear h1
    go_enter Try.func92, Try.ntmps92
    go_wp2_with fail
    go_ret
    exact Gives.mk (congrArg Value.bool H.out) (Up.refl _)
  · have e1 : (n == 0) = false := by rw [beq_eq_false_iff_ne]; exact h1
    have H := Lib.hid (show (n == 1) = kindB n by
      unfold kindB
      by_cases h2 : n = 1
      · subst h2; decide
      · rw [beq_eq_false_iff_ne.2 h2]; simp [h1, h2])
    clear h1
    go_enter Try.func92, Try.ntmps92
    go_wp2_with fail
    go_ret
    exact Gives.mk (congrArg Value.bool H.out) (Up.refl _)

/-- a key's bytes -/
def kPutT (tag wire : Int) : ByteArray × Int :=
  if ¬ (1 ≤ tag ∧ tag ≤ 255) then (⟨#[]⟩, 9) else if ¬ (wire = 0 ∨ wire = 1) then (⟨#[]⟩, 4) else (S (putL (2 * tag + wire).toNat), 0)
def pairV (r : ByteArray × Int) : Value := .tuple #[.string r.1, .int .i64 r.2]
theorem kPutT_tag {tag wire : Int} (h : ¬ (1 ≤ tag ∧ tag ≤ 255)) : Value.tuple #[.string ⟨#[]⟩, .int .i64 9] = pairV (kPutT tag wire) := by unfold kPutT; rw [if_pos h]; rfl
theorem kPutT_kind {tag wire : Int} (h : 1 ≤ tag ∧ tag ≤ 255) (h2 : ¬ (wire = 0 ∨ wire = 1)) : Value.tuple #[.string ⟨#[]⟩, .int .i64 4] = pairV (kPutT tag wire) := by
  unfold kPutT; rw [if_neg (fun g => g h), if_pos h2]; rfl
theorem kPutT_ok {tag wire : Int} (h : 1 ≤ tag ∧ tag ≤ 255) (h2 : wire = 0 ∨ wire = 1) : Value.tuple #[.string (S (putL (2 * tag + wire).toNat)), .int .i64 0] = pairV (kPutT tag wire) := by
  unfold kPutT; rw [if_neg (fun g => g h), if_neg (fun g => g h2)]; rfl

theorem keyput_any (tag wire : Int) (w : World) : Calls Try.prog 58 #[.int .i64 tag, .int .i64 wire] w (Gives w (pairV (kPutT tag wire))) := by
  by_cases h1 : 1 ≤ tag ∧ tag ≤ 255
  · have d1 : tagB tag = true := decide_eq_true h1
    by_cases h2 : wire = 0 ∨ wire = 1
    · have d2 : kindB wire = true := decide_eq_true h2
      have H := Lib.hid (kPutT_ok h1 h2)
      have hb : 0 ≤ wire ∧ wire ≤ 1 := by omega
      obtain ⟨g0, g1⟩ := hb
      obtain ⟨g2, g3⟩ := h1
      have D1 := Lib.hid d1; have D2 := Lib.hid d2
      clear d1 d2 h2
      go_enter Try.func58, Try.ntmps58
      go_wp2_with fail
      refine (tagged_any _ _).mono ?_
      rintro e w1 ⟨rfl, hu1⟩
      rw [D1.out]
      go_wp2_with fail
      refine (known_any _ _).mono ?_
      rintro e w2 ⟨rfl, hu2⟩
      rw [D2.out]
      go_wp2_with fail
      refine (varput_any _ _ (by omega) (by omega)).mono ?_
      rintro e w3 ⟨rfl, hu3⟩
      go_wp2_with fail
      go_ret2
      exact Gives.mk H.out ((hu1.trans hu2).trans hu3)
    · have d2 : kindB wire = false := decide_eq_false h2
      have H := Lib.hid (kPutT_kind h1 h2)
      have D1 := Lib.hid d1; have D2 := Lib.hid d2
      clear d1 d2 h1 h2
      go_enter Try.func58, Try.ntmps58
      go_wp2_with fail
      refine (tagged_any _ _).mono ?_
      rintro e w1 ⟨rfl, hu1⟩
      rw [D1.out]
      go_wp2_with fail
      refine (known_any _ _).mono ?_
      rintro e w2 ⟨rfl, hu2⟩
      rw [D2.out]
      go_wp2_with fail
      go_ret2
      exact Gives.mk H.out (hu1.trans hu2)
  · have d1 : tagB tag = false := decide_eq_false h1
    have H := Lib.hid (kPutT_tag (wire := wire) h1)
    have D1 := Lib.hid d1
    clear d1 h1
    go_enter Try.func58, Try.ntmps58
    go_wp2_with fail
    refine (tagged_any _ _).mono ?_
    rintro e w1 ⟨rfl, hu1⟩
    rw [D1.out]
    go_wp2_with fail
    go_ret2
    exact Gives.mk H.out hu1

theorem refkeyput_any (tag wire : Int) (w : World) : Calls Try.prog 59 #[.int .i64 tag, .int .i64 wire] w (Gives w (pairV (kPutT tag wire))) := by
  by_cases h1 : 1 ≤ tag ∧ tag ≤ 255
  · by_cases h2 : wire = 0 ∨ wire = 1
    · have H := Lib.hid (kPutT_ok h1 h2)
      obtain ⟨g2, g3⟩ := h1
      rcases h2 with rfl | rfl
      all_goals
        go_enter Try.func59, Try.ntmps59
        go_wp2_with fail
        refine (refput_any _ _ _ (Nat.le_refl _) (by omega) (by omega)).mono ?_
        rintro e w3 ⟨rfl, hu3⟩
        go_wp2_with fail
        go_ret2
        first | exact Gives.mk H.out hu3 | exact Gives.mk (by have := H.out; simpa using this) hu3
    · have H := Lib.hid (kPutT_kind h1 h2)
      have e1 : (wire != 0) = true := by rw [bne_iff_ne]; omega
      have e2 : (wire != 1) = true := by rw [bne_iff_ne]; omega
      obtain ⟨g2, g3⟩ := h1
      clear h2
      go_enter Try.func59, Try.ntmps59
      go_wp2_with fail
      go_ret2
      exact Gives.mk H.out (Up.refl _)
  · have H := Lib.hid (kPutT_tag (wire := wire) h1)
    by_cases h3 : 1 ≤ tag
    · have h4 : 255 < tag := by omega
      clear h1
      go_enter Try.func59, Try.ntmps59
      go_wp2_with fail
      go_ret2
      exact Gives.mk H.out (Up.refl _)
    · clear h1
      go_enter Try.func59, Try.ntmps59
      go_wp2_with fail
      go_ret2
      exact Gives.mk H.out (Up.refl _)

/-- the key with which bytes begin -/
def kTakeT (b : ByteArray) : Nat × Nat × Nat × Int :=
  if (takeL b.data.toList).2.2 ≠ 0 then (0, 0, 0, (takeL b.data.toList).2.2)
  else if (takeL b.data.toList).1 < 2 ∨ 511 < (takeL b.data.toList).1 then (0, 0, 0, 9)
  else ((takeL b.data.toList).1 / 2, (takeL b.data.toList).1 % 2, (takeL b.data.toList).2.1, 0)
def keyV (r : Nat × Nat × Nat × Int) : Value := .tuple #[.int .i64 (r.1 : Nat), .int .i64 (r.2.1 : Nat), .int .i64 (r.2.2.1 : Nat), .int .i64 r.2.2.2]
theorem kTakeT_bad {b : ByteArray} {n k : Nat} {e : Int} (h : takeL b.data.toList = (n, k, e)) (he : e ≠ 0) : Value.tuple #[.int .i64 0, .int .i64 0, .int .i64 0, .int .i64 e] = keyV (kTakeT b) := by
  unfold kTakeT; rw [h, if_pos he]; rfl
theorem kTakeT_tag {b : ByteArray} {n k : Nat} (h : takeL b.data.toList = (n, k, 0)) (hn : n < 2 ∨ 511 < n) : Value.tuple #[.int .i64 0, .int .i64 0, .int .i64 0, .int .i64 9] = keyV (kTakeT b) := by
  unfold kTakeT; rw [h, if_neg (by simp), if_pos hn]; rfl
theorem kTakeT_ok {b : ByteArray} {n k : Nat} {x y : Int} (h : takeL b.data.toList = (n, k, 0)) (hn : ¬ (n < 2 ∨ 511 < n)) (hx : x = (n / 2 : Nat)) (hy : y = (n % 2 : Nat)) : Value.tuple #[.int .i64 x, .int .i64 y, .int .i64 k, .int .i64 0] = keyV (kTakeT b) := by
  unfold kTakeT; rw [h, if_neg (by simp), if_neg hn, hx, hy]; rfl

set_option maxHeartbeats 800000 in
set_option maxRecDepth 100000 in
theorem keytake_any (b : ByteArray) (w : World) (hb : b.size ≤ maxLen) : Calls Try.prog 60 #[.string b] w (Gives w (keyV (kTakeT b))) := by
  have hd := takeL_bd b.data.toList
  have hs2 := takeL_small b.data.toList
  obtain ⟨⟨n, k, e⟩, hr⟩ : ∃ r, takeL b.data.toList = r := ⟨_, rfl⟩
  rw [hr] at hd hs2
  have HR := Lib.hid hr; clear hr
  simp only at hd hs2
  obtain ⟨hb0, hb1, hb2, hb3⟩ := hd
  by_cases he : e = 0
  · subst he
    by_cases h1 : 511 < n
    · have H := Lib.hid (kTakeT_tag HR.out (.inr h1))
      go_enter Try.func60, Try.ntmps60
      go_wp2_with fail
      refine (vartake_any b _ hb).mono ?_
      rintro e w1 ⟨rfl, hu1⟩
      rw [HR.out]
      unfold takeV
      go_wp2_with fail
      refine bodyPost_ret (results_tmp4 rfl _ _ _) rfl ?_
      exact Gives.mk H.out hu1
    · by_cases h2 : n < 2
      · have H := Lib.hid (kTakeT_tag HR.out (.inl h2))
        have e1 : ((n : Int) / 2 == 0) = true := by rw [beq_iff_eq]; omega
        go_enter Try.func60, Try.ntmps60
        go_wp2_with fail
        refine (vartake_any b _ hb).mono ?_
        rintro e w1 ⟨rfl, hu1⟩
        rw [HR.out]
        unfold takeV
        go_wp2_with fail
        refine bodyPost_ret (results_tmp4 rfl _ _ _) rfl ?_
        exact Gives.mk H.out hu1
      · have H := Lib.hid (kTakeT_ok (x := (n : Int) / 2) (y := (n : Int) % 2) HR.out (by omega) (by omega) (by omega))
        have e1 : ((n : Int) / 2 == 0) = false := by rw [beq_eq_false_iff_ne]; omega
        go_enter Try.func60, Try.ntmps60
        go_wp2_with fail
        refine (vartake_any b _ hb).mono ?_
        rintro e w1 ⟨rfl, hu1⟩
        rw [HR.out]
        unfold takeV
        go_wp2_with fail
        refine bodyPost_ret (results_tmp4 rfl _ _ _) rfl ?_
        exact Gives.mk H.out hu1
  · have hd : (e != 0) = true := by rw [bne_iff_ne]; exact he
    have H := Lib.hid (kTakeT_bad HR.out he); clear he
    go_enter Try.func60, Try.ntmps60
    go_wp2_with fail
    refine (vartake_any b _ hb).mono ?_
    rintro e w1 ⟨rfl, hu1⟩
    rw [HR.out]
    unfold takeV
    go_wp2_with fail
    refine bodyPost_ret (results_tmp4 rfl _ _ _) rfl ?_
    exact Gives.mk H.out hu1

set_option maxHeartbeats 800000 in
set_option maxRecDepth 100000 in
theorem refkeytake_any (b : ByteArray) (w : World) (hb : b.size ≤ maxLen) : Calls Try.prog 61 #[.string b] w (Gives w (keyV (kTakeT b))) := by
  have hd := takeL_bd b.data.toList
  have hs2 := takeL_small b.data.toList
  obtain ⟨⟨n, k, e⟩, hr⟩ : ∃ r, takeL b.data.toList = r := ⟨_, rfl⟩
  rw [hr] at hd hs2
  have HR := Lib.hid hr; clear hr
  simp only at hd hs2
  obtain ⟨hb0, hb1, hb2, hb3⟩ := hd
  by_cases he : e = 0
  · subst he
    by_cases h1 : 511 < n
    · have H := Lib.hid (kTakeT_tag HR.out (.inr h1))
      go_enter Try.func61, Try.ntmps61
      go_wp2_with fail
      refine (reftake_any b _ hb).mono ?_
      rintro e w1 ⟨rfl, hu1⟩
      rw [HR.out]
      unfold takeV
      go_wp2_with fail
      refine bodyPost_ret (results_tmp4 rfl _ _ _) rfl ?_
      exact Gives.mk H.out hu1
    · by_cases h2 : n < 2
      · have H := Lib.hid (kTakeT_tag HR.out (.inl h2))
        go_enter Try.func61, Try.ntmps61
        go_wp2_with fail
        refine (reftake_any b _ hb).mono ?_
        rintro e w1 ⟨rfl, hu1⟩
        rw [HR.out]
        unfold takeV
        go_wp2_with fail
        refine bodyPost_ret (results_tmp4 rfl _ _ _) rfl ?_
        exact Gives.mk H.out hu1
      · have H := Lib.hid (kTakeT_ok (x := (n : Int) / 2) (y := (n : Int) % 2) HR.out (by omega) (by omega) (by omega))
        go_enter Try.func61, Try.ntmps61
        go_wp2_with fail
        refine (reftake_any b _ hb).mono ?_
        rintro e w1 ⟨rfl, hu1⟩
        rw [HR.out]
        unfold takeV
        go_wp2_with fail
        refine bodyPost_ret (results_tmp4 rfl _ _ _) rfl ?_
        exact Gives.mk H.out hu1
  · have hd : (e != 0) = true := by rw [bne_iff_ne]; exact he
    have H := Lib.hid (kTakeT_bad HR.out he); clear he
    go_enter Try.func61, Try.ntmps61
    go_wp2_with fail
    refine (reftake_any b _ hb).mono ?_
    rintro e w1 ⟨rfl, hu1⟩
    rw [HR.out]
    unfold takeV
    go_wp2_with fail
    refine bodyPost_ret (results_tmp4 rfl _ _ _) rfl ?_
    exact Gives.mk H.out hu1
end Go.Proofs.Ytpldfoclogkppaa
