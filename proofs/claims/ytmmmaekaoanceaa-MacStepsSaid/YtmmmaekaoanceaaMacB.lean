/- The walks of mac.Table's Knows, Revoke, Issue: what each hands back, and what the table keeps. -/
import Derived.Test.YtmmmaekaoanceaaMacA
import Derived.Test.YtmmmaekaoanceaaTail
import Derived.Test.YtmmmaekaoanceaaTwo
import Derived.Outline
namespace Go.Proofs.Ytmmmaekaoanceaa
open Go Go.RowKit

theorem knows_nil (o e n : Int) (w : World) : Calls Try.prog 30 #[.pointer none, .int .i64 o, .int .i64 e, .int .u64 n] w (fun x w' => x = .returned (.bool false) ∧ w' = w) := by
  go_enter Try.func30, Try.ntmps30
  go_wp2_with fail
  go_ret
  exact ⟨rfl, rfl⟩
set_option maxHeartbeats 800000 in
set_option maxRecDepth 100000 in
theorem knows_any (o e : Int) (n : Nat) (g : Nat) (t : Tab) (w : World) (h : TabAt w g t) : Calls Try.prog 30 #[mptr g, .int .i64 o, .int .i64 e, .int .u64 n] w (fun x w' => x = .returned (.bool (knowsT t o e n)) ∧ w' = w) := by
  unfold mptr
  by_cases hb : ownsB o = true
  · have h0 := of_decide_eq_true hb
    obtain ⟨k, rfl⟩ := Int.eq_ofNat_of_zero_le h0.1
    have hk : k ≤ 8 := by omega
    have c0 := h.b0 hk
    have c1 := h.b1 hk
    have hk' : (k : Int) < 9 := by omega
    have HB := Lib.hid hb
    clear hb h0
    by_cases hn : n = 0
    · have H := Lib.hid (show false = knowsT t k e n from (decide_eq_false (fun h => h.2.2.1 hn)).symm)
      have d1 : ((n : Int) != 0) = false := by rw [bne_eq_false_iff_eq]; omega
      clear hn
      go_enter Try.func30, Try.ntmps30
      go_wp2_with fail
      refine (owns_any _ _).mono ?_
      rintro x w1 ⟨rfl, rfl⟩
      rw [HB.out]
      go_wp2_with fail
      go_ret
      exact ⟨ret_eq (congrArg Value.bool H.out), rfl⟩
    · have d1 : ((n : Int) != 0) = true := by rw [bne_iff_ne]; omega
      by_cases h1 : (t.bs k).1 = e
      · by_cases h2 : (t.bs k).2 = n
        · have H := Lib.hid (show true = knowsT t k e n from (decide_eq_true ⟨by omega, by omega, hn, by rw [Int.toNat_natCast, ← h1, ← h2]⟩).symm)
          rw [h1] at c0; rw [h2] at c1
          clear hn h1 h2
          go_enter Try.func30, Try.ntmps30
          go_wp2_with fail
          refine (owns_any _ _).mono ?_
          rintro x w1 ⟨rfl, rfl⟩
          rw [HB.out]
          go_wp2_with fail
          go_ret
          exact ⟨ret_eq (congrArg Value.bool H.out), rfl⟩
        · have H := Lib.hid (show false = knowsT t k e n from (decide_eq_false (fun h => h2 (by rw [Int.toNat_natCast] at h; exact congrArg Prod.snd h.2.2.2))).symm)
          rw [h1] at c0
          have d2 : (((t.bs k).2 : Int) == (n : Int)) = false := by rw [beq_eq_false_iff_ne]; omega
          clear hn h1 h2
          go_enter Try.func30, Try.ntmps30
          go_wp2_with fail
          refine (owns_any _ _).mono ?_
          rintro x w1 ⟨rfl, rfl⟩
          rw [HB.out]
          go_wp2_with fail
          go_ret
          exact ⟨ret_eq (congrArg Value.bool H.out), rfl⟩
      · have H := Lib.hid (show false = knowsT t k e n from (decide_eq_false (fun h => h1 (by rw [Int.toNat_natCast] at h; exact congrArg Prod.fst h.2.2.2))).symm)
        have d2 : ((t.bs k).1 == e) = false := by rw [beq_eq_false_iff_ne]; exact h1
        clear hn h1
        go_enter Try.func30, Try.ntmps30
        go_wp2_with fail
        refine (owns_any _ _).mono ?_
        rintro x w1 ⟨rfl, rfl⟩
        rw [HB.out]
        go_wp2_with fail
        go_ret
        exact ⟨ret_eq (congrArg Value.bool H.out), rfl⟩
  · have hf : ownsB o = false := by simpa using hb
    have H := Lib.hid (show false = knowsT t o e n from (decide_eq_false (fun h => by have := of_decide_eq_false hf; omega)).symm)
    have HB := Lib.hid hf
    clear hb hf
    go_enter Try.func30, Try.ntmps30
    go_wp2_with fail
    refine (owns_any _ _).mono ?_
    rintro x w1 ⟨rfl, rfl⟩
    rw [HB.out]
    go_wp2_with fail
    go_ret
    exact ⟨ret_eq (congrArg Value.bool H.out), rfl⟩

theorem revoke_nil (o : Int) (w : World) : Calls Try.prog 26 #[.pointer none, .int .i64 o] w (fun x w' => x = .returned (.int .i64 17) ∧ w' = w) := by
  go_enter Try.func26, Try.ntmps26
  go_wp2_with fail
  go_ret
  exact ⟨rfl, rfl⟩
theorem revoke_form (o : Int) (g : Nat) (w : World) (h : ¬ (0 ≤ o ∧ o ≤ 8)) : Calls Try.prog 26 #[mptr g, .int .i64 o] w (fun x w' => x = .returned (.int .i64 1) ∧ w' = w) := by
  have HB := Lib.hid (show ownsB o = false from decide_eq_false h)
  clear h
  unfold mptr
  go_enter Try.func26, Try.ntmps26
  go_wp2_with fail
  refine (owns_any _ _).mono ?_
  rintro x w1 ⟨rfl, rfl⟩
  rw [HB.out]
  go_wp2_with fail
  go_ret
  exact ⟨rfl, rfl⟩
/-- what a revoking answers -/
def revE (t : Tab) (o : Nat) : Int := if t.bs o = (0, 0) then 12 else 0
theorem clear_same (t : Tab) (o : Nat) (h : t.bs o = (0, 0)) : t.clear o = t := by
  unfold Tab.clear
  congr 1
  funext i
  split
  · rename_i h2; rw [h2, h]
  · rfl
set_option maxHeartbeats 800000 in
set_option maxRecDepth 100000 in
theorem revoke_in (o : Nat) (g : Nat) (t : Tab) (w : World) (ho : o ≤ 8) (h : TabAt w g t) : Calls Try.prog 26 #[mptr g, .int .i64 o] w (fun x w' => x = .returned (.int .i64 (revE t o)) ∧ TabAt w' g (t.clear o) ∧ Only g w w') := by
  have HB := Lib.hid (show ownsB o = true from decide_eq_true (by omega))
  have c0 := h.b0 ho
  have c1 := h.b1 ho
  have cf := h.fz
  have ho' : (o : Int) < 9 := by omega
  unfold mptr
  by_cases hz : t.bs o = (0, 0)
  · have HC := Lib.hid (clear_same t o hz)
    have HE := Lib.hid (show (12 : Int) = revE t o by unfold revE; rw [if_pos hz])
    rw [hz] at c0 c1
    clear hz
    go_enter Try.func26, Try.ntmps26
    go_wp2_with fail
    refine (owns_any _ _).mono ?_
    rintro x w1 ⟨rfl, rfl⟩
    rw [HB.out]
    go_wp2_with fail
    go_ret
    exact ⟨ret_eq (congrArg (Value.int .i64) HE.out), by rw [HC.out]; exact h, Only.refl _ _⟩
  · have HE := Lib.hid (show (0 : Int) = revE t o by unfold revE; rw [if_neg hz])
    by_cases h1 : (t.bs o).1 = 0
    · have d2 : (((t.bs o).2 : Int) == 0) = false := by rw [beq_eq_false_iff_ne]; intro h2; exact hz (Prod.ext h1 (by show (t.bs o).2 = 0; omega))
      rw [h1] at c0
      clear hz h1
      go_enter Try.func26, Try.ntmps26
      go_wp2_with fail
      refine (owns_any _ _).mono ?_
      rintro x w1 ⟨rfl, rfl⟩
      rw [HB.out]
      go_wp2_with fail
      go_ret
      exact ⟨ret_eq (congrArg (Value.int .i64) HE.out), h.setB o 0 0 ho, ((Only.refl _ _).set _ _).set _ _⟩
    · have d2 : ((t.bs o).1 == 0) = false := by rw [beq_eq_false_iff_ne]; exact h1
      clear hz h1
      go_enter Try.func26, Try.ntmps26
      go_wp2_with fail
      refine (owns_any _ _).mono ?_
      rintro x w1 ⟨rfl, rfl⟩
      rw [HB.out]
      go_wp2_with fail
      go_ret
      exact ⟨ret_eq (congrArg (Value.int .i64) HE.out), h.setB o 0 0 ho, ((Only.refl _ _).set _ _).set _ _⟩

theorem issue_nil (o : Int) (v : Value) (w : World) : Calls Try.prog 23 #[.pointer none, .int .i64 o, v] w (fun x w' => x = .returned (.tuple #[.int .i64 0, .int .u64 0, .int .i64 17]) ∧ w' = w) := by
  go_enter Try.func23, Try.ntmps23
  go_wp2_with fail
  go_ret3
  exact ⟨rfl, rfl⟩
theorem issue_form (o : Int) (g : Nat) (v : Value) (w : World) (h : ¬ (0 ≤ o ∧ o ≤ 8)) : Calls Try.prog 23 #[mptr g, .int .i64 o, v] w (fun x w' => x = .returned (.tuple #[.int .i64 0, .int .u64 0, .int .i64 1]) ∧ w' = w) := by
  have HB := Lib.hid (show ownsB o = false from decide_eq_false h)
  clear h
  unfold mptr
  go_enter Try.func23, Try.ntmps23
  go_wp2_with fail
  refine (owns_any _ _).mono ?_
  rintro x w1 ⟨rfl, rfl⟩
  rw [HB.out]
  go_wp2_with fail
  go_ret3
  exact ⟨rfl, rfl⟩
theorem issue_none (o : Nat) (g d : Nat) (w : World) (ho : o ≤ 8) (hd : DiceAt w d []) : Calls Try.prog 23 #[mptr g, .int .i64 o, ptr d] w (fun x w' => x = .returned (.tuple #[.int .i64 0, .int .u64 0, .int .i64 17]) ∧ w' = w) := by
  have HB := Lib.hid (show ownsB o = true from decide_eq_true (by omega))
  unfold mptr
  go_enter Try.func23, Try.ntmps23
  go_wp2_with fail
  refine (owns_any _ _).mono ?_
  rintro x w1 ⟨rfl, rfl⟩
  rw [HB.out]
  go_wp2_with fail
  refine (take_empty _ _ hd).mono ?_
  rintro x w2 ⟨rfl, rfl⟩
  go_wp2_with fail
  go_ret3
  exact ⟨rfl, rfl⟩
/-- of the blocks that were there at most g and d have turned -/
structure Two (g d : Nat) (w w' : World) : Prop where
  keep : ∀ (k : Nat) (o : Obj), w.heap[k]? = some o → k ≠ g → k ≠ d → w'.heap[k]? = some o
  up : ∀ w0 : World, w0.heap.size ≤ g → w0.heap.size ≤ d → Up w0 w → Up w0 w'
  size : w.heap.size ≤ w'.heap.size
theorem Two.mk' {g d : Nat} {a b c : World} (h : Only d a b) (k : Only g b c) : Two g d a c :=
  ⟨fun _ _ hk h1 h2 => k.keep (h.keep hk h2) h1, fun _ h1 h2 hu => (hu.only h h2).only k h1, Nat.le_trans h.size k.size⟩
set_option maxHeartbeats 800000 in
set_option maxRecDepth 100000 in
theorem issue_ok (o n : Nat) (g d : Nat) (t : Tab) (q : List Int) (w : World) (ho : o ≤ 8) (hn : n < 18446744073709551616) (h : TabAt w g t) (hd : DiceAt w d ((n : Int) :: q)) (hgd : g ≠ d) (he : t.es o ≤ 1000000) :
    Calls Try.prog 23 #[mptr g, .int .i64 o, ptr d] w (fun x w' => x = .returned (.tuple #[.int .i64 ((t.es o + 1 : Nat) : Int), .int .u64 (tagN n (t.es o + 1) o : Nat), .int .i64 0]) ∧ TabAt w' g (t.issue o n) ∧ DiceAt w' d q ∧ Two g d w w') := by
  have HB := Lib.hid (show ownsB o = true from decide_eq_true (by omega))
  have ho' : (o : Int) < 9 := by omega
  unfold mptr
  go_enter Try.func23, Try.ntmps23
  go_wp2_with fail
  refine (owns_any _ _).mono ?_
  rintro x w1 ⟨rfl, rfl⟩
  rw [HB.out]
  go_wp2_with fail
  refine (take_some _ _ _ _ hd).mono ?_
  rintro x w2 ⟨rfl, hd2, ho2⟩
  have h2 := h.only ho2 hgd
  have c0 := h2.ep ho
  have cf := h2.fz
  have hg2 := h2.lt
  go_wp2_with fail
  refine wp_region_up_tail 10 (by kernel_rfl) (by kernel_rfl) (Up.refl _) ?_
  simp only [List.take_succ_cons, List.take_zero, List.drop_succ_cons, List.drop_zero]
  repeat (go_big_quiet_step (fail))
  refine wpQuiet_nil ?_
  intro w3 hu3
  have h3 := h2.up hu3
  have c3 := h3.ep ho
  have cf3 := h3.fz
  have h4 := h3.setE o (t.es o + 1) ho
  have hM := mixN_lt n (256 * (t.es o + 1) + o)
  have hup3 := ho2.of_up hu3
  have hmix : ∀ w, Calls Try.prog 65 #[.int .u64 n, .int .u64 (((t.es o : Int) + 1) * 256 + o)] w (Gives w (.int .u64 (mixN n (256 * (t.es o + 1) + o) : Nat))) := fun w => by
    have := mix_any n (256 * (t.es o + 1) + o) w hn (by omega)
    rwa [show (((256 * (t.es o + 1) + o : Nat)) : Int) = ((t.es o : Int) + 1) * 256 + o by omega] at this
  have HMIX := Lib.hid hmix
  have HT := Lib.hid (show max ((mixN n (256 * (t.es o + 1) + o) : Nat) : Int) 1 = (tagN n (t.es o + 1) o : Nat) by rw [← tagN_max]; omega)
  generalize mixN n (256 * (t.es o + 1) + o) = m at *
  generalize hT : tagN n (t.es o + 1) o = tag at *
  have HI := Lib.hid (show t.issue o n = ⟨fun i => if i = o then t.es o + 1 else t.es i, fun i => if i = o then (((t.es o + 1 : Nat) : Int), tag) else t.bs i⟩ by unfold Tab.issue; rw [hT])
  have hd3 : DiceAt w3 d q := by
    obtain ⟨cs, f, hb, r⟩ := hd2
    exact ⟨cs, f, hu3.keep hb, r⟩
  have HTT := Lib.hid hT
  have H4 := Lib.hid h4; have HD3 := Lib.hid hd3
  clear c0 cf hmix hT h4 hd3 hd2 h3 h2 h hd hu3 hM
  go_wp2_with fail
  refine (HMIX.out _).mono ?_
  rintro x w4 ⟨rfl, hu4⟩
  have h5 := H4.out.up hu4
  have c5 := h5.b0 ho
  have c6 := h5.b1 ho
  have cf5 := h5.fz
  have hd4 : DiceAt w4 d q := by
    obtain ⟨cs, f, hb, r⟩ := HD3.out
    exact ⟨cs, f, hu4.keep (blk_ne hb (Ne.symm hgd) _), r⟩
  have H5 := Lib.hid h5
  have HD4 := Lib.hid hd4
  clear h5 hd4 cf3 c3
  go_wp2_with fail
  all_goals
    have hcase : tag = m ∨ (tag = 1 ∧ m ≤ 1) := by have := HT.out; omega
    have hT0 := HT.out
    first
      | (obtain rfl : tag = m := by omega
         clear hcase hT0
         go_ret3
         refine ⟨by rw [HTT.out]; rfl, by rw [HI.out]; exact H5.out.setB o _ tag ho, ?_, Two.mk' hup3 (((((Only.refl g w3).set _ _).of_up hu4).set _ _).set _ _)⟩
         obtain ⟨cs, f, hb, r⟩ := HD4.out
         exact ⟨cs, f, blk_ne (blk_ne hb (Ne.symm hgd) _) (Ne.symm hgd) _, r⟩)
      | (obtain rfl : tag = 1 := by omega
         clear hcase hT0
         go_ret3
         refine ⟨by rw [HTT.out]; rfl, by rw [HI.out]; exact H5.out.setB o _ 1 ho, ?_, Two.mk' hup3 (((((Only.refl g w3).set _ _).of_up hu4).set _ _).set _ _)⟩
         obtain ⟨cs, f, hb, r⟩ := HD4.out
         exact ⟨cs, f, blk_ne (blk_ne hb (Ne.symm hgd) _) (Ne.symm hgd) _, r⟩)
end Go.Proofs.Ytmmmaekaoanceaa
