/- 'SpanNone': a reader that is not there takes nothing, and one that no call made has no bytes: the law hands back true. Conditions: none. -/
import Derived.Test.YtpldfoclogkppaaFrame
import Derived.Test.YtpldfoclogkppaaReadB
import Derived.Test.YtpldfoclogkppaaSpanTakes
namespace Go.Proofs.Ytpldfoclogkppaa
open Go Go.RowKit Go.ChangeShapes Go.WideShapes Go.ChangeAt

theorem num_nil (w : World) : Calls Try.prog 67 #[.pointer none] w (Gives w (.int .u64 0)) := by
  go_enter Try.func67, Try.ntmps67
  go_wp2_with fail
  refine (take_num_nil w _).mono ?_
  rintro y w1 ⟨rfl, rfl⟩
  go_wp2_with fail
  go_ret
  exact Gives.mk rfl (Up.refl _)
theorem rest_nil (w : World) : Calls Try.prog 65 #[.pointer none] w (Gives w (.string ⟨#[]⟩)) := by
  go_enter Try.func65, Try.ntmps65
  go_wp2_with fail
  refine (take_str_nil w _).mono ?_
  rintro y w1 ⟨rfl, rfl⟩
  go_wp2_with fail
  go_ret
  exact Gives.mk rfl (Up.refl _)
theorem text_nil (w : World) (most : Int) : Calls Try.prog 63 #[.pointer none, .int .i64 most] w (Gives w (.string ⟨#[]⟩)) := by
  go_enter Try.func63, Try.ntmps63
  go_wp2_with fail
  refine (take_str_nil _ _).mono ?_
  rintro y w1 ⟨rfl, rfl⟩
  go_wp2_with fail
  go_ret
  exact Gives.mk rfl ((Up.refl _).alloc _)
theorem int_nil (w : World) (most : Int) : Calls Try.prog 68 #[.pointer none, .int .i64 most] w (Gives w (.int .i64 0)) := by
  go_enter Try.func68, Try.ntmps68
  go_wp2_with fail
  refine (take_int_nil _ _).mono ?_
  rintro y w1 ⟨rfl, rfl⟩
  go_wp2_with fail
  go_ret
  exact Gives.mk rfl ((Up.refl _).alloc _)
theorem rd_zero (w : World) : Rd (w.alloc (.cells #[.string ⟨#[]⟩, .int .i64 0, .int .i64 0] 89)) w.heap.size ⟨#[]⟩ 0 0 := blk_new _ _

set_option maxHeartbeats 1600000 in
set_option maxRecDepth 100000 in
theorem spanNone_walk (most : Int) (m0 : -9223372036854775808 ≤ most) (m1 : most ≤ 9223372036854775807) (w : World) :
    Calls Try.prog 15 #[.int .i64 most] w (Gives w (.bool true)) := by
  have hz : (⟨#[]⟩ : ByteArray).size ≤ maxLen := Nat.zero_le _
  have hr0 : rest ⟨#[]⟩ 0 = ⟨#[]⟩ := rfl
  have T1 : restS ⟨#[]⟩ 0 0 = (⟨#[]⟩, 0, 0) := by unfold restS; rw [if_neg (by simp), hr0]; rfl
  have T2 : intS ⟨#[]⟩ 0 0 most = (0, 0, 2) := by unfold intS; rw [if_neg (by simp), hr0]; rfl
  have D1 : doneE ⟨#[]⟩ 0 0 = 0 := by decide
  have D2 : doneE ⟨#[]⟩ 0 2 = 2 := by decide
  have HT1 := Lib.hid T1; have HT2 := Lib.hid T2; have HD1 := Lib.hid D1; have HD2 := Lib.hid D2; have HZ := Lib.hid hz
  clear T1 T2 D1 D2 hz hr0
  have hrd := rd_zero w
  go_enter Try.func15, Try.ntmps15
  go_wp2_with fail
  have hu0 : Up w (w.alloc (.cells #[.string ⟨#[]⟩, .int .i64 0, .int .i64 0] 89)) := (Up.refl _).alloc _
  refine (num_nil _).mono ?_
  rintro e w1 ⟨rfl, hu1⟩
  go_wp2_with fail
  refine (int_nil _ _).mono ?_
  rintro e w2 ⟨rfl, hu2⟩
  go_wp2_with fail
  refine (text_nil _ _).mono ?_
  rintro e w3 ⟨rfl, hu3⟩
  go_wp2_with fail
  refine (rest_nil _).mono ?_
  rintro e w4 ⟨rfl, hu4⟩
  go_wp2_with fail
  refine (done_nil _).mono ?_
  rintro e w5 ⟨rfl, rfl⟩
  go_wp2_with fail
  refine (at_nil _).mono ?_
  rintro e w6 ⟨rfl, rfl⟩
  have hup := (((hu0.trans hu1).trans hu2).trans hu3).trans hu4
  have hr6 := (((hrd.up hu1).up hu2).up hu3).up hu4
  go_wp2_with fail
  refine (rest_any _ _ _ _ _ hr6 HZ.out (Nat.le_refl _)).mono ?_
  rintro e w7 ⟨rfl, hr7, ho7⟩
  rw [HT1.out] at hr7 ⊢
  go_wp2_with fail
  refine (done_any _ _ _ _ _ hr7).mono ?_
  rintro e w8 ⟨rfl, hu8⟩
  rw [HD1.out]
  go_wp2_with fail
  refine (int_any _ _ _ _ _ most (hr7.up hu8) HZ.out (Nat.le_refl _) m0 m1).mono ?_
  rintro e w9 ⟨rfl, hr9, ho9⟩
  rw [HT2.out] at hr9 ⊢
  go_wp2_with fail
  refine (done_any _ _ _ _ _ hr9).mono ?_
  rintro e wa ⟨rfl, hua⟩
  rw [HD2.out]
  go_wp2_with fail
  refine (at_any _ _ _ _ _ (hr9.up hua)).mono ?_
  rintro e wb ⟨rfl, rfl⟩
  go_wp2_with fail
  refine (awake02_any _).mono ?_
  rintro e wc ⟨rfl, huc⟩
  go_wp2_with fail
  go_ret
  exact Gives.mk rfl (((((hup.only ho7 (Nat.le_refl _)).trans hu8).only ho9 (Nat.le_refl _)).trans hua).trans huc)

set_option linter.unusedVariables false in
set_option maxRecDepth 100000 in
theorem spanNone_contract (H : Type) (enc : TypeId × Value → H) (W : World) (base : Nat) (args : Array Value) (ds gs : List (DataW H)) (before : List MemPlace)
    (hval : ∀ (j : Nat) t v, Try.f15.params[j]? = some t → args[j]? = some v → Value.okWide Try.prog W .any base t v)
    (hW : DataW.Whole enc Try.prog Try.f15.params.toList Rows.spanNoneSpec.vars false W args.toList ds gs before)
    (hsz : (DataW.weightsEach Try.prog (Try.f15.params.toList ++ (Rows.spanNoneSpec).plain.varTypes Try.prog) (ds ++ gs)).all (· ≤ reachBytes) = true) :
    Calls Try.prog 15 args W fun e W' => ∃ v, e = .returned v ∧ Rows.spanNoneSpec.post enc Try.prog Try.f15 false true false false W args v W' := by
  have hW' := hW
  obtain ⟨p, q, hA0, hV, rfl, hfz, hnd⟩ := hW
  have hA : DataW.TrodAll enc Try.prog W 0 (fun _ => true) true Try.f15.params.toList args.toList ds p := hA0
  rw [Try.params15] at hA hval hsz
  obtain ⟨v0, vs0, d0, ds0, p0, q0, hargs, rfl, rfl, h0, r0⟩ := trodAll_cons hA
  obtain ⟨rfl, rfl, rfl⟩ := trodAll_nil r0
  obtain rfl : args = #[v0] := by cases args; simp_all
  obtain ⟨rfl, rfl⟩ := trodVars_none hV
  clear hA0
  obtain ⟨a0, rfl, rfl, rfl, w0⟩ := open_int Try.underlying3 (hval 0 3 v0 rfl rfl) h0
  have b0 := bounds_i64 w0
  refine (spanNone_walk a0 b0.1 b0.2 W).mono fun e W' ⟨he, hu⟩ => ?_
  subst he
  exact ⟨_, rfl, post_true laidOut (by kernel_rfl) Try.underlying4 rfl rfl hW' rfl hu⟩

theorem spanNone_closed : joinedFacts Try.prog 15 Try.f15 Rows.spanNoneSpec Rows.spanNoneRow = true := by
  unfold joinedFacts
  rw [fact_mayEnter, fact_lifted, fact_make]
  kernel_rfl

set_option maxRecDepth 100000 in
theorem spanNone_lifted (os : Os) (started : os.Started) (H : Type) (enc : TypeId × Value → H) :
    ReturnsInHanded {} Try.checked os 15 .any (Rows.spanNoneSpec.pre6 enc Try.prog Try.f15 Rows.spanNoneRow.domain false) (Rows.spanNoneSpec.post enc Try.prog Try.f15 false true false false) := by
  refine returnsInHanded_of_change_sized (C := Try.checked) own started (by kernel_rfl) Try.func15
    (ChangeSpec.witness6 (enc := enc) (C := Try.checked) false ⟨#[], #[.int .i64 0], []⟩ 8 (by kernel_rfl) (by kernel_rfl) (by kernel_rfl) (by kernel_rfl)) ?_
  intro W base args ds gs before hval hW _ hsz _
  exact spanNone_contract H enc W base args ds gs before hval hW hsz

theorem spanNone_holds : Rows.SpanNoneSaid :=
  OpenClaim.holds_of_wide 15 Try.f15 rfl rfl rfl rfl rfl rfl rfl ⟨rfl, rfl, rfl, rfl, rfl⟩ rfl rfl rfl rfl rfl (by kernel_rfl) Try.func15 spanNone_closed
    (of_decide_eq_true (by kernel_rfl)) (by unfold Func.isWrapper; rw [if_neg (by decide +kernel)]; exact ⟨rfl, rfl⟩)
    (fun os started H enc _ => spanNone_lifted os started H enc)
end Go.Proofs.Ytpldfoclogkppaa
