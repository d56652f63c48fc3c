/- 'SpanTakes': whatever text, bytes and bound: span.Put and span.Take give what the document's give, so the law hands back true. Conditions: none. -/
import Derived.Test.YtpldfoclogkppaaFrame
import Derived.Test.YtpldfoclogkppaaSpanA
namespace Go.Proofs.Ytpldfoclogkppaa
open Go Go.RowKit Go.ChangeShapes Go.WideShapes Go.ChangeAt
open Go.ChangeMaps (open_string shut_string)

theorem awake02_any (w : World) : Calls Try.prog 57 #[] w (Gives w (.bool true)) := by
  have h : ((S (spanL ⟨#[97, 98]⟩)).toList == [2, 97, 98]) = true := by
    rw [S_toList, spanL, show (⟨#[97, 98]⟩ : ByteArray).size = 2 from rfl, putL_small (by decide)]; decide
  go_enter Try.func57, Try.ntmps57
  go_wp2_with fail
  refine (spanput_any _ _ (by decide)).mono ?_
  rintro e w1 ⟨rfl, hu⟩
  go_wp2_with fail
  go_ret
  exact Gives.mk rfl hu

theorem spanT_bd (b : ByteArray) (most : Int) : 0 ≤ (spanT b most).2.2 ∧ (spanT b most).2.2 ≤ 3 ∧ (spanT b most).2.1 ≤ b.size ∧ (spanT b most).1.size ≤ b.size := by
  have := intT_bd b most
  unfold spanT
  split
  · exact ⟨by show 0 ≤ (intT b most).2.2; omega, by show (intT b most).2.2 ≤ 3; omega, by show 0 ≤ b.size; omega, by show 0 ≤ b.size; omega⟩
  · split
    · exact ⟨by show (0 : Int) ≤ 2; omega, by show (2 : Int) ≤ 3; omega, by show 0 ≤ b.size; omega, by show 0 ≤ b.size; omega⟩
    · rename_i h
      simp only [ByteArray.size_extract]
      omega

set_option maxHeartbeats 800000 in
set_option maxRecDepth 100000 in
theorem spanTakes_walk (s : ByteArray) (hs : s.size ≤ 140737488351232) (b : ByteArray) (hb : b.size ≤ 140737488351232) (most : Int) (m0 : -9223372036854775808 ≤ most) (m1 : most ≤ 9223372036854775807) (w : World) :
    Calls Try.prog 11 #[.string s, .string b, .int .i64 most] w (Gives w (.bool true)) := by
  have hbm : b.size ≤ maxLen := by unfold maxLen; omega
  have hd := spanT_bd b most
  obtain ⟨⟨t, k, e⟩, hr⟩ : ∃ r, spanT b most = r := ⟨_, rfl⟩
  rw [hr] at hd
  have HR := Lib.hid hr; clear hr
  simp only at hd
  obtain ⟨hb0, hb1, hb2, hb3⟩ := hd
  go_enter Try.func11, Try.ntmps11
  go_wp2_with fail
  refine (spantake_any b most _ hbm m0 m1).mono ?_
  rintro e w1 ⟨rfl, hu1⟩
  rw [HR.out]
  unfold spanV
  go_wp2_with fail
  refine (refspantake_any b most _ hbm m0 m1).mono ?_
  rintro e w2 ⟨rfl, hu2⟩
  rw [HR.out]
  unfold spanV
  go_wp2_with fail
  refine (spanput_any _ _ hs).mono ?_
  rintro e w3 ⟨rfl, hu3⟩
  go_wp2_with fail
  refine (refspanput_any _ _ hs).mono ?_
  rintro e w4 ⟨rfl, hu4⟩
  go_wp2_with fail
  refine (awake02_any _).mono ?_
  rintro e w5 ⟨rfl, hu5⟩
  go_wp2_with fail
  go_ret
  exact Gives.mk rfl ((((hu1.trans hu2).trans hu3).trans hu4).trans hu5)

set_option linter.unusedVariables false in
set_option maxRecDepth 100000 in
theorem spanTakes_contract (H : Type) (enc : TypeId × Value → H) (W : World) (base : Nat) (args : Array Value) (ds gs : List (DataW H)) (before : List MemPlace)
    (hval : ∀ (j : Nat) t v, Try.f11.params[j]? = some t → args[j]? = some v → Value.okWide Try.prog W .any base t v)
    (hW : DataW.Whole enc Try.prog Try.f11.params.toList Rows.spanTakesSpec.vars false W args.toList ds gs before)
    (hsz : (DataW.weightsEach Try.prog (Try.f11.params.toList ++ (Rows.spanTakesSpec).plain.varTypes Try.prog) (ds ++ gs)).all (· ≤ reachBytes) = true) :
    Calls Try.prog 11 args W fun e W' => ∃ v, e = .returned v ∧ Rows.spanTakesSpec.post enc Try.prog Try.f11 false true false false W args v W' := by
  have hW' := hW
  obtain ⟨p, q, hA0, hV, rfl, hfz, hnd⟩ := hW
  have hA : DataW.TrodAll enc Try.prog W 0 (fun _ => true) true Try.f11.params.toList args.toList ds p := hA0
  rw [Try.params11] at hA hval hsz
  obtain ⟨v0, vs0, d0, ds0, p0, q0, hargs, rfl, rfl, h0, r0⟩ := trodAll_cons hA
  obtain ⟨v1, vs1, d1, ds1, p1, q1, rfl, rfl, rfl, h1, r1⟩ := trodAll_cons r0
  obtain ⟨v2, vs2, d2, ds2, p2, q2, rfl, rfl, rfl, h2, r2⟩ := trodAll_cons r1
  obtain ⟨rfl, rfl, rfl⟩ := trodAll_nil r2
  obtain rfl : args = #[v0, v1, v2] := by cases args; simp_all
  obtain ⟨rfl, rfl⟩ := trodVars_none hV
  clear hA0
  obtain ⟨a0, rfl, rfl, rfl, w0⟩ := open_string Try.underlying9 (hval 0 9 v0 rfl rfl) h0
  obtain ⟨a1, rfl, rfl, rfl, w1⟩ := open_string Try.underlying9 (hval 1 9 v1 rfl rfl) h1
  obtain ⟨a2, rfl, rfl, rfl, w2⟩ := open_int Try.underlying3 (hval 2 3 v2 rfl rfl) h2
  have b2 := bounds_i64 w2
  have z0 : a0.size ≤ 140737488351232 := by have := sized_string hsz (j := 0) (t := 9) rfl rfl; simpa [reachBytes] using this
  have z1 : a1.size ≤ 140737488351232 := by have := sized_string hsz (j := 1) (t := 9) rfl rfl; simpa [reachBytes] using this
  refine (spanTakes_walk a0 z0 a1 z1 a2 b2.1 b2.2 W).mono fun e W' ⟨he, hu⟩ => ?_
  subst he
  exact ⟨_, rfl, post_true laidOut (by kernel_rfl) Try.underlying4 rfl rfl hW' rfl hu⟩

theorem spanTakes_closed : joinedFacts Try.prog 11 Try.f11 Rows.spanTakesSpec Rows.spanTakesRow = true := by
  unfold joinedFacts
  rw [fact_mayEnter, fact_lifted, fact_make]
  kernel_rfl

set_option maxRecDepth 100000 in
theorem spanTakes_lifted (os : Os) (started : os.Started) (H : Type) (enc : TypeId × Value → H) :
    ReturnsInHanded {} Try.checked os 11 .any (Rows.spanTakesSpec.pre6 enc Try.prog Try.f11 Rows.spanTakesRow.domain false) (Rows.spanTakesSpec.post enc Try.prog Try.f11 false true false false) := by
  refine returnsInHanded_of_change_sized (C := Try.checked) own started (by kernel_rfl) Try.func11
    (ChangeSpec.witness6 (enc := enc) (C := Try.checked) false ⟨#[], #[.string ⟨#[]⟩, .string ⟨#[]⟩, .int .i64 0], []⟩ 8 (by kernel_rfl) (by kernel_rfl) (by kernel_rfl) (by kernel_rfl)) ?_
  intro W base args ds gs before hval hW _ hsz _
  exact spanTakes_contract H enc W base args ds gs before hval hW hsz

theorem spanTakes_holds : Rows.SpanTakesSaid :=
  OpenClaim.holds_of_wide 11 Try.f11 rfl rfl rfl rfl rfl rfl rfl ⟨rfl, rfl, rfl, rfl, rfl⟩ rfl rfl rfl rfl rfl (by kernel_rfl) Try.func11 spanTakes_closed
    (of_decide_eq_true (by kernel_rfl)) (by unfold Func.isWrapper; rw [if_neg (by decide +kernel)]; exact ⟨rfl, rfl⟩)
    (fun os started H enc _ => spanTakes_lifted os started H enc)
end Go.Proofs.Ytpldfoclogkppaa
