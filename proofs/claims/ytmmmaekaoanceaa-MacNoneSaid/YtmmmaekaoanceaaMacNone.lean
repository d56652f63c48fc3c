/- 'MacNone': a table that is not there knows nothing, and issues nothing: the law hands back true. Conditions: none. -/
import Derived.Test.YtmmmaekaoanceaaFrame
import Derived.Test.YtmmmaekaoanceaaMacE
namespace Go.Proofs.Ytmmmaekaoanceaa
open Go Go.RowKit Go.ChangeShapes Go.WideShapes Go.ChangeAt
open Go.ChangeMaps (open_string shut_string)

set_option maxHeartbeats 1600000 in
set_option maxRecDepth 100000 in
theorem macNone_walk (o : Int) (_ : -9223372036854775808 ≤ o) (_ : o ≤ 9223372036854775807) (e : Int) (_ : -9223372036854775808 ≤ e) (_ : e ≤ 9223372036854775807) (n : Int) (h0 : 0 ≤ n) (h1 : n ≤ 18446744073709551615) (w : World) :
    Calls Try.prog 5 #[.int .i64 o, .int .i64 e, .int .u64 n] w (Gives w (.bool true)) := by
  obtain ⟨m, rfl⟩ := Int.eq_ofNat_of_zero_le h0
  have K := Lib.hid (none_knows o e m)
  go_enter Try.func5, Try.ntmps5
  go_wp2_with fail
  refine (new_any _).mono ?_
  rintro x w1 ⟨d, rfl, hd, hD, hu1⟩
  go_wp2_with fail
  refine (put_room _ _ _ _ hD (by decide)).mono ?_
  rintro x w2 ⟨rfl, hD2, ho2⟩
  go_wp2_with fail
  refine (issue_nil _ _ _).mono ?_
  rintro x w3 ⟨rfl, rfl⟩
  go_wp2_with fail
  refine (left_any _ _ _ hD2).mono ?_
  rintro x w4 ⟨rfl, rfl⟩
  go_wp2_with fail
  refine (revoke_nil _ _).mono ?_
  rintro x w5 ⟨rfl, rfl⟩
  go_wp2_with fail
  refine (knows_nil _ _ _ _).mono ?_
  rintro x w6 ⟨rfl, rfl⟩
  go_wp2_with fail
  refine (epoch_nil _ _).mono ?_
  rintro x w7 ⟨rfl, rfl⟩
  go_wp2_with fail
  refine (macnew_any _).mono ?_
  rintro x w8 ⟨g, rfl, hg, hT, hu8⟩
  go_wp2_with fail
  refine (knows_any o e m _ _ _ hT).mono ?_
  rintro x w9 ⟨rfl, rfl⟩
  rw [K.out]
  go_wp2_with fail
  refine (awake21_any _).mono ?_
  rintro x w10 ⟨rfl, hu10⟩
  go_wp2_with fail
  go_ret
  exact Gives.mk rfl ((((hu1.only ho2 hd)).trans hu8).trans hu10)

set_option linter.unusedVariables false in
set_option maxRecDepth 100000 in
theorem macNone_contract (H : Type) (enc : TypeId × Value → H) (W : World) (base : Nat) (args : Array Value) (ds gs : List (DataW H)) (before : List MemPlace)
    (hval : ∀ (j : Nat) t v, Try.f5.params[j]? = some t → args[j]? = some v → Value.okWide Try.prog W .any base t v)
    (hW : DataW.Whole enc Try.prog Try.f5.params.toList Rows.macNoneSpec.vars false W args.toList ds gs before)
    (hsz : (DataW.weightsEach Try.prog (Try.f5.params.toList ++ (Rows.macNoneSpec).plain.varTypes Try.prog) (ds ++ gs)).all (· ≤ reachBytes) = true) :
    Calls Try.prog 5 args W fun e W' => ∃ v, e = .returned v ∧ Rows.macNoneSpec.post enc Try.prog Try.f5 false true false false W args v W' := by
  have hW' := hW
  obtain ⟨p, q, hA0, hV, rfl, hfz, hnd⟩ := hW
  have hA : DataW.TrodAll enc Try.prog W 0 (fun _ => true) true Try.f5.params.toList args.toList ds p := hA0
  rw [Try.params5] at hA hval hsz
  obtain ⟨v0, vs0, d0, ds0, p0, q0, hargs, rfl, rfl, h0, r0⟩ := trodAll_cons hA
  obtain ⟨v1, vs1, d1, ds1, p1, q1, rfl, rfl, rfl, h1, r1⟩ := trodAll_cons r0
  obtain ⟨v2, vs2, d2, ds2, p2, q2, rfl, rfl, rfl, h2, r2⟩ := trodAll_cons r1
  obtain ⟨rfl, rfl, rfl⟩ := trodAll_nil r2
  obtain rfl : args = #[v0, v1, v2] := by cases args; simp_all
  obtain ⟨rfl, rfl⟩ := trodVars_none hV
  clear hA0
  obtain ⟨a0, rfl, rfl, rfl, w0⟩ := open_int Try.underlying3 (hval 0 3 v0 rfl rfl) h0
  have b0 := bounds_i64 w0
  obtain ⟨a1, rfl, rfl, rfl, w1⟩ := open_int Try.underlying3 (hval 1 3 v1 rfl rfl) h1
  have b1 := bounds_i64 w1
  obtain ⟨a2, rfl, rfl, rfl, w2⟩ := open_int Try.underlying29 (hval 2 29 v2 rfl rfl) h2
  have b2 := bounds_u64 w2
  refine (macNone_walk a0 b0.1 b0.2 a1 b1.1 b1.2 a2 b2.1 b2.2 W).mono fun e W' ⟨he, hu⟩ => ?_
  subst he
  exact ⟨_, rfl, post_true laidOut (by kernel_rfl) Try.underlying4 rfl rfl hW' rfl hu⟩

theorem macNone_closed : joinedFacts Try.prog 5 Try.f5 Rows.macNoneSpec Rows.macNoneRow = true := by
  unfold joinedFacts
  rw [fact_mayEnter, fact_lifted, fact_make]
  kernel_rfl

set_option maxRecDepth 100000 in
theorem macNone_lifted (os : Os) (started : os.Started) (H : Type) (enc : TypeId × Value → H) :
    ReturnsInHanded {} Try.checked os 5 .any (Rows.macNoneSpec.pre6 enc Try.prog Try.f5 Rows.macNoneRow.domain false) (Rows.macNoneSpec.post enc Try.prog Try.f5 false true false false) := by
  refine returnsInHanded_of_change_sized (C := Try.checked) own started (by kernel_rfl) Try.func5
    (ChangeSpec.witness6 (enc := enc) (C := Try.checked) false ⟨#[], #[.int .i64 0, .int .i64 0, .int .u64 0], []⟩ 8 (by kernel_rfl) (by kernel_rfl) (by kernel_rfl) (by kernel_rfl)) ?_
  intro W base args ds gs before hval hW _ hsz _
  exact macNone_contract H enc W base args ds gs before hval hW hsz

theorem macNone_holds : Rows.MacNoneSaid :=
  OpenClaim.holds_of_wide 5 Try.f5 rfl rfl rfl rfl rfl rfl rfl ⟨rfl, rfl, rfl, rfl, rfl⟩ rfl rfl rfl rfl rfl (by kernel_rfl) Try.func5 macNone_closed
    (of_decide_eq_true (by kernel_rfl)) (by unfold Func.isWrapper; rw [if_neg (by decide +kernel)]; exact ⟨rfl, rfl⟩)
    (fun os started H enc _ => macNone_lifted os started H enc)
end Go.Proofs.Ytmmmaekaoanceaa
