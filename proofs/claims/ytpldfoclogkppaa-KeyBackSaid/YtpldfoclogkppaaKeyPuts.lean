/- 'KeyPuts': whatever tag, wire, bytes: key.Put and key.Take give what the document's give, so the law hands back true. Conditions: none. -/
import Derived.Test.YtpldfoclogkppaaFrame
import Derived.Test.YtpldfoclogkppaaKeyA
namespace Go.Proofs.Ytpldfoclogkppaa
open Go Go.RowKit Go.ChangeShapes Go.WideShapes Go.ChangeAt
open Go.ChangeMaps (open_string shut_string)

theorem awake04_any (w : World) : Calls Try.prog 50 #[] w (Gives w (.bool true)) := by
  have h : kPutT 1 1 = (S [3], 0) := by
    unfold kPutT; rw [if_neg (by decide), if_neg (by decide), putL_small (by decide)]; rfl
  have h2 : ((S [3]).toList == [3]) = true := by rw [S_toList]; decide
  go_enter Try.func50, Try.ntmps50
  go_wp2_with fail
  refine (keyput_any _ _ _).mono ?_
  rintro e w1 ⟨rfl, hu⟩
  rw [h]
  unfold pairV
  go_wp2_with fail
  go_ret
  exact Gives.mk rfl hu

theorem kTakeT_bd (b : ByteArray) : 0 ≤ (kTakeT b).2.2.2 ∧ (kTakeT b).2.2.2 ≤ 9 ∧ (kTakeT b).1 ≤ 255 ∧ (kTakeT b).2.1 ≤ 1 ∧ (kTakeT b).2.2.1 ≤ b.size ∧ (kTakeT b).2.2.1 ≤ 10 := by
  have := takeL_bd b.data.toList
  have hs : b.data.toList.length = b.size := by simp
  unfold kTakeT
  split
  · simp; omega
  · split
    · simp
    · simp only; omega
theorem kPutT_bd (tag wire : Int) : 0 ≤ (kPutT tag wire).2 ∧ (kPutT tag wire).2 ≤ 9 ∧ (kPutT tag wire).1.size ≤ 10 := by
  unfold kPutT
  split
  · exact ⟨by show (0 : Int) ≤ 9; omega, by show (9 : Int) ≤ 9; omega, by show 0 ≤ 10; omega⟩
  · split
    · exact ⟨by show (0 : Int) ≤ 4; omega, by show (4 : Int) ≤ 9; omega, by show 0 ≤ 10; omega⟩
    · exact ⟨by show (0 : Int) ≤ 0; omega, by show (0 : Int) ≤ 9; omega, by rw [S_size]; exact putL_ten (by omega)⟩

set_option maxHeartbeats 800000 in
set_option maxRecDepth 100000 in
theorem keyPuts_walk (tag : Int) (_ : -9223372036854775808 ≤ tag) (_ : tag ≤ 9223372036854775807) (wire : Int) (_ : -9223372036854775808 ≤ wire) (_ : wire ≤ 9223372036854775807) (b : ByteArray) (hb : b.size ≤ maxLen) (w : World) :
    Calls Try.prog 13 #[.int .i64 tag, .int .i64 wire, .string b] w (Gives w (.bool true)) := by
  obtain ⟨⟨t, k, j, e⟩, hr⟩ : ∃ r, kTakeT b = r := ⟨_, rfl⟩
  obtain ⟨⟨s, f⟩, hp⟩ : ∃ r, kPutT tag wire = r := ⟨_, rfl⟩
  have HR := Lib.hid hr; clear hr
  have HP := Lib.hid hp; clear hp
  go_enter Try.func13, Try.ntmps13
  go_wp2_with fail
  refine (keyput_any _ _ _).mono ?_
  rintro e w1 ⟨rfl, hu1⟩
  rw [HP.out]
  unfold pairV
  go_wp2_with fail
  refine (refkeyput_any _ _ _).mono ?_
  rintro e w2 ⟨rfl, hu2⟩
  rw [HP.out]
  unfold pairV
  go_wp2_with fail
  refine (keytake_any _ _ hb).mono ?_
  rintro e w3 ⟨rfl, hu3⟩
  rw [HR.out]
  unfold keyV
  go_wp2_with fail
  refine (refkeytake_any _ _ hb).mono ?_
  rintro e w4 ⟨rfl, hu4⟩
  rw [HR.out]
  unfold keyV
  go_wp2_with fail
  refine (awake04_any _).mono ?_
  rintro e w5 ⟨rfl, hu5⟩
  go_wp2_with fail
  go_ret
  exact Gives.mk rfl ((((hu1.trans hu2).trans hu3).trans hu4).trans hu5)

set_option linter.unusedVariables false in
set_option maxRecDepth 100000 in
theorem keyPuts_contract (H : Type) (enc : TypeId × Value → H) (W : World) (base : Nat) (args : Array Value) (ds gs : List (DataW H)) (before : List MemPlace)
    (hval : ∀ (j : Nat) t v, Try.f13.params[j]? = some t → args[j]? = some v → Value.okWide Try.prog W .any base t v)
    (hW : DataW.Whole enc Try.prog Try.f13.params.toList Rows.keyPutsSpec.vars false W args.toList ds gs before)
    (hsz : (DataW.weightsEach Try.prog (Try.f13.params.toList ++ (Rows.keyPutsSpec).plain.varTypes Try.prog) (ds ++ gs)).all (· ≤ reachBytes) = true) :
    Calls Try.prog 13 args W fun e W' => ∃ v, e = .returned v ∧ Rows.keyPutsSpec.post enc Try.prog Try.f13 false true false false W args v W' := by
  have hW' := hW
  obtain ⟨p, q, hA0, hV, rfl, hfz, hnd⟩ := hW
  have hA : DataW.TrodAll enc Try.prog W 0 (fun _ => true) true Try.f13.params.toList args.toList ds p := hA0
  rw [Try.params13] at hA hval hsz
  obtain ⟨v0, vs0, d0, ds0, p0, q0, hargs, rfl, rfl, h0, r0⟩ := trodAll_cons hA
  obtain ⟨v1, vs1, d1, ds1, p1, q1, rfl, rfl, rfl, h1, r1⟩ := trodAll_cons r0
  obtain ⟨v2, vs2, d2, ds2, p2, q2, rfl, rfl, rfl, h2, r2⟩ := trodAll_cons r1
  obtain ⟨rfl, rfl, rfl⟩ := trodAll_nil r2
  obtain rfl : args = #[v0, v1, v2] := by cases args; simp_all
  obtain ⟨rfl, rfl⟩ := trodVars_none hV
  clear hA0
  obtain ⟨a0, rfl, rfl, rfl, w0⟩ := open_int Try.underlying3 (hval 0 3 v0 rfl rfl) h0
  have b0 := bounds_i64 w0
  obtain ⟨a1, rfl, rfl, rfl, w1⟩ := open_int Try.underlying3 (hval 1 3 v1 rfl rfl) h1
  have b1 := bounds_i64 w1
  obtain ⟨a2, rfl, rfl, rfl, w2⟩ := open_string Try.underlying9 (hval 2 9 v2 rfl rfl) h2
  refine (keyPuts_walk a0 b0.1 b0.2 a1 b1.1 b1.2 a2 w2 W).mono fun e W' ⟨he, hu⟩ => ?_
  subst he
  exact ⟨_, rfl, post_true laidOut (by kernel_rfl) Try.underlying4 rfl rfl hW' rfl hu⟩

theorem keyPuts_closed : joinedFacts Try.prog 13 Try.f13 Rows.keyPutsSpec Rows.keyPutsRow = true := by
  unfold joinedFacts
  rw [fact_mayEnter, fact_lifted, fact_make]
  kernel_rfl

set_option maxRecDepth 100000 in
theorem keyPuts_lifted (os : Os) (started : os.Started) (H : Type) (enc : TypeId × Value → H) :
    ReturnsInHanded {} Try.checked os 13 .any (Rows.keyPutsSpec.pre6 enc Try.prog Try.f13 Rows.keyPutsRow.domain false) (Rows.keyPutsSpec.post enc Try.prog Try.f13 false true false false) := by
  refine returnsInHanded_of_change_sized (C := Try.checked) own started (by kernel_rfl) Try.func13
    (ChangeSpec.witness6 (enc := enc) (C := Try.checked) false ⟨#[], #[.int .i64 0, .int .i64 0, .string ⟨#[]⟩], []⟩ 8 (by kernel_rfl) (by kernel_rfl) (by kernel_rfl) (by kernel_rfl)) ?_
  intro W base args ds gs before hval hW _ hsz _
  exact keyPuts_contract H enc W base args ds gs before hval hW hsz

theorem keyPuts_holds : Rows.KeyPutsSaid :=
  OpenClaim.holds_of_wide 13 Try.f13 rfl rfl rfl rfl rfl rfl rfl ⟨rfl, rfl, rfl, rfl, rfl⟩ rfl rfl rfl rfl rfl (by kernel_rfl) Try.func13 keyPuts_closed
    (of_decide_eq_true (by kernel_rfl)) (by unfold Func.isWrapper; rw [if_neg (by decide +kernel)]; exact ⟨rfl, rfl⟩)
    (fun os started H enc _ => keyPuts_lifted os started H enc)
end Go.Proofs.Ytpldfoclogkppaa
