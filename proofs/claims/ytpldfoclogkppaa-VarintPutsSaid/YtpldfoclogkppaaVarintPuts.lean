/- 'VarintPuts': whatever the input, the program's varint.Put, Len, Turn, Back and PutInt give what the document's say, so the law hands back true. Conditions: none. -/
import Derived.Test.YtpldfoclogkppaaFrame
import Derived.Test.YtpldfoclogkppaaVarD
namespace Go.Proofs.Ytpldfoclogkppaa
open Go Go.RowKit Go.ChangeShapes Go.WideShapes Go.ChangeAt
open Go.ChangeMaps (open_string shut_string)

set_option maxHeartbeats 400000 in
set_option maxRecDepth 100000 in
theorem varintPuts_walk (n : Int) (h0 : 0 ≤ n) (h1 : n ≤ 18446744073709551615) (m : Int) (g0 : -9223372036854775808 ≤ m) (g1 : m ≤ 9223372036854775807) (w : World) :
    Calls Try.prog 7 #[.int .u64 n, .int .i64 m] w (Gives w (.bool true)) := by
  have hb := turn_bd m g0 g1
  have hl : (S (putL n.toNat)).size ≤ 10 := by rw [S_size]; exact putL_ten (by omega)
  have he : ((putL n.toNat).length : Int) = ((S (putL n.toNat)).size : Int) := by rw [S_size]
  go_enter Try.func7, Try.ntmps7
  go_wp2_with fail
  refine (refput_any _ _ _ (Nat.le_refl _) h0 h1).mono ?_
  rintro e w1 ⟨rfl, hu1⟩
  go_wp2_with fail
  refine (varput_any _ _ h0 h1).mono ?_
  rintro e w2 ⟨rfl, hu2⟩
  go_wp2_with fail
  refine (len_any _ _ h0 h1).mono ?_
  rintro e w3 ⟨rfl, hu3⟩
  go_wp2_with fail
  refine (turn_any _ _ g0 g1).mono ?_
  rintro e w4 ⟨rfl, hu4⟩
  go_wp2_with fail
  refine (refturn_any _ _ g0 g1).mono ?_
  rintro e w5 ⟨rfl, hu5⟩
  go_wp2_with fail
  refine (back_any _ _ h0 h1).mono ?_
  rintro e w6 ⟨rfl, hu6⟩
  go_wp2_with fail
  refine (refback_any _ _ h0 h1).mono ?_
  rintro e w7 ⟨rfl, hu7⟩
  go_wp2_with fail
  refine (putint_any _ _ g0 g1).mono ?_
  rintro e w8 ⟨rfl, hu8⟩
  go_wp2_with fail
  refine (refturn_any _ _ g0 g1).mono ?_
  rintro e w9 ⟨rfl, hu9⟩
  go_wp2_with fail
  refine (refput_any _ _ _ (Nat.le_refl _) hb.1 hb.2).mono ?_
  rintro e wa ⟨rfl, hua⟩
  go_wp2_with fail
  refine (awake_any _).mono ?_
  rintro e wb ⟨rfl, hub⟩
  go_wp2_with fail
  go_ret
  exact Gives.mk rfl (((((((((((hu1.trans hu2).trans hu3).trans hu4).trans hu5).trans hu6).trans hu7).trans hu8).trans hu9).trans hua).trans hub))

set_option linter.unusedVariables false in
set_option maxRecDepth 100000 in
theorem varintPuts_contract (H : Type) (enc : TypeId × Value → H) (W : World) (base : Nat) (args : Array Value) (ds gs : List (DataW H)) (before : List MemPlace)
    (hval : ∀ (j : Nat) t v, Try.f7.params[j]? = some t → args[j]? = some v → Value.okWide Try.prog W .any base t v)
    (hW : DataW.Whole enc Try.prog Try.f7.params.toList Rows.varintPutsSpec.vars false W args.toList ds gs before)
    (hsz : (DataW.weightsEach Try.prog (Try.f7.params.toList ++ (Rows.varintPutsSpec).plain.varTypes Try.prog) (ds ++ gs)).all (· ≤ reachBytes) = true) :
    Calls Try.prog 7 args W fun e W' => ∃ v, e = .returned v ∧ Rows.varintPutsSpec.post enc Try.prog Try.f7 false true false false W args v W' := by
  have hW' := hW
  obtain ⟨p, q, hA0, hV, rfl, hfz, hnd⟩ := hW
  have hA : DataW.TrodAll enc Try.prog W 0 (fun _ => true) true Try.f7.params.toList args.toList ds p := hA0
  rw [Try.params7] at hA hval hsz
  obtain ⟨v0, vs0, d0, ds0, p0, q0, hargs, rfl, rfl, h0, r0⟩ := trodAll_cons hA
  obtain ⟨v1, vs1, d1, ds1, p1, q1, rfl, rfl, rfl, h1, r1⟩ := trodAll_cons r0
  obtain ⟨rfl, rfl, rfl⟩ := trodAll_nil r1
  obtain rfl : args = #[v0, v1] := by cases args; simp_all
  obtain ⟨rfl, rfl⟩ := trodVars_none hV
  clear hA0
  obtain ⟨a0, rfl, rfl, rfl, w0⟩ := open_int Try.underlying22 (hval 0 22 v0 rfl rfl) h0
  have b0 := bounds_u64 w0
  obtain ⟨a1, rfl, rfl, rfl, w1⟩ := open_int Try.underlying2 (hval 1 2 v1 rfl rfl) h1
  have b1 := bounds_i64 w1
  refine (varintPuts_walk a0 b0.1 b0.2 a1 b1.1 b1.2 W).mono fun e W' ⟨he, hu⟩ => ?_
  subst he
  exact ⟨_, rfl, post_true laidOut (by kernel_rfl) Try.underlying4 rfl rfl hW' rfl hu⟩

theorem varintPuts_closed : joinedFacts Try.prog 7 Try.f7 Rows.varintPutsSpec Rows.varintPutsRow = true := by
  unfold joinedFacts
  rw [fact_mayEnter, fact_lifted, fact_make]
  kernel_rfl

set_option maxRecDepth 100000 in
theorem varintPuts_lifted (os : Os) (started : os.Started) (H : Type) (enc : TypeId × Value → H) :
    ReturnsInHanded {} Try.checked os 7 .any (Rows.varintPutsSpec.pre6 enc Try.prog Try.f7 Rows.varintPutsRow.domain false) (Rows.varintPutsSpec.post enc Try.prog Try.f7 false true false false) := by
  refine returnsInHanded_of_change_sized (C := Try.checked) own started (by kernel_rfl) Try.func7
    (ChangeSpec.witness6 (enc := enc) (C := Try.checked) false ⟨#[], #[.int .u64 0, .int .i64 0], []⟩ 8 (by kernel_rfl) (by kernel_rfl) (by kernel_rfl) (by kernel_rfl)) ?_
  intro W base args ds gs before hval hW _ hsz _
  exact varintPuts_contract H enc W base args ds gs before hval hW hsz

theorem varintPuts_holds : Rows.VarintPutsSaid :=
  OpenClaim.holds_of_wide 7 Try.f7 rfl rfl rfl rfl rfl rfl rfl ⟨rfl, rfl, rfl, rfl, rfl⟩ rfl rfl rfl rfl rfl (by kernel_rfl) Try.func7 varintPuts_closed
    (of_decide_eq_true (by kernel_rfl)) (by unfold Func.isWrapper; rw [if_neg (by decide +kernel)]; exact ⟨rfl, rfl⟩)
    (fun os started H enc _ => varintPuts_lifted os started H enc)
end Go.Proofs.Ytpldfoclogkppaa
