/- 'KeyJoins': whatever tags and texts: key.Join gives what the document's Join gives, so the law hands back true. Conditions: none. -/
import Derived.Test.YtpldfoclogkppaaRow
import Derived.Test.YtpldfoclogkppaaKeyC
import Derived.Test.YtpldfoclogkppaaKeyPuts
namespace Go.Proofs.Ytpldfoclogkppaa
open Go Go.RowKit Go.ChangeShapes Go.WideShapes Go.ChangeAt Go.Deep

set_option maxHeartbeats 800000 in
set_option maxRecDepth 100000 in
theorem keyJoins_walk (v1 : Value) (tags : List Int) {w : World} (hr1 : Row w v1 tags 1 (fun x => [.int .i64 x])) (_ : ∀ x ∈ tags, -9223372036854775808 ≤ x ∧ x ≤ 9223372036854775807)
    (v2 : Value) (l : List ByteArray) (hr2 : Row w v2 l 1 (fun x => [.string x])) (hz : ∀ x ∈ l, x.size ≤ 140737488351232) (_ : World) :
    Calls Try.prog 10 #[v1, v2] w (Gives w (.bool true)) := by
  have hz' := Lib.hid hz
  have R1 := Lib.hid hr1; have R2 := Lib.hid hr2
  clear hz
  obtain ⟨p1, cap1, rfl, hl1, hm1, hrow1⟩ := hr1
  obtain ⟨p2, cap2, rfl, hl2, hm2, hrow2⟩ := hr2
  unfold maxLen at hm1 hm2
  clear hrow1 hrow2
  rcases (by omega : 300 < tags.length ∨ (¬ 300 < tags.length ∧ 300 < l.length) ∨ (¬ 300 < tags.length ∧ ¬ 300 < l.length)) with h1 | ⟨h1, h2⟩ | ⟨h1, h2⟩
  · go_enter Try.func10, Try.ntmps10
    go_wp2_with fail
    refine (awake04_any _).mono ?_
    rintro e w1 ⟨rfl, hu1⟩
    go_wp2_with fail
    go_ret
    exact Gives.mk rfl hu1
  · go_enter Try.func10, Try.ntmps10
    go_wp2_with fail
    refine (awake04_any _).mono ?_
    rintro e w1 ⟨rfl, hu1⟩
    go_wp2_with fail
    go_ret
    exact Gives.mk rfl hu1
  · obtain ⟨⟨s, f⟩, hp⟩ : ∃ r, joinT tags l = r := ⟨_, rfl⟩
    have HP := Lib.hid hp; clear hp
    go_enter Try.func10, Try.ntmps10
    go_wp2_with fail
    refine (keyjoin_any _ _ _ _ _ R1.out R2.out hz'.out (by omega)).mono ?_
    rintro e w1 ⟨rfl, hu1⟩
    rw [HP.out]
    unfold pairV
    go_wp2_with fail
    refine (refkeyjoin_any _ _ _ _ _ (R1.out.up hu1) (R2.out.up hu1) hz'.out (by omega)).mono ?_
    rintro e w2 ⟨rfl, hu2⟩
    rw [HP.out]
    unfold pairV
    go_wp2_with fail
    refine (awake04_any _).mono ?_
    rintro e w3 ⟨rfl, hu3⟩
    go_wp2_with fail
    go_ret
    exact Gives.mk rfl ((hu1.trans hu2).trans hu3)

set_option linter.unusedVariables false in
set_option maxRecDepth 100000 in
theorem keyJoins_contract (H : Type) (enc : TypeId × Value → H) (W : World) (base : Nat) (args : Array Value) (ds gs : List (DataW H)) (before : List MemPlace)
    (hval : ∀ (j : Nat) t v, Try.f10.params[j]? = some t → args[j]? = some v → Value.okWide Try.prog W .any base t v)
    (hW : DataW.Whole enc Try.prog Try.f10.params.toList Rows.keyJoinsSpec.vars false W args.toList ds gs before)
    (hsz : (DataW.weightsEach Try.prog (Try.f10.params.toList ++ (Rows.keyJoinsSpec).plain.varTypes Try.prog) (ds ++ gs)).all (· ≤ reachBytes) = true) :
    Calls Try.prog 10 args W fun e W' => ∃ v, e = .returned v ∧ Rows.keyJoinsSpec.post enc Try.prog Try.f10 false true false false W args v W' := by
  have hW' := hW
  obtain ⟨p, q, hA0, hV, rfl, hfz, hnd⟩ := hW
  have hA : DataW.TrodAll enc Try.prog W 0 (fun _ => true) true Try.f10.params.toList args.toList ds p := hA0
  rw [Try.params10] at hA hval hsz
  obtain ⟨v0, vs0, d0, ds0, p0, q0, hargs, rfl, rfl, h0, r0⟩ := trodAll_cons hA
  obtain ⟨v1, vs1, d1, ds1, p1, q1, rfl, rfl, rfl, h1, r1⟩ := trodAll_cons r0
  obtain ⟨rfl, rfl, rfl⟩ := trodAll_nil r1
  obtain rfl : args = #[v0, v1] := by cases args; simp_all
  obtain ⟨rfl, rfl⟩ := trodVars_none hV
  clear hA0
  obtain ⟨l0, hr0, hd0⟩ := row_arg (cells := fun x => [.int .i64 x]) (R := fun x y => y = .lit (.int .i64 x) ∧ (Lit.int .i64 x).wf = true) Try.underlying68 (by kernel_rfl) (by decide) (elem_int Try.underlying3) (hval 0 68 v0 rfl rfl) h0
  have hb0 := row_all hd0 (fun x y (h : y = .lit (.int .i64 x) ∧ (Lit.int .i64 x).wf = true) => bounds_i64 h.2)
  obtain ⟨l1, hr1, hd1⟩ := row_arg (cells := fun x => [.string x]) (R := fun x y => y = .lit (.string x.data.toList) ∧ x.size ≤ maxLen) Try.underlying69 (by kernel_rfl) (by decide) (elem_string Try.underlying9) (hval 1 69 v1 rfl rfl) h1
  have hb1 := row_strs hsz (j := 1) (t := 69) rfl rfl Try.underlying69 hd1
  refine (keyJoins_walk v0 l0 hr0 hb0 v1 l1 hr1 hb1 W).mono fun e W' ⟨he, hu⟩ => ?_
  subst he
  exact ⟨_, rfl, post_true laidOut (by kernel_rfl) Try.underlying4 rfl rfl hW' rfl hu⟩

theorem keyJoins_closed : joinedFacts Try.prog 10 Try.f10 Rows.keyJoinsSpec Rows.keyJoinsRow = true := by
  unfold joinedFacts
  rw [fact_mayEnter, fact_lifted, fact_make]
  kernel_rfl

set_option maxRecDepth 100000 in
theorem keyJoins_lifted (os : Os) (started : os.Started) (H : Type) (enc : TypeId × Value → H) :
    ReturnsInHanded {} Try.checked os 10 .any (Rows.keyJoinsSpec.pre6 enc Try.prog Try.f10 Rows.keyJoinsRow.domain false) (Rows.keyJoinsSpec.post enc Try.prog Try.f10 false true false false) := by
  refine returnsInHanded_of_change_sized (C := Try.checked) own started (by kernel_rfl) Try.func10
    (ChangeSpec.witness6 (enc := enc) (C := Try.checked) false ⟨#[], #[.slice none 0 0, .slice none 0 0], []⟩ 8 (by kernel_rfl) (by kernel_rfl) (by kernel_rfl) (by kernel_rfl)) ?_
  intro W base args ds gs before hval hW _ hsz _
  exact keyJoins_contract H enc W base args ds gs before hval hW hsz

theorem keyJoins_holds : Rows.KeyJoinsSaid :=
  OpenClaim.holds_of_wide 10 Try.f10 rfl rfl rfl rfl rfl rfl rfl ⟨rfl, rfl, rfl, rfl, rfl⟩ rfl rfl rfl rfl rfl (by kernel_rfl) Try.func10 keyJoins_closed
    (of_decide_eq_true (by kernel_rfl)) (by unfold Func.isWrapper; rw [if_neg (by decide +kernel)]; exact ⟨rfl, rfl⟩)
    (fun os started H enc _ => keyJoins_lifted os started H enc)
end Go.Proofs.Ytpldfoclogkppaa
