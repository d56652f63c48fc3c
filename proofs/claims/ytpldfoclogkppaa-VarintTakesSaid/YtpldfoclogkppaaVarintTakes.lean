/- 'VarintTakes': whatever the bytes, varint.Take and TakeInt give what the document's Take gives, so the law hands back true. Conditions: none. -/
import Derived.Test.YtpldfoclogkppaaFrame
import Derived.Test.YtpldfoclogkppaaVarD
namespace Go.Proofs.Ytpldfoclogkppaa
open Go Go.RowKit Go.ChangeShapes Go.WideShapes Go.ChangeAt
open Go.ChangeMaps (open_string shut_string)

set_option maxHeartbeats 400000 in
set_option maxRecDepth 100000 in
theorem varintTakes_walk (s : ByteArray) (hs : s.size ≤ maxLen) (w : World) :
    Calls Try.prog 8 #[.string s] w (Gives w (.bool true)) := by
  have hb := takeL_bd s.data.toList
  have hs2 := takeL_small s.data.toList
  generalize hr : takeL s.data.toList = r at *
  have HR := Lib.hid hr; clear hr
  obtain ⟨n, k, e⟩ := r
  simp only at hb hs2
  obtain ⟨hb0, hb1, hb2, hb3⟩ := hb
  have hw := back_bd n (by omega) (by omega)
  by_cases he : e = 0
  · subst he
    go_enter Try.func8, Try.ntmps8
    go_wp2_with fail
    refine (vartake_any s _ hs).mono ?_
    rintro e w1 ⟨rfl, hu1⟩
    rw [HR.out]
    unfold takeV
    go_wp2_with fail
    refine (reftake_any s _ hs).mono ?_
    rintro e w2 ⟨rfl, hu2⟩
    rw [HR.out]
    unfold takeV
    go_wp2_with fail
    refine (takeint_any s _ hs).mono ?_
    rintro e w3 ⟨rfl, hu3⟩
    rw [HR.out, show takeIntV (n, k, 0) = .tuple #[.int .i64 (backI (n : Nat)), .int .i64 (k : Nat), .int .i64 0] from rfl]
    go_wp2_with fail
    refine (refback_any _ _ (by omega) (by omega)).mono ?_
    rintro e w4 ⟨rfl, hu4⟩
    go_wp2_with fail
    refine (awake_any _).mono ?_
    rintro e w5 ⟨rfl, hu5⟩
    go_wp2_with fail
    go_ret
    exact Gives.mk rfl ((((hu1.trans hu2).trans hu3).trans hu4).trans hu5)
  · have hd : (e == 0) = false := by rw [beq_eq_false_iff_ne]; exact he
    have hd2 : (e != 0) = true := by rw [bne_iff_ne]; exact he
    have HV := Lib.hid (show takeIntV (n, k, e) = Value.tuple #[.int .i64 0, .int .i64 0, .int .i64 e] by unfold takeIntV; rw [if_neg he])
    have HN := Lib.hid (show n = 0 ∧ k = 0 by
      have := takeL_zero s.data.toList (by rw [HR.out]; exact he)
      rw [HR.out] at this; exact this)
    obtain ⟨rfl, rfl⟩ := HN.out
    clear he HN
    go_enter Try.func8, Try.ntmps8
    go_wp2_with fail
    refine (vartake_any s _ hs).mono ?_
    rintro e w1 ⟨rfl, hu1⟩
    rw [HR.out]
    unfold takeV
    go_wp2_with fail
    refine (reftake_any s _ hs).mono ?_
    rintro e w2 ⟨rfl, hu2⟩
    rw [HR.out]
    unfold takeV
    go_wp2_with fail
    refine (takeint_any s _ hs).mono ?_
    rintro e w3 ⟨rfl, hu3⟩
    rw [HR.out, HV.out]
    go_wp2_with fail
    refine (awake_any _).mono ?_
    rintro e w5 ⟨rfl, hu5⟩
    go_wp2_with fail
    go_ret
    exact Gives.mk rfl (((hu1.trans hu2).trans hu3).trans hu5)

set_option linter.unusedVariables false in
set_option maxRecDepth 100000 in
theorem varintTakes_contract (H : Type) (enc : TypeId × Value → H) (W : World) (base : Nat) (args : Array Value) (ds gs : List (DataW H)) (before : List MemPlace)
    (hval : ∀ (j : Nat) t v, Try.f8.params[j]? = some t → args[j]? = some v → Value.okWide Try.prog W .any base t v)
    (hW : DataW.Whole enc Try.prog Try.f8.params.toList Rows.varintTakesSpec.vars false W args.toList ds gs before)
    (hsz : (DataW.weightsEach Try.prog (Try.f8.params.toList ++ (Rows.varintTakesSpec).plain.varTypes Try.prog) (ds ++ gs)).all (· ≤ reachBytes) = true) :
    Calls Try.prog 8 args W fun e W' => ∃ v, e = .returned v ∧ Rows.varintTakesSpec.post enc Try.prog Try.f8 false true false false W args v W' := by
  have hW' := hW
  obtain ⟨p, q, hA0, hV, rfl, hfz, hnd⟩ := hW
  have hA : DataW.TrodAll enc Try.prog W 0 (fun _ => true) true Try.f8.params.toList args.toList ds p := hA0
  rw [Try.params8] at hA hval hsz
  obtain ⟨v0, vs0, d0, ds0, p0, q0, hargs, rfl, rfl, h0, r0⟩ := trodAll_cons hA
  obtain ⟨rfl, rfl, rfl⟩ := trodAll_nil r0
  obtain rfl : args = #[v0] := by cases args; simp_all
  obtain ⟨rfl, rfl⟩ := trodVars_none hV
  clear hA0
  obtain ⟨a0, rfl, rfl, rfl, w0⟩ := open_string Try.underlying9 (hval 0 9 v0 rfl rfl) h0
  refine (varintTakes_walk a0 w0 W).mono fun e W' ⟨he, hu⟩ => ?_
  subst he
  exact ⟨_, rfl, post_true laidOut (by kernel_rfl) Try.underlying4 rfl rfl hW' rfl hu⟩

theorem varintTakes_closed : joinedFacts Try.prog 8 Try.f8 Rows.varintTakesSpec Rows.varintTakesRow = true := by
  unfold joinedFacts
  rw [fact_mayEnter, fact_lifted, fact_make]
  kernel_rfl

set_option maxRecDepth 100000 in
theorem varintTakes_lifted (os : Os) (started : os.Started) (H : Type) (enc : TypeId × Value → H) :
    ReturnsInHanded {} Try.checked os 8 .any (Rows.varintTakesSpec.pre6 enc Try.prog Try.f8 Rows.varintTakesRow.domain false) (Rows.varintTakesSpec.post enc Try.prog Try.f8 false true false false) := by
  refine returnsInHanded_of_change_sized (C := Try.checked) own started (by kernel_rfl) Try.func8
    (ChangeSpec.witness6 (enc := enc) (C := Try.checked) false ⟨#[], #[.string ⟨#[]⟩], []⟩ 8 (by kernel_rfl) (by kernel_rfl) (by kernel_rfl) (by kernel_rfl)) ?_
  intro W base args ds gs before hval hW _ hsz _
  exact varintTakes_contract H enc W base args ds gs before hval hW hsz

theorem varintTakes_holds : Rows.VarintTakesSaid :=
  OpenClaim.holds_of_wide 8 Try.f8 rfl rfl rfl rfl rfl rfl rfl ⟨rfl, rfl, rfl, rfl, rfl⟩ rfl rfl rfl rfl rfl (by kernel_rfl) Try.func8 varintTakes_closed
    (of_decide_eq_true (by kernel_rfl)) (by unfold Func.isWrapper; rw [if_neg (by decide +kernel)]; exact ⟨rfl, rfl⟩)
    (fun os started H enc _ => varintTakes_lifted os started H enc)
end Go.Proofs.Ytpldfoclogkppaa
