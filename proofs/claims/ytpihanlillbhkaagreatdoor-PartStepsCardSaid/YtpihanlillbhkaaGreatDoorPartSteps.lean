/- 'PartSteps': whatever steps: the law hands back true. Conditions: none but the card's own (the listed variables hold what the program's text lays). -/
import Derived.Test.YtpihanlillbhkaaGreatDoorPtP
import Derived.Test.YtpihanlillbhkaaGreatDoorCard
set_option maxRecDepth 100000
set_option linter.unusedSimpArgs false
namespace Go.Proofs.YtpihanlillbhkaaGreatDoor
open Go Go.RowKit Go.Proofs Go.ChangeShapes Go.WideShapes Go.ChangeAt Go.Shelf

theorem partSteps_walk {H : Type} {enc : TypeId × Value → H} {base : Nat} {spare : Nat → Bool} {held : Bool} {r : Reach} {b0 : Nat} {v : Value} {d : DataW H} {p : List MemPlace} {w : World} {ts : List TypeId} {ds : List (DataW H)} (hv : Value.okWide Tryz.prog w r b0 22 v) (h : DataW.Trod enc Tryz.prog w base spare held 22 v d p)
    (hsz : (DataW.weightsEach Tryz.prog ts ds).all (· ≤ reachBytes) = true) (hts : ts[0]? = some 22) (hd : ds[0]? = some d) (_ : World) (_ : w.ShapedOpen Tryz.prog) (hlaid : laidMetH Tryz.prog Rows.partStepsRow.laid w) :
    Calls Tryz.prog 3 #[v] w (Gives w (.bool true)) := by
  have ht := pow_tab hlaid
  obtain ⟨o, ho⟩ := pow_obj ht
  have hP : PowOk (globP (lays171_ren.g 17) o) := pow_pin ho ht (globP_0 _ _)
  obtain ⟨l, hl, hs, hx⟩ := steps_read hv h hsz hts hd ht
  refine law_pin (partSteps_ok l hl hs hP) (fun v G h => ⟨h.1, h.2 _ _ _ (globP_0 _ _)⟩) ho rfl fun i a u ha hu => ?_
  match i with
  | 0 => simp at ha hu; subst ha hu; exact hx
  | i + 1 => simp at ha
set_option linter.unusedVariables false in
set_option maxRecDepth 100000 in
theorem partSteps_contract (H : Type) (enc : TypeId × Value → H) (W : World) (base : Nat) (args : Array Value) (ds gs : List (DataW H)) (before : List MemPlace)
    (hval : ∀ (j : Nat) t v, Tryz.f3.params[j]? = some t → args[j]? = some v → Value.okWide Tryz.prog W .any base t v)
    (hW : DataW.Whole enc Tryz.prog Tryz.f3.params.toList Rows.partStepsSpec.vars false W args.toList ds gs before)
    (hsz : (DataW.weightsEach Tryz.prog (Tryz.f3.params.toList ++ (Rows.partStepsSpec).plain.varTypes Tryz.prog) (ds ++ gs)).all (· ≤ reachBytes) = true) (hsh : W.ShapedOpen Tryz.prog) (hlaid : laidMetH Tryz.prog Rows.partStepsRow.laid W) :
    Calls Tryz.prog 3 args W fun e W' => ∃ v, e = .returned v ∧ Rows.partStepsSpec.post enc Tryz.prog Tryz.f3 false true false false W args v W' := by
  have hW' := hW
  obtain ⟨p, q, hA0, hV, rfl, hfz, hnd⟩ := hW
  have hA : DataW.TrodAll enc Tryz.prog W 0 (fun _ => true) true Tryz.f3.params.toList args.toList ds p := hA0
  rw [Tryz.params3] at hA hval hsz
  obtain ⟨v0, vs0, d0, ds0, p0, q0, hargs, rfl, rfl, h0, r0⟩ := trodAll_cons hA
  obtain ⟨rfl, rfl, rfl⟩ := trodAll_nil r0
  obtain rfl : args = #[v0] := by cases args; simp_all
  obtain ⟨rfl, rfl⟩ := trodVars_none hV
  clear hA0
  have g0 := hval 0 22 v0 rfl rfl
  refine (partSteps_walk g0 h0 hsz rfl rfl W hsh hlaid).mono fun e W' ⟨he, hu⟩ => ?_
  subst he
  exact ⟨_, rfl, post_true laidOut (by kernel_rfl) Tryz.underlying4 rfl rfl hW' rfl hu⟩

theorem partSteps_closed : joinedFacts Tryz.prog 3 Tryz.f3 Rows.partStepsSpec Rows.partStepsRow = true := by
  unfold joinedFacts
  rw [fact_mayEnter, fact_lifted, fact_make]
  kernel_rfl

set_option maxRecDepth 100000 in
theorem partSteps_met (os : Os) (args : Array Value) : laidMetH Tryz.prog Rows.partStepsRow.laid ((World.doorLaid Tryz.prog 24 os).forCall (fun _ _ => 0) ⟨#[], args, []⟩).memory :=
  laidMetH_of_parts3 (fuel := 8) (laidMet_of_run' 8 (by kernel_rfl) (by kernel_rfl)) (by kernel_rfl) (by kernel_rfl)

set_option maxRecDepth 100000 in
theorem partSteps_lifted (os : Os) (started : os.Started) (H : Type) (enc : TypeId × Value → H) :
    ReturnsInHanded {} Tryz.checked os 3 .any (fun w args => (Rows.partStepsSpec.pre enc Tryz.prog Tryz.f3 [] false w args ∧ laidMetH Tryz.prog Rows.partStepsRow.laid w) ∧ sizedMet enc Tryz.prog Tryz.f3 (OpenSpec.ofChange Rows.partStepsSpec) false w args)
      (Rows.partStepsSpec.post enc Tryz.prog Tryz.f3 false true false false) := by
  refine returns_laid (C := Tryz.checked) (X := fun w _ => laidMetH Tryz.prog Rows.partStepsRow.laid w) (fun _ _ _ hh h => h.of_heap hh) own started (by kernel_rfl) Tryz.func3
    (ChangeSpec.witness_shaped (enc := enc) (C := Tryz.checked) (os := os) (X := fun w _ => laidMetH Tryz.prog Rows.partStepsRow.laid w) false (World.doorLaid Tryz.prog 24 os) #[.slice none 0 0] 8 rfl (World.shaped_of_RefB (by kernel_rfl) (by kernel_rfl)) (by kernel_rfl) (by kernel_rfl) (by kernel_rfl) (partSteps_met os _)) ?_
  intro W base args ds gs before hval hW _ hsz hsh hlaid _
  exact partSteps_contract H enc W base args ds gs before hval hW hsz hsh hlaid

theorem partSteps_row : Rows.PartStepsSaid :=
  OpenClaim.holds_of_wide 3 Tryz.f3 rfl rfl rfl rfl rfl rfl rfl ⟨rfl, rfl, rfl, rfl, rfl⟩ rfl rfl rfl rfl rfl (by kernel_rfl) Tryz.func3 partSteps_closed
    (of_decide_eq_true (by kernel_rfl)) (by unfold Func.isWrapper; rw [if_neg (by decide +kernel)]; exact ⟨rfl, rfl⟩)
    (fun os started H enc _ => partSteps_lifted os started H enc)

theorem partSteps_holds : Rows.PartStepsCardSaid :=
  Claim7.holds_tied_plain_at .later [] [.data, .data, .data] true (true, "e0319ace99eb5fc5333ee01912081f76869fd6e1420f9f3037f1a881871f9fee") false
    partSteps_row (fun _ h => by cases h) (by kernel_rfl) (fun _ h => by cases h) partSteps_row_tie rfl ⟨rfl, rfl⟩ (by kernel_rfl) rfl
    (fun f fn hf hfn => by
      obtain rfl : f = 3 := Option.some.inj ((show Tryz.prog.funcNamed "concourse/concourselaw31.PartSteps" = some 3 by kernel_rfl).symm.trans hf) |>.symm
      obtain rfl : fn = Tryz.f3 := (Option.some.inj (Tryz.func3.symm.trans hfn)).symm
      exact ⟨by kernel_rfl, fun j t ht => by
        have hall : (Tryz.f3.params.all fun u => !Tryz.prog.wantsStandIn u) = true := by kernel_rfl
        have := Array.all_eq_true_iff_forall_mem.1 hall t (Array.mem_of_getElem? ht)
        exact (by simpa using this : Tryz.prog.wantsStandIn t = false)⟩)
    (by kernel_rfl)
end Go.Proofs.YtpihanlillbhkaaGreatDoor
