/- 'ValueTexts': whatever tree: its text is the document's: the law hands back true. Conditions: none but the card's own (the listed variables hold what the program's text lays). -/
import Derived.Test.YtgedlbfdhekdgaaDoorValM
import Derived.Test.YtgedlbfdhekdgaaDoorValI
import Derived.Test.YtgedlbfdhekdgaaDoorPin
import Derived.Test.YtgedlbfdhekdgaaDoorCard
set_option maxRecDepth 100000
set_option linter.unusedSimpArgs false
namespace Go.Proofs.YtgedlbfdhekdgaaDoor
open Go Go.RowKit Go.Proofs Go.ChangeShapes Go.WideShapes Go.ChangeAt Go.Shelf

theorem valueTexts_ok (v : VT) (hin : v.In) {G : Glob} (hG : PowOk G) : CallOk Tryd.prog TT 3 [.agg v.av] G (fun v G' => v = .bool true ∧ G' = G) := by
  have hg := rgreat_ok v 0 G (by decide)
  have haw := awake15_ok hG
  have hs := @great_size v 0
  have ht := vtext_ok v G hG hin
  have hr := rtext_ok v G hin
  generalize greatV v 0 = gr at hg hs
  obtain ⟨kd, nm, s, tags, l⟩ := v
  rw [VT.av] at *
  cases gr with
  | true =>
    clear hs ht hr
    refine call_sem tt_ok Tryd.func3 rfl (by kernel_rfl) Tryd.ntmps3 Tryd.results3 ?_; conv => whnf
    repeat' (first | ((first | refine Sem.reg tt_ok ?_ | refine Sem.condS ?_ | refine Sem.regL tt_ok ?_ | refine Sem.skip tt_ok ?_ | refine Sem.exit tt_ok ?_ | refine Sem.ret tt_ok ?_ | refine BS_t (by assumption) ?_ | refine BS_f (by assumption) ?_ | refine (nthK_iff _ _).2 ⟨_, (by assumption), ?_⟩ | refine ⟨_, ⟨(by omega), (by assumption)⟩, ?_⟩ | refine And.intro (by first | decide | omega) ?_ | fail); conv => whnf) | refine Sem.seqS ?_ | refine Sem.block ?_ | fail)
    refine hg.on ?_; conv => whnf
    repeat' (first | ((first | refine Sem.reg tt_ok ?_ | refine Sem.condS ?_ | refine Sem.regL tt_ok ?_ | refine Sem.skip tt_ok ?_ | refine Sem.exit tt_ok ?_ | refine Sem.ret tt_ok ?_ | refine BS_t (by assumption) ?_ | refine BS_f (by assumption) ?_ | refine (nthK_iff _ _).2 ⟨_, (by assumption), ?_⟩ | refine ⟨_, ⟨(by omega), (by assumption)⟩, ?_⟩ | refine And.intro (by first | decide | omega) ?_ | fail); conv => whnf) | refine Sem.seqS ?_ | refine Sem.block ?_ | fail)
    refine haw.on ?_; conv => whnf
    repeat' (first | ((first | refine Sem.reg tt_ok ?_ | refine Sem.condS ?_ | refine Sem.regL tt_ok ?_ | refine Sem.skip tt_ok ?_ | refine Sem.exit tt_ok ?_ | refine Sem.ret tt_ok ?_ | refine BS_t (by assumption) ?_ | refine BS_f (by assumption) ?_ | refine (nthK_iff _ _).2 ⟨_, (by assumption), ?_⟩ | refine ⟨_, ⟨(by omega), (by assumption)⟩, ?_⟩ | refine And.intro (by first | decide | omega) ?_ | fail); conv => whnf) | refine Sem.seqS ?_ | refine Sem.block ?_ | fail)
    exact ⟨_, fun _ _ h => h, rfl, rfl⟩
  | false =>
    have hs := hs rfl
    have ht := ht (by omega)
    have hr := hr (by omega)
    generalize textT (.mk kd nm s tags l) = tx at ht hr
    have e0 : ((S tx).toList == (S tx).toList) = true := by simp
    generalize S tx = z at *
    refine call_sem tt_ok Tryd.func3 rfl (by kernel_rfl) Tryd.ntmps3 Tryd.results3 ?_; conv => whnf
    repeat' (first | ((first | refine Sem.reg tt_ok ?_ | refine Sem.condS ?_ | refine Sem.regL tt_ok ?_ | refine Sem.skip tt_ok ?_ | refine Sem.exit tt_ok ?_ | refine Sem.ret tt_ok ?_ | refine BS_t (by assumption) ?_ | refine BS_f (by assumption) ?_ | refine (nthK_iff _ _).2 ⟨_, (by assumption), ?_⟩ | refine ⟨_, ⟨(by omega), (by assumption)⟩, ?_⟩ | refine And.intro (by first | decide | omega) ?_ | fail); conv => whnf) | refine Sem.seqS ?_ | refine Sem.block ?_ | fail)
    refine hg.on ?_; conv => whnf
    repeat' (first | ((first | refine Sem.reg tt_ok ?_ | refine Sem.condS ?_ | refine Sem.regL tt_ok ?_ | refine Sem.skip tt_ok ?_ | refine Sem.exit tt_ok ?_ | refine Sem.ret tt_ok ?_ | refine BS_t (by assumption) ?_ | refine BS_f (by assumption) ?_ | refine (nthK_iff _ _).2 ⟨_, (by assumption), ?_⟩ | refine ⟨_, ⟨(by omega), (by assumption)⟩, ?_⟩ | refine And.intro (by first | decide | omega) ?_ | fail); conv => whnf) | refine Sem.seqS ?_ | refine Sem.block ?_ | fail)
    refine draw_sound (eff := []) tt_ok (by kernel_rfl) (by kernel_rfl) ?_; conv => whnf
    repeat' (first | ((first | refine BS_t (by assumption) ?_ | refine BS_f (by assumption) ?_ | refine (nthK_iff _ _).2 ⟨_, (by assumption), ?_⟩ | refine ⟨_, ⟨(by omega), (by assumption)⟩, ?_⟩ | refine And.intro (by first | decide | omega) ?_ | fail); conv => whnf) | fail)
    refine ⟨_, _, ht, ?_⟩; (conv => whnf); refine And.intro rfl ?_; conv => whnf
    repeat' (first | ((first | refine BS_t (by assumption) ?_ | refine BS_f (by assumption) ?_ | refine (nthK_iff _ _).2 ⟨_, (by assumption), ?_⟩ | refine ⟨_, ⟨(by omega), (by assumption)⟩, ?_⟩ | refine And.intro (by first | decide | omega) ?_ | fail); conv => whnf) | fail)
    refine ⟨_, _, hr, ?_⟩; (conv => whnf); refine And.intro rfl ?_; conv => whnf
    repeat' (first | ((first | refine BS_t (by assumption) ?_ | refine BS_f (by assumption) ?_ | refine (nthK_iff _ _).2 ⟨_, (by assumption), ?_⟩ | refine ⟨_, ⟨(by omega), (by assumption)⟩, ?_⟩ | refine And.intro (by first | decide | omega) ?_ | fail); conv => whnf) | fail)
    refine ⟨_, _, haw, ?_⟩; (conv => whnf); refine And.intro rfl ?_; conv => whnf
    repeat' (first | ((first | refine BS_t (by assumption) ?_ | refine BS_f (by assumption) ?_ | refine (nthK_iff _ _).2 ⟨_, (by assumption), ?_⟩ | refine ⟨_, ⟨(by omega), (by assumption)⟩, ?_⟩ | refine And.intro (by first | decide | omega) ?_ | fail); conv => whnf) | fail)
    repeat' (first | ((first | refine Sem.reg tt_ok ?_ | refine Sem.condS ?_ | refine Sem.regL tt_ok ?_ | refine Sem.skip tt_ok ?_ | refine Sem.exit tt_ok ?_ | refine Sem.ret tt_ok ?_ | refine BS_t (by assumption) ?_ | refine BS_f (by assumption) ?_ | refine (nthK_iff _ _).2 ⟨_, (by assumption), ?_⟩ | refine ⟨_, ⟨(by omega), (by assumption)⟩, ?_⟩ | refine And.intro (by first | decide | omega) ?_ | fail); conv => whnf) | refine Sem.seqS ?_ | refine Sem.block ?_ | fail)
    exact ⟨_, fun _ _ h => h, rfl, rfl⟩
theorem pow_good {w : World} (h : Lib.TabIs Tryd.prog w "internal/strconv.uint64pow10" .u64 Lib.pow10Tab) : ∀ off u, w.cell? ⟨lays171_ren.g 17, off, none⟩ = some u → ¬ GoodV u := by
  intro off u hc hg
  by_cases ho : off < Lib.pow10Tab.length
  · rw [h.cell laysm171.m17 off ho] at hc
    cases hc
    rcases hg with ⟨s, hs⟩ | ⟨n, hn⟩
    · cases hs
    · cases hn
  · unfold Lib.TabIs World.var? at h
    rw [laysm171.m17, Option.bind_some] at h
    cases hb : w.heap[lays171_ren.g 17]? with
    | none => rw [hb] at h; cases h
    | some o =>
      rw [hb] at h
      cases o with
      | cells cs t f =>
        simp only [Option.some.injEq] at h
        simp only [World.cell?, hb, h] at hc
        rw [Array.getElem?_eq_none (by simp; omega)] at hc
        cases hc
      | _ => cases h
theorem valueTexts_walk {H : Type} {enc : TypeId × Value → H} {base : Nat} {spare : Nat → Bool} {held : Bool} {r : Reach} {b0 : Nat} {v : Value} {d : DataW H} {p : List MemPlace} {w : World} (hv : Value.okWide Tryd.prog w r b0 25 v) (h : DataW.Trod enc Tryd.prog w base spare held 25 v d p) (_ : World) (_ : w.ShapedOpen Tryd.prog) (hlaid : laidMetH Tryd.prog Rows.valueTextsRow.laid w) :
    Calls Tryd.prog 3 #[v] w (Gives w (.bool true)) := by
  have ht := pow_tab hlaid
  obtain ⟨o, ho⟩ := pow_obj ht
  have hP : PowOk (globP (lays171_ren.g 17) o) := pow_pin ho ht (globP_0 _ _)
  obtain ⟨x, hx, hin⟩ := val_arg (g := ghP (lays171_ren.g 17)) (fun b off u i hc hg => by
    have h1 : b ≠ lays171_ren.g 17 := fun e => by subst e; exact pow_good ht off u hc hg
    unfold Gh.frz ghP
    simp only [if_neg h1]
    trivial) hv h
  refine law_pin (valueTexts_ok x hin hP) (fun v G h => ⟨h.1, by rw [h.2]; exact globP_0 _ _⟩) ho rfl fun i a u ha hu => ?_
  match i with
  | 0 => simp at ha hu; subst ha hu; exact hx
  | i + 1 => simp at ha
set_option linter.unusedVariables false in
set_option maxRecDepth 100000 in
theorem valueTexts_contract (H : Type) (enc : TypeId × Value → H) (W : World) (base : Nat) (args : Array Value) (ds gs : List (DataW H)) (before : List MemPlace)
    (hval : ∀ (j : Nat) t v, Tryd.f3.params[j]? = some t → args[j]? = some v → Value.okWide Tryd.prog W .any base t v)
    (hW : DataW.Whole enc Tryd.prog Tryd.f3.params.toList Rows.valueTextsSpec.vars false W args.toList ds gs before)
    (hsz : (DataW.weightsEach Tryd.prog (Tryd.f3.params.toList ++ (Rows.valueTextsSpec).plain.varTypes Tryd.prog) (ds ++ gs)).all (· ≤ reachBytes) = true) (hsh : W.ShapedOpen Tryd.prog) (hlaid : laidMetH Tryd.prog Rows.valueTextsRow.laid W) :
    Calls Tryd.prog 3 args W fun e W' => ∃ v, e = .returned v ∧ Rows.valueTextsSpec.post enc Tryd.prog Tryd.f3 false true false false W args v W' := by
  have hW' := hW
  obtain ⟨p, q, hA0, hV, rfl, hfz, hnd⟩ := hW
  have hA : DataW.TrodAll enc Tryd.prog W 0 (fun _ => true) true Tryd.f3.params.toList args.toList ds p := hA0
  rw [Tryd.params3] at hA hval hsz
  obtain ⟨v0, vs0, d0, ds0, p0, q0, hargs, rfl, rfl, h0, r0⟩ := trodAll_cons hA
  obtain ⟨rfl, rfl, rfl⟩ := trodAll_nil r0
  obtain rfl : args = #[v0] := by cases args; simp_all
  obtain ⟨rfl, rfl⟩ := trodVars_none hV
  clear hA0
  have g0 := hval 0 25 v0 rfl rfl
  refine (valueTexts_walk g0 h0 W hsh hlaid).mono fun e W' ⟨he, hu⟩ => ?_
  subst he
  exact ⟨_, rfl, post_true laidOut (by kernel_rfl) Tryd.underlying4 rfl rfl hW' rfl hu⟩

theorem valueTexts_closed : joinedFacts Tryd.prog 3 Tryd.f3 Rows.valueTextsSpec Rows.valueTextsRow = true := by
  unfold joinedFacts
  rw [fact_mayEnter, fact_lifted, fact_make]
  kernel_rfl

set_option maxRecDepth 100000 in
theorem valueTexts_met (os : Os) (args : Array Value) : laidMetH Tryd.prog Rows.valueTextsRow.laid ((World.doorLaid Tryd.prog 34 os).forCall (fun _ _ => 0) ⟨#[], args, []⟩).memory :=
  laidMetH_of_parts3 (fuel := 8) (laidMet_of_run' 8 (by kernel_rfl) (by kernel_rfl)) (by kernel_rfl) (by kernel_rfl)

set_option maxRecDepth 100000 in
theorem valueTexts_lifted (os : Os) (started : os.Started) (H : Type) (enc : TypeId × Value → H) :
    ReturnsInHanded {} Tryd.checked os 3 .any (fun w args => (Rows.valueTextsSpec.pre enc Tryd.prog Tryd.f3 [] false w args ∧ laidMetH Tryd.prog Rows.valueTextsRow.laid w) ∧ sizedMet enc Tryd.prog Tryd.f3 (OpenSpec.ofChange Rows.valueTextsSpec) false w args)
      (Rows.valueTextsSpec.post enc Tryd.prog Tryd.f3 false true false false) := by
  refine returns_laid (C := Tryd.checked) (X := fun w _ => laidMetH Tryd.prog Rows.valueTextsRow.laid w) (fun _ _ _ hh h => h.of_heap hh) own started (by kernel_rfl) Tryd.func3
    (ChangeSpec.witness_shaped (enc := enc) (C := Tryd.checked) (os := os) (X := fun w _ => laidMetH Tryd.prog Rows.valueTextsRow.laid w) false (World.doorLaid Tryd.prog 34 os) #[.agg #[.int .i64 0,.int .i64 0,.string ⟨#[]⟩,.slice none 0 0,.slice none 0 0]] 8 rfl (World.shaped_of_RefB (by kernel_rfl) (by kernel_rfl)) (by kernel_rfl) (by kernel_rfl) (by kernel_rfl) (valueTexts_met os _)) ?_
  intro W base args ds gs before hval hW _ hsz hsh hlaid _
  exact valueTexts_contract H enc W base args ds gs before hval hW hsz hsh hlaid

theorem valueTexts_row : Rows.ValueTextsSaid :=
  OpenClaim.holds_of_wide 3 Tryd.f3 rfl rfl rfl rfl rfl rfl rfl ⟨rfl, rfl, rfl, rfl, rfl⟩ rfl rfl rfl rfl rfl (by kernel_rfl) Tryd.func3 valueTexts_closed
    (of_decide_eq_true (by kernel_rfl)) (by unfold Func.isWrapper; rw [if_neg (by decide +kernel)]; exact ⟨rfl, rfl⟩)
    (fun os started H enc _ => valueTexts_lifted os started H enc)

theorem valueTexts_holds : Rows.ValueTextsCardSaid :=
  Claim7.holds_tied_plain_at .later [] [.data, .data, .data] true (true, "f0d8e821937e38b80f36621181f319a48851cf8746b89803bd9a839f92cd828c") true
    valueTexts_row (fun _ h => by cases h) (by kernel_rfl) (fun _ h => by cases h) valueTexts_row_tie rfl ⟨rfl, rfl⟩ (by kernel_rfl) rfl
    (fun f fn hf hfn => by
      obtain rfl : f = 3 := Option.some.inj ((show Tryd.prog.funcNamed "concourse/concourselaw15.ValueTexts" = some 3 by kernel_rfl).symm.trans hf) |>.symm
      obtain rfl : fn = Tryd.f3 := (Option.some.inj (Tryd.func3.symm.trans hfn)).symm
      exact ⟨by kernel_rfl, fun j t ht => by
        have hall : (Tryd.f3.params.all fun u => !Tryd.prog.wantsStandIn u) = true := by kernel_rfl
        have := Array.all_eq_true_iff_forall_mem.1 hall t (Array.mem_of_getElem? ht)
        exact (by simpa using this : Tryd.prog.wantsStandIn t = false)⟩)
    (by kernel_rfl)
end Go.Proofs.YtgedlbfdhekdgaaDoor
