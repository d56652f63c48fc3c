/- 'ScriptPuts': whatever events: script.Put and script.Plain give what the document's give: the law hands back true. Conditions: none. -/
import Derived.Test.YtmmmaekaoanceaaScrS
set_option maxRecDepth 100000
set_option linter.unusedSimpArgs false
namespace Go.Proofs.Ytmmmaekaoanceaa
open Go Go.RowKit Go.ChangeShapes Go.WideShapes Go.ChangeAt Go.Proofs
open Go.ChangeMaps (open_string shut_string)

theorem refplain_ok (v : Ev) (G : Glob) : CallOk Try.prog TT 41 [.agg v.av] G (fun x G' => x = .agg (plainE v).av ∧ G' = G) := by
  obtain ⟨k, c, n, t⟩ := v
  refine call_body tt_ok Try.func41 rfl (by kernel_rfl) Try.ntmps41 Try.results41 ?_; conv => whnf
  refine (has_ok _ _).on ?_; conv => whnf
  repeat' (first | (refine BS_t (by assumption) ?_; conv => whnf) | (refine BS_f (by assumption) ?_; conv => whnf) | (refine BS_intro (fun _ => ?_) (fun _ => ?_) <;> conv => whnf))
  all_goals (refine ⟨_, fun _ _ h => h, ?_, rfl⟩; simp_all [plainE, Ev.av])
theorem awake43_ok (G : Glob) : CallOk Try.prog TT 42 [] G (fun v G' => v = .bool true ∧ G' = G) := by
  have hp : putT [⟨1, 0, 0, ⟨#[]⟩⟩, ⟨2, 0, 0, ⟨#[97, 98]⟩⟩] = (⟨#[1, 2, 0, 2, 97, 98]⟩, 0) := by
    have h2 : (⟨#[97, 98]⟩ : ByteArray).size = 2 := rfl
    simp [putT, putsE, putsL, evE, evL, hasC, hasN, hasB, spanL, putL_small, h2]
  have h := sputs_ok [⟨1, 0, 0, ⟨#[]⟩⟩, ⟨2, 0, 0, ⟨#[97, 98]⟩⟩] G (by simp)
  rw [hp] at h
  refine call_body tt_ok Try.func42 rfl (by kernel_rfl) Try.ntmps42 Try.results42 ?_; conv => whnf
  refine h.on ?_; conv => whnf
  repeat' (first | (refine BS_t (by assumption) ?_; conv => whnf) | (refine BS_f (by assumption) ?_; conv => whnf) | (refine atG (by first | assumption | exact setG_same _ _ _) ?_; conv => whnf) | (refine (nthK_iff _ _).2 ⟨_, (by assumption), ?_⟩; conv => whnf) | (refine Exists.intro _ (And.intro (And.intro (by omega) (by assumption)) ?_); conv => whnf) | (refine And.intro (by first | decide | omega) ?_; conv => whnf) | fail)
  exact ⟨_, fun _ _ h => h, by simp, rfl⟩
theorem scriptPuts_ok (l : List Ev) (hn : ∀ v ∈ l, v.num < 18446744073709551616) (hlen : l.length ≤ 9223372036854775807) :
    CallOk Try.prog TT 8 [.slc 72 (l.map Ev.av)] (fun _ => none) (fun v _ => v = .bool true) := by
  refine call_sem tt_ok Try.func8 rfl (by kernel_rfl) Try.ntmps8 Try.results8 ?_; conv => whnf
  repeat' (first | (refine Sem.reg tt_ok ?_; conv => whnf) | refine Sem.seqS ?_ | (refine Sem.condS ?_; conv => whnf) | refine Sem.block ?_ | (refine Sem.regL tt_ok ?_; conv => whnf) | (refine Sem.skip tt_ok ?_; conv => whnf) | (refine Sem.exit tt_ok ?_; conv => whnf) | (refine Sem.ret tt_ok ?_; conv => whnf) | (refine BS_t (by assumption) ?_; conv => whnf) | (refine BS_f (by assumption) ?_; conv => whnf) | (refine atG (by first | assumption | exact setG_same _ _ _) ?_; conv => whnf) | (refine (nthK_iff _ _).2 ⟨_, (by assumption), ?_⟩; conv => whnf) | (refine Exists.intro _ (And.intro (And.intro (by omega) (by assumption)) ?_); conv => whnf) | (refine And.intro (by first | decide | omega) ?_; conv => whnf) | fail)
  refine (sputs_ok l _ hn).on ?_; conv => whnf
  repeat' (first | (refine Sem.reg tt_ok ?_; conv => whnf) | refine Sem.seqS ?_ | (refine Sem.condS ?_; conv => whnf) | refine Sem.block ?_ | (refine Sem.regL tt_ok ?_; conv => whnf) | (refine Sem.skip tt_ok ?_; conv => whnf) | (refine Sem.exit tt_ok ?_; conv => whnf) | (refine Sem.ret tt_ok ?_; conv => whnf) | (refine BS_t (by assumption) ?_; conv => whnf) | (refine BS_f (by assumption) ?_; conv => whnf) | (refine atG (by first | assumption | exact setG_same _ _ _) ?_; conv => whnf) | (refine (nthK_iff _ _).2 ⟨_, (by assumption), ?_⟩; conv => whnf) | (refine Exists.intro _ (And.intro (And.intro (by omega) (by assumption)) ?_); conv => whnf) | (refine And.intro (by first | decide | omega) ?_; conv => whnf) | fail)
  refine (refputs_ok l _ hn).on ?_; conv => whnf
  refine Sem.seqS ?_
  refine Sem.seq tt_ok ?_; conv => whnf
  refine Sem.block ?_
  refine Sem.loop (ι := {k : Nat // k ≤ l.length}) (fun x => ⟨(.slc 72 (l.map Ev.av) :: .top :: .bool false :: .str (putT l).1 :: .int .i64 (putT l).2 :: .str (putT l).1 :: .int .i64 (putT l).2 :: .int .i64 (x.1 : Nat) :: .top :: .top :: .top :: .top :: .top :: .top :: .top :: .top :: .top :: .top :: .top :: .top :: .top :: .top :: .top :: .top :: .top :: .top :: .top :: .top :: .top :: .top :: .top :: .top :: .top :: .top :: .top :: .top :: .top :: .top :: .top :: .top :: .top :: .top :: .top :: .top :: .top :: .top :: []), [], 0, 0, fun _ => none⟩) (fun x => l.length - x.1) ⟨0, Nat.zero_le _⟩ ?_ (fun x => ?_)
  · refine weak_by [] ?_; (conv => whnf); repeat (first | (refine And.intro rfl ?_; conv => whnf) | fail)
    exact ⟨fun i x hx => hx, rfl, Nat.zero_le _, rfl, rfl⟩
  obtain ⟨k, hk0⟩ := x
  refine Sem.seq tt_ok ?_; conv => whnf
  refine BS_intro (fun hk => ?_) (fun hk => ?_) <;> conv => whnf
  · have hks : k < l.length := by simp at hk; omega
    clear hk
    obtain ⟨v, hv⟩ : ∃ v, l[k]? = some v := ⟨_, List.getElem?_eq_getElem hks⟩
    have hsm : (l.map Ev.av)[((k : Nat) : Int).toNat]? = some v.av := by rw [Int.toNat_natCast, List.getElem?_map, hv]; rfl
    have hne : (!((plainE v).kind == (plainE v).kind && ((plainE v).conn == (plainE v).conn && ((((plainE v).num : Nat) : Int) == (((plainE v).num : Nat) : Int) && ((plainE v).bytes.toList == (plainE v).bytes.toList && true))))) = false := by simp
    refine Sem.seqS ?_
    refine Sem.block ?_
    refine Sem.reg tt_ok ?_
    refine draw_sound (eff := []) tt_ok (by kernel_rfl) (by kernel_rfl) ?_; conv => whnf
    repeat' (first | (refine BS_t (by assumption) ?_; conv => whnf) | (refine BS_f (by assumption) ?_; conv => whnf) | (refine atG (by first | assumption | exact setG_same _ _ _) ?_; conv => whnf) | (refine (nthK_iff _ _).2 ⟨_, (by assumption), ?_⟩; conv => whnf) | (refine Exists.intro _ (And.intro (And.intro (by omega) (by assumption)) ?_); conv => whnf) | (refine And.intro (by first | decide | omega) ?_; conv => whnf) | fail)
    refine ⟨_, _, splain_ok v _, ?_⟩; (conv => whnf); refine And.intro rfl ?_; conv => whnf
    repeat' (first | (refine BS_t (by assumption) ?_; conv => whnf) | (refine BS_f (by assumption) ?_; conv => whnf) | (refine atG (by first | assumption | exact setG_same _ _ _) ?_; conv => whnf) | (refine (nthK_iff _ _).2 ⟨_, (by assumption), ?_⟩; conv => whnf) | (refine Exists.intro _ (And.intro (And.intro (by omega) (by assumption)) ?_); conv => whnf) | (refine And.intro (by first | decide | omega) ?_; conv => whnf) | fail)
    refine ⟨_, _, refplain_ok v _, ?_⟩; (conv => whnf); refine And.intro rfl ?_; conv => whnf
    repeat' (first | (refine BS_t (by assumption) ?_; conv => whnf) | (refine BS_f (by assumption) ?_; conv => whnf) | (refine atG (by first | assumption | exact setG_same _ _ _) ?_; conv => whnf) | (refine (nthK_iff _ _).2 ⟨_, (by assumption), ?_⟩; conv => whnf) | (refine Exists.intro _ (And.intro (And.intro (by omega) (by assumption)) ?_); conv => whnf) | (refine And.intro (by first | decide | omega) ?_; conv => whnf) | fail)
    repeat' (first | (refine Sem.reg tt_ok ?_; conv => whnf) | refine Sem.seqS ?_ | (refine Sem.condS ?_; conv => whnf) | refine Sem.block ?_ | (refine Sem.regL tt_ok ?_; conv => whnf) | (refine Sem.skip tt_ok ?_; conv => whnf) | (refine Sem.exit tt_ok ?_; conv => whnf) | (refine Sem.ret tt_ok ?_; conv => whnf) | (refine BS_t (by assumption) ?_; conv => whnf) | (refine BS_f (by assumption) ?_; conv => whnf) | (refine atG (by first | assumption | exact setG_same _ _ _) ?_; conv => whnf) | (refine (nthK_iff _ _).2 ⟨_, (by assumption), ?_⟩; conv => whnf) | (refine Exists.intro _ (And.intro (And.intro (by omega) (by assumption)) ?_); conv => whnf) | (refine And.intro (by first | decide | omega) ?_; conv => whnf) | fail)
    refine ⟨⟨k + 1, by omega⟩, by show l.length - (k + 1) < l.length - k; omega, ?_⟩
    refine weak_by [] ?_; (conv => whnf); repeat (first | (refine And.intro rfl ?_; conv => whnf) | fail)
    have hw : IntKind.i64.wrap ((k : Int) + 1) = ((k + 1 : Nat) : Int) := by rw [IntWalk.i64_in _ (by omega)]; omega
    refine And.intro hw ?_
    conv => whnf
    exact ⟨fun i y hy => hy, rfl, Nat.zero_le _, rfl, rfl⟩
  · have e1 : ((putT l).1.toList == (putT l).1.toList) = true := by simp
    have e2 : ((putT l).2 == (putT l).2) = true := by simp
    repeat' (first | (refine Sem.reg tt_ok ?_; conv => whnf) | refine Sem.seqS ?_ | (refine Sem.condS ?_; conv => whnf) | refine Sem.block ?_ | (refine Sem.regL tt_ok ?_; conv => whnf) | (refine Sem.skip tt_ok ?_; conv => whnf) | (refine Sem.exit tt_ok ?_; conv => whnf) | (refine Sem.ret tt_ok ?_; conv => whnf) | (refine BS_t (by assumption) ?_; conv => whnf) | (refine BS_f (by assumption) ?_; conv => whnf) | (refine atG (by first | assumption | exact setG_same _ _ _) ?_; conv => whnf) | (refine (nthK_iff _ _).2 ⟨_, (by assumption), ?_⟩; conv => whnf) | (refine Exists.intro _ (And.intro (And.intro (by omega) (by assumption)) ?_); conv => whnf) | (refine And.intro (by first | decide | omega) ?_; conv => whnf) | fail)
    refine (awake43_ok _).on ?_; conv => whnf
    repeat' (first | (refine Sem.reg tt_ok ?_; conv => whnf) | refine Sem.seqS ?_ | (refine Sem.condS ?_; conv => whnf) | refine Sem.block ?_ | (refine Sem.regL tt_ok ?_; conv => whnf) | (refine Sem.skip tt_ok ?_; conv => whnf) | (refine Sem.exit tt_ok ?_; conv => whnf) | (refine Sem.ret tt_ok ?_; conv => whnf) | (refine BS_t (by assumption) ?_; conv => whnf) | (refine BS_f (by assumption) ?_; conv => whnf) | (refine atG (by first | assumption | exact setG_same _ _ _) ?_; conv => whnf) | (refine (nthK_iff _ _).2 ⟨_, (by assumption), ?_⟩; conv => whnf) | (refine Exists.intro _ (And.intro (And.intro (by omega) (by assumption)) ?_); conv => whnf) | (refine And.intro (by first | decide | omega) ?_; conv => whnf) | fail)
    exact ⟨_, fun _ _ h => h, rfl⟩
structure EvI where
  kind : Int
  conn : Int
  num : Int
  bytes : ByteArray
def EvI.ev (x : EvI) : Ev := ⟨x.kind, x.conn, x.num.toNat, x.bytes⟩
theorem evs_dz {w : World} {v : Value} {l : List EvI} (hr : Row w v l 4 (fun x => [.int .i64 x.kind, .int .i64 x.conn, .int .u64 x.num, .string x.bytes])) (hn : ∀ x ∈ l, 0 ≤ x.num) : Dz TT gh0 w (.slc 72 ((l.map EvI.ev).map Ev.av)) v := by
  rw [List.map_map]
  refine row_dz hr (Ev.av ∘ EvI.ev) rfl fun x hx => ⟨rfl, rfl, fun j c u hc hu => ?_⟩
  have h0 := hn x hx
  match j with
  | 0 => simp [Ev.av, EvI.ev] at hc hu; subst hc hu; exact ⟨rfl, .int _ _⟩
  | 1 => simp [Ev.av, EvI.ev] at hc hu; subst hc hu; exact ⟨rfl, .int _ _⟩
  | 2 =>
    simp [Ev.av, EvI.ev] at hc hu
    rw [show max x.num 0 = x.num by omega] at hc
    subst hc hu; exact ⟨rfl, .int _ _⟩
  | 3 => simp [Ev.av, EvI.ev] at hc hu; subst hc hu; exact ⟨rfl, .str _⟩
  | j + 4 => simp [Ev.av] at hc
theorem scriptPuts_walk (v : Value) (sl : List EvI) {w0 : World} (hr0 : Row w0 v sl 4 (fun x => [.int .i64 x.kind, .int .i64 x.conn, .int .u64 x.num, .string x.bytes])) (hok0 : ∀ x ∈ sl, (-9223372036854775808 ≤ x.kind ∧ x.kind ≤ 9223372036854775807) ∧ (-9223372036854775808 ≤ x.conn ∧ x.conn ≤ 9223372036854775807) ∧ (0 ≤ x.num ∧ x.num ≤ 18446744073709551615) ∧ x.bytes.size ≤ maxLen ∧ True) (_ : World) :
    Calls Try.prog 8 #[v] w0 (Gives w0 (.bool true)) := by
  refine law_of (scriptPuts_ok (sl.map EvI.ev) (fun e he => ?_) ?_) (fun v G h => h) rfl fun i a u ha hu => ?_
  · obtain ⟨x, hx, rfl⟩ := List.mem_map.1 he
    obtain ⟨_, _, h, _⟩ := hok0 x hx
    show x.num.toNat < _
    omega
  · obtain ⟨p, cap, _, h1, h2, _⟩ := hr0
    simp only [List.length_map]
    unfold maxLen at h2
    omega
  match i with
  | 0 =>
    simp at ha hu
    subst ha hu
    have := evs_dz hr0 (fun x hx => (hok0 x hx).2.2.1.1)
    simpa using this
  | i + 1 => simp at ha

set_option linter.unusedVariables false in
set_option maxRecDepth 100000 in
theorem scriptPuts_contract (H : Type) (enc : TypeId × Value → H) (W : World) (base : Nat) (args : Array Value) (ds gs : List (DataW H)) (before : List MemPlace)
    (hval : ∀ (j : Nat) t v, Try.f8.params[j]? = some t → args[j]? = some v → Value.okWide Try.prog W .any base t v)
    (hW : DataW.Whole enc Try.prog Try.f8.params.toList Rows.scriptPutsSpec.vars false W args.toList ds gs before)
    (hsz : (DataW.weightsEach Try.prog (Try.f8.params.toList ++ (Rows.scriptPutsSpec).plain.varTypes Try.prog) (ds ++ gs)).all (· ≤ reachBytes) = true) :
    Calls Try.prog 8 args W fun e W' => ∃ v, e = .returned v ∧ Rows.scriptPutsSpec.post enc Try.prog Try.f8 false true false false W args v W' := by
  have hW' := hW
  obtain ⟨p, q, hA0, hV, rfl, hfz, hnd⟩ := hW
  have hA : DataW.TrodAll enc Try.prog W 0 (fun _ => true) true Try.f8.params.toList args.toList ds p := hA0
  rw [Try.params8] at hA hval hsz
  obtain ⟨v0, vs0, d0, ds0, p0, q0, hargs, rfl, rfl, h0, r0⟩ := trodAll_cons hA
  obtain ⟨rfl, rfl, rfl⟩ := trodAll_nil r0
  obtain rfl : args = #[v0] := by cases args; simp_all
  obtain ⟨rfl, rfl⟩ := trodVars_none hV
  clear hA0
  have elem0 : ∀ (n : Nat) (cs : List Value) (y : DataW H × List MemPlace), cs.length = 4 → DataW.trod enc Try.prog W 0 (fun _ => true) true n 72 cs = some y → ∃ x : EvI, cs = (fun x : EvI => [.int .i64 x.kind, .int .i64 x.conn, .int .u64 x.num, .string x.bytes]) x ∧ (fun (x : EvI) y => y = .agg [.lit (.int .i64 x.kind), .lit (.int .i64 x.conn), .lit (.int .u64 x.num), .lit (.string x.bytes.data.toList)] ∧ (Lit.int .i64 x.kind).wf = true ∧ (Lit.int .i64 x.conn).wf = true ∧ (Lit.int .u64 x.num).wf = true ∧ x.bytes.size ≤ maxLen ∧ True) x y.1 := by
    intro n cs y hl h
    obtain ⟨ys, m, _, h2, h3, h4⟩ := struct_cells Try.underlying72 (by kernel_rfl) (by kernel_rfl) h
    obtain ⟨c0, c1, c2, c3, rfl⟩ := list4 hl
    obtain ⟨y0, y1, y2, y3, rfl⟩ := list4 h2
    obtain ⟨a0, rfl, rfl, w0⟩ := int_field Try.underlying3 (h4 0 _ _ rfl rfl)
    obtain ⟨a1, rfl, rfl, w1⟩ := int_field Try.underlying3 (h4 1 _ _ rfl rfl)
    obtain ⟨a2, rfl, rfl, w2⟩ := int_field Try.underlying29 (h4 2 _ _ rfl rfl)
    obtain ⟨a3, rfl, rfl, w3⟩ := string_field Try.underlying9 (h4 3 _ _ rfl rfl)
    subst h3
    exact ⟨⟨a0, a1, a2, a3⟩, rfl, rfl, w0, w1, w2, w3, trivial⟩
  obtain ⟨l0, hr0, hd0⟩ := row_arg (cells := fun x : EvI => [.int .i64 x.kind, .int .i64 x.conn, .int .u64 x.num, .string x.bytes]) (R := fun (x : EvI) y => y = .agg [.lit (.int .i64 x.kind), .lit (.int .i64 x.conn), .lit (.int .u64 x.num), .lit (.string x.bytes.data.toList)] ∧ (Lit.int .i64 x.kind).wf = true ∧ (Lit.int .i64 x.conn).wf = true ∧ (Lit.int .u64 x.num).wf = true ∧ x.bytes.size ≤ maxLen ∧ True) Try.underlying69 (by kernel_rfl) (by decide) elem0 (hval 0 69 v0 rfl rfl) h0
  have hb0 := row_all hd0 (fun x y (h : (fun (x : EvI) y => y = .agg [.lit (.int .i64 x.kind), .lit (.int .i64 x.conn), .lit (.int .u64 x.num), .lit (.string x.bytes.data.toList)] ∧ (Lit.int .i64 x.kind).wf = true ∧ (Lit.int .i64 x.conn).wf = true ∧ (Lit.int .u64 x.num).wf = true ∧ x.bytes.size ≤ maxLen ∧ True) x y) => And.intro (bounds_i64 h.2.1) <| And.intro (bounds_i64 h.2.2.1) <| And.intro (bounds_u64 h.2.2.2.1) <| And.intro (h.2.2.2.2.1) <| trivial)
  refine (scriptPuts_walk v0 l0 hr0 hb0 W).mono fun e W' ⟨he, hu⟩ => ?_
  subst he
  exact ⟨_, rfl, post_true laidOut (by kernel_rfl) Try.underlying4 rfl rfl hW' rfl hu⟩

theorem scriptPuts_closed : joinedFacts Try.prog 8 Try.f8 Rows.scriptPutsSpec Rows.scriptPutsRow = true := by
  unfold joinedFacts
  rw [fact_mayEnter, fact_lifted, fact_make]
  kernel_rfl

set_option maxRecDepth 100000 in
theorem scriptPuts_lifted (os : Os) (started : os.Started) (H : Type) (enc : TypeId × Value → H) :
    ReturnsInHanded {} Try.checked os 8 .any (Rows.scriptPutsSpec.pre6 enc Try.prog Try.f8 Rows.scriptPutsRow.domain false) (Rows.scriptPutsSpec.post enc Try.prog Try.f8 false true false false) := by
  refine returnsInHanded_of_change_sized (C := Try.checked) own started (by kernel_rfl) Try.func8
    (ChangeSpec.witness6 (enc := enc) (C := Try.checked) false ⟨#[], #[.slice none 0 0], []⟩ 8 (by kernel_rfl) (by kernel_rfl) (by kernel_rfl) (by kernel_rfl)) ?_
  intro W base args ds gs before hval hW _ hsz _
  exact scriptPuts_contract H enc W base args ds gs before hval hW hsz

theorem scriptPuts_holds : Rows.ScriptPutsSaid :=
  OpenClaim.holds_of_wide 8 Try.f8 rfl rfl rfl rfl rfl rfl rfl ⟨rfl, rfl, rfl, rfl, rfl⟩ rfl rfl rfl rfl rfl (by kernel_rfl) Try.func8 scriptPuts_closed
    (of_decide_eq_true (by kernel_rfl)) (by unfold Func.isWrapper; rw [if_neg (by decide +kernel)]; exact ⟨rfl, rfl⟩)
    (fun os started H enc _ => scriptPuts_lifted os started H enc)
end Go.Proofs.Ytmmmaekaoanceaa
