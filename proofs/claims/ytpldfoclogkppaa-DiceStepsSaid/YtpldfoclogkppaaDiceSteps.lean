/- 'DiceSteps': whatever steps of putting in and taking: the dice give what a plain row of numbers gives: the law hands back true. Conditions: none. -/
import Derived.Test.YtpldfoclogkppaaRow
import Derived.Test.YtpldfoclogkppaaDiceB
import Derived.Test.YtpldfoclogkppaaSlide
namespace Go.Proofs.Ytpldfoclogkppaa
open Go Go.RowKit Go.ChangeShapes Go.WideShapes Go.ChangeAt
open Go.ChangeMaps (open_string shut_string)

structure DStp where
  take : Bool
  n : Int
theorem rowU64 : Row1 Try.prog 42 22 (.int .u64 0) 1 8 := ⟨by kernel_rfl, by kernel_rfl, rfl, by decide⟩
def vals (q : List Int) : List Value := q.map (Value.int .u64)
theorem vals_snoc (q : List Int) (n : Int) : vals q ++ [.int .u64 n] = vals (q ++ [n]) := by simp [vals]

set_option maxHeartbeats 1600000 in
set_option maxRecDepth 100000 in
theorem diceSteps_walk (v : Value) (l : List DStp) {w0 : World} (hr0 : Row w0 v l 2 (fun x => [.bool x.take, .int .u64 x.n])) (_ : ∀ x ∈ l, True ∧ (0 ≤ x.n ∧ x.n ≤ 18446744073709551615) ∧ True) (_ : World) :
    Calls Try.prog 4 #[v] w0 (Gives w0 (.bool true)) := by
  obtain ⟨p, cap, rfl, hl, hm, hrow⟩ := hr0
  unfold maxLen at hm
  by_cases h2000 : 2000 < l.length
  · go_enter Try.func4, Try.ntmps4
    go_wp2_with fail
    refine (awake20_any _).mono ?_
    rintro e w1 ⟨rfl, hu1⟩
    go_wp2_with fail
    go_ret
    exact Gives.mk rfl hu1
  · go_enter Try.func4, Try.ntmps4
    go_wp2_with fail
    refine (new_any _).mono ?_
    rintro e w1 ⟨g, rfl, hg, hd, hu1⟩
    have hgl : g < w1.heap.size := by obtain ⟨cs, f, hb, _⟩ := hd; exact blk_lt hb
    go_wp2_with fail
    go_loopw [4, 5] (fun o i wr => ∃ (k : Nat) (q : List Int), k ≤ l.length ∧ q.length ≤ 64 ∧ i = .int .i64 k ∧ DiceAt wr g q ∧ OwnS wr w1.heap.size 22 o (vals q) ∧ w1.heap.size ≤ wr.heap.size ∧ Up w0 wr) (fun _ i _ => l.length - (intOf i).toNat)
    case atStart => exact ⟨0, [], Nat.zero_le _, Nat.zero_le _, rfl, hd, OwnS.nil _ _ _, Nat.le_refl _, hu1⟩
    case round =>
      obtain ⟨k, q, hk, hq, rfl, hd, hown, hsz, hup⟩ := hrel
      by_cases hlt : k < l.length
      · obtain ⟨bb, off, rfl, hbb, hc⟩ := hrow (by omega)
        have hx : l[k]? = some l[k] := List.getElem?_eq_getElem hlt
        have s0 : ∀ w, Up w0 w → w.cell? ⟨bb, off + k * 2, none⟩ = some (.bool l[k].take) := fun w hu => by
          rw [hu.cell hbb]; have := hc k _ hx 0 _ rfl; simpa using this
        have s1 : ∀ w, Up w0 w → w.cell? ⟨bb, off + k * 2 + 1, none⟩ = some (.int .u64 l[k].n) := fun w hu => by
          rw [hu.cell hbb]; have := hc k _ hx 1 _ rfl; simpa [Nat.add_assoc] using this
        generalize l[k] = s at *
        obtain ⟨tk, n⟩ := s
        have t0 := s0 wr hup
        have t1 := s1 wr hup
        have H1 := Lib.hid s1
        clear s0 s1 hc hx hrow
        cases tk with
        | true =>
          cases q with
          | nil =>
            obtain ⟨p, cc, rfl, hc1, hc2⟩ := hown.shape
            have hl0 : (vals []).length = 0 := rfl
            rw [hl0] at hc1 hown ⊢
            clear hl0
            go_wp2_with fail
            refine (take_empty _ _ hd).mono ?_
            rintro e w2 ⟨rfl, rfl⟩
            go_wp2_with fail
            refine (left_any _ _ _ hd).mono ?_
            rintro e w3 ⟨rfl, rfl⟩
            go_wp2_with fail
            go_roundw
            case rel => exact ⟨k + 1, [], by omega, Nat.zero_le _, by go_num, hd, hown, hsz, hup⟩
            case measure => simp [intOf]; omega
          | cons x q =>
            replace hown : OwnS wr w1.heap.size 22 u4 (.int .u64 x :: vals q) := hown
            obtain ⟨gg, oo, cc, rfl, hc1, hc2, hg1, hg2, hx1⟩ := hown.shape1
            have hl1 : (vals q).length = q.length := by simp [vals]
            rw [hl1] at hc1
            unfold maxLen at hc2
            rw [hl1] at hown ⊢
            have hT : OwnS wr w1.heap.size 22 (.slice (some (if cc = 1 then ⟨gg, oo, none⟩ else ⟨gg, oo + 1, none⟩)) q.length (cc - 1)) (vals q) := by
              rw [← hl1] at hown ⊢; exact hown.tail
            have hq' : q.length ≤ 63 := by simp only [List.length_cons] at hq; omega
            clear hown hq
            by_cases hcc : cc = 1
            · subst hcc
              rw [if_pos rfl] at hT
              obtain rfl : q = [] := List.eq_nil_of_length_eq_zero (by omega)
              have HT := Lib.hid hT
              clear hT
              go_wp2_with fail
              refine (take_some _ _ _ _ hd).mono ?_
              rintro e w2 ⟨rfl, hd2, ho2⟩
              have hy : w2.cell? ⟨gg, oo, none⟩ = some (.int .u64 x) := by
                have := ho2.block hg2 (show gg ≠ g by omega)
                simp only [World.cell?, this]; exact hx1
              go_wp2_with fail
              refine (left_any _ _ _ hd2).mono ?_
              rintro e w3 ⟨rfl, rfl⟩
              go_wp2_with fail
              go_roundw
              case rel => exact ⟨k + 1, _, by omega, by first | omega | simp, by go_num, hd2, HT.out.only ho2 hgl, Nat.le_trans hsz ho2.size, hup.only ho2 hg⟩
              case measure => simp [intOf]; omega
            · rw [if_neg hcc] at hT
              have HT := Lib.hid hT
              clear hT
              go_wp2_with fail
              refine (take_some _ _ _ _ hd).mono ?_
              rintro e w2 ⟨rfl, hd2, ho2⟩
              have hy : w2.cell? ⟨gg, oo, none⟩ = some (.int .u64 x) := by
                have := ho2.block hg2 (show gg ≠ g by omega)
                simp only [World.cell?, this]; exact hx1
              go_wp2_with fail
              refine (left_any _ _ _ hd2).mono ?_
              rintro e w3 ⟨rfl, rfl⟩
              go_wp2_with fail
              go_roundw
              case rel => exact ⟨k + 1, _, by omega, by first | omega | simp, by go_num, hd2, HT.out.only ho2 hgl, Nat.le_trans hsz ho2.size, hup.only ho2 hg⟩
              case measure => simp [intOf]; omega
        | false =>
          obtain ⟨p, cc, rfl, hc1, hc2⟩ := hown.shape
          have hl1 : (vals q).length = q.length := by simp [vals]
          rw [hl1] at hc1 hown ⊢
          unfold maxLen at hc2
          have HO := Lib.hid hown
          clear hown
          by_cases h64 : q.length < 64
          · have hw1 := put_room wr g n q hd h64
            have hb64 : decide ((q.length : Int) < 64) = true := decide_eq_true (by omega)
            go_wp2_with fail
            refine hw1.mono ?_
            rintro e w2 ⟨rfl, hd2, ho2⟩
            have hup2 := hup.only ho2 hg
            have t2 := H1.out w2 hup2
            have hO2 := HO.out.only ho2 hgl
            have hz2 := Nat.le_trans hsz ho2.size
            have HO2 := Lib.hid hO2; have HP2 := Lib.hid hup2
            have HD2 := Lib.hid hd2
            clear hO2 hup2 ho2 hw1 hd hd2 t0 t1
            go_wp2_with (at_builtin; refine wpList_appS rfl _ _ 42 22 rfl rowU64 hz2 HO2.out rfl (.int .u64 n) rfl (by simp [Value.oneCell']) (by unfold maxLen; rw [hl1]; omega) (by rw [hl1]; omega) ?_; intro v' w' hown' hkeep hup' hsz'; rw [vals_snoc] at hown'; have hupw := hup' w0 (by have := hu1.size; omega) HP2.out; obtain ⟨cs3, f3, hb3, hr3⟩ := HD2.out; have hd3 : DiceAt w' g (q ++ [n]) := ⟨cs3, f3, hkeep _ _ hb3 hgl, hr3⟩; have hsz3 : w1.heap.size ≤ w'.heap.size := (Nat.le_trans hz2 hsz'); clear hkeep hup' hb3 hr3 hsz'; have HW := Lib.hid hown'; obtain ⟨p3, cc3, rfl, hc3, hm3⟩ := hown'.shape; clear hown')
            have hl2 : (vals (q ++ [n])).length = q.length + 1 := by simp [vals]
            have hW : OwnS w' w1.heap.size 22 (.slice p3 (q.length + 1) cc3) (vals (q ++ [n])) := by rw [← hl2]; exact HW.out
            rw [hl2] at hc3 ⊢
            refine (left_any _ _ _ hd3).mono ?_
            rintro e w3 ⟨rfl, rfl⟩
            have hl3 : (q ++ [n]).length = q.length + 1 := by simp
            rw [hl3]
            go_wp2_with fail
            go_roundw
            case rel => exact ⟨k + 1, q ++ [n], by omega, by rw [hl3]; omega, by go_num, hd3, hW, hsz3, hupw⟩
            case measure => simp [intOf]; omega
          · have hw1 := put_full wr g n q hd (by omega)
            have hb64 : decide ((q.length : Int) < 64) = false := decide_eq_false (by omega)
            go_wp2_with fail
            refine hw1.mono ?_
            rintro e w2 ⟨rfl, rfl⟩
            go_wp2_with fail
            refine (left_any _ _ _ hd).mono ?_
            rintro e w3 ⟨rfl, rfl⟩
            go_wp2_with fail
            go_roundw
            case rel => exact ⟨k + 1, q, by omega, by omega, by go_num, hd, HO.out, hsz, hup⟩
            case measure => simp [intOf]; omega
      · go_wp2_with fail
        refine (awake20_any _).mono ?_
        rintro e w2 ⟨rfl, hu2⟩
        go_wp2_with fail
        go_ret
        exact Gives.mk rfl (hup.trans hu2)

set_option linter.unusedVariables false in
set_option maxRecDepth 100000 in
theorem diceSteps_contract (H : Type) (enc : TypeId × Value → H) (W : World) (base : Nat) (args : Array Value) (ds gs : List (DataW H)) (before : List MemPlace)
    (hval : ∀ (j : Nat) t v, Try.f4.params[j]? = some t → args[j]? = some v → Value.okWide Try.prog W .any base t v)
    (hW : DataW.Whole enc Try.prog Try.f4.params.toList Rows.diceStepsSpec.vars false W args.toList ds gs before)
    (hsz : (DataW.weightsEach Try.prog (Try.f4.params.toList ++ (Rows.diceStepsSpec).plain.varTypes Try.prog) (ds ++ gs)).all (· ≤ reachBytes) = true) :
    Calls Try.prog 4 args W fun e W' => ∃ v, e = .returned v ∧ Rows.diceStepsSpec.post enc Try.prog Try.f4 false true false false W args v W' := by
  have hW' := hW
  obtain ⟨p, q, hA0, hV, rfl, hfz, hnd⟩ := hW
  have hA : DataW.TrodAll enc Try.prog W 0 (fun _ => true) true Try.f4.params.toList args.toList ds p := hA0
  rw [Try.params4] at hA hval hsz
  obtain ⟨v0, vs0, d0, ds0, p0, q0, hargs, rfl, rfl, h0, r0⟩ := trodAll_cons hA
  obtain ⟨rfl, rfl, rfl⟩ := trodAll_nil r0
  obtain rfl : args = #[v0] := by cases args; simp_all
  obtain ⟨rfl, rfl⟩ := trodVars_none hV
  clear hA0
  have elem0 : ∀ (n : Nat) (cs : List Value) (y : DataW H × List MemPlace), cs.length = 2 → DataW.trod enc Try.prog W 0 (fun _ => true) true n 44 cs = some y → ∃ x : DStp, cs = (fun x : DStp => [.bool x.take, .int .u64 x.n]) x ∧ (fun (x : DStp) y => y = .agg [.lit (.bool x.take), .lit (.int .u64 x.n)] ∧ True ∧ (Lit.int .u64 x.n).wf = true ∧ True) x y.1 := by
    intro n cs y hl h
    obtain ⟨ys, m, _, h2, h3, h4⟩ := struct_cells Try.underlying44 (by kernel_rfl) (by kernel_rfl) h
    obtain ⟨c0, c1, rfl⟩ := list2 hl
    obtain ⟨y0, y1, rfl⟩ := list2 h2
    obtain ⟨a0, rfl, rfl⟩ := bool_field Try.underlying4 (h4 0 _ _ rfl rfl)
    obtain ⟨a1, rfl, rfl, w1⟩ := int_field Try.underlying22 (h4 1 _ _ rfl rfl)
    subst h3
    exact ⟨⟨a0, a1⟩, rfl, rfl, trivial, w1, trivial⟩
  obtain ⟨l0, hr0, hd0⟩ := row_arg (cells := fun x : DStp => [.bool x.take, .int .u64 x.n]) (R := fun (x : DStp) y => y = .agg [.lit (.bool x.take), .lit (.int .u64 x.n)] ∧ True ∧ (Lit.int .u64 x.n).wf = true ∧ True) Try.underlying39 (by kernel_rfl) (by decide) elem0 (hval 0 39 v0 rfl rfl) h0
  have hb0 := row_all hd0 (fun x y (h : (fun (x : DStp) y => y = .agg [.lit (.bool x.take), .lit (.int .u64 x.n)] ∧ True ∧ (Lit.int .u64 x.n).wf = true ∧ True) x y) => And.intro (h.2.1) <| And.intro (bounds_u64 h.2.2.1) <| trivial)
  refine (diceSteps_walk v0 l0 hr0 hb0 W).mono fun e W' ⟨he, hu⟩ => ?_
  subst he
  exact ⟨_, rfl, post_true laidOut (by kernel_rfl) Try.underlying4 rfl rfl hW' rfl hu⟩

theorem diceSteps_closed : joinedFacts Try.prog 4 Try.f4 Rows.diceStepsSpec Rows.diceStepsRow = true := by
  unfold joinedFacts
  rw [fact_mayEnter, fact_lifted, fact_make]
  kernel_rfl

set_option maxRecDepth 100000 in
theorem diceSteps_lifted (os : Os) (started : os.Started) (H : Type) (enc : TypeId × Value → H) :
    ReturnsInHanded {} Try.checked os 4 .any (Rows.diceStepsSpec.pre6 enc Try.prog Try.f4 Rows.diceStepsRow.domain false) (Rows.diceStepsSpec.post enc Try.prog Try.f4 false true false false) := by
  refine returnsInHanded_of_change_sized (C := Try.checked) own started (by kernel_rfl) Try.func4
    (ChangeSpec.witness6 (enc := enc) (C := Try.checked) false ⟨#[], #[.slice none 0 0], []⟩ 8 (by kernel_rfl) (by kernel_rfl) (by kernel_rfl) (by kernel_rfl)) ?_
  intro W base args ds gs before hval hW _ hsz _
  exact diceSteps_contract H enc W base args ds gs before hval hW hsz

theorem diceSteps_holds : Rows.DiceStepsSaid :=
  OpenClaim.holds_of_wide 4 Try.f4 rfl rfl rfl rfl rfl rfl rfl ⟨rfl, rfl, rfl, rfl, rfl⟩ rfl rfl rfl rfl rfl (by kernel_rfl) Try.func4 diceSteps_closed
    (of_decide_eq_true (by kernel_rfl)) (by unfold Func.isWrapper; rw [if_neg (by decide +kernel)]; exact ⟨rfl, rfl⟩)
    (fun os started H enc _ => diceSteps_lifted os started H enc)
end Go.Proofs.Ytpldfoclogkppaa
