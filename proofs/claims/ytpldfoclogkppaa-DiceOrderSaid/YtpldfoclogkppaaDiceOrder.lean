/- 'DiceOrder': what is put in is taken in that order, up to 64, and dice that are not there have nothing: the law hands back true. Conditions: none. -/
import Derived.Test.YtpldfoclogkppaaRow
import Derived.Test.YtpldfoclogkppaaDiceB
namespace Go.Proofs.Ytpldfoclogkppaa
open Go Go.RowKit Go.ChangeShapes Go.WideShapes Go.ChangeAt Go.Deep

theorem DiceAt.up {w w' : World} {g : Nat} {q : List Int} (h : DiceAt w g q) (hu : Up w w') : DiceAt w' g q := by
  obtain ⟨cs, f, hb, r⟩ := h
  exact ⟨cs, f, by rw [hu.block (blk_lt hb)]; exact hb, r⟩
theorem DiceAt.len {w : World} {g : Nat} {q : List Int} (h : DiceAt w g q) : q.length ≤ 64 := by
  obtain ⟨cs, f, _, _, _, hq, _⟩ := h
  exact hq
def hasRoom (n : Nat) : Bool := decide (n < 64)
/-- a put, whatever room there is -/
theorem put_any (w : World) (g : Nat) (n : Int) (q : List Int) (h : DiceAt w g q) :
    Calls Try.prog 35 #[ptr g, .int .u64 n] w (fun e w' => e = .returned (.bool (hasRoom q.length)) ∧ DiceAt w' g ((q ++ [n]).take 64) ∧ Only g w w') := by
  rcases Nat.lt_or_ge q.length 64 with h1 | h1
  · refine (put_room w g n q h h1).mono ?_
    rintro e w' ⟨rfl, h2, h3⟩
    exact ⟨by rw [show hasRoom q.length = true from decide_eq_true h1], by rw [List.take_of_length_le (by simp; omega)]; exact h2, h3⟩
  · have h2 : q.length = 64 := Nat.le_antisymm h.len h1
    refine (put_full w g n q h h2).mono ?_
    rintro e w' ⟨rfl, rfl⟩
    exact ⟨by rw [show hasRoom q.length = false from decide_eq_false (by omega)], by rw [List.take_append_of_le_length (by omega), List.take_of_length_le (by omega)]; exact h, Only.refl _ _⟩

theorem take_step (l : List Int) (k : Nat) (x : Int) (hk : l[k]? = some x) : (((l.take k).take 64) ++ [x]).take 64 = (l.take (k + 1)).take 64 := by
  obtain ⟨h1, rfl⟩ := List.getElem?_eq_some_iff.1 hk
  rw [List.take_succ_eq_append_getElem h1]
  rcases Nat.lt_or_ge k 64 with h | h
  · rw [List.take_of_length_le (l := l.take k) (by simp; omega)]
  · rw [List.take_append_of_le_length (by simp; omega), List.take_append_of_le_length (by simp; omega), List.take_take]; simp

set_option maxHeartbeats 1600000 in
set_option maxRecDepth 100000 in
theorem diceOrder_walk (v : Value) (l : List Int) {w0 : World} (hr0 : Row w0 v l 1 (fun x => [.int .u64 x])) (_ : ∀ x ∈ l, 0 ≤ x ∧ x ≤ 18446744073709551615) (_ : World) :
    Calls Try.prog 6 #[v] w0 (Gives w0 (.bool true)) := by
  obtain ⟨p, cap, rfl, hl, hm, hrow⟩ := hr0
  unfold maxLen at hm
  go_enter Try.func6, Try.ntmps6
  go_wp2_with fail
  refine (take_nil _).mono ?_
  rintro e w1 ⟨rfl, rfl⟩
  go_wp2_with fail
  refine (put_nil _ _).mono ?_
  rintro e w2 ⟨rfl, rfl⟩
  go_wp2_with fail
  refine (left_nil _).mono ?_
  rintro e w3 ⟨rfl, rfl⟩
  go_wp2_with fail
  have hd0 := dice_new w3
  have hup0 : Up w3 (w3.alloc (.cells Try.zeroCells54 54)) := (Up.refl _).alloc _
  go_loopw [7] (fun i wr => ∃ k : Nat, k ≤ l.length ∧ k ≤ 1000 ∧ i = .int .i64 k ∧ DiceAt wr w3.heap.size ((l.take k).take 64) ∧ Up w3 wr) (fun i _ => l.length - (intOf i).toNat)
  case atStart => exact ⟨0, Nat.zero_le _, by omega, rfl, hd0, hup0⟩
  case round =>
    obtain ⟨k, hk, hk2, rfl, hd, hup⟩ := hrel
    rcases (by omega : (k < l.length ∧ k < 1000) ∨ (k < l.length ∧ ¬ k < 1000) ∨ ¬ k < l.length) with ⟨hlt, h1000⟩ | ⟨hlt, h1000⟩ | hlt
    · obtain ⟨b, off, rfl, hb, hc⟩ := hrow (by omega)
      have hx : l[k]? = some l[k] := List.getElem?_eq_getElem hlt
      have hcell : wr.cell? ⟨b, off + k, none⟩ = some (.int .u64 l[k]) := by
        rw [hup.cell hb]; have := hc k _ hx 0 _ rfl; simpa using this
      have HT := Lib.hid (take_step l k _ hx)
      clear hc
      go_wp2_with fail
      refine (put_any _ _ _ _ hd).mono ?_
      rintro e w4 ⟨rfl, hd4, ho⟩
      rw [HT.out] at hd4
      go_wp2_with fail
      go_roundw
      case rel => exact ⟨k + 1, by omega, by omega, by go_num, hd4, hup.only ho (Nat.le_refl _)⟩
      case measure => simp [intOf]; omega
    all_goals
      have hq : (l.take k).take 64 = l.take 64 := by
        rw [List.take_take]
        rcases Nat.lt_or_ge k 64 with h | h
        · rw [List.take_of_length_le (by omega), List.take_of_length_le (by omega)]
        · rw [show min 64 k = 64 from by omega]
      rw [hq] at hd
      clear hq
      go_wp2_with fail
      clear hk hk2
      go_loopw [8] (fun i wr2 => ∃ k : Nat, k ≤ l.length ∧ k ≤ 64 ∧ i = .int .i64 k ∧ DiceAt wr2 w3.heap.size ((l.take 64).drop k) ∧ Up w3 wr2) (fun i _ => l.length - (intOf i).toNat)
      case atStart => exact ⟨0, Nat.zero_le _, by omega, rfl, hd, hup⟩
      case round =>
        clear hd hup
        obtain ⟨k2, hk, hk2, rfl, hd, hup⟩ := hrel
        rcases (by omega : (k2 < l.length ∧ k2 < 64) ∨ (k2 < l.length ∧ ¬ k2 < 64) ∨ ¬ k2 < l.length) with ⟨hlt2, h64⟩ | ⟨hlt2, h64⟩ | hlt2
        · obtain ⟨b, off, rfl, hb, hc⟩ := hrow (by omega)
          have hx : l[k2]? = some l[k2] := List.getElem?_eq_getElem hlt2
          have hdr : (l.take 64).drop k2 = l[k2] :: (l.take 64).drop (k2 + 1) := by
            rw [List.drop_eq_getElem_cons (by simp; omega)]; simp
          rw [hdr] at hd
          have hcell : ∀ w : World, Up w3 w → w.cell? ⟨b, off + k2, none⟩ = some (.int .u64 l[k2]) := fun w hu => by
            rw [hu.cell hb]; have := hc k2 _ hx 0 _ rfl; simpa using this
          have HC := Lib.hid hcell
          clear hc hdr hcell hx
          go_wp2_with fail
          refine (take_some _ _ _ _ hd).mono ?_
          rintro e w5 ⟨rfl, hd5, ho⟩
          have hup5 := hup.only ho (Nat.le_refl _)
          have hc5 := HC.out w5 hup5
          go_wp2_with fail
          go_roundw
          case rel => exact ⟨k2 + 1, by omega, by omega, by go_num, hd5, hup5⟩
          case measure => simp [intOf]; omega
        all_goals
          have hz : (l.take 64).drop k2 = [] := List.drop_of_length_le (by simp; omega)
          rw [hz] at hd
          clear hz
          go_wp2_with fail
          refine (left_any _ _ _ hd).mono ?_
          rintro e w5 ⟨rfl, rfl⟩
          go_wp2_with fail
          refine (awake20_any _).mono ?_
          rintro e w6 ⟨rfl, hu6⟩
          go_wp2_with fail
          go_ret
          exact Gives.mk rfl (hup.trans hu6)

set_option linter.unusedVariables false in
set_option maxRecDepth 100000 in
theorem diceOrder_contract (H : Type) (enc : TypeId × Value → H) (W : World) (base : Nat) (args : Array Value) (ds gs : List (DataW H)) (before : List MemPlace)
    (hval : ∀ (j : Nat) t v, Try.f6.params[j]? = some t → args[j]? = some v → Value.okWide Try.prog W .any base t v)
    (hW : DataW.Whole enc Try.prog Try.f6.params.toList Rows.diceOrderSpec.vars false W args.toList ds gs before)
    (hsz : (DataW.weightsEach Try.prog (Try.f6.params.toList ++ (Rows.diceOrderSpec).plain.varTypes Try.prog) (ds ++ gs)).all (· ≤ reachBytes) = true) :
    Calls Try.prog 6 args W fun e W' => ∃ v, e = .returned v ∧ Rows.diceOrderSpec.post enc Try.prog Try.f6 false true false false W args v W' := by
  have hW' := hW
  obtain ⟨p, q, hA0, hV, rfl, hfz, hnd⟩ := hW
  have hA : DataW.TrodAll enc Try.prog W 0 (fun _ => true) true Try.f6.params.toList args.toList ds p := hA0
  rw [Try.params6] at hA hval hsz
  obtain ⟨v0, vs0, d0, ds0, p0, q0, hargs, rfl, rfl, h0, r0⟩ := trodAll_cons hA
  obtain ⟨rfl, rfl, rfl⟩ := trodAll_nil r0
  obtain rfl : args = #[v0] := by cases args; simp_all
  obtain ⟨rfl, rfl⟩ := trodVars_none hV
  clear hA0
  obtain ⟨l0, hr0, hd0⟩ := row_arg (cells := fun x => [.int .u64 x]) (R := fun x y => y = .lit (.int .u64 x) ∧ (Lit.int .u64 x).wf = true) Try.underlying42 (by kernel_rfl) (by decide) (elem_int Try.underlying22) (hval 0 42 v0 rfl rfl) h0
  have hb0 := row_all hd0 (fun x y (h : y = .lit (.int .u64 x) ∧ (Lit.int .u64 x).wf = true) => bounds_u64 h.2)
  refine (diceOrder_walk v0 l0 hr0 hb0 W).mono fun e W' ⟨he, hu⟩ => ?_
  subst he
  exact ⟨_, rfl, post_true laidOut (by kernel_rfl) Try.underlying4 rfl rfl hW' rfl hu⟩

theorem diceOrder_closed : joinedFacts Try.prog 6 Try.f6 Rows.diceOrderSpec Rows.diceOrderRow = true := by
  unfold joinedFacts
  rw [fact_mayEnter, fact_lifted, fact_make]
  kernel_rfl

set_option maxRecDepth 100000 in
theorem diceOrder_lifted (os : Os) (started : os.Started) (H : Type) (enc : TypeId × Value → H) :
    ReturnsInHanded {} Try.checked os 6 .any (Rows.diceOrderSpec.pre6 enc Try.prog Try.f6 Rows.diceOrderRow.domain false) (Rows.diceOrderSpec.post enc Try.prog Try.f6 false true false false) := by
  refine returnsInHanded_of_change_sized (C := Try.checked) own started (by kernel_rfl) Try.func6
    (ChangeSpec.witness6 (enc := enc) (C := Try.checked) false ⟨#[], #[.slice none 0 0], []⟩ 8 (by kernel_rfl) (by kernel_rfl) (by kernel_rfl) (by kernel_rfl)) ?_
  intro W base args ds gs before hval hW _ hsz _
  exact diceOrder_contract H enc W base args ds gs before hval hW hsz

theorem diceOrder_holds : Rows.DiceOrderSaid :=
  OpenClaim.holds_of_wide 6 Try.f6 rfl rfl rfl rfl rfl rfl rfl ⟨rfl, rfl, rfl, rfl, rfl⟩ rfl rfl rfl rfl rfl (by kernel_rfl) Try.func6 diceOrder_closed
    (of_decide_eq_true (by kernel_rfl)) (by unfold Func.isWrapper; rw [if_neg (by decide +kernel)]; exact ⟨rfl, rfl⟩)
    (fun os started H enc _ => diceOrder_lifted os started H enc)
end Go.Proofs.Ytpldfoclogkppaa
