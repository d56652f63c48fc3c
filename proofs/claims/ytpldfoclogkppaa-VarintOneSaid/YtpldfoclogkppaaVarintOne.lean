/- 'VarintOne': the bytes of which a number is taken are those that are put for it, and a greater number has no fewer bytes: the law hands back true. Conditions: none. -/
import Derived.Test.YtpldfoclogkppaaFrame
import Derived.Test.YtpldfoclogkppaaVarD
import Derived.Test.YtpldfoclogkppaaPlainW
namespace Go.Proofs.Ytpldfoclogkppaa
open Go Go.RowKit Go.ChangeShapes Go.WideShapes Go.ChangeAt
open Go.ChangeMaps (open_string shut_string)

theorem extract_eq (s : ByteArray) (k : Nat) (l : List UInt8) (h : l = s.data.toList.take k) : S l = s.extract 0 k := by
  conv => rhs; rw [← S_of s]
  rw [S_extract, h]; simp

set_option maxHeartbeats 400000 in
set_option maxRecDepth 100000 in
theorem varintOne_walk (s : ByteArray) (hs : s.size ≤ maxLen) (n : Int) (h0 : 0 ≤ n) (h1 : n ≤ 18446744073709551615) (m : Int) (g0 : 0 ≤ m) (g1 : m ≤ 18446744073709551615) (w : World) :
    Calls Try.prog 12 #[.string s, .int .u64 n, .int .u64 m] w (Gives w (.bool true)) := by
  have hb := takeL_bd s.data.toList
  have hs2 := takeL_small s.data.toList
  have hone := @takeL_one s.data.toList
  have hs0 := hs
  generalize hr : takeL s.data.toList = r at *
  have HR := Lib.hid hr; clear hr
  obtain ⟨x, k, e⟩ := r
  simp only at hb hs2
  obtain ⟨hb0, hb1, hb2, hb3⟩ := hb
  have hk : k ≤ s.size := by simpa using hb3
  unfold maxLen at hs
  -- the second half: n > m, or the lengths stand so; the same, or not the same
  have hmono : n ≤ m → ((putL n.toNat).length : Int) ≤ ((putL m.toNat).length : Int) := fun h => by
    have := putL_mono n.toNat n.toNat m.toNat (Nat.le_refl _) (by omega); omega
  have hQ : ((S (putL n.toNat)).toList == (S (putL m.toNat)).toList) = (n == m) := by
    rw [S_toList, S_toList]
    by_cases h : n = m
    · subst h; simp
    · have hne : putL n.toNat ≠ putL m.toNat := fun h2 => h (by
        have := putL_inj (n := n.toNat) (m := m.toNat) (by omega) (by omega) h2; omega)
      rw [beq_eq_false_iff_ne.2 hne, beq_eq_false_iff_ne.2 h]
  by_cases he : e = 0
  · subst he
    obtain ⟨o1, o2, o3, o4⟩ := hone rfl
    have HX : ((S (putL x)).toList == (s.extract 0 k).toList) = true := by rw [extract_eq s k _ o1]; simp
    have d1 : decide ((k : Int) < 1) = false := by simp; omega
    have d2 : decide ((10 : Int) < k) = false := by simp; omega
    have d3 : decide ((s.size : Int) < k) = false := by simp; omega
    have d4 : decide (s.size < k) = false := by simp; omega
    clear o1 hone hb3 o3
    by_cases hnm : m < n
    · clear hmono
      go_enter Try.func12, Try.ntmps12
      go_wp2_with fail
      refine (vartake_any s _ hs0).mono ?_
      rintro e w1 ⟨rfl, hu1⟩
      rw [HR.out]
      unfold takeV
      go_wp2_with fail
      refine wp_region_up (by kernel_rfl) (by kernel_rfl) hu1 ?_
      repeat (go_big_quiet_step ((exact quiet_up (varput_any _ _ (by omega) (by omega)))))
      refine wpQuiet_nil ?_
      intro w2 hu2
      go_wp2_with fail
      refine (varput_any _ _ h0 h1).mono ?_
      rintro e w5 ⟨rfl, hu5⟩
      go_wp2_with fail
      refine (varput_any _ _ g0 g1).mono ?_
      rintro e w6 ⟨rfl, hu6⟩
      go_wp2_with fail
      refine (awake_any _).mono ?_
      rintro e w7 ⟨rfl, hu7⟩
      go_wp2_with fail
      go_ret
      exact Gives.mk rfl (((hu2.trans hu5).trans hu6).trans hu7)
    · have hle := hmono (by omega)
      clear hmono
      go_enter Try.func12, Try.ntmps12
      go_wp2_with fail
      refine (vartake_any s _ hs0).mono ?_
      rintro e w1 ⟨rfl, hu1⟩
      rw [HR.out]
      unfold takeV
      go_wp2_with fail
      refine wp_region_up (by kernel_rfl) (by kernel_rfl) hu1 ?_
      repeat (go_big_quiet_step ((exact quiet_up (varput_any _ _ (by omega) (by omega)))))
      refine wpQuiet_nil ?_
      intro w2 hu2
      go_wp2_with fail
      refine (len_any _ _ h0 h1).mono ?_
      rintro e w3 ⟨rfl, hu3⟩
      go_wp2_with fail
      refine (len_any _ _ g0 g1).mono ?_
      rintro e w4 ⟨rfl, hu4⟩
      go_wp2_with fail
      refine (varput_any _ _ h0 h1).mono ?_
      rintro e w5 ⟨rfl, hu5⟩
      go_wp2_with fail
      refine (varput_any _ _ g0 g1).mono ?_
      rintro e w6 ⟨rfl, hu6⟩
      go_wp2_with fail
      refine (awake_any _).mono ?_
      rintro e w7 ⟨rfl, hu7⟩
      go_wp2_with fail
      go_ret
      exact Gives.mk rfl (((((hu2.trans hu3).trans hu4).trans hu5).trans hu6).trans hu7)
  · have hd : (e == 0) = false := by rw [beq_eq_false_iff_ne]; exact he
    clear he hone hb3
    by_cases hnm : m < n
    · clear hmono
      go_enter Try.func12, Try.ntmps12
      go_wp2_with fail
      refine (vartake_any s _ hs0).mono ?_
      rintro e w1 ⟨rfl, hu1⟩
      rw [HR.out]
      unfold takeV
      go_wp2_with fail
      refine wp_region_up (by kernel_rfl) (by kernel_rfl) hu1 ?_
      repeat (go_big_quiet_step (fail))
      refine wpQuiet_nil ?_
      intro w2 hu2
      go_wp2_with fail
      refine (varput_any _ _ h0 h1).mono ?_
      rintro e w5 ⟨rfl, hu5⟩
      go_wp2_with fail
      refine (varput_any _ _ g0 g1).mono ?_
      rintro e w6 ⟨rfl, hu6⟩
      go_wp2_with fail
      refine (awake_any _).mono ?_
      rintro e w7 ⟨rfl, hu7⟩
      go_wp2_with fail
      go_ret
      exact Gives.mk rfl (((hu2.trans hu5).trans hu6).trans hu7)
    · have hle := hmono (by omega)
      clear hmono
      go_enter Try.func12, Try.ntmps12
      go_wp2_with fail
      refine (vartake_any s _ hs0).mono ?_
      rintro e w1 ⟨rfl, hu1⟩
      rw [HR.out]
      unfold takeV
      go_wp2_with fail
      refine wp_region_up (by kernel_rfl) (by kernel_rfl) hu1 ?_
      repeat (go_big_quiet_step (fail))
      refine wpQuiet_nil ?_
      intro w2 hu2
      go_wp2_with fail
      refine (len_any _ _ h0 h1).mono ?_
      rintro e w3 ⟨rfl, hu3⟩
      go_wp2_with fail
      refine (len_any _ _ g0 g1).mono ?_
      rintro e w4 ⟨rfl, hu4⟩
      go_wp2_with fail
      refine (varput_any _ _ h0 h1).mono ?_
      rintro e w5 ⟨rfl, hu5⟩
      go_wp2_with fail
      refine (varput_any _ _ g0 g1).mono ?_
      rintro e w6 ⟨rfl, hu6⟩
      go_wp2_with fail
      refine (awake_any _).mono ?_
      rintro e w7 ⟨rfl, hu7⟩
      go_wp2_with fail
      go_ret
      exact Gives.mk rfl (((((hu2.trans hu3).trans hu4).trans hu5).trans hu6).trans hu7)

set_option linter.unusedVariables false in
set_option maxRecDepth 100000 in
theorem varintOne_contract (H : Type) (enc : TypeId × Value → H) (W : World) (base : Nat) (args : Array Value) (ds gs : List (DataW H)) (before : List MemPlace)
    (hval : ∀ (j : Nat) t v, Try.f12.params[j]? = some t → args[j]? = some v → Value.okWide Try.prog W .any base t v)
    (hW : DataW.Whole enc Try.prog Try.f12.params.toList Rows.varintOneSpec.vars false W args.toList ds gs before)
    (hsz : (DataW.weightsEach Try.prog (Try.f12.params.toList ++ (Rows.varintOneSpec).plain.varTypes Try.prog) (ds ++ gs)).all (· ≤ reachBytes) = true) :
    Calls Try.prog 12 args W fun e W' => ∃ v, e = .returned v ∧ Rows.varintOneSpec.post enc Try.prog Try.f12 false true false false W args v W' := by
  have hW' := hW
  obtain ⟨p, q, hA0, hV, rfl, hfz, hnd⟩ := hW
  have hA : DataW.TrodAll enc Try.prog W 0 (fun _ => true) true Try.f12.params.toList args.toList ds p := hA0
  rw [Try.params12] at hA hval hsz
  obtain ⟨v0, vs0, d0, ds0, p0, q0, hargs, rfl, rfl, h0, r0⟩ := trodAll_cons hA
  obtain ⟨v1, vs1, d1, ds1, p1, q1, rfl, rfl, rfl, h1, r1⟩ := trodAll_cons r0
  obtain ⟨v2, vs2, d2, ds2, p2, q2, rfl, rfl, rfl, h2, r2⟩ := trodAll_cons r1
  obtain ⟨rfl, rfl, rfl⟩ := trodAll_nil r2
  obtain rfl : args = #[v0, v1, v2] := by cases args; simp_all
  obtain ⟨rfl, rfl⟩ := trodVars_none hV
  clear hA0
  obtain ⟨a0, rfl, rfl, rfl, w0⟩ := open_string Try.underlying9 (hval 0 9 v0 rfl rfl) h0
  obtain ⟨a1, rfl, rfl, rfl, w1⟩ := open_int Try.underlying22 (hval 1 22 v1 rfl rfl) h1
  have b1 := bounds_u64 w1
  obtain ⟨a2, rfl, rfl, rfl, w2⟩ := open_int Try.underlying22 (hval 2 22 v2 rfl rfl) h2
  have b2 := bounds_u64 w2
  refine (varintOne_walk a0 w0 a1 b1.1 b1.2 a2 b2.1 b2.2 W).mono fun e W' ⟨he, hu⟩ => ?_
  subst he
  exact ⟨_, rfl, post_true laidOut (by kernel_rfl) Try.underlying4 rfl rfl hW' rfl hu⟩

theorem varintOne_closed : joinedFacts Try.prog 12 Try.f12 Rows.varintOneSpec Rows.varintOneRow = true := by
  unfold joinedFacts
  rw [fact_mayEnter, fact_lifted, fact_make]
  kernel_rfl

set_option maxRecDepth 100000 in
theorem varintOne_lifted (os : Os) (started : os.Started) (H : Type) (enc : TypeId × Value → H) :
    ReturnsInHanded {} Try.checked os 12 .any (Rows.varintOneSpec.pre6 enc Try.prog Try.f12 Rows.varintOneRow.domain false) (Rows.varintOneSpec.post enc Try.prog Try.f12 false true false false) := by
  refine returnsInHanded_of_change_sized (C := Try.checked) own started (by kernel_rfl) Try.func12
    (ChangeSpec.witness6 (enc := enc) (C := Try.checked) false ⟨#[], #[.string ⟨#[]⟩, .int .u64 0, .int .u64 0], []⟩ 8 (by kernel_rfl) (by kernel_rfl) (by kernel_rfl) (by kernel_rfl)) ?_
  intro W base args ds gs before hval hW _ hsz _
  exact varintOne_contract H enc W base args ds gs before hval hW hsz

theorem varintOne_holds : Rows.VarintOneSaid :=
  OpenClaim.holds_of_wide 12 Try.f12 rfl rfl rfl rfl rfl rfl rfl ⟨rfl, rfl, rfl, rfl, rfl⟩ rfl rfl rfl rfl rfl (by kernel_rfl) Try.func12 varintOne_closed
    (of_decide_eq_true (by kernel_rfl)) (by unfold Func.isWrapper; rw [if_neg (by decide +kernel)]; exact ⟨rfl, rfl⟩)
    (fun os started H enc _ => varintOne_lifted os started H enc)
end Go.Proofs.Ytpldfoclogkppaa
