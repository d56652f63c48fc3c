/- 'MacFresh': behind an Issue nothing that was issued ahead for the owner is known, behind a Revoke nothing is, and others' stays: the law hands back true. Conditions: none. -/
import Derived.Test.YtmmmaekaoanceaaArr
import Derived.Test.YtmmmaekaoanceaaMacE
namespace Go.Proofs.Ytmmmaekaoanceaa
open Go Go.RowKit Go.ChangeShapes Go.WideShapes Go.ChangeAt Go.Deep

theorem clear_knows (t : Tab) (o : Nat) (e : Int) (x : Nat) : knowsT (t.clear o) o e x = false := by
  unfold knowsT Tab.clear
  rw [decide_eq_false_iff_not]
  rintro ⟨_, _, h1, h2⟩
  rw [Int.toNat_natCast] at h2
  simp only [if_pos] at h2
  exact h1 (congrArg Prod.snd h2).symm
theorem clear_other (t : Tab) (o p : Nat) (e : Int) (x : Nat) (h : p ≠ o) : knowsT (t.clear o) p e x = knowsT t p e x := by
  unfold knowsT Tab.clear
  rw [Int.toNat_natCast]
  simp [h]
theorem issue_es (t : Tab) (o n : Nat) : (t.issue o n).es o = t.es o + 1 := by unfold Tab.issue; simp
theorem issue_only (t : Tab) (o n : Nat) (e : Int) (x : Nat) (h : e ≠ ((t.es o + 1 : Nat) : Int)) : knowsT (t.issue o n) o e x = false := by
  unfold knowsT Tab.issue
  rw [decide_eq_false_iff_not]
  rintro ⟨_, _, h1, h2⟩
  rw [Int.toNat_natCast] at h2
  simp only [if_pos] at h2
  exact h (congrArg Prod.fst h2).symm

set_option maxHeartbeats 3200000 in
set_option maxRecDepth 100000 in
theorem macFresh_walk (a : Int) (a0 : 0 ≤ a) (a1 : a ≤ 18446744073709551615) (b : Int) (b0 : 0 ≤ b) (b1 : b ≤ 18446744073709551615) (x : Int) (x0 : 0 ≤ x) (x1 : x ≤ 255) (y : Int) (y0 : 0 ≤ y) (y1 : y ≤ 255) (w : World) :
    Calls Try.prog 4 #[.int .u64 a, .int .u64 b, .agg #[.int .u8 x, .int .u8 y]] w (Gives w (.bool true)) := by
  obtain ⟨a, rfl⟩ := Int.eq_ofNat_of_zero_le a0
  obtain ⟨b, rfl⟩ := Int.eq_ofNat_of_zero_le b0
  obtain ⟨x, rfl⟩ := Int.eq_ofNat_of_zero_le x0
  obtain ⟨y, rfl⟩ := Int.eq_ofNat_of_zero_le y0
  go_enter Try.func4, Try.ntmps4
  go_wp2_with fail
  refine wp_region_up (by kernel_rfl) (by kernel_rfl) (Up.refl _) ?_
  repeat (go_big_quiet_step (fail))
  refine wpQuiet_nil ?_
  intro w0 hu0
  have hup0 := ((Up.refl w).alloc _).trans hu0
  rw [show (x : Int) % 9 = ((x % 9 : Nat) : Int) from by omega, show (y : Int) % 9 = ((y % 9 : Nat) : Int) from by omega]
  have ho := Nat.mod_lt x (y := 9) (by decide)
  have hp := Nat.mod_lt y (y := 9) (by decide)
  generalize x % 9 = o at *
  generalize y % 9 = p at *
  clear hu0
  by_cases hop : o = p
  · have d1 : ((o : Int) == (p : Int)) = true := by rw [beq_iff_eq]; omega
    clear hop
    go_wp2_with fail
    refine (awake21_any _).mono ?_
    rintro e w1 ⟨rfl, hu1⟩
    go_wp2_with fail
    go_ret
    exact Gives.mk rfl (hup0.trans hu1)
  · have d1 : ((o : Int) == (p : Int)) = false := by rw [beq_eq_false_iff_ne]; omega
    have hpo : p ≠ o := fun h => hop h.symm
    have E1 : (Tab.none.issue o a).es p = 0 := by unfold Tab.issue Tab.none; simp [hpo]
    have E2 : ((Tab.none.issue o a).issue p b).es o = 1 := by unfold Tab.issue Tab.none; simp [hop]
    have E3 : (((Tab.none.issue o a).issue p b).issue o a).es o = 2 := by rw [issue_es, E2]
    have K1 := Lib.hid (show knowsT (((Tab.none.issue o a).issue p b).issue o a) o 1 (tagN a 1 o) = false from issue_only _ _ _ _ _ (by rw [E2]; decide))
    have K2 := Lib.hid (show knowsT (((Tab.none.issue o a).issue p b).issue o a) o 2 (tagN a 2 o) = true by
      have := issue_knows ((Tab.none.issue o a).issue p b) o a (by omega)
      rw [E2] at this; exact this)
    have hK3 : knowsT (((Tab.none.issue o a).issue p b).issue o a) p 1 (tagN b 1 p) = true := by
      rw [issue_other _ _ _ _ _ _ hpo]
      have := issue_knows (Tab.none.issue o a) p b (by omega)
      rw [E1] at this; exact this
    have K3 := Lib.hid hK3
    have K4 := Lib.hid (clear_knows (((Tab.none.issue o a).issue p b).issue o a) o 2 (tagN a 2 o))
    have K5 := Lib.hid (clear_knows (((Tab.none.issue o a).issue p b).issue o a) o 0 0)
    have K6 := Lib.hid ((clear_other (((Tab.none.issue o a).issue p b).issue o a) o p 1 (tagN b 1 p) hpo).trans hK3)
    have R1 := Lib.hid (show revE (((Tab.none.issue o a).issue p b).issue o a) o = 0 by
      unfold revE
      rw [if_neg]
      intro h
      have := congrArg Prod.snd h
      unfold Tab.issue at this
      simp only [if_pos] at this
      exact tagN_pos _ _ _ this)
    have R2 := Lib.hid (show revE ((((Tab.none.issue o a).issue p b).issue o a).clear o) o = 12 by
      unfold revE
      rw [if_pos]
      unfold Tab.clear
      simp)
    have hE1 := Lib.hid E1; have hE2 := Lib.hid E2; have hE3 := Lib.hid E3
    have hlt1 : (Tab.none.issue o a).es p ≤ 1000000 := by omega
    have hlt2 : ((Tab.none.issue o a).issue p b).es o ≤ 1000000 := by omega
    have L1 := Lib.hid hlt1; have L2 := Lib.hid hlt2
    clear E1 E2 E3 hlt1 hlt2 hK3
    go_wp2_with fail
    refine (new_any _).mono ?_
    rintro e w1 ⟨d, rfl, hd, hD, hu1⟩
    go_wp2_with fail
    refine (put_room _ _ _ _ hD (by simp)).mono ?_
    rintro e w2 ⟨rfl, hD2, ho2⟩
    go_wp2_with fail
    refine (put_room _ _ _ _ hD2 (by simp)).mono ?_
    rintro e w3 ⟨rfl, hD3, ho3⟩
    go_wp2_with fail
    refine (put_room _ _ _ _ hD3 (by simp)).mono ?_
    rintro e w4 ⟨rfl, hD4, ho4⟩
    have hT4 := tab_new w4
    have hup4 : Up w (w4.alloc (.cells tabCells 55)) := ((((hup0.trans hu1).only ho2 (Nat.le_trans hup0.size hd)).only ho3 (Nat.le_trans hup0.size hd)).only ho4 (Nat.le_trans hup0.size hd)).alloc _
    have hD5 := hD4.up' ((Up.refl w4).alloc (.cells tabCells 55))
    have hgd : w4.heap.size ≠ d := by have := hD4.lt; omega
    have hwg : w.heap.size ≤ w4.heap.size := ((((hup0.trans hu1).only ho2 (Nat.le_trans hup0.size hd)).only ho3 (Nat.le_trans hup0.size hd)).only ho4 (Nat.le_trans hup0.size hd)).size
    have hwd : w.heap.size ≤ d := Nat.le_trans hup0.size hd
    have HD5 := Lib.hid hD5; have HT4 := Lib.hid hT4; have HU4 := Lib.hid hup4
    clear hD hD2 hD3 hD4 ho2 ho3 ho4 hu1 hD5 hT4 hup4 hup0
    go_wp2_with fail
    refine (issue_ok o a _ d Tab.none [(b : Int), (a : Int)] _ (by omega) (by omega) HT4.out HD5.out hgd (by show 0 ≤ 1000000; decide)).mono ?_
    rintro e w5 ⟨rfl, hT5, hD6, hu5⟩
    rw [show ((Tab.none.es o + 1 : Nat) : Int) = 1 from rfl, show Tab.none.es o + 1 = 1 from rfl]
    go_wp2_with fail
    refine (issue_ok p b _ d (Tab.none.issue o a) [(a : Int)] _ (by omega) (by omega) hT5 hD6 hgd L1.out).mono ?_
    rintro e w6 ⟨rfl, hT6, hD7, hu6⟩
    rw [hE1.out]
    go_wp2_with fail
    refine (issue_ok o a _ d ((Tab.none.issue o a).issue p b) [] _ (by omega) (by omega) hT6 hD7 hgd L2.out).mono ?_
    rintro e w7 ⟨rfl, hT7, hD8, hu7⟩
    rw [hE2.out]
    have hup7 := hu7.up w hwg hwd (hu6.up w hwg hwd (hu5.up w hwg hwd HU4.out))
    clear hT5 hT6 hD6 hD7 hD8 hu5 hu6 hu7
    go_wp2_with fail
    refine (knows_any o 1 (tagN a 1 o) _ _ _ hT7).mono ?_
    rintro e w8 ⟨rfl, rfl⟩
    rw [K1.out]
    go_wp2_with fail
    refine (knows_any o 2 (tagN a 2 o) _ _ _ hT7).mono ?_
    rintro e w8 ⟨rfl, rfl⟩
    rw [K2.out]
    go_wp2_with fail
    refine (knows_any p 1 (tagN b 1 p) _ _ _ hT7).mono ?_
    rintro e w8 ⟨rfl, rfl⟩
    rw [K3.out]
    go_wp2_with fail
    refine (revoke_in o _ _ _ (by omega) hT7).mono ?_
    rintro e w8 ⟨rfl, hT8, ho8⟩
    rw [R1.out]
    have hup8 := hup7.only ho8 hwg
    go_wp2_with fail
    refine (knows_any o 2 (tagN a 2 o) _ _ _ hT8).mono ?_
    rintro e w9 ⟨rfl, rfl⟩
    rw [K4.out]
    go_wp2_with fail
    refine (knows_any o 0 0 _ _ _ hT8).mono ?_
    rintro e w9 ⟨rfl, rfl⟩
    rw [K5.out]
    go_wp2_with fail
    refine (knows_any p 1 (tagN b 1 p) _ _ _ hT8).mono ?_
    rintro e w9 ⟨rfl, rfl⟩
    rw [K6.out]
    go_wp2_with fail
    refine (mepoch_in o _ _ _ (by omega) hT8).mono ?_
    rintro e w9 ⟨rfl, rfl⟩
    rw [show ((((Tab.none.issue o a).issue p b).issue o a).clear o).es o = 2 from hE3.out]
    go_wp2_with fail
    refine (revoke_in o _ _ _ (by omega) hT8).mono ?_
    rintro e w9 ⟨rfl, hT9, ho9⟩
    rw [R2.out]
    have hup9 := hup8.only ho9 hwg
    go_wp2_with fail
    refine (awake21_any _).mono ?_
    rintro e w10 ⟨rfl, hu10⟩
    go_wp2_with fail
    go_ret
    exact Gives.mk rfl (hup9.trans hu10)

set_option linter.unusedVariables false in
set_option maxRecDepth 100000 in
theorem macFresh_contract (H : Type) (enc : TypeId × Value → H) (W : World) (base : Nat) (args : Array Value) (ds gs : List (DataW H)) (before : List MemPlace)
    (hval : ∀ (j : Nat) t v, Try.f4.params[j]? = some t → args[j]? = some v → Value.okWide Try.prog W .any base t v)
    (hW : DataW.Whole enc Try.prog Try.f4.params.toList Rows.macFreshSpec.vars false W args.toList ds gs before)
    (hsz : (DataW.weightsEach Try.prog (Try.f4.params.toList ++ (Rows.macFreshSpec).plain.varTypes Try.prog) (ds ++ gs)).all (· ≤ reachBytes) = true) :
    Calls Try.prog 4 args W fun e W' => ∃ v, e = .returned v ∧ Rows.macFreshSpec.post enc Try.prog Try.f4 false true false false W args v W' := by
  have hW' := hW
  obtain ⟨p, q, hA0, hV, rfl, hfz, hnd⟩ := hW
  have hA : DataW.TrodAll enc Try.prog W 0 (fun _ => true) true Try.f4.params.toList args.toList ds p := hA0
  rw [Try.params4] at hA hval hsz
  obtain ⟨v0, vs0, d0, ds0, p0, q0, hargs, rfl, rfl, h0, r0⟩ := trodAll_cons hA
  obtain ⟨v1, vs1, d1, ds1, p1, q1, rfl, rfl, rfl, h1, r1⟩ := trodAll_cons r0
  obtain ⟨v2, vs2, d2, ds2, p2, q2, rfl, rfl, rfl, h2, r2⟩ := trodAll_cons r1
  obtain ⟨rfl, rfl, rfl⟩ := trodAll_nil r2
  obtain rfl : args = #[v0, v1, v2] := by cases args; simp_all
  obtain ⟨rfl, rfl⟩ := trodVars_none hV
  clear hA0
  obtain ⟨a0, rfl, rfl, rfl, w0⟩ := open_int Try.underlying29 (hval 0 29 v0 rfl rfl) h0
  have b0 := bounds_u64 w0
  obtain ⟨a1, rfl, rfl, rfl, w1⟩ := open_int Try.underlying29 (hval 1 29 v1 rfl rfl) h1
  have b1 := bounds_u64 w1
  obtain ⟨l2, ys2, n2, rfl, hl2, hy2, rfl, rfl, hf2⟩ := array_arg Try.underlying49 (by kernel_rfl) (by kernel_rfl) (hval 2 49 v2 rfl rfl) h2
  obtain ⟨c2_0, c2_1, rfl⟩ := list2 hl2
  obtain ⟨y2_0, y2_1, rfl⟩ := list2 hy2
  obtain ⟨a2_0, rfl, rfl, w2_0⟩ := int_field Try.underlying5 (hf2 0 _ rfl)
  have b2_0 := bounds_byte w2_0
  obtain ⟨a2_1, rfl, rfl, w2_1⟩ := int_field Try.underlying5 (hf2 1 _ rfl)
  have b2_1 := bounds_byte w2_1
  refine (macFresh_walk a0 b0.1 b0.2 a1 b1.1 b1.2 a2_0 b2_0.1 b2_0.2 a2_1 b2_1.1 b2_1.2 W).mono fun e W' ⟨he, hu⟩ => ?_
  subst he
  exact ⟨_, rfl, post_true laidOut (by kernel_rfl) Try.underlying4 rfl rfl hW' rfl hu⟩

theorem macFresh_closed : joinedFacts Try.prog 4 Try.f4 Rows.macFreshSpec Rows.macFreshRow = true := by
  unfold joinedFacts
  rw [fact_mayEnter, fact_lifted, fact_make]
  kernel_rfl

set_option maxRecDepth 100000 in
theorem macFresh_lifted (os : Os) (started : os.Started) (H : Type) (enc : TypeId × Value → H) :
    ReturnsInHanded {} Try.checked os 4 .any (Rows.macFreshSpec.pre6 enc Try.prog Try.f4 Rows.macFreshRow.domain false) (Rows.macFreshSpec.post enc Try.prog Try.f4 false true false false) := by
  refine returnsInHanded_of_change_sized (C := Try.checked) own started (by kernel_rfl) Try.func4
    (ChangeSpec.witness6 (enc := enc) (C := Try.checked) false ⟨#[], #[.int .u64 0, .int .u64 0, .agg #[.int .u8 0, .int .u8 0]], []⟩ 8 (by kernel_rfl) (by kernel_rfl) (by kernel_rfl) (by kernel_rfl)) ?_
  intro W base args ds gs before hval hW _ hsz _
  exact macFresh_contract H enc W base args ds gs before hval hW hsz

theorem macFresh_holds : Rows.MacFreshSaid :=
  OpenClaim.holds_of_wide 4 Try.f4 rfl rfl rfl rfl rfl rfl rfl ⟨rfl, rfl, rfl, rfl, rfl⟩ rfl rfl rfl rfl rfl (by kernel_rfl) Try.func4 macFresh_closed
    (of_decide_eq_true (by kernel_rfl)) (by unfold Func.isWrapper; rw [if_neg (by decide +kernel)]; exact ⟨rfl, rfl⟩)
    (fun os started H enc _ => macFresh_lifted os started H enc)
end Go.Proofs.Ytmmmaekaoanceaa
