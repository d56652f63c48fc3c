/- 'HelloBack': what is put is taken, if it is not too great, and what was taken is put so: the law hands back true. Conditions: none. -/
import Derived.Test.YtmmmaekaoanceaaHelloTakes
namespace Go.Proofs.Ytmmmaekaoanceaa
open Go Go.RowKit Go.ChangeShapes Go.WideShapes Go.ChangeAt Go.Deep
open Go.ChangeMaps (open_string shut_string)

def hL (o e t : Nat) : List UInt8 := putL o ++ putL e ++ putL t
theorem hL_size (o e t : Nat) (h0 : o < 18446744073709551616) (h1 : e < 18446744073709551616) (h2 : t < 18446744073709551616) : (S (hL o e t)).size ≤ 30 := by
  have := putL_ten h0; have := putL_ten h1; have := putL_ten h2
  rw [S_size]; unfold hL; simp only [List.length_append]; omega
theorem h_back (o e t : Nat) (h0 : o ≤ 2147483647) (h1' : e ≤ 2147483647) (h2' : t < 18446744073709551616) : helloT (S (hL o e t)) = (o, e, t, 0) := by
  have q1 : h1 (S (hL o e t)) = (o, 0 + (putL o).length, 0) := int_put (r := putL e ++ putL t) (by rw [S_list, List.drop_zero]; unfold hL; rw [List.append_assoc]) (by omega) (by omega)
  have q2 : h2 (S (hL o e t)) = (e, 0 + (putL o).length + (putL e).length, 0) := by
    unfold h2; rw [q1]
    exact int_put (r := putL t) (by rw [S_list, Nat.zero_add]; unfold hL; rw [List.append_assoc, List.drop_left]) (by omega) (by omega)
  have q3 : h3 (S (hL o e t)) = (t, 0 + (putL o).length + (putL e).length + (putL t).length, 0) := by
    unfold h3; rw [q2]
    exact num_put (r := []) (by rw [S_list, Nat.zero_add, ← List.length_append]; unfold hL; rw [List.drop_left, List.append_nil]) h2'
  have q4 : 0 + (putL o).length + (putL e).length + (putL t).length = (S (hL o e t)).size := by
    rw [S_size]; unfold hL; simp only [List.length_append]; omega
  rw [hello_yes (by rw [q3, q4]), q1, q2]
theorem h_great (o e t : Nat) (h0 : o < 18446744073709551616) (h1' : e < 18446744073709551616) (h : ¬ (o ≤ 2147483647 ∧ e ≤ 2147483647)) : helloT (S (hL o e t)) = (0, 0, 0, 1) := by
  by_cases ho : o ≤ 2147483647
  · have q1 : h1 (S (hL o e t)) = (o, 0 + (putL o).length, 0) := int_put (r := putL e ++ putL t) (by rw [S_list, List.drop_zero]; unfold hL; rw [List.append_assoc]) (by omega) (by omega)
    refine hello_bad2 ?_
    have : (h2 (S (hL o e t))).2.2 = 3 := by
      unfold h2; rw [q1]
      exact int_long (r := putL t) (by rw [S_list, Nat.zero_add]; unfold hL; rw [List.append_assoc, List.drop_left]) (by omega) (by omega)
    rw [this]; decide
  · refine hello_bad1 ?_
    have : (h1 (S (hL o e t))).2.2 = 3 := int_long (r := putL e ++ putL t) (by rw [S_list, List.drop_zero]; unfold hL; rw [List.append_assoc]) (by omega) (by omega)
    rw [this]; decide
theorem h_took {b : ByteArray} {o e t : Nat} {x : Int} (h : helloT b = (o, e, t, x)) (hx : x = 0) : b = S (hL o e t) ∧ o ≤ 2147483647 ∧ e ≤ 2147483647 ∧ t < 18446744073709551616 := by
  subst hx
  obtain ⟨d1, d2, d3, _, _, _, m1, m2, m3⟩ := h_bd b
  have hok : helloOk b = 0 := by
    rcases Classical.em (helloOk b = 0) with h1 | h1
    · exact h1
    · rw [hello_no h1] at h; simp at h
  unfold helloT at h
  rw [if_pos hok] at h
  simp only [Prod.mk.injEq, and_true] at h
  obtain ⟨rfl, rfl, rfl⟩ := h
  obtain ⟨z3, l3⟩ := done_ok hok
  obtain ⟨z2, p3, _, _⟩ := num_ok (n := (h3 b).1) (a2 := (h3 b).2.1) (by show h3 b = _; exact Prod.ext rfl (Prod.ext rfl z3)) d2
  obtain ⟨z1, p2, _, _⟩ := int_ok (n := (h2 b).1) (a2 := (h2 b).2.1) (by show h2 b = _; exact Prod.ext rfl (Prod.ext rfl z2)) d1
  obtain ⟨_, p1, _, _⟩ := int_ok (n := (h1 b).1) (a2 := (h1 b).2.1) (by show h1 b = _; exact Prod.ext rfl (Prod.ext rfl z1)) (Nat.zero_le _)
  rw [List.drop_zero] at p1
  have p3' : b.data.toList.drop (h2 b).2.1 = putL (h3 b).1 := by rw [p3, List.drop_of_length_le (by simp; omega), List.append_nil]
  have key : b.data.toList = putL (h1 b).1 ++ (putL (h2 b).1 ++ putL (h3 b).1) := p1.trans (by rw [p2, p3'])
  exact ⟨(S_of b).symm.trans (congrArg S (key.trans (by unfold hL; rw [List.append_assoc]))), m1, m2, m3⟩

set_option maxHeartbeats 3200000 in
set_option maxRecDepth 100000 in
theorem helloBack_walk (o : Int) (o0 : -9223372036854775808 ≤ o) (o1 : o ≤ 9223372036854775807) (ep : Int) (p0 : -9223372036854775808 ≤ ep) (p1 : ep ≤ 9223372036854775807) (t : Int) (t0 : 0 ≤ t) (t1 : t ≤ 18446744073709551615) (b : ByteArray) (hb : b.size ≤ 140737488351232) (w : World) :
    Calls Try.prog 7 #[.agg #[.int .i64 o, .int .i64 ep, .int .u64 t], .string b] w (Gives w (.bool true)) := by
  have hm : b.size ≤ maxLen := by unfold maxLen; omega
  obtain ⟨⟨n1, n2, n3, f2⟩, ht⟩ : ∃ r, helloT b = r := ⟨_, rfl⟩
  have hf2 : f2 = 0 ∨ f2 = 1 := by
    unfold helloT at ht
    split at ht
    · simp only [Prod.mk.injEq] at ht; exact .inl ht.2.2.2.symm
    · simp only [Prod.mk.injEq] at ht; exact .inr ht.2.2.2.symm
  have HT := Lib.hid ht
  have hQ : Hid (f2 = 0 → hputT n1 n2 n3 = (b, 0) ∧ n1 ≤ 2147483647 ∧ n2 ≤ 2147483647 ∧ n3 < 18446744073709551616) := fun h => by
    obtain ⟨q1, q2, q3, q4⟩ := h_took HT.out h
    refine ⟨?_, q2, q3, q4⟩
    rw [hput_ok (by omega)]
    rw [q1]
    simp only [Int.toNat_natCast]
    rfl
  clear ht
  obtain ⟨t, rfl⟩ := Int.eq_ofNat_of_zero_le t0
  by_cases hneg : o < 0 ∨ ep < 0
  · have HP := Lib.hid (hput_bad (t := (t : Nat)) hneg)
    clear hneg
    go_enter Try.func7, Try.ntmps7
    go_wp2_with fail
    refine (hput_any _ _ _ _ o0 o1 p0 p1 (by omega) (by omega)).mono ?_
    rintro x w1 ⟨rfl, hu1⟩
    rw [HP.out]
    unfold hpairV
    have hup1 := ((Up.refl w).alloc (.cells #[.int .i64 o, .int .i64 ep, .int .u64 (t : Nat)] 59)).trans hu1
    clear hu1
    go_wp2_with fail
    refine (htake_any b _ hm).mono ?_
    rintro x w5 ⟨rfl, hu5⟩
    rw [HT.out]
    unfold helloV
    have hup5 := Up.trans hup1 hu5
    clear hu5
    rcases hf2 with rfl | rfl
    · obtain ⟨q1, q2, q3, q4⟩ := hQ.out rfl
      have Q1 := Lib.hid q1
      clear q1
      go_wp2_with fail
      refine (hput_any _ _ _ _ (by omega) (by omega) (by omega) (by omega) (by omega) (by omega)).mono ?_
      rintro x w6 ⟨rfl, hu6⟩
      rw [Q1.out]
      unfold hpairV
      go_wp2_with fail
      refine (awake22_any _).mono ?_
      rintro x w7 ⟨rfl, hu7⟩
      go_wp2_with fail
      go_ret
      exact Gives.mk rfl (((hup5.alloc _).trans hu6).trans hu7)
    · go_wp2_with fail
      refine (awake22_any _).mono ?_
      rintro x w7 ⟨rfl, hu7⟩
      go_wp2_with fail
      go_ret
      exact Gives.mk rfl ((hup5.alloc _).trans hu7)
  · obtain ⟨o, rfl⟩ := Int.eq_ofNat_of_zero_le (show 0 ≤ o by omega)
    obtain ⟨ep, rfl⟩ := Int.eq_ofNat_of_zero_le (show 0 ≤ ep by omega)
    clear hneg
    by_cases hs : o ≤ 2147483647 ∧ ep ≤ 2147483647
    · have HP := Lib.hid (show hputT (o : Nat) (ep : Nat) (t : Nat) = (S (hL o ep t), 0) by rw [hput_ok (by omega)]; simp only [Int.toNat_natCast]; rfl)
      have hsz := hL_size o ep t (by omega) (by omega) (by omega)
      have HB := Lib.hid (h_back o ep t hs.1 hs.2 (by omega))
      obtain ⟨s1, s2⟩ := hs
      go_enter Try.func7, Try.ntmps7
      go_wp2_with fail
      refine (hput_any _ _ _ _ o0 o1 p0 p1 (by omega) (by omega)).mono ?_
      rintro x w1 ⟨rfl, hu1⟩
      rw [HP.out]
      unfold hpairV
      have hz1 := hu1.keep (blk_new w (.cells #[.int .i64 (o : Nat), .int .i64 (ep : Nat), .int .u64 (t : Nat)] 59))
      go_wp2_with fail
      refine (htake_any _ _ (by unfold maxLen; omega)).mono ?_
      rintro x w2 ⟨rfl, hu2⟩
      rw [HB.out]
      unfold helloV
      have hz2 := hu2.keep hz1
      have z0 : w2.cell? ⟨w.heap.size, 0, none⟩ = some (.int .i64 (o : Nat)) := blk_cell hz2 0
      have z1 : w2.cell? ⟨w.heap.size, 1, none⟩ = some (.int .i64 (ep : Nat)) := blk_cell hz2 1
      have z2 : w2.cell? ⟨w.heap.size, 2, none⟩ = some (.int .u64 (t : Nat)) := blk_cell hz2 2
      have hlt2 := blk_lt hz2
      have hup2 := (((Up.refl w).alloc (.cells #[.int .i64 (o : Nat), .int .i64 (ep : Nat), .int .u64 (t : Nat)] 59)).trans hu1).trans hu2
      clear hz1 hz2 hu1 hu2
      go_wp2_with fail
      refine (htake_any b _ hm).mono ?_
      rintro x w5 ⟨rfl, hu5⟩
      rw [HT.out]
      unfold helloV
      have hup5 := Up.trans (hup2.alloc _) hu5
      clear hu5
      rcases hf2 with rfl | rfl
      · obtain ⟨q1, q2, q3, q4⟩ := hQ.out rfl
        have Q1 := Lib.hid q1
        clear q1
        go_wp2_with fail
        refine (hput_any _ _ _ _ (by omega) (by omega) (by omega) (by omega) (by omega) (by omega)).mono ?_
        rintro x w6 ⟨rfl, hu6⟩
        rw [Q1.out]
        unfold hpairV
        go_wp2_with fail
        refine (awake22_any _).mono ?_
        rintro x w7 ⟨rfl, hu7⟩
        go_wp2_with fail
        go_ret
        exact Gives.mk rfl (((hup5.alloc _).trans hu6).trans hu7)
      · go_wp2_with fail
        refine (awake22_any _).mono ?_
        rintro x w7 ⟨rfl, hu7⟩
        go_wp2_with fail
        go_ret
        exact Gives.mk rfl ((hup5.alloc _).trans hu7)
    · have HP := Lib.hid (show hputT (o : Nat) (ep : Nat) (t : Nat) = (S (hL o ep t), 0) by rw [hput_ok (by omega)]; simp only [Int.toNat_natCast]; rfl)
      have hsz := hL_size o ep t (by omega) (by omega) (by omega)
      have HB := Lib.hid (h_great o ep t (by omega) (by omega) hs)
      rcases (by omega : ¬ o ≤ 2147483647 ∨ (o ≤ 2147483647 ∧ ¬ ep ≤ 2147483647)) with hs1 | ⟨hs1, hs2⟩
      · clear hs
        go_enter Try.func7, Try.ntmps7
        go_wp2_with fail
        refine (hput_any _ _ _ _ o0 o1 p0 p1 (by omega) (by omega)).mono ?_
        rintro x w1 ⟨rfl, hu1⟩
        rw [HP.out]
        unfold hpairV
        have hz1 := hu1.keep (blk_new w (.cells #[.int .i64 (o : Nat), .int .i64 (ep : Nat), .int .u64 (t : Nat)] 59))
        go_wp2_with fail
        refine (htake_any _ _ (by unfold maxLen; omega)).mono ?_
        rintro x w2 ⟨rfl, hu2⟩
        rw [HB.out]
        unfold helloV
        have hz2 := hu2.keep hz1
        have z0 : w2.cell? ⟨w.heap.size, 0, none⟩ = some (.int .i64 (o : Nat)) := blk_cell hz2 0
        have z1 : w2.cell? ⟨w.heap.size, 1, none⟩ = some (.int .i64 (ep : Nat)) := blk_cell hz2 1
        have z2 : w2.cell? ⟨w.heap.size, 2, none⟩ = some (.int .u64 (t : Nat)) := blk_cell hz2 2
        have hlt2 := blk_lt hz2
        have hup2 := (((Up.refl w).alloc (.cells #[.int .i64 (o : Nat), .int .i64 (ep : Nat), .int .u64 (t : Nat)] 59)).trans hu1).trans hu2
        clear hz1 hz2 hu1 hu2
        go_wp2_with fail
        refine (htake_any b _ hm).mono ?_
        rintro x w5 ⟨rfl, hu5⟩
        rw [HT.out]
        unfold helloV
        have hup5 := Up.trans (hup2.alloc _) hu5
        clear hu5
        rcases hf2 with rfl | rfl
        · obtain ⟨q1, q2, q3, q4⟩ := hQ.out rfl
          have Q1 := Lib.hid q1
          clear q1
          go_wp2_with fail
          refine (hput_any _ _ _ _ (by omega) (by omega) (by omega) (by omega) (by omega) (by omega)).mono ?_
          rintro x w6 ⟨rfl, hu6⟩
          rw [Q1.out]
          unfold hpairV
          go_wp2_with fail
          refine (awake22_any _).mono ?_
          rintro x w7 ⟨rfl, hu7⟩
          go_wp2_with fail
          go_ret
          exact Gives.mk rfl (((hup5.alloc _).trans hu6).trans hu7)
        · go_wp2_with fail
          refine (awake22_any _).mono ?_
          rintro x w7 ⟨rfl, hu7⟩
          go_wp2_with fail
          go_ret
          exact Gives.mk rfl ((hup5.alloc _).trans hu7)
      · clear hs
        go_enter Try.func7, Try.ntmps7
        go_wp2_with fail
        refine (hput_any _ _ _ _ o0 o1 p0 p1 (by omega) (by omega)).mono ?_
        rintro x w1 ⟨rfl, hu1⟩
        rw [HP.out]
        unfold hpairV
        have hz1 := hu1.keep (blk_new w (.cells #[.int .i64 (o : Nat), .int .i64 (ep : Nat), .int .u64 (t : Nat)] 59))
        go_wp2_with fail
        refine (htake_any _ _ (by unfold maxLen; omega)).mono ?_
        rintro x w2 ⟨rfl, hu2⟩
        rw [HB.out]
        unfold helloV
        have hz2 := hu2.keep hz1
        have z0 : w2.cell? ⟨w.heap.size, 0, none⟩ = some (.int .i64 (o : Nat)) := blk_cell hz2 0
        have z1 : w2.cell? ⟨w.heap.size, 1, none⟩ = some (.int .i64 (ep : Nat)) := blk_cell hz2 1
        have z2 : w2.cell? ⟨w.heap.size, 2, none⟩ = some (.int .u64 (t : Nat)) := blk_cell hz2 2
        have hlt2 := blk_lt hz2
        have hup2 := (((Up.refl w).alloc (.cells #[.int .i64 (o : Nat), .int .i64 (ep : Nat), .int .u64 (t : Nat)] 59)).trans hu1).trans hu2
        clear hz1 hz2 hu1 hu2
        go_wp2_with fail
        refine (htake_any b _ hm).mono ?_
        rintro x w5 ⟨rfl, hu5⟩
        rw [HT.out]
        unfold helloV
        have hup5 := Up.trans (hup2.alloc _) hu5
        clear hu5
        rcases hf2 with rfl | rfl
        · obtain ⟨q1, q2, q3, q4⟩ := hQ.out rfl
          have Q1 := Lib.hid q1
          clear q1
          go_wp2_with fail
          refine (hput_any _ _ _ _ (by omega) (by omega) (by omega) (by omega) (by omega) (by omega)).mono ?_
          rintro x w6 ⟨rfl, hu6⟩
          rw [Q1.out]
          unfold hpairV
          go_wp2_with fail
          refine (awake22_any _).mono ?_
          rintro x w7 ⟨rfl, hu7⟩
          go_wp2_with fail
          go_ret
          exact Gives.mk rfl (((hup5.alloc _).trans hu6).trans hu7)
        · go_wp2_with fail
          refine (awake22_any _).mono ?_
          rintro x w7 ⟨rfl, hu7⟩
          go_wp2_with fail
          go_ret
          exact Gives.mk rfl ((hup5.alloc _).trans hu7)

set_option linter.unusedVariables false in
set_option maxRecDepth 100000 in
theorem helloBack_contract (H : Type) (enc : TypeId × Value → H) (W : World) (base : Nat) (args : Array Value) (ds gs : List (DataW H)) (before : List MemPlace)
    (hval : ∀ (j : Nat) t v, Try.f7.params[j]? = some t → args[j]? = some v → Value.okWide Try.prog W .any base t v)
    (hW : DataW.Whole enc Try.prog Try.f7.params.toList Rows.helloBackSpec.vars false W args.toList ds gs before)
    (hsz : (DataW.weightsEach Try.prog (Try.f7.params.toList ++ (Rows.helloBackSpec).plain.varTypes Try.prog) (ds ++ gs)).all (· ≤ reachBytes) = true) :
    Calls Try.prog 7 args W fun e W' => ∃ v, e = .returned v ∧ Rows.helloBackSpec.post enc Try.prog Try.f7 false true false false W args v W' := by
  have hW' := hW
  obtain ⟨p, q, hA0, hV, rfl, hfz, hnd⟩ := hW
  have hA : DataW.TrodAll enc Try.prog W 0 (fun _ => true) true Try.f7.params.toList args.toList ds p := hA0
  rw [Try.params7] at hA hval hsz
  obtain ⟨v0, vs0, d0, ds0, p0, q0, hargs, rfl, rfl, h0, r0⟩ := trodAll_cons hA
  obtain ⟨v1, vs1, d1, ds1, p1, q1, rfl, rfl, rfl, h1, r1⟩ := trodAll_cons r0
  obtain ⟨rfl, rfl, rfl⟩ := trodAll_nil r1
  obtain rfl : args = #[v0, v1] := by cases args; simp_all
  obtain ⟨rfl, rfl⟩ := trodVars_none hV
  clear hA0
  obtain ⟨l0, ys0, n0, rfl, hl0, hy0, rfl, rfl, hf0⟩ := struct_arg Try.underlying59 (by kernel_rfl) (by kernel_rfl) (hval 0 59 v0 rfl rfl) h0
  obtain ⟨c0_0, c0_1, c0_2, rfl⟩ := list3 hl0
  obtain ⟨y0_0, y0_1, y0_2, rfl⟩ := list3 hy0
  obtain ⟨a0_0, rfl, rfl, w0_0⟩ := int_field Try.underlying3 (hf0 0 _ _ rfl rfl)
  have b0_0 := bounds_i64 w0_0
  obtain ⟨a0_1, rfl, rfl, w0_1⟩ := int_field Try.underlying3 (hf0 1 _ _ rfl rfl)
  have b0_1 := bounds_i64 w0_1
  obtain ⟨a0_2, rfl, rfl, w0_2⟩ := int_field Try.underlying29 (hf0 2 _ _ rfl rfl)
  have b0_2 := bounds_u64 w0_2
  obtain ⟨a1, rfl, rfl, rfl, w1⟩ := open_string Try.underlying9 (hval 1 9 v1 rfl rfl) h1
  have z1 : a1.size ≤ 140737488351232 := by have := sized_string hsz (j := 1) (t := 9) rfl rfl; simpa [reachBytes] using this
  refine (helloBack_walk a0_0 b0_0.1 b0_0.2 a0_1 b0_1.1 b0_1.2 a0_2 b0_2.1 b0_2.2 a1 z1 W).mono fun e W' ⟨he, hu⟩ => ?_
  subst he
  exact ⟨_, rfl, post_true laidOut (by kernel_rfl) Try.underlying4 rfl rfl hW' rfl hu⟩

theorem helloBack_closed : joinedFacts Try.prog 7 Try.f7 Rows.helloBackSpec Rows.helloBackRow = true := by
  unfold joinedFacts
  rw [fact_mayEnter, fact_lifted, fact_make]
  kernel_rfl

set_option maxRecDepth 100000 in
theorem helloBack_lifted (os : Os) (started : os.Started) (H : Type) (enc : TypeId × Value → H) :
    ReturnsInHanded {} Try.checked os 7 .any (Rows.helloBackSpec.pre6 enc Try.prog Try.f7 Rows.helloBackRow.domain false) (Rows.helloBackSpec.post enc Try.prog Try.f7 false true false false) := by
  refine returnsInHanded_of_change_sized (C := Try.checked) own started (by kernel_rfl) Try.func7
    (ChangeSpec.witness6 (enc := enc) (C := Try.checked) false ⟨#[], #[.agg #[.int .i64 0, .int .i64 0, .int .u64 0], .string ⟨#[]⟩], []⟩ 8 (by kernel_rfl) (by kernel_rfl) (by kernel_rfl) (by kernel_rfl)) ?_
  intro W base args ds gs before hval hW _ hsz _
  exact helloBack_contract H enc W base args ds gs before hval hW hsz

theorem helloBack_holds : Rows.HelloBackSaid :=
  OpenClaim.holds_of_wide 7 Try.f7 rfl rfl rfl rfl rfl rfl rfl ⟨rfl, rfl, rfl, rfl, rfl⟩ rfl rfl rfl rfl rfl (by kernel_rfl) Try.func7 helloBack_closed
    (of_decide_eq_true (by kernel_rfl)) (by unfold Func.isWrapper; rw [if_neg (by decide +kernel)]; exact ⟨rfl, rfl⟩)
    (fun os started H enc _ => helloBack_lifted os started H enc)
end Go.Proofs.Ytmmmaekaoanceaa
