/- 'SpanBack': texts that are put one behind the other are taken so, and nothing is left then: the law hands back true. Conditions: none. -/
import Derived.Test.YtpldfoclogkppaaFrame
import Derived.Test.YtpldfoclogkppaaReadB
import Derived.Test.YtpldfoclogkppaaPlainW
import Derived.Test.YtpldfoclogkppaaSpanTakes
namespace Go.Proofs.Ytpldfoclogkppaa
open Go Go.RowKit Go.ChangeShapes Go.WideShapes Go.ChangeAt
open Go.ChangeMaps (open_string shut_string)

theorem span_back (a : ByteArray) (r : List UInt8) (ha : a.size ≤ 140737488351232) : spanT (S (spanL a ++ r)) a.size = (a, (spanL a).length, 0) := by
  have ht : takeL (S (spanL a ++ r)).data.toList = (a.size, (putL a.size).length, 0) := by
    rw [S_list, spanL, List.append_assoc, takeL_put (by omega)]
  have hi := intT_ok' (most := a.size) ht (by omega)
  have hl : a.data.toList.length = a.size := by simp
  unfold spanT
  rw [hi, if_neg (by simp), if_neg (by rw [S_size]; simp only [spanL, List.length_append]; omega)]
  refine Prod.ext ?_ (Prod.ext ?_ rfl)
  · show (S (spanL a ++ r)).extract (putL a.size).length ((putL a.size).length + a.size) = a
    rw [S_extract, spanL, List.append_assoc, List.drop_left, Nat.add_sub_cancel_left, List.take_append_of_le_length (by omega), List.take_of_length_le (by omega), S_of]
  · show (putL a.size).length + a.size = (spanL a).length
    rw [spanL, List.length_append, hl]
theorem rest_S (l r : List UInt8) : rest (S (l ++ r)) l.length = S r := by
  unfold rest
  rw [S_extract, List.drop_left, S_size, List.length_append, Nat.add_sub_cancel_left, List.take_of_length_le (Nat.le_refl _)]
theorem rest_zero (b : ByteArray) : rest b 0 = b := by
  unfold rest
  rw [← S_of b, S_extract, List.drop_zero, S_size, List.take_of_length_le (by omega)]
theorem spanL_le (s : ByteArray) (hs : s.size ≤ 140737488351232) : (spanL s).length ≤ 140737488351242 := by have := spanL_len s hs; rwa [S_size] at this

set_option maxHeartbeats 1600000 in
set_option maxRecDepth 100000 in
theorem spanBack_walk (a : ByteArray) (ha : a.size ≤ 140737488351232) (b : ByteArray) (hb : b.size ≤ 140737488351232) (c : ByteArray) (hc : c.size ≤ 140737488351232) (w : World) :
    Calls Try.prog 14 #[.string a, .string b, .string c] w (Gives w (.bool true)) := by
  have hx1 := spanL_len a ha
  have hx2 := spanL_len b hb
  have hab : (S (spanL a) ++ S (spanL b)).size ≤ 281474976702484 := by rw [ByteArray.size_append]; omega
  have hcat : S (spanL a) ++ S (spanL b) ++ c = S (spanL a ++ (spanL b ++ c.data.toList)) := by rw [S_append, S_cat, List.append_assoc]
  have hsz : (S (spanL a ++ (spanL b ++ c.data.toList))).size ≤ maxLen := by
    rw [← hcat, ByteArray.size_append]; unfold maxLen; omega
  have hsn : (S (spanL a ++ (spanL b ++ c.data.toList))).size = (spanL a).length + ((spanL b).length + c.size) := by
    rw [S_size, List.length_append, List.length_append]; simp
  have T1 : textS (S (spanL a ++ (spanL b ++ c.data.toList))) 0 0 a.size = (a, (spanL a).length, 0) := by
    unfold textS; rw [if_neg (by simp), rest_zero, span_back a _ ha]; simp
  have T2 : textS (S (spanL a ++ (spanL b ++ c.data.toList))) (spanL a).length 0 b.size = (b, (spanL a).length + (spanL b).length, 0) := by
    unfold textS; rw [if_neg (by simp), rest_S, span_back b _ hb]
  have T3 : restS (S (spanL a ++ (spanL b ++ c.data.toList))) ((spanL a).length + (spanL b).length) 0 = (c, (spanL a).length + (spanL b).length + c.size, 0) := by
    have h : rest (S (spanL a ++ (spanL b ++ c.data.toList))) ((spanL a).length + (spanL b).length) = c := by
      rw [← List.length_append, ← List.append_assoc, rest_S, S_of]
    unfold restS; rw [if_neg (by simp), h]
  have hln1 : ((S (spanL a)).size : Int) = (spanL a).length := by rw [S_size]
  have hln2 : ((S (spanL b)).size : Int) = (spanL b).length := by rw [S_size]
  generalize hB : S (spanL a ++ (spanL b ++ c.data.toList)) = B at *
  have k1 := spanL_le a ha
  have k2 := spanL_le b hb
  have HC := Lib.hid hcat; have HZ := Lib.hid hsz; have HT1 := Lib.hid T1; have HT2 := Lib.hid T2; have HT3 := Lib.hid T3; have HL1 := Lib.hid hln1; have HL2 := Lib.hid hln2; have HN := Lib.hid hsn
  clear hB hcat hsz T1 T2 T3 hln1 hln2 hsn
  have hD : Hid (doneE B ((spanL a).length + (spanL b).length + c.size) 0 = 0) := by
    unfold Hid doneE; rw [if_neg (by simp), if_neg (by rw [HN.out]; omega)]
  have e1 : (((spanL a).length : Int) + (spanL b).length == (spanL a).length + (spanL b).length) = true := beq_self_eq_true _
  go_enter Try.func14, Try.ntmps14
  go_wp2_with fail
  refine (spanput_any _ _ ha).mono ?_
  rintro e w1 ⟨rfl, hu1⟩
  go_wp2_with fail
  refine (spanput_any _ _ hb).mono ?_
  rintro e w2 ⟨rfl, hu2⟩
  go_wp2_with fail
  rw [HC.out]
  refine (read_any _ _).mono ?_
  rintro e w3 ⟨g, rfl, hg, hr, hu3⟩
  go_wp2_with fail
  refine (text_any _ _ _ _ _ _ hr HZ.out (Nat.zero_le _) (by omega) (by omega)).mono ?_
  rintro e w4 ⟨rfl, hr4, ho4⟩
  rw [HT1.out] at hr4 ⊢
  go_wp2_with fail
  refine (text_any _ _ _ _ _ _ hr4 HZ.out (by rw [HN.out]; exact Nat.le_add_right _ _) (by omega) (by omega)).mono ?_
  rintro e w5 ⟨rfl, hr5, ho5⟩
  rw [HT2.out] at hr5 ⊢
  go_wp2_with fail
  refine (at_any _ _ _ _ _ hr5).mono ?_
  rintro e w6 ⟨rfl, rfl⟩
  go_wp2_with fail
  refine (rest_any _ _ _ _ _ hr5 HZ.out (by rw [HN.out]; show (spanL a).length + (spanL b).length ≤ _; omega)).mono ?_
  rintro e w7 ⟨rfl, hr7, ho7⟩
  rw [HT3.out] at hr7 ⊢
  go_wp2_with fail
  refine (spanput_any _ _ ha).mono ?_
  rintro e w8 ⟨rfl, hu8⟩
  go_wp2_with fail
  refine (spanput_any _ _ hb).mono ?_
  rintro e w9 ⟨rfl, hu9⟩
  go_wp2_with fail
  refine (done_any _ _ _ _ _ ((hr7.up hu8).up hu9)).mono ?_
  rintro e wa ⟨rfl, hua⟩
  rw [hD.out]
  go_wp2_with fail
  refine (awake02_any _).mono ?_
  rintro e wb ⟨rfl, hub⟩
  go_wp2_with fail
  go_ret
  have hg1 : w.heap.size ≤ g := Nat.le_trans (hu1.trans hu2).size hg
  exact Gives.mk rfl ((((((((hu1.trans hu2).trans hu3).only ho4 hg1).only ho5 hg1).only ho7 hg1).trans hu8).trans hu9).trans (hua.trans hub))

set_option linter.unusedVariables false in
set_option maxRecDepth 100000 in
theorem spanBack_contract (H : Type) (enc : TypeId × Value → H) (W : World) (base : Nat) (args : Array Value) (ds gs : List (DataW H)) (before : List MemPlace)
    (hval : ∀ (j : Nat) t v, Try.f14.params[j]? = some t → args[j]? = some v → Value.okWide Try.prog W .any base t v)
    (hW : DataW.Whole enc Try.prog Try.f14.params.toList Rows.spanBackSpec.vars false W args.toList ds gs before)
    (hsz : (DataW.weightsEach Try.prog (Try.f14.params.toList ++ (Rows.spanBackSpec).plain.varTypes Try.prog) (ds ++ gs)).all (· ≤ reachBytes) = true) :
    Calls Try.prog 14 args W fun e W' => ∃ v, e = .returned v ∧ Rows.spanBackSpec.post enc Try.prog Try.f14 false true false false W args v W' := by
  have hW' := hW
  obtain ⟨p, q, hA0, hV, rfl, hfz, hnd⟩ := hW
  have hA : DataW.TrodAll enc Try.prog W 0 (fun _ => true) true Try.f14.params.toList args.toList ds p := hA0
  rw [Try.params14] at hA hval hsz
  obtain ⟨v0, vs0, d0, ds0, p0, q0, hargs, rfl, rfl, h0, r0⟩ := trodAll_cons hA
  obtain ⟨v1, vs1, d1, ds1, p1, q1, rfl, rfl, rfl, h1, r1⟩ := trodAll_cons r0
  obtain ⟨v2, vs2, d2, ds2, p2, q2, rfl, rfl, rfl, h2, r2⟩ := trodAll_cons r1
  obtain ⟨rfl, rfl, rfl⟩ := trodAll_nil r2
  obtain rfl : args = #[v0, v1, v2] := by cases args; simp_all
  obtain ⟨rfl, rfl⟩ := trodVars_none hV
  clear hA0
  obtain ⟨a0, rfl, rfl, rfl, w0⟩ := open_string Try.underlying9 (hval 0 9 v0 rfl rfl) h0
  obtain ⟨a1, rfl, rfl, rfl, w1⟩ := open_string Try.underlying9 (hval 1 9 v1 rfl rfl) h1
  obtain ⟨a2, rfl, rfl, rfl, w2⟩ := open_string Try.underlying9 (hval 2 9 v2 rfl rfl) h2
  have z0 : a0.size ≤ 140737488351232 := by have := sized_string hsz (j := 0) (t := 9) rfl rfl; simpa [reachBytes] using this
  have z1 : a1.size ≤ 140737488351232 := by have := sized_string hsz (j := 1) (t := 9) rfl rfl; simpa [reachBytes] using this
  have z2 : a2.size ≤ 140737488351232 := by have := sized_string hsz (j := 2) (t := 9) rfl rfl; simpa [reachBytes] using this
  refine (spanBack_walk a0 z0 a1 z1 a2 z2 W).mono fun e W' ⟨he, hu⟩ => ?_
  subst he
  exact ⟨_, rfl, post_true laidOut (by kernel_rfl) Try.underlying4 rfl rfl hW' rfl hu⟩

theorem spanBack_closed : joinedFacts Try.prog 14 Try.f14 Rows.spanBackSpec Rows.spanBackRow = true := by
  unfold joinedFacts
  rw [fact_mayEnter, fact_lifted, fact_make]
  kernel_rfl

set_option maxRecDepth 100000 in
theorem spanBack_lifted (os : Os) (started : os.Started) (H : Type) (enc : TypeId × Value → H) :
    ReturnsInHanded {} Try.checked os 14 .any (Rows.spanBackSpec.pre6 enc Try.prog Try.f14 Rows.spanBackRow.domain false) (Rows.spanBackSpec.post enc Try.prog Try.f14 false true false false) := by
  refine returnsInHanded_of_change_sized (C := Try.checked) own started (by kernel_rfl) Try.func14
    (ChangeSpec.witness6 (enc := enc) (C := Try.checked) false ⟨#[], #[.string ⟨#[]⟩, .string ⟨#[]⟩, .string ⟨#[]⟩], []⟩ 8 (by kernel_rfl) (by kernel_rfl) (by kernel_rfl) (by kernel_rfl)) ?_
  intro W base args ds gs before hval hW _ hsz _
  exact spanBack_contract H enc W base args ds gs before hval hW hsz

theorem spanBack_holds : Rows.SpanBackSaid :=
  OpenClaim.holds_of_wide 14 Try.f14 rfl rfl rfl rfl rfl rfl rfl ⟨rfl, rfl, rfl, rfl, rfl⟩ rfl rfl rfl rfl rfl (by kernel_rfl) Try.func14 spanBack_closed
    (of_decide_eq_true (by kernel_rfl)) (by unfold Func.isWrapper; rw [if_neg (by decide +kernel)]; exact ⟨rfl, rfl⟩)
    (fun os started H enc _ => spanBack_lifted os started H enc)
end Go.Proofs.Ytpldfoclogkppaa
