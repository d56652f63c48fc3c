/- 'CallPuts': whatever call, bind, text: the program's bodies are the document's, so the law hands back true. Conditions: none. -/
import Derived.Test.YtpldfoclogkppaaOpen
import Derived.Test.YtpldfoclogkppaaCallB
namespace Go.Proofs.Ytpldfoclogkppaa
open Go Go.RowKit Go.ChangeShapes Go.WideShapes Go.ChangeAt
open Go.ChangeMaps (open_string shut_string)

set_option maxHeartbeats 800000 in
set_option maxRecDepth 100000 in
theorem callPuts_walk (id : Int) (h0 : 0 ≤ id) (h1 : id ≤ 18446744073709551615) (wait : Int) (i0 : -9223372036854775808 ≤ wait) (i1 : wait ≤ 9223372036854775807) (num : Int) (j0 : -9223372036854775808 ≤ num) (j1 : num ≤ 9223372036854775807)
    (args : ByteArray) (ha : args.size ≤ 140737488351232) (bid : Int) (k0 : 0 ≤ bid) (k1 : bid ≤ 18446744073709551615) (bnum : Int) (l0 : -9223372036854775808 ≤ bnum) (l1 : bnum ≤ 9223372036854775807)
    (sv : ByteArray) (hv : sv.size ≤ 140737488351232) (me : ByteArray) (hm : me.size ≤ 140737488351232) (op : Int) (m0 : -9223372036854775808 ≤ op) (m1 : op ≤ 9223372036854775807) (s : ByteArray) (hs : s.size ≤ 140737488351232) (w : World) :
    Calls Try.prog 3 #[.agg #[.int .u64 id, .int .i64 wait, .int .i64 num, .string args], .agg #[.int .u64 bid, .int .i64 bnum, .string sv, .string me, .int .i64 op], .string s] w (Gives w (.bool true)) := by
  have hl1 : (S (putL id.toNat)).size ≤ 10 := by rw [S_size]; exact putL_ten (by omega)
  go_enter Try.func3, Try.ntmps3
  go_wp2_with fail
  refine wp_region_up (by kernel_rfl) (by kernel_rfl) (Up.refl _) ?_
  repeat (go_big_quiet_step ((first
    | exact quiet_up (ours_any _ _ _ _ _)
    | exact quiet_up (putcall_any _ _ _ _ _ h0 h1 i0 i1 j0 j1 ha)
    | exact quiet_up (refputcall_any _ _ _ _ _ h0 h1 i0 i1 j0 j1 ha)
    | exact quiet_up (bind_any _ _ _ _ _ _)
    | exact quiet_up (putbind_any _ _ _ _ _ _ k0 k1 l0 l1 hv hm m0 m1)
    | exact quiet_up (refputbind_any _ _ _ _ _ _ k0 k1 l0 l1 hv hm m0 m1)
    | exact quiet_up (putschema_any _ _ _ h0 h1 hs)
    | exact quiet_up (refput_any _ _ _ (Nat.le_refl _) (by omega) (by omega))
    | exact quiet_up (putcancel_any _ _ k0 k1)
    | exact quiet_up (awake34_any _))))
  refine wpQuiet_nil ?_
  intro w1 hu
  go_wp2_with fail
  go_ret
  exact Gives.mk rfl ((((Up.refl w).alloc _).alloc _).trans hu)

set_option linter.unusedVariables false in
set_option maxRecDepth 100000 in
theorem callPuts_contract (H : Type) (enc : TypeId × Value → H) (W : World) (base : Nat) (args : Array Value) (ds gs : List (DataW H)) (before : List MemPlace)
    (hval : ∀ (j : Nat) t v, Try.f3.params[j]? = some t → args[j]? = some v → Value.okWide Try.prog W .any base t v)
    (hW : DataW.Whole enc Try.prog Try.f3.params.toList Rows.callPutsSpec.vars false W args.toList ds gs before)
    (hsz : (DataW.weightsEach Try.prog (Try.f3.params.toList ++ (Rows.callPutsSpec).plain.varTypes Try.prog) (ds ++ gs)).all (· ≤ reachBytes) = true) :
    Calls Try.prog 3 args W fun e W' => ∃ v, e = .returned v ∧ Rows.callPutsSpec.post enc Try.prog Try.f3 false true false false W args v W' := by
  have hW' := hW
  obtain ⟨p, q, hA0, hV, rfl, hfz, hnd⟩ := hW
  have hA : DataW.TrodAll enc Try.prog W 0 (fun _ => true) true Try.f3.params.toList args.toList ds p := hA0
  rw [Try.params3] at hA hval hsz
  obtain ⟨v0, vs0, d0, ds0, p0, q0, hargs, rfl, rfl, h0, r0⟩ := trodAll_cons hA
  obtain ⟨v1, vs1, d1, ds1, p1, q1, rfl, rfl, rfl, h1, r1⟩ := trodAll_cons r0
  obtain ⟨v2, vs2, d2, ds2, p2, q2, rfl, rfl, rfl, h2, r2⟩ := trodAll_cons r1
  obtain ⟨rfl, rfl, rfl⟩ := trodAll_nil r2
  obtain rfl : args = #[v0, v1, v2] := by cases args; simp_all
  obtain ⟨rfl, rfl⟩ := trodVars_none hV
  clear hA0
  obtain ⟨l0, ys0, n0, rfl, hl0, hy0, rfl, rfl, hf0⟩ := struct_arg Try.underlying24 (by kernel_rfl) (by kernel_rfl) (hval 0 24 v0 rfl rfl) h0
  obtain ⟨c0_0, c0_1, c0_2, c0_3, rfl⟩ := list4 hl0
  obtain ⟨y0_0, y0_1, y0_2, y0_3, rfl⟩ := list4 hy0
  obtain ⟨a0_0, rfl, rfl, w0_0⟩ := int_field Try.underlying22 (hf0 0 _ _ rfl rfl)
  have b0_0 := bounds_u64 w0_0
  obtain ⟨a0_1, rfl, rfl, w0_1⟩ := int_field Try.underlying3 (hf0 1 _ _ rfl rfl)
  have b0_1 := bounds_i64 w0_1
  obtain ⟨a0_2, rfl, rfl, w0_2⟩ := int_field Try.underlying3 (hf0 2 _ _ rfl rfl)
  have b0_2 := bounds_i64 w0_2
  obtain ⟨a0_3, rfl, rfl, w0_3⟩ := string_field Try.underlying9 (hf0 3 _ _ rfl rfl)
  obtain ⟨l1, ys1, n1, rfl, hl1, hy1, rfl, rfl, hf1⟩ := struct_arg Try.underlying26 (by kernel_rfl) (by kernel_rfl) (hval 1 26 v1 rfl rfl) h1
  obtain ⟨c1_0, c1_1, c1_2, c1_3, c1_4, rfl⟩ := list5 hl1
  obtain ⟨y1_0, y1_1, y1_2, y1_3, y1_4, rfl⟩ := list5 hy1
  obtain ⟨a1_0, rfl, rfl, w1_0⟩ := int_field Try.underlying22 (hf1 0 _ _ rfl rfl)
  have b1_0 := bounds_u64 w1_0
  obtain ⟨a1_1, rfl, rfl, w1_1⟩ := int_field Try.underlying3 (hf1 1 _ _ rfl rfl)
  have b1_1 := bounds_i64 w1_1
  obtain ⟨a1_2, rfl, rfl, w1_2⟩ := string_field Try.underlying9 (hf1 2 _ _ rfl rfl)
  obtain ⟨a1_3, rfl, rfl, w1_3⟩ := string_field Try.underlying9 (hf1 3 _ _ rfl rfl)
  obtain ⟨a1_4, rfl, rfl, w1_4⟩ := int_field Try.underlying3 (hf1 4 _ _ rfl rfl)
  have b1_4 := bounds_i64 w1_4
  obtain ⟨a2, rfl, rfl, rfl, w2⟩ := open_string Try.underlying9 (hval 2 9 v2 rfl rfl) h2
  have z0_3 : a0_3.size ≤ 140737488351232 := by have := sized_string (sized_part hsz (j := 0) (t := 24) rfl rfl Try.underlying24) (j := 3) (t := 9) rfl rfl; simpa [reachBytes] using this
  have z1_2 : a1_2.size ≤ 140737488351232 := by have := sized_string (sized_part hsz (j := 1) (t := 26) rfl rfl Try.underlying26) (j := 2) (t := 9) rfl rfl; simpa [reachBytes] using this
  have z1_3 : a1_3.size ≤ 140737488351232 := by have := sized_string (sized_part hsz (j := 1) (t := 26) rfl rfl Try.underlying26) (j := 3) (t := 9) rfl rfl; simpa [reachBytes] using this
  have z2 : a2.size ≤ 140737488351232 := by have := sized_string hsz (j := 2) (t := 9) rfl rfl; simpa [reachBytes] using this
  refine (callPuts_walk a0_0 b0_0.1 b0_0.2 a0_1 b0_1.1 b0_1.2 a0_2 b0_2.1 b0_2.2 a0_3 z0_3 a1_0 b1_0.1 b1_0.2 a1_1 b1_1.1 b1_1.2 a1_2 z1_2 a1_3 z1_3 a1_4 b1_4.1 b1_4.2 a2 z2 W).mono fun e W' ⟨he, hu⟩ => ?_
  subst he
  exact ⟨_, rfl, post_true laidOut (by kernel_rfl) Try.underlying4 rfl rfl hW' rfl hu⟩

theorem callPuts_closed : joinedFacts Try.prog 3 Try.f3 Rows.callPutsSpec Rows.callPutsRow = true := by
  unfold joinedFacts
  rw [fact_mayEnter, fact_lifted, fact_make]
  kernel_rfl

set_option maxRecDepth 100000 in
theorem callPuts_lifted (os : Os) (started : os.Started) (H : Type) (enc : TypeId × Value → H) :
    ReturnsInHanded {} Try.checked os 3 .any (Rows.callPutsSpec.pre6 enc Try.prog Try.f3 Rows.callPutsRow.domain false) (Rows.callPutsSpec.post enc Try.prog Try.f3 false true false false) := by
  refine returnsInHanded_of_change_sized (C := Try.checked) own started (by kernel_rfl) Try.func3
    (ChangeSpec.witness6 (enc := enc) (C := Try.checked) false ⟨#[], #[.agg #[.int .u64 0, .int .i64 0, .int .i64 0, .string ⟨#[]⟩], .agg #[.int .u64 0, .int .i64 0, .string ⟨#[]⟩, .string ⟨#[]⟩, .int .i64 0], .string ⟨#[]⟩], []⟩ 8 (by kernel_rfl) (by kernel_rfl) (by kernel_rfl) (by kernel_rfl)) ?_
  intro W base args ds gs before hval hW _ hsz _
  exact callPuts_contract H enc W base args ds gs before hval hW hsz

theorem callPuts_holds : Rows.CallPutsSaid :=
  OpenClaim.holds_of_wide 3 Try.f3 rfl rfl rfl rfl rfl rfl rfl ⟨rfl, rfl, rfl, rfl, rfl⟩ rfl rfl rfl rfl rfl (by kernel_rfl) Try.func3 callPuts_closed
    (of_decide_eq_true (by kernel_rfl)) (by unfold Func.isWrapper; rw [if_neg (by decide +kernel)]; exact ⟨rfl, rfl⟩)
    (fun os started H enc _ => callPuts_lifted os started H enc)
end Go.Proofs.Ytpldfoclogkppaa
