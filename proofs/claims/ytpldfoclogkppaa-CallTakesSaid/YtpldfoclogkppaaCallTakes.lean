/- 'CallTakes': whatever bytes: the program takes what the document takes: the law hands back true. Conditions: none. -/
import Derived.Test.YtpldfoclogkppaaCallOne
import Derived.Test.YtpldfoclogkppaaCallF
namespace Go.Proofs.Ytpldfoclogkppaa
open Go Go.RowKit Go.ChangeShapes Go.WideShapes Go.ChangeAt
open Go.ChangeMaps (open_string shut_string)

theorem theirs_any (id wait num : Int) (args : ByteArray) (w : World) :
    Calls Try.prog 84 #[.agg #[.int .u64 id, .int .i64 wait, .int .i64 num, .string args]] w (Gives w (.agg #[.int .u64 id, .int .i64 wait, .int .i64 num, .string args])) := by
  go_enter Try.func84, Try.ntmps84
  go_wp2_with fail
  exact bodyPost_ret (v := .agg #[.int .u64 id, .int .i64 wait, .int .i64 num, .string args]) (by simp [results, Try.results84, go_sem]) rfl (Gives.mk rfl (by repeat (first | exact Up.refl _ | apply Up.alloc | apply Up.drew)))

set_option maxHeartbeats 6400000 in
set_option maxRecDepth 100000 in
theorem callTakes_walk (b : ByteArray) (hb : b.size ≤ 140737488351232) (w : World) : Calls Try.prog 19 #[.string b] w (Gives w (.bool true)) := by
  have hm : b.size ≤ maxLen := by unfold maxLen; omega
  obtain ⟨id, wait, num, args, e1, A1, E1, _⟩ := call_form b hb
  obtain ⟨bid, bnum, sv, me, op, e2, A2, E2, _⟩ := bind_form b
  obtain ⟨sid, st, e3, A3, _⟩ := schema_form b hb
  obtain ⟨nid, e4, A4, _⟩ := cancel_form b
  have C1 : ∀ w, Calls Try.prog 76 #[.string b] w (Gives w (.tuple #[.agg #[.int .u64 id, .int .i64 wait, .int .i64 num, .string args], .int .i64 e1])) := fun w => by rw [← A1, ← E1]; exact takecall_any b w hm
  have C2 : ∀ w, Calls Try.prog 78 #[.string b] w (Gives w (.tuple #[.agg #[.int .u64 bid, .int .i64 bnum, .string sv, .string me, .int .i64 op], .int .i64 e2])) := fun w => by rw [← A2, ← E2]; exact takebind_any b w hm
  have C3 : ∀ w, Calls Try.prog 80 #[.string b] w (Gives w (.tuple #[.int .u64 sid, .string st, .int .i64 e3])) := fun w => by rw [← A3]; exact takeschema_any b w hm
  have C4 : ∀ w, Calls Try.prog 82 #[.string b] w (Gives w (.tuple #[.int .u64 nid, .int .i64 e4])) := fun w => by rw [← A4]; exact takecancel_any b w hm
  have D1 : ∀ w, Calls Try.prog 77 #[.string b] w (Gives w (.tuple #[.agg #[.int .u64 id, .int .i64 wait, .int .i64 num, .string args], .int .i64 e1])) := fun w => by rw [← A1, ← E1]; exact reftakecall_any b w hm
  have D2 : ∀ w, Calls Try.prog 79 #[.string b] w (Gives w (.tuple #[.agg #[.int .u64 bid, .int .i64 bnum, .string sv, .string me, .int .i64 op], .int .i64 e2])) := fun w => by rw [← A2, ← E2]; exact reftakebind_any b w hm
  have D3 : ∀ w, Calls Try.prog 81 #[.string b] w (Gives w (.tuple #[.int .u64 sid, .string st, .int .i64 e3])) := fun w => by rw [← A3]; exact reftakeschema_any b w hm
  have D4 : ∀ w, Calls Try.prog 83 #[.string b] w (Gives w (.tuple #[.int .u64 nid, .int .i64 e4])) := fun w => by rw [← A4]; exact reftakecancel_any b w hm
  clear A1 A2 A3 A4 E1 E2
  go_enter Try.func19, Try.ntmps19
  go_wp2_with fail
  refine (C1 _).mono ?_
  rintro e w1 ⟨rfl, hu1⟩
  go_wp2_with fail
  refine (D1 _).mono ?_
  rintro e w2 ⟨rfl, hu2⟩
  go_wp2_with fail
  refine (C2 _).mono ?_
  rintro e w3 ⟨rfl, hu3⟩
  go_wp2_with fail
  refine (D2 _).mono ?_
  rintro e w4 ⟨rfl, hu4⟩
  go_wp2_with fail
  refine (C3 _).mono ?_
  rintro e w5 ⟨rfl, hu5⟩
  go_wp2_with fail
  refine (D3 _).mono ?_
  rintro e w6 ⟨rfl, hu6⟩
  go_wp2_with fail
  refine (C4 _).mono ?_
  rintro e w7 ⟨rfl, hu7⟩
  go_wp2_with fail
  refine (D4 _).mono ?_
  rintro e w8 ⟨rfl, hu8⟩
  have hA := hu8.keep (hu7.keep (hu6.keep (hu5.keep (blk_alloc (hu4.keep (blk_alloc (hu3.keep (blk_alloc (hu2.keep (blk_new w1 (.cells #[.int .u64 id, .int .i64 wait, .int .i64 num, .string args] 28))))))))))) 
  have hB := hu8.keep (hu7.keep (hu6.keep (hu5.keep (blk_alloc (hu4.keep (blk_alloc (hu3.keep (blk_new w2 (.cells #[.int .u64 id, .int .i64 wait, .int .i64 num, .string args] 24)))))))))
  have hC := hu8.keep (hu7.keep (hu6.keep (hu5.keep (blk_alloc (hu4.keep (blk_new w3 (.cells #[.int .u64 bid, .int .i64 bnum, .string sv, .string me, .int .i64 op] 32)))))))
  have hD := hu8.keep (hu7.keep (hu6.keep (hu5.keep (blk_new w4 (.cells #[.int .u64 bid, .int .i64 bnum, .string sv, .string me, .int .i64 op] 26)))))
  have a0 : w8.cell? ⟨w1.heap.size, 0, none⟩ = some (.int .u64 id) := blk_cell hA 0
  have a1 : w8.cell? ⟨w1.heap.size, 1, none⟩ = some (.int .i64 wait) := blk_cell hA 1
  have a2 : w8.cell? ⟨w1.heap.size, 2, none⟩ = some (.int .i64 num) := blk_cell hA 2
  have a3 : w8.cell? ⟨w1.heap.size, 3, none⟩ = some (.string args) := blk_cell hA 3
  have b0 : w8.cell? ⟨w2.heap.size, 0, none⟩ = some (.int .u64 id) := blk_cell hB 0
  have b1 : w8.cell? ⟨w2.heap.size, 1, none⟩ = some (.int .i64 wait) := blk_cell hB 1
  have b2 : w8.cell? ⟨w2.heap.size, 2, none⟩ = some (.int .i64 num) := blk_cell hB 2
  have b3 : w8.cell? ⟨w2.heap.size, 3, none⟩ = some (.string args) := blk_cell hB 3
  have c0 : w8.cell? ⟨w3.heap.size, 0, none⟩ = some (.int .u64 bid) := blk_cell hC 0
  have c1 : w8.cell? ⟨w3.heap.size, 1, none⟩ = some (.int .i64 bnum) := blk_cell hC 1
  have c2 : w8.cell? ⟨w3.heap.size, 2, none⟩ = some (.string sv) := blk_cell hC 2
  have c3 : w8.cell? ⟨w3.heap.size, 3, none⟩ = some (.string me) := blk_cell hC 3
  have c4 : w8.cell? ⟨w3.heap.size, 4, none⟩ = some (.int .i64 op) := blk_cell hC 4
  have d0 : w8.cell? ⟨w4.heap.size, 0, none⟩ = some (.int .u64 bid) := blk_cell hD 0
  have d1 : w8.cell? ⟨w4.heap.size, 1, none⟩ = some (.int .i64 bnum) := blk_cell hD 1
  have d2 : w8.cell? ⟨w4.heap.size, 2, none⟩ = some (.string sv) := blk_cell hD 2
  have d3 : w8.cell? ⟨w4.heap.size, 3, none⟩ = some (.string me) := blk_cell hD 3
  have d4 : w8.cell? ⟨w4.heap.size, 4, none⟩ = some (.int .i64 op) := blk_cell hD 4
  have gA := blk_lt hA
  have gB := blk_lt hB
  have gC := blk_lt hC
  have gD := blk_lt hD
  have hup : Up w w8 := (((((((((((hu1.alloc _).trans hu2).alloc _).trans hu3).alloc _).trans hu4).alloc _).trans hu5).trans hu6).trans hu7).trans hu8)
  clear hA hB hC hD hu1 hu2 hu3 hu4 hu5 hu6 hu7 hu8 C1 C2 C3 C4 D1 D2 D3 D4
  go_wp2_with fail
  refine wp_region_up (by kernel_rfl) (by kernel_rfl) (Up.refl _) ?_
  repeat (go_big_quiet_step ((first | exact quiet_up (theirs_any _ _ _ _ _) | exact quiet_up (bind_any _ _ _ _ _ _) | exact quiet_up (awake34_any _))))
  refine wpQuiet_nil ?_
  intro w9 hu9
  go_wp2_with fail
  go_ret
  exact Gives.mk rfl (hup.trans hu9)

set_option linter.unusedVariables false in
set_option maxRecDepth 100000 in
theorem callTakes_contract (H : Type) (enc : TypeId × Value → H) (W : World) (base : Nat) (args : Array Value) (ds gs : List (DataW H)) (before : List MemPlace)
    (hval : ∀ (j : Nat) t v, Try.f19.params[j]? = some t → args[j]? = some v → Value.okWide Try.prog W .any base t v)
    (hW : DataW.Whole enc Try.prog Try.f19.params.toList Rows.callTakesSpec.vars false W args.toList ds gs before)
    (hsz : (DataW.weightsEach Try.prog (Try.f19.params.toList ++ (Rows.callTakesSpec).plain.varTypes Try.prog) (ds ++ gs)).all (· ≤ reachBytes) = true) :
    Calls Try.prog 19 args W fun e W' => ∃ v, e = .returned v ∧ Rows.callTakesSpec.post enc Try.prog Try.f19 false true false false W args v W' := by
  have hW' := hW
  obtain ⟨p, q, hA0, hV, rfl, hfz, hnd⟩ := hW
  have hA : DataW.TrodAll enc Try.prog W 0 (fun _ => true) true Try.f19.params.toList args.toList ds p := hA0
  rw [Try.params19] at hA hval hsz
  obtain ⟨v0, vs0, d0, ds0, p0, q0, hargs, rfl, rfl, h0, r0⟩ := trodAll_cons hA
  obtain ⟨rfl, rfl, rfl⟩ := trodAll_nil r0
  obtain rfl : args = #[v0] := by cases args; simp_all
  obtain ⟨rfl, rfl⟩ := trodVars_none hV
  clear hA0
  obtain ⟨a0, rfl, rfl, rfl, w0⟩ := open_string Try.underlying9 (hval 0 9 v0 rfl rfl) h0
  have z0 : a0.size ≤ 140737488351232 := by have := sized_string hsz (j := 0) (t := 9) rfl rfl; simpa [reachBytes] using this
  refine (callTakes_walk a0 z0 W).mono fun e W' ⟨he, hu⟩ => ?_
  subst he
  exact ⟨_, rfl, post_true laidOut (by kernel_rfl) Try.underlying4 rfl rfl hW' rfl hu⟩

theorem callTakes_closed : joinedFacts Try.prog 19 Try.f19 Rows.callTakesSpec Rows.callTakesRow = true := by
  unfold joinedFacts
  rw [fact_mayEnter, fact_lifted, fact_make]
  kernel_rfl

set_option maxRecDepth 100000 in
theorem callTakes_lifted (os : Os) (started : os.Started) (H : Type) (enc : TypeId × Value → H) :
    ReturnsInHanded {} Try.checked os 19 .any (Rows.callTakesSpec.pre6 enc Try.prog Try.f19 Rows.callTakesRow.domain false) (Rows.callTakesSpec.post enc Try.prog Try.f19 false true false false) := by
  refine returnsInHanded_of_change_sized (C := Try.checked) own started (by kernel_rfl) Try.func19
    (ChangeSpec.witness6 (enc := enc) (C := Try.checked) false ⟨#[], #[.string ⟨#[]⟩], []⟩ 8 (by kernel_rfl) (by kernel_rfl) (by kernel_rfl) (by kernel_rfl)) ?_
  intro W base args ds gs before hval hW _ hsz _
  exact callTakes_contract H enc W base args ds gs before hval hW hsz

theorem callTakes_holds : Rows.CallTakesSaid :=
  OpenClaim.holds_of_wide 19 Try.f19 rfl rfl rfl rfl rfl rfl rfl ⟨rfl, rfl, rfl, rfl, rfl⟩ rfl rfl rfl rfl rfl (by kernel_rfl) Try.func19 callTakes_closed
    (of_decide_eq_true (by kernel_rfl)) (by unfold Func.isWrapper; rw [if_neg (by decide +kernel)]; exact ⟨rfl, rfl⟩)
    (fun os started H enc _ => callTakes_lifted os started H enc)
end Go.Proofs.Ytpldfoclogkppaa
