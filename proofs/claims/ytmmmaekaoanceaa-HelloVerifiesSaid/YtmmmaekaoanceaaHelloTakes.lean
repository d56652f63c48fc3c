/- 'HelloTakes': whatever hello and bytes: hello.Put and hello.Take give what the document's give: the law hands back true. Conditions: none. -/
import Derived.Test.YtmmmaekaoanceaaOpen
import Derived.Test.YtmmmaekaoanceaaHelloB
namespace Go.Proofs.Ytmmmaekaoanceaa
open Go Go.RowKit Go.ChangeShapes Go.WideShapes Go.ChangeAt Go.Deep
open Go.ChangeMaps (open_string shut_string)

set_option maxHeartbeats 1600000 in
set_option maxRecDepth 100000 in
theorem helloTakes_walk (o : Int) (o0 : -9223372036854775808 ≤ o) (o1 : o ≤ 9223372036854775807) (ep : Int) (p0 : -9223372036854775808 ≤ ep) (p1 : ep ≤ 9223372036854775807) (t : Int) (t0 : 0 ≤ t) (t1 : t ≤ 18446744073709551615) (b : ByteArray) (hb : b.size ≤ 140737488351232) (w : World) :
    Calls Try.prog 6 #[.agg #[.int .i64 o, .int .i64 ep, .int .u64 t], .string b] w (Gives w (.bool true)) := by
  have hm : b.size ≤ maxLen := by unfold maxLen; omega
  obtain ⟨⟨s, f⟩, hp⟩ : ∃ r, hputT o ep t = r := ⟨_, rfl⟩
  obtain ⟨⟨n1, n2, n3, f2⟩, ht⟩ : ∃ r, helloT b = r := ⟨_, rfl⟩
  have HP := Lib.hid hp; have HT := Lib.hid ht
  clear hp ht
  go_enter Try.func6, Try.ntmps6
  go_wp2_with fail
  refine (hput_any _ _ _ _ o0 o1 p0 p1 t0 t1).mono ?_
  rintro e w1 ⟨rfl, hu1⟩
  rw [HP.out]
  unfold hpairV
  have hz1 := hu1.keep (blk_new w (.cells #[.int .i64 o, .int .i64 ep, .int .u64 t] 59))
  have z0 : w1.cell? ⟨w.heap.size, 0, none⟩ = some (.int .i64 o) := blk_cell hz1 0
  have z1 : w1.cell? ⟨w.heap.size, 1, none⟩ = some (.int .i64 ep) := blk_cell hz1 1
  have z2 : w1.cell? ⟨w.heap.size, 2, none⟩ = some (.int .u64 t) := blk_cell hz1 2
  clear hz1
  go_wp2_with fail
  refine (refhput_any _ _ _ _ o0 o1 p0 p1 t0 t1).mono ?_
  rintro e w2 ⟨rfl, hu2⟩
  rw [HP.out]
  unfold hpairV
  clear z0 z1 z2
  go_wp2_with fail
  refine (htake_any b _ hm).mono ?_
  rintro e w3 ⟨rfl, hu3⟩
  rw [HT.out]
  unfold helloV
  go_wp2_with fail
  refine (refhtake_any b _ hm).mono ?_
  rintro e w4 ⟨rfl, hu4⟩
  rw [HT.out]
  unfold helloV
  have hz4 := hu4.keep (blk_new w3 (.cells #[.int .i64 n1, .int .i64 n2, .int .u64 n3] 62))
  have z0 : w4.cell? ⟨w3.heap.size, 0, none⟩ = some (.int .i64 n1) := blk_cell hz4 0
  have z1 : w4.cell? ⟨w3.heap.size, 1, none⟩ = some (.int .i64 n2) := blk_cell hz4 1
  have z2 : w4.cell? ⟨w3.heap.size, 2, none⟩ = some (.int .u64 n3) := blk_cell hz4 2
  have hlt := blk_lt hz4
  clear hz4
  go_wp2_with fail
  refine (awake22_any _).mono ?_
  rintro e w5 ⟨rfl, hu5⟩
  go_wp2_with fail
  go_ret
  exact Gives.mk rfl ((((((((Up.refl w).alloc _).trans hu1).trans hu2).trans hu3).alloc _).trans hu4).trans (((Up.refl _).alloc _).trans hu5))

set_option linter.unusedVariables false in
set_option maxRecDepth 100000 in
theorem helloTakes_contract (H : Type) (enc : TypeId × Value → H) (W : World) (base : Nat) (args : Array Value) (ds gs : List (DataW H)) (before : List MemPlace)
    (hval : ∀ (j : Nat) t v, Try.f6.params[j]? = some t → args[j]? = some v → Value.okWide Try.prog W .any base t v)
    (hW : DataW.Whole enc Try.prog Try.f6.params.toList Rows.helloTakesSpec.vars false W args.toList ds gs before)
    (hsz : (DataW.weightsEach Try.prog (Try.f6.params.toList ++ (Rows.helloTakesSpec).plain.varTypes Try.prog) (ds ++ gs)).all (· ≤ reachBytes) = true) :
    Calls Try.prog 6 args W fun e W' => ∃ v, e = .returned v ∧ Rows.helloTakesSpec.post enc Try.prog Try.f6 false true false false W args v W' := by
  have hW' := hW
  obtain ⟨p, q, hA0, hV, rfl, hfz, hnd⟩ := hW
  have hA : DataW.TrodAll enc Try.prog W 0 (fun _ => true) true Try.f6.params.toList args.toList ds p := hA0
  rw [Try.params6] at hA hval hsz
  obtain ⟨v0, vs0, d0, ds0, p0, q0, hargs, rfl, rfl, h0, r0⟩ := trodAll_cons hA
  obtain ⟨v1, vs1, d1, ds1, p1, q1, rfl, rfl, rfl, h1, r1⟩ := trodAll_cons r0
  obtain ⟨rfl, rfl, rfl⟩ := trodAll_nil r1
  obtain rfl : args = #[v0, v1] := by cases args; simp_all
  obtain ⟨rfl, rfl⟩ := trodVars_none hV
  clear hA0
  obtain ⟨l0, ys0, n0, rfl, hl0, hy0, rfl, rfl, hf0⟩ := struct_arg Try.underlying59 (by kernel_rfl) (by kernel_rfl) (hval 0 59 v0 rfl rfl) h0
  obtain ⟨c0_0, c0_1, c0_2, rfl⟩ := list3 hl0
  obtain ⟨y0_0, y0_1, y0_2, rfl⟩ := list3 hy0
  obtain ⟨a0_0, rfl, rfl, w0_0⟩ := int_field Try.underlying3 (hf0 0 _ _ rfl rfl)
  have b0_0 := bounds_i64 w0_0
  obtain ⟨a0_1, rfl, rfl, w0_1⟩ := int_field Try.underlying3 (hf0 1 _ _ rfl rfl)
  have b0_1 := bounds_i64 w0_1
  obtain ⟨a0_2, rfl, rfl, w0_2⟩ := int_field Try.underlying29 (hf0 2 _ _ rfl rfl)
  have b0_2 := bounds_u64 w0_2
  obtain ⟨a1, rfl, rfl, rfl, w1⟩ := open_string Try.underlying9 (hval 1 9 v1 rfl rfl) h1
  have z1 : a1.size ≤ 140737488351232 := by have := sized_string hsz (j := 1) (t := 9) rfl rfl; simpa [reachBytes] using this
  refine (helloTakes_walk a0_0 b0_0.1 b0_0.2 a0_1 b0_1.1 b0_1.2 a0_2 b0_2.1 b0_2.2 a1 z1 W).mono fun e W' ⟨he, hu⟩ => ?_
  subst he
  exact ⟨_, rfl, post_true laidOut (by kernel_rfl) Try.underlying4 rfl rfl hW' rfl hu⟩

theorem helloTakes_closed : joinedFacts Try.prog 6 Try.f6 Rows.helloTakesSpec Rows.helloTakesRow = true := by
  unfold joinedFacts
  rw [fact_mayEnter, fact_lifted, fact_make]
  kernel_rfl

set_option maxRecDepth 100000 in
theorem helloTakes_lifted (os : Os) (started : os.Started) (H : Type) (enc : TypeId × Value → H) :
    ReturnsInHanded {} Try.checked os 6 .any (Rows.helloTakesSpec.pre6 enc Try.prog Try.f6 Rows.helloTakesRow.domain false) (Rows.helloTakesSpec.post enc Try.prog Try.f6 false true false false) := by
  refine returnsInHanded_of_change_sized (C := Try.checked) own started (by kernel_rfl) Try.func6
    (ChangeSpec.witness6 (enc := enc) (C := Try.checked) false ⟨#[], #[.agg #[.int .i64 0, .int .i64 0, .int .u64 0], .string ⟨#[]⟩], []⟩ 8 (by kernel_rfl) (by kernel_rfl) (by kernel_rfl) (by kernel_rfl)) ?_
  intro W base args ds gs before hval hW _ hsz _
  exact helloTakes_contract H enc W base args ds gs before hval hW hsz

theorem helloTakes_holds : Rows.HelloTakesSaid :=
  OpenClaim.holds_of_wide 6 Try.f6 rfl rfl rfl rfl rfl rfl rfl ⟨rfl, rfl, rfl, rfl, rfl⟩ rfl rfl rfl rfl rfl (by kernel_rfl) Try.func6 helloTakes_closed
    (of_decide_eq_true (by kernel_rfl)) (by unfold Func.isWrapper; rw [if_neg (by decide +kernel)]; exact ⟨rfl, rfl⟩)
    (fun os started H enc _ => helloTakes_lifted os started H enc)
end Go.Proofs.Ytmmmaekaoanceaa
