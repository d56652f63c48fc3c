/- 'KeySplits': whatever bytes and kind: key.Skip and key.Split give what the document's Skip and Split give: the law hands back true. Conditions: none. -/
import Derived.Test.YtpldfoclogkppaaKeyE
import Derived.Test.YtpldfoclogkppaaKeyPuts
import Derived.Test.YtpldfoclogkppaaSame
namespace Go.Proofs.Ytpldfoclogkppaa
open Go Go.RowKit Go.ChangeShapes Go.WideShapes Go.ChangeAt Go.Deep
open Go.ChangeMaps (open_string shut_string)

theorem row_ints {w : World} {base : Nat} {v : Value} {l : List Fld} (h : w.ownsRow base 3 1 v l.length (tagsV l)) : Row w v (l.map fun f => (f.tag : Int)) 1 (fun x => [.int .i64 x]) := by
  refine row_of_own (base := base) (e := 3) (n := l.length) (fun x _ => rfl) ?_ (by simp)
  have : (l.map fun f => (f.tag : Int)).flatMap (fun x => [Value.int .i64 x]) = tagsV l := by
    unfold tagsV; rw [List.flatMap_map]; clear h; induction l with
    | nil => rfl
    | cons a l ih => simp [List.flatMap_cons, ih]
  rw [this]; exact h
theorem row_texts {w : World} {base : Nat} {v : Value} {l : List Fld} (h : w.ownsRow base 9 1 v l.length (textsV l)) : Row w v (l.map fun f => f.text) 1 (fun x => [.string x]) := by
  refine row_of_own (base := base) (e := 9) (n := l.length) (fun x _ => rfl) ?_ (by simp)
  have : (l.map fun f => f.text).flatMap (fun x => [Value.string x]) = textsV l := by
    unfold textsV; rw [List.flatMap_map]; clear h; induction l with
    | nil => rfl
    | cons a l ih => simp [List.flatMap_cons, ih]
  rw [this]; exact h

set_option maxHeartbeats 1600000 in
set_option maxRecDepth 100000 in
theorem keySplits_walk (b : ByteArray) (hb : b.size ≤ 140737488351232) (wire : Int) (_ : -9223372036854775808 ≤ wire) (_ : wire ≤ 9223372036854775807) (w : World) :
    Calls Try.prog 17 #[.string b, .int .i64 wire] w (Gives w (.bool true)) := by
  have hm : b.size ≤ maxLen := by unfold maxLen; omega
  obtain ⟨⟨n, e⟩, hs⟩ : ∃ r, kSkipT b wire = r := ⟨_, rfl⟩
  have HS := Lib.hid hs
  clear hs
  go_enter Try.func17, Try.ntmps17
  go_wp2_with fail
  refine (skip_any b wire _ hm).mono ?_
  rintro x w1 ⟨rfl, hu1⟩
  rw [HS.out]
  unfold skipV
  go_wp2_with fail
  refine (refskip_any b wire _ hm).mono ?_
  rintro x w2 ⟨rfl, hu2⟩
  rw [HS.out]
  unfold skipV
  go_wp2_with fail
  refine (keysplit_any b _ hm).mono ?_
  rintro x w3 ⟨v1, v2, rfl, ho1, ho2, hu3⟩
  have T1 := Lib.hid (row_ints ho1); have T2 := Lib.hid (row_texts ho2)
  clear ho1 ho2
  go_wp2_with fail
  refine (refkeysplit_any b _ hm).mono ?_
  rintro x w4 ⟨v3, p4, n4, c4, v5, rfl, ho3, ho5, hu4⟩
  obtain ⟨p3, c3, rfl, _, _⟩ := own_slice ho3
  obtain ⟨p5, c5, rfl, _, _⟩ := own_slice ho5
  have T3 := Lib.hid (row_ints ho3); have T5 := Lib.hid (row_texts ho5)
  clear ho3 ho5
  go_wp2_with fail
  refine (ints_any _ _ _ _ _ (((T1.out.up hu4).up ((Up.refl _).alloc _))) (T3.out.up ((Up.refl _).alloc _))).mono ?_
  rintro x w5 ⟨rfl, hu5⟩
  rw [show decide ((fieldsL b).map (fun f => (f.tag : Int)) = (fieldsL b).map (fun f => (f.tag : Int))) = true from decide_eq_true rfl]
  have hk := hu5.keep (blk_new w4 (.cells #[.slice p3 (fieldsL b).length c3, .slice p4 n4 c4, .slice p5 (fieldsL b).length c5] 105))
  have hk2 : w5.cell? ⟨w4.heap.size, 2, none⟩ = some (.slice p5 (fieldsL b).length c5) := blk_cell hk 2
  clear hk
  go_wp2_with fail
  refine (texts_any _ _ _ _ _ (((T2.out.up hu4).up ((Up.refl _).alloc _)).up hu5) ((T5.out.up ((Up.refl _).alloc _)).up hu5)).mono ?_
  rintro x w6 ⟨rfl, hu6⟩
  rw [show decide ((fieldsL b).map (fun f => f.text) = (fieldsL b).map (fun f => f.text)) = true from decide_eq_true rfl]
  go_wp2_with fail
  refine (awake04_any _).mono ?_
  rintro x w7 ⟨rfl, hu7⟩
  go_wp2_with fail
  go_ret
  exact Gives.mk rfl ((((((hu1.trans hu2).trans hu3).trans hu4).alloc _).trans hu5).trans (hu6.trans hu7))

set_option linter.unusedVariables false in
set_option maxRecDepth 100000 in
theorem keySplits_contract (H : Type) (enc : TypeId × Value → H) (W : World) (base : Nat) (args : Array Value) (ds gs : List (DataW H)) (before : List MemPlace)
    (hval : ∀ (j : Nat) t v, Try.f17.params[j]? = some t → args[j]? = some v → Value.okWide Try.prog W .any base t v)
    (hW : DataW.Whole enc Try.prog Try.f17.params.toList Rows.keySplitsSpec.vars false W args.toList ds gs before)
    (hsz : (DataW.weightsEach Try.prog (Try.f17.params.toList ++ (Rows.keySplitsSpec).plain.varTypes Try.prog) (ds ++ gs)).all (· ≤ reachBytes) = true) :
    Calls Try.prog 17 args W fun e W' => ∃ v, e = .returned v ∧ Rows.keySplitsSpec.post enc Try.prog Try.f17 false true false false W args v W' := by
  have hW' := hW
  obtain ⟨p, q, hA0, hV, rfl, hfz, hnd⟩ := hW
  have hA : DataW.TrodAll enc Try.prog W 0 (fun _ => true) true Try.f17.params.toList args.toList ds p := hA0
  rw [Try.params17] at hA hval hsz
  obtain ⟨v0, vs0, d0, ds0, p0, q0, hargs, rfl, rfl, h0, r0⟩ := trodAll_cons hA
  obtain ⟨v1, vs1, d1, ds1, p1, q1, rfl, rfl, rfl, h1, r1⟩ := trodAll_cons r0
  obtain ⟨rfl, rfl, rfl⟩ := trodAll_nil r1
  obtain rfl : args = #[v0, v1] := by cases args; simp_all
  obtain ⟨rfl, rfl⟩ := trodVars_none hV
  clear hA0
  obtain ⟨a0, rfl, rfl, rfl, w0⟩ := open_string Try.underlying9 (hval 0 9 v0 rfl rfl) h0
  obtain ⟨a1, rfl, rfl, rfl, w1⟩ := open_int Try.underlying3 (hval 1 3 v1 rfl rfl) h1
  have b1 := bounds_i64 w1
  have z0 : a0.size ≤ 140737488351232 := by have := sized_string hsz (j := 0) (t := 9) rfl rfl; simpa [reachBytes] using this
  refine (keySplits_walk a0 z0 a1 b1.1 b1.2 W).mono fun e W' ⟨he, hu⟩ => ?_
  subst he
  exact ⟨_, rfl, post_true laidOut (by kernel_rfl) Try.underlying4 rfl rfl hW' rfl hu⟩

theorem keySplits_closed : joinedFacts Try.prog 17 Try.f17 Rows.keySplitsSpec Rows.keySplitsRow = true := by
  unfold joinedFacts
  rw [fact_mayEnter, fact_lifted, fact_make]
  kernel_rfl

set_option maxRecDepth 100000 in
theorem keySplits_lifted (os : Os) (started : os.Started) (H : Type) (enc : TypeId × Value → H) :
    ReturnsInHanded {} Try.checked os 17 .any (Rows.keySplitsSpec.pre6 enc Try.prog Try.f17 Rows.keySplitsRow.domain false) (Rows.keySplitsSpec.post enc Try.prog Try.f17 false true false false) := by
  refine returnsInHanded_of_change_sized (C := Try.checked) own started (by kernel_rfl) Try.func17
    (ChangeSpec.witness6 (enc := enc) (C := Try.checked) false ⟨#[], #[.string ⟨#[]⟩, .int .i64 0], []⟩ 8 (by kernel_rfl) (by kernel_rfl) (by kernel_rfl) (by kernel_rfl)) ?_
  intro W base args ds gs before hval hW _ hsz _
  exact keySplits_contract H enc W base args ds gs before hval hW hsz

theorem keySplits_holds : Rows.KeySplitsSaid :=
  OpenClaim.holds_of_wide 17 Try.f17 rfl rfl rfl rfl rfl rfl rfl ⟨rfl, rfl, rfl, rfl, rfl⟩ rfl rfl rfl rfl rfl (by kernel_rfl) Try.func17 keySplits_closed
    (of_decide_eq_true (by kernel_rfl)) (by unfold Func.isWrapper; rw [if_neg (by decide +kernel)]; exact ⟨rfl, rfl⟩)
    (fun os started H enc _ => keySplits_lifted os started H enc)
end Go.Proofs.Ytpldfoclogkppaa
