/- 'VarintBack': what is put is taken, whatever stands behind it, and no beginning of it is a number: the law hands back true. Conditions: none. -/
import Derived.Test.YtpldfoclogkppaaFrame
import Derived.Test.YtpldfoclogkppaaVarD
import Derived.Test.YtpldfoclogkppaaPlainW
namespace Go.Proofs.Ytpldfoclogkppaa
open Go Go.RowKit Go.ChangeShapes Go.WideShapes Go.ChangeAt
open Go.ChangeMaps (open_string shut_string)

set_option maxHeartbeats 800000 in
set_option maxRecDepth 100000 in
theorem varintBack_walk (n : Int) (h0 : 0 ≤ n) (h1 : n ≤ 18446744073709551615) (m : Int) (g0 : -9223372036854775808 ≤ m) (g1 : m ≤ 9223372036854775807) (b : ByteArray) (hb : b.size ≤ 140737488351232) (w : World) :
    Calls Try.prog 9 #[.int .u64 n, .int .i64 m, .string b] w (Gives w (.bool true)) := by
  have ht := turn_bd m g0 g1
  have hn10 := putL_ten (n := n.toNat) (by omega)
  have hm10 := putL_ten (n := (turnI m).toNat) (by omega)
  have hs1 : (S (putL n.toNat)).size ≤ 10 := by rw [S_size]; exact hn10
  have hs2 : (S (putL (turnI m).toNat)).size ≤ 10 := by rw [S_size]; exact hm10
  have hz1 : (S (putL n.toNat) ++ b).size ≤ maxLen := by rw [ByteArray.size_append]; unfold maxLen; omega
  have hz2 : (S (putL (turnI m).toNat) ++ b).size ≤ maxLen := by rw [ByteArray.size_append]; unfold maxLen; omega
  have hd1 : (S (putL n.toNat) ++ b).data.toList = putL n.toNat ++ b.data.toList := by rw [ByteArray.data_append]; simp [S]
  have hd2 : (S (putL (turnI m).toNat) ++ b).data.toList = putL (turnI m).toNat ++ b.data.toList := by rw [ByteArray.data_append]; simp [S]
  have ht1 : takeV (takeL (S (putL n.toNat) ++ b).data.toList) = .tuple #[.int .u64 n, .int .i64 (S (putL n.toNat)).size, .int .i64 0] := by
    rw [hd1, takeL_put (by omega), S_size, takeV]; simp only; rw [Int.toNat_of_nonneg h0]
  have ht2 : takeIntV (takeL (S (putL (turnI m).toNat) ++ b).data.toList) = .tuple #[.int .i64 m, .int .i64 (S (putL (turnI m).toNat)).size, .int .i64 0] := by
    rw [hd2, takeL_put (by omega), S_size, takeIntV]; simp only [if_true]; rw [Int.toNat_of_nonneg ht.1, back_turn]
  have hcut : ∀ i : Nat, i < (S (putL n.toNat)).size → takeV (takeL ((S (putL n.toNat)).extract 0 i).data.toList) = .tuple #[.int .u64 0, .int .i64 0, .int .i64 2] := fun i hi => by
    rw [S_extract, S_list, List.drop_zero, Nat.sub_zero, takeL_cut (by omega) (by rw [S_size] at hi; exact hi)]; rfl
  have hw := back_bd n h0 h1
  have H1 := Lib.hid hz1; have H2 := Lib.hid hz2; have H3 := Lib.hid ht1; have H4 := Lib.hid ht2; have HC := Lib.hid hcut
  have HB := Lib.hid (back_turn m); have HT := Lib.hid (turn_back n h0)
  clear hz1 hz2 hd1 hd2 ht1 ht2 hcut hn10 hm10
  go_enter Try.func9, Try.ntmps9
  go_wp2_with fail
  refine (varput_any _ _ h0 h1).mono ?_
  rintro e w1 ⟨rfl, hu1⟩
  go_wp2_with fail
  refine (vartake_any _ _ H1.out).mono ?_
  rintro e w2 ⟨rfl, hu2⟩
  rw [H3.out]
  go_wp2_with fail
  refine (putint_any _ _ g0 g1).mono ?_
  rintro e w3 ⟨rfl, hu3⟩
  go_wp2_with fail
  refine (takeint_any _ _ H2.out).mono ?_
  rintro e w4 ⟨rfl, hu4⟩
  rw [H4.out]
  go_wp2_with fail
  refine (putint_any _ _ g0 g1).mono ?_
  rintro e w5 ⟨rfl, hu5⟩
  go_wp2_with fail
  have hup := (((hu1.trans hu2).trans hu3).trans hu4).trans hu5
  clear hu1 hu2 hu3 hu4 hu5
  go_loopw [14] (fun i wr => ∃ k : Nat, k ≤ (S (putL n.toNat)).size ∧ i = .int .i64 k ∧ Up w wr) (fun i _ => (S (putL n.toNat)).size - (intOf i).toNat)
  case atStart => exact ⟨0, Nat.zero_le _, rfl, hup⟩
  case round =>
    obtain ⟨k, hk, rfl, hur⟩ := hrel
    by_cases hlt : k < (S (putL n.toNat)).size
    · have hx : ((S (putL n.toNat)).extract 0 k).size ≤ maxLen := by rw [ByteArray.size_extract]; unfold maxLen; omega
      have HX := Lib.hid hx; clear hx
      go_wp2_with fail
      refine (vartake_any _ _ HX.out).mono ?_
      rintro e w6 ⟨rfl, hu6⟩
      rw [HC.out k hlt]
      go_wp2_with fail
      go_roundw
      case rel => exact ⟨k + 1, by omega, by go_num, hur.trans hu6⟩
      case measure => simp [intOf]; omega
    · go_wp2_with fail
      refine (turn_any _ _ g0 g1).mono ?_
      rintro e w6 ⟨rfl, hu6⟩
      go_wp2_with fail
      refine (back_any _ _ ht.1 ht.2).mono ?_
      rintro e w7 ⟨rfl, hu7⟩
      rw [HB.out]
      go_wp2_with fail
      refine (back_any _ _ h0 h1).mono ?_
      rintro e w8 ⟨rfl, hu8⟩
      go_wp2_with fail
      refine (turn_any _ _ hw.1 hw.2).mono ?_
      rintro e w9 ⟨rfl, hu9⟩
      rw [HT.out]
      go_wp2_with fail
      refine (awake_any _).mono ?_
      rintro e wa ⟨rfl, hua⟩
      go_wp2_with fail
      go_ret
      exact Gives.mk rfl (((((hur.trans hu6).trans hu7).trans hu8).trans hu9).trans hua)

set_option linter.unusedVariables false in
set_option maxRecDepth 100000 in
theorem varintBack_contract (H : Type) (enc : TypeId × Value → H) (W : World) (base : Nat) (args : Array Value) (ds gs : List (DataW H)) (before : List MemPlace)
    (hval : ∀ (j : Nat) t v, Try.f9.params[j]? = some t → args[j]? = some v → Value.okWide Try.prog W .any base t v)
    (hW : DataW.Whole enc Try.prog Try.f9.params.toList Rows.varintBackSpec.vars false W args.toList ds gs before)
    (hsz : (DataW.weightsEach Try.prog (Try.f9.params.toList ++ (Rows.varintBackSpec).plain.varTypes Try.prog) (ds ++ gs)).all (· ≤ reachBytes) = true) :
    Calls Try.prog 9 args W fun e W' => ∃ v, e = .returned v ∧ Rows.varintBackSpec.post enc Try.prog Try.f9 false true false false W args v W' := by
  have hW' := hW
  obtain ⟨p, q, hA0, hV, rfl, hfz, hnd⟩ := hW
  have hA : DataW.TrodAll enc Try.prog W 0 (fun _ => true) true Try.f9.params.toList args.toList ds p := hA0
  rw [Try.params9] at hA hval hsz
  obtain ⟨v0, vs0, d0, ds0, p0, q0, hargs, rfl, rfl, h0, r0⟩ := trodAll_cons hA
  obtain ⟨v1, vs1, d1, ds1, p1, q1, rfl, rfl, rfl, h1, r1⟩ := trodAll_cons r0
  obtain ⟨v2, vs2, d2, ds2, p2, q2, rfl, rfl, rfl, h2, r2⟩ := trodAll_cons r1
  obtain ⟨rfl, rfl, rfl⟩ := trodAll_nil r2
  obtain rfl : args = #[v0, v1, v2] := by cases args; simp_all
  obtain ⟨rfl, rfl⟩ := trodVars_none hV
  clear hA0
  obtain ⟨a0, rfl, rfl, rfl, w0⟩ := open_int Try.underlying22 (hval 0 22 v0 rfl rfl) h0
  have b0 := bounds_u64 w0
  obtain ⟨a1, rfl, rfl, rfl, w1⟩ := open_int Try.underlying2 (hval 1 2 v1 rfl rfl) h1
  have b1 := bounds_i64 w1
  obtain ⟨a2, rfl, rfl, rfl, w2⟩ := open_string Try.underlying9 (hval 2 9 v2 rfl rfl) h2
  have z2 : a2.size ≤ 140737488351232 := by have := sized_string hsz (j := 2) (t := 9) rfl rfl; simpa [reachBytes] using this
  refine (varintBack_walk a0 b0.1 b0.2 a1 b1.1 b1.2 a2 z2 W).mono fun e W' ⟨he, hu⟩ => ?_
  subst he
  exact ⟨_, rfl, post_true laidOut (by kernel_rfl) Try.underlying4 rfl rfl hW' rfl hu⟩

theorem varintBack_closed : joinedFacts Try.prog 9 Try.f9 Rows.varintBackSpec Rows.varintBackRow = true := by
  unfold joinedFacts
  rw [fact_mayEnter, fact_lifted, fact_make]
  kernel_rfl

set_option maxRecDepth 100000 in
theorem varintBack_lifted (os : Os) (started : os.Started) (H : Type) (enc : TypeId × Value → H) :
    ReturnsInHanded {} Try.checked os 9 .any (Rows.varintBackSpec.pre6 enc Try.prog Try.f9 Rows.varintBackRow.domain false) (Rows.varintBackSpec.post enc Try.prog Try.f9 false true false false) := by
  refine returnsInHanded_of_change_sized (C := Try.checked) own started (by kernel_rfl) Try.func9
    (ChangeSpec.witness6 (enc := enc) (C := Try.checked) false ⟨#[], #[.int .u64 0, .int .i64 0, .string ⟨#[]⟩], []⟩ 8 (by kernel_rfl) (by kernel_rfl) (by kernel_rfl) (by kernel_rfl)) ?_
  intro W base args ds gs before hval hW _ hsz _
  exact varintBack_contract H enc W base args ds gs before hval hW hsz

theorem varintBack_holds : Rows.VarintBackSaid :=
  OpenClaim.holds_of_wide 9 Try.f9 rfl rfl rfl rfl rfl rfl rfl ⟨rfl, rfl, rfl, rfl, rfl⟩ rfl rfl rfl rfl rfl (by kernel_rfl) Try.func9 varintBack_closed
    (of_decide_eq_true (by kernel_rfl)) (by unfold Func.isWrapper; rw [if_neg (by decide +kernel)]; exact ⟨rfl, rfl⟩)
    (fun os started H enc _ => varintBack_lifted os started H enc)
end Go.Proofs.Ytpldfoclogkppaa
