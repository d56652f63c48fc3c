/- 'KeyBack': what is joined is split into the same tags, and the spans of the same texts: the law hands back true. Conditions: none. -/
import Derived.Test.YtpldfoclogkppaaKeySplits
import Derived.Test.YtpldfoclogkppaaKeyC
namespace Go.Proofs.Ytpldfoclogkppaa
open Go Go.RowKit Go.ChangeShapes Go.WideShapes Go.ChangeAt Go.Deep

theorem spanT_put {s : ByteArray} {r : List UInt8} {most : Int} (hs : s.size ≤ 140737488351232) (hm : (s.size : Int) ≤ max most 0) : spanT (S (spanL s ++ r)) most = (s, (spanL s).length, 0) := by
  have ht : takeL (S (spanL s ++ r)).data.toList = (s.size, (putL s.size).length, 0) := by
    rw [S_list, spanL, List.append_assoc, takeL_put (by omega)]
  have hi := intT_ok' (most := most) ht (by omega)
  have hl : s.data.toList.length = s.size := by simp
  unfold spanT
  rw [hi, if_neg (by simp), if_neg (by rw [S_size]; simp only [spanL, List.length_append]; omega)]
  refine Prod.ext ?_ (Prod.ext ?_ rfl)
  · show (S (spanL s ++ r)).extract (putL s.size).length ((putL s.size).length + s.size) = s
    rw [S_extract, spanL, List.append_assoc, List.drop_left, Nat.add_sub_cancel_left, List.take_append_of_le_length (by omega), List.take_of_length_le (by omega), S_of]
  · show (putL s.size).length + s.size = (spanL s).length
    rw [spanL, List.length_append, hl]
theorem spanL_lim (s : ByteArray) (hs : s.size ≤ 140737488351232) : (spanL s).length ≤ 140737488351242 ∧ s.size ≤ (spanL s).length := by
  have h1 := putL_ten (n := s.size) (by omega)
  have h2 : s.data.toList.length = s.size := by simp
  rw [spanL, List.length_append]
  omega
def backL (tags : List Int) (l : List ByteArray) : List Fld := List.zipWith (fun t s => ⟨t.toNat, 1, S (spanL s)⟩) tags l
theorem split_join : ∀ (ts : List Int) (ss : List ByteArray) (last : Nat) (r : List UInt8), ts.length = ss.length → (∀ s ∈ ss, s.size ≤ 140737488351232) → joinL last ts ss = some r → ∀ f, r.length ≤ f → splitF f (S r) last = (0, backL ts ss) ∧ r.length ≤ ts.length * 140737488351262 ∧ (∀ t ∈ ts, 1 ≤ t) := by
  intro ts
  induction ts with
  | nil =>
    intro ss last r _ _ h f hf
    simp only [joinL, Option.some.injEq] at h
    subst h
    refine ⟨?_, by simp, by simp⟩
    cases f with
    | zero => rfl
    | succ f => rw [splitF, if_pos (by rw [S_size]; rfl)]; rfl
  | cons t ts ih =>
    intro ss last r hlen hz h f hf
    cases ss with
    | nil =>
      exact absurd hlen (by simp)
    | cons s ss =>
      rw [joinL] at h
      split at h
      · rename_i hb
        obtain ⟨b1, b2, b3⟩ := hb
        obtain ⟨r', hr', rfl⟩ := Option.map_eq_some_iff.1 h
        have hs := hz s (by simp)
        obtain ⟨n, rfl⟩ := Int.eq_ofNat_of_zero_le (show 0 ≤ t by omega)
        have hp := putL_pos (2 * (n : Int) + 1).toNat
        have hp10 := putL_ten (n := (2 * (n : Int) + 1).toNat) (by omega)
        have hsl := spanL_lim s hs
        simp only [List.length_append] at hf
        obtain ⟨i1, i2, i3⟩ := ih ss n r' (by simpa using hlen) (fun x hx => hz x (by simp [hx])) hr' (f - 1) (by omega)
        have ht : takeL (S ((putL (2 * (n : Int) + 1).toNat ++ spanL s) ++ r')).data.toList = ((2 * (n : Int) + 1).toNat, (putL (2 * (n : Int) + 1).toNat).length, 0) := by
          rw [S_list, List.append_assoc, takeL_put (by omega)]
        have hK : kTakeT (S ((putL (2 * (n : Int) + 1).toNat ++ spanL s) ++ r')) = (n, 1, (putL (2 * (n : Int) + 1).toNat).length, 0) := by
          unfold kTakeT
          rw [ht, if_neg (by simp), if_neg (by omega)]
          show ((2 * (n : Int) + 1).toNat / 2, (2 * (n : Int) + 1).toNat % 2, (putL (2 * (n : Int) + 1).toNat).length, (0 : Int)) = _
          rw [show (2 * (n : Int) + 1).toNat / 2 = n by omega, show (2 * (n : Int) + 1).toNat % 2 = 1 by omega]
        have hT : tailB (S ((putL (2 * (n : Int) + 1).toNat ++ spanL s) ++ r')) (putL (2 * (n : Int) + 1).toNat).length = S (spanL s ++ r') := by
          rw [tailB_S, List.append_assoc, List.drop_left]
        have hS : kSkipT (tailB (S ((putL (2 * (n : Int) + 1).toNat ++ spanL s) ++ r')) (putL (2 * (n : Int) + 1).toNat).length) (1 : Nat) = ((spanL s).length, 0) := by
          rw [hT]
          have h1 : takeL (S (spanL s ++ r')).data.toList = (s.size, (putL s.size).length, 0) := by
            rw [S_list, spanL, List.append_assoc, takeL_put (by omega)]
          have hl : s.data.toList.length = s.size := by simp
          unfold kSkipT
          rw [h1, if_neg (by decide), if_neg (by decide), if_neg (by simp), if_neg (by rw [S_size]; simp only [spanL, List.length_append]; omega)]
          rw [spanL, List.length_append, hl]
        have hF := fieldT_ok (last := last) hK (by omega) hS
        refine ⟨?_, ?_, ?_⟩
        · cases f with
          | zero => omega
          | succ f =>
            rw [splitF, if_neg (by rw [S_size]; simp only [List.length_append]; omega), hF, if_neg (by simp)]
            have hT2 : tailB (S ((putL (2 * (n : Int) + 1).toNat ++ spanL s) ++ r')) ((putL (2 * (n : Int) + 1).toNat).length + (spanL s).length) = S r' := by
              rw [tailB_S, ← List.length_append, List.drop_left]
            have hX : (S ((putL (2 * (n : Int) + 1).toNat ++ spanL s) ++ r')).extract (putL (2 * (n : Int) + 1).toNat).length ((putL (2 * (n : Int) + 1).toNat).length + (spanL s).length) = S (spanL s) := by
              rw [S_extract, List.append_assoc, List.drop_left, Nat.add_sub_cancel_left, List.take_left]
            simp only [hT2, hX]
            rw [show f + 1 - 1 = f from rfl] at i1
            rw [i1]
            rfl
        · simp only [List.length_append, List.length_cons]; omega
        · intro x hx
          rcases List.mem_cons.1 hx with rfl | hx
          · exact b1
          · exact i3 x hx
      · cases h
theorem join_cases (tags : List Int) (l : List ByteArray) (hz : ∀ s ∈ l, s.size ≤ 140737488351232) :
    (∃ e : Int, e ≠ 0 ∧ joinT tags l = (⟨#[]⟩, e)) ∨ (∃ r : List UInt8, joinT tags l = (S r, 0) ∧ tags.length = l.length ∧ splitT (S r) = (0, backL tags l) ∧ r.length ≤ tags.length * 140737488351262 ∧ ∀ t ∈ tags, 1 ≤ t) := by
  unfold joinT
  by_cases hl : tags.length = l.length
  · rw [if_neg (by omega)]
    cases hj : joinL 0 tags l with
    | none => exact .inl ⟨9, by decide, rfl⟩
    | some r =>
      right
      obtain ⟨h1, h2, h3⟩ := split_join tags l 0 r hl hz hj r.length (Nat.le_refl _)
      exact ⟨r, rfl, hl, by unfold splitT; rw [S_size]; exact h1, h2, h3⟩
  · rw [if_pos hl]; exact .inl ⟨1, by decide, rfl⟩
theorem backL_tags : ∀ (tags : List Int) (l : List ByteArray), tags.length = l.length → (∀ t ∈ tags, 1 ≤ t) → (backL tags l).map (fun f => (f.tag : Int)) = tags
  | [], _, _, _ => by simp [backL]
  | t :: ts, [], h, _ => absurd h (by simp)
  | t :: ts, s :: ss, h, h1 => by
    have := backL_tags ts ss (by simpa using h) (fun x hx => h1 x (by simp [hx]))
    have h2 := h1 t (by simp)
    unfold backL at *
    simp only [List.zipWith_cons_cons, List.map_cons, this]
    rw [show ((t.toNat : Nat) : Int) = t by omega]
theorem backL_texts : ∀ (tags : List Int) (l : List ByteArray), tags.length = l.length → (backL tags l).map (fun f => f.text) = l.map (fun s => S (spanL s))
  | [], [], _ => by simp [backL]
  | [], _ :: _, h => absurd h (by simp)
  | t :: ts, [], h => absurd h (by simp)
  | t :: ts, s :: ss, h => by
    have := backL_texts ts ss (by simpa using h)
    unfold backL at *
    simp only [List.zipWith_cons_cons, List.map_cons, this]

set_option maxHeartbeats 1600000 in
set_option maxRecDepth 100000 in
theorem keyBack_walk (v1 : Value) (tags : List Int) {w : World} (hr1 : Row w v1 tags 1 (fun x => [.int .i64 x])) (_ : ∀ x ∈ tags, -9223372036854775808 ≤ x ∧ x ≤ 9223372036854775807)
    (v2 : Value) (l : List ByteArray) (hr2 : Row w v2 l 1 (fun x => [.string x])) (hz : ∀ x ∈ l, x.size ≤ 140737488351232) (_ : World) :
    Calls Try.prog 18 #[v1, v2] w (Gives w (.bool true)) := by
  have hz' := Lib.hid hz
  have R1 := Lib.hid hr1; have R2 := Lib.hid hr2
  have hJ := join_cases tags l hz
  clear hz
  obtain ⟨p1, cap1, rfl, hl1, hm1, hrow1⟩ := hr1
  obtain ⟨p2, cap2, rfl, hl2, hm2, hrow2⟩ := hr2
  unfold maxLen at hm1 hm2
  have HR2 := Lib.hid hrow2
  clear hrow1 hrow2
  rcases (by omega : 300 < tags.length ∨ (¬ 300 < tags.length ∧ 300 < l.length) ∨ (¬ 300 < tags.length ∧ ¬ 300 < l.length)) with h1 | ⟨h1, h2⟩ | ⟨h1, h2⟩
  · clear hJ
    go_enter Try.func18, Try.ntmps18
    go_wp2_with fail
    refine (awake04_any _).mono ?_
    rintro e w1 ⟨rfl, hu1⟩
    go_wp2_with fail
    go_ret
    exact Gives.mk rfl hu1
  · clear hJ
    go_enter Try.func18, Try.ntmps18
    go_wp2_with fail
    refine (awake04_any _).mono ?_
    rintro e w1 ⟨rfl, hu1⟩
    go_wp2_with fail
    go_ret
    exact Gives.mk rfl hu1
  · rcases hJ with ⟨e, he, hj⟩ | ⟨r, hj, hlen, hsp, hrl, htag⟩
    · have HP := Lib.hid hj
      have d1 : (e != 0) = true := by rw [bne_iff_ne]; exact he
      clear hj he
      go_enter Try.func18, Try.ntmps18
      go_wp2_with fail
      refine (keyjoin_any _ _ _ _ _ R1.out R2.out hz'.out (by omega)).mono ?_
      rintro x w1 ⟨rfl, hu1⟩
      rw [HP.out]
      unfold pairV
      go_wp2_with fail
      refine (awake04_any _).mono ?_
      rintro x w2 ⟨rfl, hu2⟩
      go_wp2_with fail
      go_ret
      exact Gives.mk rfl (hu1.trans hu2)
    · have HP := Lib.hid hj
      have hSz : (S r).size ≤ maxLen := by rw [S_size]; unfold maxLen; have : tags.length * 140737488351262 ≤ 300 * 140737488351262 := Nat.mul_le_mul_right _ (by omega); omega
      have hf : fieldsL (S r) = backL tags l := by unfold fieldsL; rw [hsp, if_pos rfl]
      have hfl : (backL tags l).length = l.length := by unfold backL; rw [List.length_zipWith]; omega
      have HF := Lib.hid hf; have HFL := Lib.hid hfl; have HSP := Lib.hid hsp; have HL := Lib.hid hlen
      have HBT := Lib.hid (backL_tags tags l hlen htag); have HBX := Lib.hid (backL_texts tags l hlen)
      clear hj hf hfl hsp hlen htag hrl
      go_enter Try.func18, Try.ntmps18
      go_wp2_with fail
      refine (keyjoin_any _ _ _ _ _ R1.out R2.out hz'.out (by omega)).mono ?_
      rintro x w1 ⟨rfl, hu1⟩
      rw [HP.out]
      unfold pairV
      go_wp2_with fail
      refine (keysplit_any _ _ hSz).mono ?_
      rintro x w2 ⟨v3, v4, rfl, ho3, ho4, hu2⟩
      rw [HSP.out]
      rw [HF.out] at ho3 ho4
      have T3 := Lib.hid (row_ints ho3)
      have hT4 := row_texts ho4
      rw [HBX.out] at hT4
      have T4 := Lib.hid hT4
      obtain ⟨p4, c4, rfl, hn4, hm4⟩ := own_slice ho4
      rw [HFL.out] at hn4 T4 ⊢
      clear ho3 ho4 hT4
      go_wp2_with fail
      refine (ints_any _ _ _ _ _ T3.out ((R1.out.up hu1).up hu2)).mono ?_
      rintro x w3 ⟨rfl, hu3⟩
      rw [HBT.out, show decide (tags = tags) = true from decide_eq_true rfl]
      have hup := (hu1.trans hu2).trans hu3
      have T5 := Lib.hid (T4.out.up hu3)
      unfold maxLen at hm4
      clear hu1 hu2 hu3 T3
      go_wp2_with fail
      go_loopw [10] (fun i wr => ∃ k : Nat, k ≤ l.length ∧ i = .int .i64 k ∧ Up w3 wr) (fun i _ => l.length - (intOf i).toNat)
      case atStart => exact ⟨0, Nat.zero_le _, rfl, Up.refl _⟩
      case round =>
        obtain ⟨k, hk, rfl, hup2⟩ := hrel
        by_cases hlt : k < l.length
        · obtain ⟨b2, o2, rfl, hb2, hc2⟩ := HR2.out (by omega)
          obtain ⟨q, c, hv, _, _, hrow⟩ := T5.out
          simp only [Value.slice.injEq] at hv
          obtain ⟨rfl, hll, rfl⟩ := hv
          obtain ⟨b4, o4, rfl, hb4, hc4⟩ := hrow (by simp; omega)
          have hx : l[k]? = some l[k] := List.getElem?_eq_getElem hlt
          have hy : (l.map fun s => S (spanL s))[k]? = some (S (spanL l[k])) := by rw [List.getElem?_map, hx]; rfl
          have hzk := hz'.out _ (List.getElem_mem hlt)
          have cA : ∀ w' : World, Up w3 w' → w'.cell? ⟨b2, o2 + k, none⟩ = some (.string l[k]) := fun w' hu => by
            rw [(hup.trans hu).cell hb2]; have := hc2 k _ hx 0 _ rfl; simpa using this
          have cB : ∀ w' : World, Up w3 w' → w'.cell? ⟨b4, o4 + k, none⟩ = some (.string (S (spanL l[k]))) := fun w' hu => by
            rw [hu.cell hb4]; have := hc4 k _ hy 0 _ rfl; simpa using this
          have CA := Lib.hid cA; have CB := Lib.hid cB
          have hsl := spanL_lim l[k] hzk
          have HQ := Lib.hid (show spanT (S (spanL l[k])) ((S (spanL l[k])).size : Nat) = (l[k], (spanL l[k]).length, 0) by
            have := spanT_put (s := l[k]) (r := []) (most := ((S (spanL l[k])).size : Nat)) hzk (by rw [S_size]; omega)
            rwa [List.append_nil] at this)
          have hsz : (S (spanL l[k])).size ≤ 140737488351242 := by rw [S_size]; omega
          have hln : ((S (spanL l[k])).size : Int) = (spanL l[k]).length := by rw [S_size]
          have HLN := Lib.hid hln
          generalize hs0 : l[k] = s at *
          have hcb0 := CB.out wr hup2
          have hb4' : b4 < wr.heap.size := Nat.lt_of_lt_of_le hb4 hup2.size
          have hcall : ∀ u : Grow wr, Calls Try.prog 53 #[.string (S (spanL s)), .int .i64 ((S (spanL s)).size : Nat)] (gro u) (Gives (gro u) (.tuple #[.string s, .int .i64 ((spanL s).length : Nat), .int .i64 0])) := fun u => by
            have := spantake_any (S (spanL s)) ((S (spanL s)).size : Nat) (gro u) (by unfold maxLen; omega) (by omega) (by omega)
            rw [HQ.out] at this; exact this
          have HCALL := Lib.hid hcall
          have d1 : (((spanL s).length : Int) != ((S (spanL s)).size : Int)) = false := by rw [bne_eq_false_iff_eq]; exact HLN.out.symm
          have d2 : ((spanL s).length != (S (spanL s)).size) = false := by rw [bne_eq_false_iff_eq, S_size]
          clear hs0 hc2 hc4 cA cB hx hy hll hrow hln hcall
          go_wp2_with fail
          refine wp_region_up (by kernel_rfl) (by kernel_rfl) (Up.refl _) ?_
          repeat (go_big_quiet_step ((exact quiet_up (HCALL.out _))))
          refine wpQuiet_nil ?_
          intro w5 hu5
          have hup5 := hup2.trans hu5
          have ca5 := CA.out w5 hup5
          have cb5 := CB.out w5 hup5
          clear hcb0
          go_wp2_with fail
          go_roundw
          case rel => exact ⟨k + 1, by omega, by go_num, hup5⟩
          case measure => simp [intOf]; omega
        · go_wp2_with fail
          refine (awake04_any _).mono ?_
          rintro x w4 ⟨rfl, hu4⟩
          go_wp2_with fail
          go_ret
          exact Gives.mk rfl ((hup.trans hup2).trans hu4)

set_option linter.unusedVariables false in
set_option maxRecDepth 100000 in
theorem keyBack_contract (H : Type) (enc : TypeId × Value → H) (W : World) (base : Nat) (args : Array Value) (ds gs : List (DataW H)) (before : List MemPlace)
    (hval : ∀ (j : Nat) t v, Try.f18.params[j]? = some t → args[j]? = some v → Value.okWide Try.prog W .any base t v)
    (hW : DataW.Whole enc Try.prog Try.f18.params.toList Rows.keyBackSpec.vars false W args.toList ds gs before)
    (hsz : (DataW.weightsEach Try.prog (Try.f18.params.toList ++ (Rows.keyBackSpec).plain.varTypes Try.prog) (ds ++ gs)).all (· ≤ reachBytes) = true) :
    Calls Try.prog 18 args W fun e W' => ∃ v, e = .returned v ∧ Rows.keyBackSpec.post enc Try.prog Try.f18 false true false false W args v W' := by
  have hW' := hW
  obtain ⟨p, q, hA0, hV, rfl, hfz, hnd⟩ := hW
  have hA : DataW.TrodAll enc Try.prog W 0 (fun _ => true) true Try.f18.params.toList args.toList ds p := hA0
  rw [Try.params18] at hA hval hsz
  obtain ⟨v0, vs0, d0, ds0, p0, q0, hargs, rfl, rfl, h0, r0⟩ := trodAll_cons hA
  obtain ⟨v1, vs1, d1, ds1, p1, q1, rfl, rfl, rfl, h1, r1⟩ := trodAll_cons r0
  obtain ⟨rfl, rfl, rfl⟩ := trodAll_nil r1
  obtain rfl : args = #[v0, v1] := by cases args; simp_all
  obtain ⟨rfl, rfl⟩ := trodVars_none hV
  clear hA0
  obtain ⟨l0, hr0, hd0⟩ := row_arg (cells := fun x => [.int .i64 x]) (R := fun x y => y = .lit (.int .i64 x) ∧ (Lit.int .i64 x).wf = true) Try.underlying68 (by kernel_rfl) (by decide) (elem_int Try.underlying3) (hval 0 68 v0 rfl rfl) h0
  have hb0 := row_all hd0 (fun x y (h : y = .lit (.int .i64 x) ∧ (Lit.int .i64 x).wf = true) => bounds_i64 h.2)
  obtain ⟨l1, hr1, hd1⟩ := row_arg (cells := fun x => [.string x]) (R := fun x y => y = .lit (.string x.data.toList) ∧ x.size ≤ maxLen) Try.underlying69 (by kernel_rfl) (by decide) (elem_string Try.underlying9) (hval 1 69 v1 rfl rfl) h1
  have hb1 := row_strs hsz (j := 1) (t := 69) rfl rfl Try.underlying69 hd1
  refine (keyBack_walk v0 l0 hr0 hb0 v1 l1 hr1 hb1 W).mono fun e W' ⟨he, hu⟩ => ?_
  subst he
  exact ⟨_, rfl, post_true laidOut (by kernel_rfl) Try.underlying4 rfl rfl hW' rfl hu⟩

theorem keyBack_closed : joinedFacts Try.prog 18 Try.f18 Rows.keyBackSpec Rows.keyBackRow = true := by
  unfold joinedFacts
  rw [fact_mayEnter, fact_lifted, fact_make]
  kernel_rfl

set_option maxRecDepth 100000 in
theorem keyBack_lifted (os : Os) (started : os.Started) (H : Type) (enc : TypeId × Value → H) :
    ReturnsInHanded {} Try.checked os 18 .any (Rows.keyBackSpec.pre6 enc Try.prog Try.f18 Rows.keyBackRow.domain false) (Rows.keyBackSpec.post enc Try.prog Try.f18 false true false false) := by
  refine returnsInHanded_of_change_sized (C := Try.checked) own started (by kernel_rfl) Try.func18
    (ChangeSpec.witness6 (enc := enc) (C := Try.checked) false ⟨#[], #[.slice none 0 0, .slice none 0 0], []⟩ 8 (by kernel_rfl) (by kernel_rfl) (by kernel_rfl) (by kernel_rfl)) ?_
  intro W base args ds gs before hval hW _ hsz _
  exact keyBack_contract H enc W base args ds gs before hval hW hsz

theorem keyBack_holds : Rows.KeyBackSaid :=
  OpenClaim.holds_of_wide 18 Try.f18 rfl rfl rfl rfl rfl rfl rfl ⟨rfl, rfl, rfl, rfl, rfl⟩ rfl rfl rfl rfl rfl (by kernel_rfl) Try.func18 keyBack_closed
    (of_decide_eq_true (by kernel_rfl)) (by unfold Func.isWrapper; rw [if_neg (by decide +kernel)]; exact ⟨rfl, rfl⟩)
    (fun os started H enc _ => keyBack_lifted os started H enc)
end Go.Proofs.Ytpldfoclogkppaa
