/- The walks of key.Join and of the document's: what each hands back. -/
import Derived.Test.YtpldfoclogkppaaKeyB
import Derived.Test.YtpldfoclogkppaaCallB
import Derived.Test.YtpldfoclogkppaaRow
namespace Go.Proofs.Ytpldfoclogkppaa
open Go Go.RowKit Go.Deep

/-- the bytes of fields, tags rising behind 'last'; none: a tag is out of its bounds, or does not rise -/
def joinL : Int → List Int → List ByteArray → Option (List UInt8)
  | _, [], _ => some []
  | _, _ :: _, [] => some []
  | last, t :: ts, s :: ss => if 1 ≤ t ∧ t ≤ 255 ∧ last < t then (joinL t ts ss).map (fun r => (putL (2 * t + 1).toNat ++ spanL s) ++ r) else none
def joinT (tags : List Int) (l : List ByteArray) : ByteArray × Int :=
  if tags.length ≠ l.length then (⟨#[]⟩, 1) else match joinL 0 tags l with | none => (⟨#[]⟩, 9) | some b => (S b, 0)

/-- of the whole what is left, behind 'acc' -/
def JoinAt (tags : List Int) (l : List ByteArray) (k : Nat) (last : Int) (acc : List UInt8) : Prop :=
  joinL 0 tags l = (joinL last (tags.drop k) (l.drop k)).map (fun r => acc ++ r) ∧ acc.length ≤ k * 140737488351262
theorem joinAt_start (tags : List Int) (l : List ByteArray) : JoinAt tags l 0 0 [] := by
  refine ⟨?_, Nat.zero_le _⟩
  simp
theorem joinAt_bad {tags : List Int} {l : List ByteArray} {k : Nat} {last : Int} {acc : List UInt8} (h : JoinAt tags l k last acc) (hl : tags.length = l.length) {t : Int} (ht : tags[k]? = some t) (hb : ¬ (1 ≤ t ∧ t ≤ 255 ∧ last < t)) :
    Value.tuple #[.string ⟨#[]⟩, .int .i64 9] = pairV (joinT tags l) := by
  obtain ⟨h1, _⟩ := h
  obtain ⟨hk, rfl⟩ := List.getElem?_eq_some_iff.1 ht
  rw [List.drop_eq_getElem_cons hk, List.drop_eq_getElem_cons (show k < l.length by omega), joinL, if_neg hb] at h1
  unfold joinT
  rw [if_neg (by omega), h1]; rfl
theorem joinAt_next {tags : List Int} {l : List ByteArray} {k : Nat} {last : Int} {acc : List UInt8} (h : JoinAt tags l k last acc) {t : Int} {s : ByteArray} (ht : tags[k]? = some t) (hs : l[k]? = some s)
    (hb : 1 ≤ t ∧ t ≤ 255 ∧ last < t) (hz : s.size ≤ 140737488351232) : JoinAt tags l (k + 1) t (acc ++ (putL (2 * t + 1).toNat ++ spanL s)) := by
  obtain ⟨h1, h2⟩ := h
  obtain ⟨hk, rfl⟩ := List.getElem?_eq_some_iff.1 ht
  obtain ⟨hk2, rfl⟩ := List.getElem?_eq_some_iff.1 hs
  rw [List.drop_eq_getElem_cons hk, List.drop_eq_getElem_cons hk2, joinL, if_pos hb] at h1
  refine ⟨?_, ?_⟩
  · rw [h1, Option.map_map]
    congr 1
    funext r
    simp
  · have h3 := putL_ten (n := (2 * tags[k] + 1).toNat) (by omega)
    have h4 := putL_ten (n := l[k].size) (by omega)
    have h5 : l[k].data.toList.length = l[k].size := by simp
    simp only [List.length_append, spanL]
    omega
theorem joinAt_end {tags : List Int} {l : List ByteArray} {k : Nat} {last : Int} {acc : List UInt8} (h : JoinAt tags l k last acc) (hl : tags.length = l.length) (hk : tags.length ≤ k) :
    Value.tuple #[.string (S acc), .int .i64 0] = pairV (joinT tags l) := by
  obtain ⟨h1, _⟩ := h
  rw [List.drop_of_length_le hk, joinL] at h1
  unfold joinT
  rw [if_neg (by omega), h1]; simp [pairV]
theorem joinT_form {tags : List Int} {l : List ByteArray} (h : tags.length ≠ l.length) : Value.tuple #[.string ⟨#[]⟩, .int .i64 1] = pairV (joinT tags l) := by
  unfold joinT; rw [if_pos h]; rfl
theorem kPutT_one {t : Int} (h : 1 ≤ t ∧ t ≤ 255) : kPutT t 1 = (S (putL (2 * t + 1).toNat), 0) := by unfold kPutT; rw [if_neg (fun g => g h), if_neg (fun g => g (.inr rfl))]
theorem kPutT_not {t : Int} (h : ¬ (1 ≤ t ∧ t ≤ 255)) : kPutT t 1 = (⟨#[]⟩, 9) := by unfold kPutT; rw [if_pos h]

set_option maxHeartbeats 1600000 in
set_option maxRecDepth 100000 in
theorem keyjoin_any (v1 v2 : Value) (tags : List Int) (l : List ByteArray) (w : World) (hr1 : Row w v1 tags 1 (fun x => [.int .i64 x])) (hr2 : Row w v2 l 1 (fun x => [.string x]))
    (hz : ∀ x ∈ l, x.size ≤ 140737488351232) (h300 : tags.length ≤ 300) :
    Calls Try.prog 51 #[v1, v2] w (Gives w (pairV (joinT tags l))) := by
  have hz' := Lib.hid hz
  clear hz
  obtain ⟨p1, cap1, rfl, hl1, hm1, hrow1⟩ := hr1
  obtain ⟨p2, cap2, rfl, hl2, hm2, hrow2⟩ := hr2
  unfold maxLen at hm1 hm2
  by_cases hlen : tags.length = l.length
  · have e1 : ((tags.length : Int) != (l.length : Int)) = false := by rw [bne_eq_false_iff_eq]; omega
    have e2 : (tags.length != l.length) = false := by rw [bne_eq_false_iff_eq]; omega
    have HL := Lib.hid hlen; clear hlen
    go_enter Try.func51, Try.ntmps51
    go_wp2_with fail
    go_loopw [6, 7, 19] (fun o la i wr => ∃ (k : Nat) (last : Int) (acc : List UInt8), k ≤ tags.length ∧ i = .int .i64 k ∧ la = .int .i64 last ∧ o = .string (S acc) ∧ Hid (JoinAt tags l k last acc) ∧ Up w wr) (fun _ _ i _ => tags.length - (intOf i).toNat)
    case atStart => exact ⟨0, 0, [], Nat.zero_le _, rfl, rfl, rfl, joinAt_start _ _, Up.refl _⟩
    case round =>
      obtain ⟨k, last, acc, hk, rfl, rfl, rfl, hJ, hup⟩ := hrel
      by_cases hlt : k < tags.length
      · obtain ⟨b, off, rfl, hb, hc⟩ := hrow1 (by omega)
        have hx : tags[k]? = some tags[k] := List.getElem?_eq_getElem hlt
        have hcell : wr.cell? ⟨b, off + k, none⟩ = some (.int .i64 tags[k]) := by
          rw [hup.cell hb]; have := hc k _ hx 0 _ rfl; simpa using this
        have HL2 := HL.out
        have hlt2 : k < l.length := by omega
        obtain ⟨b2, off2, rfl, hb2, hc2⟩ := hrow2 (by omega)
        have hy : l[k]? = some (l[k]'(by omega)) := List.getElem?_eq_getElem (by omega)
        have hcell2 : ∀ w' : World, Up wr w' → w'.cell? ⟨b2, off2 + k, none⟩ = some (.string (l[k]'(by omega))) := fun w' hu => by
          rw [(hup.trans hu).cell hb2]; have := hc2 k _ hy 0 _ rfl; simpa using this
        have hzk := hz'.out _ (List.mem_of_getElem? hy)
        generalize hte : tags[k] = t at *
        generalize hse : l[k]'(by omega) = s at *
        have HC2 := Lib.hid hcell2
        have HX := Lib.hid hx; have HY := Lib.hid hy
        have hsl := spanL_len s hzk
        have hacc : (S acc).size ≤ 42221246506597530 := by rw [S_size]; have := hJ.out.2; omega
        clear hc hc2 hte hse hcell2 hx hy HL2
        by_cases hb1 : 1 ≤ t ∧ t ≤ 255
        · have hp10 : (S (putL (2 * t + 1).toNat)).size ≤ 10 := by rw [S_size]; exact putL_ten (by omega)
          have hcat : (S (putL (2 * t + 1).toNat) ++ S (spanL s)).size ≤ 140737488351252 := by rw [ByteArray.size_append]; omega
          have HS := Lib.hid (show S acc ++ (S (putL (2 * t + 1).toNat) ++ S (spanL s)) = S (acc ++ (putL (2 * t + 1).toNat ++ spanL s)) by rw [S_append, S_append])
          have HP := Lib.hid (kPutT_one hb1)
          by_cases hb2 : last < t
          · have HN := Lib.hid (joinAt_next hJ.out HX.out HY.out ⟨hb1.1, hb1.2, hb2⟩ hzk)
            clear hb1
            go_wp2_with fail
            refine (keyput_any _ _ _).mono ?_
            rintro e w1 ⟨rfl, hu1⟩
            rw [HP.out]
            unfold pairV
            have hc2 := HC2.out w1 hu1
            go_wp2_with fail
            refine (spanput_any _ _ hzk).mono ?_
            rintro e w2 ⟨rfl, hu2⟩
            go_wp2_with fail
            go_roundw
            case rel => exact ⟨k + 1, t, _, by omega, by go_num, rfl, congrArg Value.string HS.out, HN, (hup.trans hu1).trans hu2⟩
            case measure => simp [intOf]; omega
          · have HN := Lib.hid (joinAt_bad hJ.out HL.out HX.out (fun h => hb2 h.2.2))
            clear hb1
            go_wp2_with fail
            refine (keyput_any _ _ _).mono ?_
            rintro e w1 ⟨rfl, hu1⟩
            rw [HP.out]
            unfold pairV
            go_wp2_with fail
            go_ret2
            exact Gives.mk HN.out (hup.trans hu1)
        · have HP := Lib.hid (kPutT_not hb1)
          have HN := Lib.hid (joinAt_bad hJ.out HL.out HX.out (fun h => hb1 ⟨h.1, h.2.1⟩))
          clear hb1
          go_wp2_with fail
          refine (keyput_any _ _ _).mono ?_
          rintro e w1 ⟨rfl, hu1⟩
          rw [HP.out]
          unfold pairV
          go_wp2_with fail
          go_ret2
          exact Gives.mk HN.out (hup.trans hu1)
      · go_wp2_with fail
        go_ret2
        exact Gives.mk (joinAt_end hJ.out HL.out (by omega)) hup
  · have e1 : ((tags.length : Int) != (l.length : Int)) = true := by rw [bne_iff_ne]; omega
    have e2 : (tags.length != l.length) = true := by rw [bne_iff_ne]; exact hlen
    have HL := Lib.hid hlen; clear hlen
    go_enter Try.func51, Try.ntmps51
    go_wp2_with fail
    go_ret2
    exact Gives.mk (joinT_form HL.out) (Up.refl _)

set_option maxHeartbeats 1600000 in
set_option maxRecDepth 100000 in
theorem refkeyjoin_any (v1 v2 : Value) (tags : List Int) (l : List ByteArray) (w : World) (hr1 : Row w v1 tags 1 (fun x => [.int .i64 x])) (hr2 : Row w v2 l 1 (fun x => [.string x]))
    (hz : ∀ x ∈ l, x.size ≤ 140737488351232) (h300 : tags.length ≤ 300) :
    Calls Try.prog 52 #[v1, v2] w (Gives w (pairV (joinT tags l))) := by
  have hz' := Lib.hid hz
  clear hz
  obtain ⟨p1, cap1, rfl, hl1, hm1, hrow1⟩ := hr1
  obtain ⟨p2, cap2, rfl, hl2, hm2, hrow2⟩ := hr2
  unfold maxLen at hm1 hm2
  by_cases hlen : tags.length = l.length
  · have e1 : ((tags.length : Int) != (l.length : Int)) = false := by rw [bne_eq_false_iff_eq]; omega
    have e2 : (tags.length != l.length) = false := by rw [bne_eq_false_iff_eq]; omega
    have HL := Lib.hid hlen; clear hlen
    go_enter Try.func52, Try.ntmps52
    go_wp2_with fail
    go_loopw [6, 7] (fun o i wr => ∃ (k : Nat) (last : Int) (acc : List UInt8), k ≤ tags.length ∧ i = .int .i64 k ∧ o = .string (S acc) ∧ Hid (last = if k = 0 then 0 else tags.getD (k - 1) 0) ∧ Hid (JoinAt tags l k last acc) ∧ Up w wr) (fun _ i _ => tags.length - (intOf i).toNat)
    case atStart => exact ⟨0, 0, [], Nat.zero_le _, rfl, rfl, rfl, joinAt_start _ _, Up.refl _⟩
    case round =>
      obtain ⟨k, last, acc, hk, rfl, rfl, hla, hJ, hup⟩ := hrel
      by_cases hlt : k < tags.length
      · obtain ⟨b, off, rfl, hb, hc⟩ := hrow1 (by omega)
        have hx : tags[k]? = some tags[k] := List.getElem?_eq_getElem hlt
        have hcell : wr.cell? ⟨b, off + k, none⟩ = some (.int .i64 tags[k]) := by
          rw [hup.cell hb]; have := hc k _ hx 0 _ rfl; simpa using this
        have hcw : ∀ w' : World, Up wr w' → w'.cell? ⟨b, off + k, none⟩ = some (.int .i64 tags[k]) := fun w' hu => by
          rw [(hup.trans hu).cell hb]; have := hc k _ hx 0 _ rfl; simpa using this
        have hcp : ∀ w' : World, Up wr w' → 0 < k → w'.cell? ⟨b, off + (k - 1), none⟩ = some (.int .i64 last) := fun w' hu h0 => by
          have h1 : tags[k - 1]? = some (tags[k - 1]'(by omega)) := List.getElem?_eq_getElem (by omega)
          rw [(hup.trans hu).cell hb, hla.out, if_neg (by omega)]
          have := hc (k - 1) _ h1 0 _ rfl
          rw [List.getD_eq_getElem?_getD, h1]; simpa using this
        have HL2 := HL.out
        have hlt2 : k < l.length := by omega
        obtain ⟨b2, off2, rfl, hb2, hc2⟩ := hrow2 (by omega)
        have hy : l[k]? = some (l[k]'(by omega)) := List.getElem?_eq_getElem (by omega)
        have hcell2 : ∀ w' : World, Up wr w' → w'.cell? ⟨b2, off2 + k, none⟩ = some (.string (l[k]'(by omega))) := fun w' hu => by
          rw [(hup.trans hu).cell hb2]; have := hc2 k _ hy 0 _ rfl; simpa using this
        have hzk := hz'.out _ (List.mem_of_getElem? hy)
        have HLA : Hid (tags[k] = if k + 1 = 0 then 0 else tags.getD (k + 1 - 1) 0) := by
          unfold Hid
          rw [if_neg (by omega), Nat.add_sub_cancel, List.getD_eq_getElem?_getD, hx]; rfl
        generalize hte : tags[k] = t at *
        generalize hse : l[k]'(by omega) = s at *
        have HC2 := Lib.hid hcell2; have HCW := Lib.hid hcw; have HCP := Lib.hid hcp
        have HX := Lib.hid hx; have HY := Lib.hid hy
        have hsl := spanL_len s hzk
        have hacc : (S acc).size ≤ 42221246506597530 := by rw [S_size]; have := hJ.out.2; omega
        clear hc hc2 hte hse hcell2 hcw hcp hx hy HL2
        by_cases hb1 : 1 ≤ t ∧ t ≤ 255
        · have hp10 : (S (putL (2 * t + 1).toNat)).size ≤ 10 := by rw [S_size]; exact putL_ten (by omega)
          have hcat : (S (putL (2 * t + 1).toNat) ++ S (spanL s)).size ≤ 140737488351252 := by rw [ByteArray.size_append]; omega
          have HS := Lib.hid (show S acc ++ (S (putL (2 * t + 1).toNat) ++ S (spanL s)) = S (acc ++ (putL (2 * t + 1).toNat ++ spanL s)) by rw [S_append, S_append])
          have HP := Lib.hid (kPutT_one hb1)
          by_cases hb2 : last < t
          · have HN := Lib.hid (joinAt_next hJ.out HX.out HY.out ⟨hb1.1, hb1.2, hb2⟩ hzk)
            have d3 : decide (t ≤ last) = false := decide_eq_false (by omega)
            by_cases hk0 : 0 < k
            all_goals
              clear hb1
              go_wp2_with fail
              refine (refkeyput_any _ _ _).mono ?_
              rintro e w1 ⟨rfl, hu1⟩
              rw [HP.out]
              unfold pairV
              have hc1 := HCW.out w1 hu1
              have hb1' : b < w1.heap.size := Nat.lt_of_lt_of_le hb (hup.trans hu1).size
              first
                | (have hc0 := HCP.out w1 hu1 hk0
                   have d1 : decide (0 < k) = true := decide_eq_true hk0
                   have d2 : decide ((0 : Int) < k) = true := decide_eq_true (by omega))
                | (have d1 : decide (0 < k) = false := decide_eq_false hk0
                   have d2 : decide ((0 : Int) < k) = false := decide_eq_false (by omega))
              go_wp2_with fail
              refine wp_region_up (by kernel_rfl) (by kernel_rfl) (Up.refl _) ?_
              repeat (go_big_quiet_step (fail))
              refine wpQuiet_nil ?_
              intro w2 hu2
              have hc2 := HC2.out w2 (hu1.trans hu2)
              go_wp2_with fail
              refine (refspanput_any _ _ hzk).mono ?_
              rintro e w3 ⟨rfl, hu3⟩
              go_wp2_with fail
              go_roundw
              case rel => exact ⟨k + 1, t, _, by omega, by go_num, congrArg Value.string HS.out, HLA, HN, ((hup.trans hu1).trans hu2).trans hu3⟩
              case measure => simp [intOf]; omega
          · have HN := Lib.hid (joinAt_bad hJ.out HL.out HX.out (fun h => hb2 h.2.2))
            have hk0 : 0 < k := by
              rcases Nat.eq_zero_or_pos k with h | h
              · exfalso; have := hla.out; rw [if_pos h] at this; omega
              · exact h
            have d3 : decide (t ≤ last) = true := decide_eq_true (by omega)
            clear hb1
            go_wp2_with fail
            refine (refkeyput_any _ _ _).mono ?_
            rintro e w1 ⟨rfl, hu1⟩
            rw [HP.out]
            unfold pairV
            have hc1 := HCW.out w1 hu1
            have hb1' : b < w1.heap.size := Nat.lt_of_lt_of_le hb (hup.trans hu1).size
            have hc0 := HCP.out w1 hu1 hk0
            have d1 : decide (0 < k) = true := decide_eq_true hk0
            have d2 : decide ((0 : Int) < k) = true := decide_eq_true (by omega)
            go_wp2_with fail
            refine wp_region_up (by kernel_rfl) (by kernel_rfl) (Up.refl _) ?_
            repeat (go_big_quiet_step (fail))
            refine wpQuiet_nil ?_
            intro w2 hu2
            go_wp2_with fail
            go_ret2
            exact Gives.mk HN.out ((hup.trans hu1).trans hu2)
        · have HP := Lib.hid (kPutT_not hb1)
          have HN := Lib.hid (joinAt_bad hJ.out HL.out HX.out (fun h => hb1 ⟨h.1, h.2.1⟩))
          clear hb1
          go_wp2_with fail
          refine (refkeyput_any _ _ _).mono ?_
          rintro e w1 ⟨rfl, hu1⟩
          rw [HP.out]
          unfold pairV
          go_wp2_with fail
          refine wp_region_up (by kernel_rfl) (by kernel_rfl) (Up.refl _) ?_
          repeat (go_big_quiet_step (fail))
          refine wpQuiet_nil ?_
          intro w2 hu2
          go_wp2_with fail
          go_ret2
          exact Gives.mk HN.out ((hup.trans hu1).trans hu2)
      · go_wp2_with fail
        go_ret2
        exact Gives.mk (joinAt_end hJ.out HL.out (by omega)) hup
  · have e1 : ((tags.length : Int) != (l.length : Int)) = true := by rw [bne_iff_ne]; omega
    have e2 : (tags.length != l.length) = true := by rw [bne_iff_ne]; exact hlen
    have HL := Lib.hid hlen; clear hlen
    go_enter Try.func52, Try.ntmps52
    go_wp2_with fail
    go_ret2
    exact Gives.mk (joinT_form HL.out) (Up.refl _)
end Go.Proofs.Ytpldfoclogkppaa
