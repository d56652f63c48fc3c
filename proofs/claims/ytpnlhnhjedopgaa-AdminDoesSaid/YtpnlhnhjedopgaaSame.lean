/- The walks of the document's Ints and Texts: are two lists the same? -/
import Derived.Test.YtpnlhnhjedopgaaProg
import Derived.Test.YtpnlhnhjedopgaaRow
import Derived.Test.YtpnlhnhjedopgaaStr
namespace Go.Proofs.Ytpnlhnhjedopgaa
open Go Go.RowKit

set_option maxHeartbeats 800000 in
set_option maxRecDepth 100000 in
theorem ints_any (v1 v2 : Value) (a b : List Int) (w : World) (hr1 : Row w v1 a 1 (fun x => [.int .i64 x])) (hr2 : Row w v2 b 1 (fun x => [.int .i64 x])) :
    Calls Try.prog 116 #[v1, v2] w (Gives w (.bool (decide (a = b)))) := by
  obtain ⟨p1, cap1, rfl, hl1, hm1, hrow1⟩ := hr1
  obtain ⟨p2, cap2, rfl, hl2, hm2, hrow2⟩ := hr2
  unfold maxLen at hm1 hm2
  by_cases hlen : a.length = b.length
  · have e1 : ((a.length : Int) != (b.length : Int)) = false := by rw [bne_eq_false_iff_eq]; omega
    have e2 : (a.length != b.length) = false := by rw [bne_eq_false_iff_eq]; omega
    have HL := Lib.hid hlen
    go_enter Try.func116, Try.ntmps116
    clear hlen
    go_wp2_with fail
    go_loopw [5] (fun i wr => ∃ k : Nat, k ≤ a.length ∧ i = .int .i64 k ∧ Hid (∀ j, j < k → a[j]? = b[j]?) ∧ Up w wr) (fun i _ => a.length - (intOf i).toNat)
    case atStart => exact ⟨0, Nat.zero_le _, rfl, fun j h => absurd h (Nat.not_lt_zero _), Up.refl _⟩
    case round =>
      obtain ⟨k, hk, rfl, hs, hup⟩ := hrel
      by_cases hlt : k < a.length
      · have hlt2 : k < b.length := by have := HL.out; omega
        obtain ⟨b1, o1, rfl, hb1, hc1⟩ := hrow1 (by omega)
        obtain ⟨b2, o2, rfl, hb2, hc2⟩ := hrow2 (by omega)
        have hx : a[k]? = some a[k] := List.getElem?_eq_getElem hlt
        have hy : b[k]? = some (b[k]'hlt2) := List.getElem?_eq_getElem hlt2
        have c1 : wr.cell? ⟨b1, o1 + k, none⟩ = some (.int .i64 a[k]) := by
          rw [hup.cell hb1]; have := hc1 k _ hx 0 _ rfl; simpa using this
        have c2 : wr.cell? ⟨b2, o2 + k, none⟩ = some (.int .i64 (b[k]'hlt2)) := by
          rw [hup.cell hb2]; have := hc2 k _ hy 0 _ rfl; simpa using this
        have hw1 : b1 < wr.heap.size := Nat.lt_of_lt_of_le hb1 hup.size
        have hw2 : b2 < wr.heap.size := Nat.lt_of_lt_of_le hb2 hup.size
        clear hc1 hc2 hrow1 hrow2
        by_cases heq : a[k] = b[k]'hlt2
        · have HS := Lib.hid (show ∀ j, j < k + 1 → a[j]? = b[j]? from fun j hj => by
            rcases Nat.lt_or_ge j k with h | h
            · exact hs.out j h
            · obtain rfl : j = k := by omega
              rw [hx, hy, heq])
          rw [← heq] at c2
          generalize a[k] = x at *
          clear heq hx hy hs
          go_wp2_with fail
          refine wp_region_up (by kernel_rfl) (by kernel_rfl) (Up.refl _) ?_
          repeat (go_big_quiet_step (fail))
          refine wpQuiet_nil ?_
          intro w2 hu2
          go_wp2_with fail
          go_roundw
          case rel => exact ⟨k + 1, by omega, by go_num, HS, hup.trans hu2⟩
          case measure => simp [intOf]; omega
        · have HO := Lib.hid (show false = decide (a = b) by
            symm; rw [decide_eq_false_iff_not]; rintro rfl; exact heq rfl)
          have d1 : (a[k] != b[k]'hlt2) = true := by rw [bne_iff_ne]; exact heq
          clear hx hy
          generalize a[k] = x at *
          generalize b[k]'hlt2 = y at *
          have HE := Lib.hid heq
          clear heq hs
          go_wp2_with fail
          refine wp_region_up (by kernel_rfl) (by kernel_rfl) (Up.refl _) ?_
          repeat (go_big_quiet_step (fail))
          refine wpQuiet_nil ?_
          intro w2 hu2
          go_wp2_with fail
          go_ret
          exact Gives.mk (congrArg Value.bool HO.out) (hup.trans hu2)
      · have HO := Lib.hid (show true = decide (a = b) by
          symm; rw [decide_eq_true_iff]
          apply List.ext_getElem?
          intro j
          rcases Nat.lt_or_ge j k with h | h
          · exact hs.out j h
          · rw [List.getElem?_eq_none (by omega), List.getElem?_eq_none (by have := HL.out; omega)])
        clear hs hrow1 hrow2
        go_wp2_with fail
        go_ret
        exact Gives.mk (congrArg Value.bool HO.out) hup
  · have e1 : ((a.length : Int) != (b.length : Int)) = true := by rw [bne_iff_ne]; omega
    have e2 : (a.length != b.length) = true := by rw [bne_iff_ne]; exact hlen
    have HO := Lib.hid (show false = decide (a = b) by
      symm; rw [decide_eq_false_iff_not]; rintro rfl; exact hlen rfl)
    clear hlen hrow1 hrow2
    go_enter Try.func116, Try.ntmps116
    go_wp2_with fail
    go_ret
    exact Gives.mk (congrArg Value.bool HO.out) (Up.refl _)

set_option maxHeartbeats 800000 in
set_option maxRecDepth 100000 in
theorem texts_any (v1 v2 : Value) (a b : List ByteArray) (w : World) (hr1 : Row w v1 a 1 (fun x => [.string x])) (hr2 : Row w v2 b 1 (fun x => [.string x])) :
    Calls Try.prog 34 #[v1, v2] w (Gives w (.bool (decide (a = b)))) := by
  obtain ⟨p1, cap1, rfl, hl1, hm1, hrow1⟩ := hr1
  obtain ⟨p2, cap2, rfl, hl2, hm2, hrow2⟩ := hr2
  unfold maxLen at hm1 hm2
  by_cases hlen : a.length = b.length
  · have e1 : ((a.length : Int) != (b.length : Int)) = false := by rw [bne_eq_false_iff_eq]; omega
    have e2 : (a.length != b.length) = false := by rw [bne_eq_false_iff_eq]; omega
    have HL := Lib.hid hlen
    go_enter Try.func34, Try.ntmps34
    clear hlen
    go_wp2_with fail
    go_loopw [5] (fun i wr => ∃ k : Nat, k ≤ a.length ∧ i = .int .i64 k ∧ Hid (∀ j, j < k → a[j]? = b[j]?) ∧ Up w wr) (fun i _ => a.length - (intOf i).toNat)
    case atStart => exact ⟨0, Nat.zero_le _, rfl, fun j h => absurd h (Nat.not_lt_zero _), Up.refl _⟩
    case round =>
      obtain ⟨k, hk, rfl, hs, hup⟩ := hrel
      by_cases hlt : k < a.length
      · have hlt2 : k < b.length := by have := HL.out; omega
        obtain ⟨b1, o1, rfl, hb1, hc1⟩ := hrow1 (by omega)
        obtain ⟨b2, o2, rfl, hb2, hc2⟩ := hrow2 (by omega)
        have hx : a[k]? = some a[k] := List.getElem?_eq_getElem hlt
        have hy : b[k]? = some (b[k]'hlt2) := List.getElem?_eq_getElem hlt2
        have c1 : wr.cell? ⟨b1, o1 + k, none⟩ = some (.string a[k]) := by
          rw [hup.cell hb1]; have := hc1 k _ hx 0 _ rfl; simpa using this
        have c2 : wr.cell? ⟨b2, o2 + k, none⟩ = some (.string (b[k]'hlt2)) := by
          rw [hup.cell hb2]; have := hc2 k _ hy 0 _ rfl; simpa using this
        have hw1 : b1 < wr.heap.size := Nat.lt_of_lt_of_le hb1 hup.size
        have hw2 : b2 < wr.heap.size := Nat.lt_of_lt_of_le hb2 hup.size
        clear hc1 hc2 hrow1 hrow2
        by_cases heq : a[k] = b[k]'hlt2
        · have HS := Lib.hid (show ∀ j, j < k + 1 → a[j]? = b[j]? from fun j hj => by
            rcases Nat.lt_or_ge j k with h | h
            · exact hs.out j h
            · obtain rfl : j = k := by omega
              rw [hx, hy, heq])
          rw [← heq] at c2
          generalize a[k] = x at *
          clear heq hx hy hs
          go_wp2_with fail
          refine wp_region_up (by kernel_rfl) (by kernel_rfl) (Up.refl _) ?_
          repeat (go_big_quiet_step (fail))
          refine wpQuiet_nil ?_
          intro w2 hu2
          go_wp2_with fail
          go_roundw
          case rel => exact ⟨k + 1, by omega, by go_num, HS, hup.trans hu2⟩
          case measure => simp [intOf]; omega
        · have HO := Lib.hid (show false = decide (a = b) by
            symm; rw [decide_eq_false_iff_not]; rintro rfl; exact heq rfl)
          have d1 : (a[k].toList == (b[k]'hlt2).toList) = false := str_ne heq
          clear hx hy
          generalize a[k] = x at *
          generalize b[k]'hlt2 = y at *
          have HE := Lib.hid heq
          clear heq hs
          go_wp2_with fail
          refine wp_region_up (by kernel_rfl) (by kernel_rfl) (Up.refl _) ?_
          repeat (go_big_quiet_step (fail))
          refine wpQuiet_nil ?_
          intro w2 hu2
          go_wp2_with fail
          go_ret
          exact Gives.mk (congrArg Value.bool HO.out) (hup.trans hu2)
      · have HO := Lib.hid (show true = decide (a = b) by
          symm; rw [decide_eq_true_iff]
          apply List.ext_getElem?
          intro j
          rcases Nat.lt_or_ge j k with h | h
          · exact hs.out j h
          · rw [List.getElem?_eq_none (by omega), List.getElem?_eq_none (by have := HL.out; omega)])
        clear hs hrow1 hrow2
        go_wp2_with fail
        go_ret
        exact Gives.mk (congrArg Value.bool HO.out) hup
  · have e1 : ((a.length : Int) != (b.length : Int)) = true := by rw [bne_iff_ne]; omega
    have e2 : (a.length != b.length) = true := by rw [bne_iff_ne]; exact hlen
    have HO := Lib.hid (show false = decide (a = b) by
      symm; rw [decide_eq_false_iff_not]; rintro rfl; exact hlen rfl)
    clear hlen hrow1 hrow2
    go_enter Try.func34, Try.ntmps34
    go_wp2_with fail
    go_ret
    exact Gives.mk (congrArg Value.bool HO.out) (Up.refl _)
end Go.Proofs.Ytpnlhnhjedopgaa
